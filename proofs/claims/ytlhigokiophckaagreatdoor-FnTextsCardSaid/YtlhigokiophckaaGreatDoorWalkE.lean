/- Walks: UnquoteText, Position, a token at a quote; plain laws of quoting and positions. -/
import Derived.Test.YtlhigokiophckaaGreatDoorWalkD

section
open Go Go.Proofs
namespace Go.X
set_option linter.unusedSimpArgs false
set_option maxRecDepth 10000

def unqF (b : List UInt8) : List UInt8 × Nat := match litF b with
  | some (l, n) => if (checkF b 0).1 = 0 ∧ n = b.length then (l, 0) else ([], 2)
  | none => ([], 2)

theorem litF_len {s : List UInt8} {l : List UInt8} {n : Nat} (h : litF s = some (l, n)) : n ≤ s.length := by
  have : ∀ f i out, litGo s f i out = some (l, n) → n ≤ s.length := by
    intro f
    induction f with
    | zero => intro i out h; simp [litGo] at h
    | succ f ih =>
      intro i out h
      simp only [litGo] at h
      split at h
      · rename_i hi
        split at h
        · simp only [Option.some.injEq, Prod.mk.injEq] at h; omega
        · split at h
          · cases h
          · split at h
            · exact ih _ _ h
            · split at h
              · exact ih _ _ h
              · cases h
      · cases h
  unfold litF at h
  split at h
  · exact this _ _ _ h
  · cases h

theorem unquote_spec (G : Gl) (hT : Tabs G) (h : H) (b : List UInt8) (hlen : b.length ≤ 100000000) :
    XCalls Tryz.prog G 8 [.im 1 (bytesV b)] h (fun o h' => o = .ret (.tu [.im 1 (bytesV (unqF b).1), .i .i64 (unqF b).2]) ∧ h' = h) := by
  have hwf := wellFormed_spec G hT h b (by omega)
  have hl := literal_spec G hT h b (by omega)
  unfold unqF
  refine enterK (rs := [.tmp 2, .tmp 3]) Tryz.func8 (by kernel_rfl) rfl rfl (by kernel_rfl) rfl (Nat.le_of_ble_eq_true rfl) (fun hbd => ?_)
  simp -implicitDefEqProofs only [XL, XM, TL, Option.isSome_some, Option.bind_some, Option.bind_none, Option.map_some, Option.map_none, Option.some.injEq, List.getElem?_cons_zero, List.getElem?_cons_succ, List.getElem?_toArray, List.toList_toArray, Nat.reduceEqDiff, if_true, if_false, ↓reduceIte, reduceCtorEq, Bool.false_eq_true, List.nil_append, List.append_nil, List.cons_append, Bool.or_self, Bool.or_true, Bool.or_false, Bool.true_or, Bool.false_or, Bool.and_true, Bool.true_and, Bool.not_true, Bool.not_false, Nat.reduceAdd, Nat.reduceMul, Nat.reduceSub, Nat.reduceLT, Nat.reduceLeDiff, Int.reduceToNat, List.all_cons, List.all_nil, List.map_cons, List.map_nil, List.set_cons_zero,  true_and, and_true, Int.natCast_nonneg, Int.le_refl, Nat.le_refl, Int.toNat_natCast, Nat.sub_zero,  List.drop_zero, List.drop_succ_cons, List.length_cons, List.length_nil,  List.set_cons_succ, and_self, decide_true, decide_false, Int.reduceLT, Int.reduceLE, Int.reduceEq, Int.reduceSub, Int.reduceAdd, Int.reduceMul, String.reduceEq, stK_eq, stV.eq_1, stR_some, stE_ag, stE_one, stE_whole]
  refine conv_bytesStr (l := b) rfl (by simp -implicitDefEqProofs only [XL, XM, TL, Option.isSome_some, Option.bind_some, Option.bind_none, Option.map_some, Option.map_none, Option.some.injEq, List.getElem?_cons_zero, List.getElem?_cons_succ, List.getElem?_toArray, List.toList_toArray, Nat.reduceEqDiff, if_true, if_false, ↓reduceIte, reduceCtorEq, Bool.false_eq_true, List.nil_append, List.append_nil, List.cons_append, Bool.or_self, Bool.or_true, Bool.or_false, Bool.true_or, Bool.false_or, Bool.and_true, Bool.true_and, Bool.not_true, Bool.not_false, Nat.reduceAdd, Nat.reduceMul, Nat.reduceSub, Nat.reduceLT, Nat.reduceLeDiff, Int.reduceToNat, List.all_cons, List.all_nil, List.map_cons, List.map_nil, List.set_cons_zero,  true_and, and_true, Int.natCast_nonneg, Int.le_refl, Nat.le_refl, Int.toNat_natCast, Nat.sub_zero,  List.drop_zero, List.drop_succ_cons, List.length_cons, List.length_nil,  List.set_cons_succ, and_self, decide_true, decide_false, Int.reduceLT, Int.reduceLE, Int.reduceEq, Int.reduceSub, Int.reduceAdd, Int.reduceMul, String.reduceEq, stK_eq, stV.eq_1, stR_some, stE_ag, stE_one, stE_whole]; rfl) (by simp -implicitDefEqProofs only [XL, XM, TL, Option.isSome_some, Option.bind_some, Option.bind_none, Option.map_some, Option.map_none, Option.some.injEq, List.getElem?_cons_zero, List.getElem?_cons_succ, List.getElem?_toArray, List.toList_toArray, Nat.reduceEqDiff, if_true, if_false, ↓reduceIte, reduceCtorEq, Bool.false_eq_true, List.nil_append, List.append_nil, List.cons_append, Bool.or_self, Bool.or_true, Bool.or_false, Bool.true_or, Bool.false_or, Bool.and_true, Bool.true_and, Bool.not_true, Bool.not_false, Nat.reduceAdd, Nat.reduceMul, Nat.reduceSub, Nat.reduceLT, Nat.reduceLeDiff, Int.reduceToNat, List.all_cons, List.all_nil, List.map_cons, List.map_nil, List.set_cons_zero,  true_and, and_true, Int.natCast_nonneg, Int.le_refl, Nat.le_refl, Int.toNat_natCast, Nat.sub_zero,  List.drop_zero, List.drop_succ_cons, List.length_cons, List.length_nil,  List.set_cons_succ, and_self, decide_true, decide_false, Int.reduceLT, Int.reduceLE, Int.reduceEq, Int.reduceSub, Int.reduceAdd, Int.reduceMul, String.reduceEq, stK_eq, stV.eq_1, stR_some, stE_ag, stE_one, stE_whole]) (by simp -implicitDefEqProofs only [XL, XM, TL, Option.isSome_some, Option.bind_some, Option.bind_none, Option.map_some, Option.map_none, Option.some.injEq, List.getElem?_cons_zero, List.getElem?_cons_succ, List.getElem?_toArray, List.toList_toArray, Nat.reduceEqDiff, if_true, if_false, ↓reduceIte, reduceCtorEq, Bool.false_eq_true, List.nil_append, List.append_nil, List.cons_append, Bool.or_self, Bool.or_true, Bool.or_false, Bool.true_or, Bool.false_or, Bool.and_true, Bool.true_and, Bool.not_true, Bool.not_false, Nat.reduceAdd, Nat.reduceMul, Nat.reduceSub, Nat.reduceLT, Nat.reduceLeDiff, Int.reduceToNat, List.all_cons, List.all_nil, List.map_cons, List.map_nil, List.set_cons_zero,  true_and, and_true, Int.natCast_nonneg, Int.le_refl, Nat.le_refl, Int.toNat_natCast, Nat.sub_zero,  List.drop_zero, List.drop_succ_cons, List.length_cons, List.length_nil,  List.set_cons_succ, and_self, decide_true, decide_false, Int.reduceLT, Int.reduceLE, Int.reduceEq, Int.reduceSub, Int.reduceAdd, Int.reduceMul, String.reduceEq, stK_eq, stV.eq_1, stR_some, stE_ag, stE_one, stE_whole]) (by simp only [srcV, if_true]) (bytesOf_bytesV _) ?_
  cases hlf : litF b with
  | none =>
    rw [hlf] at hl
    by_cases hc : (checkF b 0).1 = 0
    · rw [decide_eq_true hc] at hwf
      have chk_ : True ∧ True := by simp only [and_self, litV, bytesV_length]
      clear chk_
      repeat' (first | simp -implicitDefEqProofs only [XL, XM, TL, Option.isSome_some, Option.bind_some, Option.bind_none, Option.map_some, Option.map_none, Option.some.injEq, List.getElem?_cons_zero, List.getElem?_cons_succ, List.getElem?_toArray, List.toList_toArray, Nat.reduceEqDiff, if_true, if_false, ↓reduceIte, reduceCtorEq, Bool.false_eq_true, List.nil_append, List.append_nil, List.cons_append, Bool.or_self, Bool.or_true, Bool.or_false, Bool.true_or, Bool.false_or, Bool.and_true, Bool.true_and, Bool.not_true, Bool.not_false, Nat.reduceAdd, Nat.reduceMul, Nat.reduceSub, Nat.reduceLT, Nat.reduceLeDiff, Int.reduceToNat, List.all_cons, List.all_nil, List.map_cons, List.map_nil, List.set_cons_zero,  true_and, and_true, Int.natCast_nonneg, Int.le_refl, Nat.le_refl, Int.toNat_natCast, Nat.sub_zero,  List.drop_zero, List.drop_succ_cons, List.length_cons, List.length_nil,  List.set_cons_succ, and_self, decide_true, decide_false, Int.reduceLT, Int.reduceLE, Int.reduceEq, Int.reduceSub, Int.reduceAdd, Int.reduceMul, String.reduceEq, stK_eq, stV.eq_1, stR_some, stE_ag, stE_one, stE_whole, litV, bytesV_length] | simp (disch := omega) only [ifp, ifn, wrap_i64, wrap_u8, wrap_i32, wrap_u64, wrap_u32, Int.tdiv_eq_ediv_of_nonneg, Int.tmod_eq_emod_of_nonneg] | ((with_reducible refine BrK_intro (fun hwb => ?_) (fun hwb => ?_)) <;> (try rw [hwb]) <;> simp only [decide_eq_true_eq, decide_eq_false_iff_not, Bool.not_eq_true', Bool.not_eq_false', Bool.not_true, Bool.not_false] at hwb) | ((with_reducible refine gbK_intro (fun hwb => ?_) (fun hwb => ?_)) <;> (try rw [hwb]) <;> simp only [decide_eq_true_eq, decide_eq_false_iff_not, Bool.not_eq_true', Bool.not_eq_false', Bool.not_true, Bool.not_false] at hwb) | ((with_reducible refine qgb_intro (fun hwb => ?_) (fun hwb => ?_)) <;> (try rw [hwb]) <;> simp only [decide_eq_true_eq, decide_eq_false_iff_not, Bool.not_eq_true', Bool.not_eq_false', Bool.not_true, Bool.not_false] at hwb) | (with_reducible intro hl) | (with_reducible refine drawK_q (by kernel_rfl) (by kernel_rfl) ?_) | (with_reducible refine call_eq (hl) ?_) | (with_reducible refine call_eq (hwf) ?_))
      all_goals first
        | (exfalso; omega)
        | exact RetK_nil2 (.refl _) rfl
    · rw [decide_eq_false hc] at hwf
      have chk_ : True ∧ True := by simp only [and_self, litV, bytesV_length]
      clear chk_
      repeat' (first | simp -implicitDefEqProofs only [XL, XM, TL, Option.isSome_some, Option.bind_some, Option.bind_none, Option.map_some, Option.map_none, Option.some.injEq, List.getElem?_cons_zero, List.getElem?_cons_succ, List.getElem?_toArray, List.toList_toArray, Nat.reduceEqDiff, if_true, if_false, ↓reduceIte, reduceCtorEq, Bool.false_eq_true, List.nil_append, List.append_nil, List.cons_append, Bool.or_self, Bool.or_true, Bool.or_false, Bool.true_or, Bool.false_or, Bool.and_true, Bool.true_and, Bool.not_true, Bool.not_false, Nat.reduceAdd, Nat.reduceMul, Nat.reduceSub, Nat.reduceLT, Nat.reduceLeDiff, Int.reduceToNat, List.all_cons, List.all_nil, List.map_cons, List.map_nil, List.set_cons_zero,  true_and, and_true, Int.natCast_nonneg, Int.le_refl, Nat.le_refl, Int.toNat_natCast, Nat.sub_zero,  List.drop_zero, List.drop_succ_cons, List.length_cons, List.length_nil,  List.set_cons_succ, and_self, decide_true, decide_false, Int.reduceLT, Int.reduceLE, Int.reduceEq, Int.reduceSub, Int.reduceAdd, Int.reduceMul, String.reduceEq, stK_eq, stV.eq_1, stR_some, stE_ag, stE_one, stE_whole, litV, bytesV_length] | simp (disch := omega) only [ifp, ifn, wrap_i64, wrap_u8, wrap_i32, wrap_u64, wrap_u32, Int.tdiv_eq_ediv_of_nonneg, Int.tmod_eq_emod_of_nonneg] | ((with_reducible refine BrK_intro (fun hwb => ?_) (fun hwb => ?_)) <;> (try rw [hwb]) <;> simp only [decide_eq_true_eq, decide_eq_false_iff_not, Bool.not_eq_true', Bool.not_eq_false', Bool.not_true, Bool.not_false] at hwb) | ((with_reducible refine gbK_intro (fun hwb => ?_) (fun hwb => ?_)) <;> (try rw [hwb]) <;> simp only [decide_eq_true_eq, decide_eq_false_iff_not, Bool.not_eq_true', Bool.not_eq_false', Bool.not_true, Bool.not_false] at hwb) | ((with_reducible refine qgb_intro (fun hwb => ?_) (fun hwb => ?_)) <;> (try rw [hwb]) <;> simp only [decide_eq_true_eq, decide_eq_false_iff_not, Bool.not_eq_true', Bool.not_eq_false', Bool.not_true, Bool.not_false] at hwb) | (with_reducible intro hl) | (with_reducible refine drawK_q (by kernel_rfl) (by kernel_rfl) ?_) | (with_reducible refine call_eq (hl) ?_) | (with_reducible refine call_eq (hwf) ?_))
      all_goals first
        | (exfalso; omega)
        | exact RetK_nil2 (.refl _) rfl
  | some ln =>
    obtain ⟨l, n⟩ := ln
    rw [hlf] at hl
    by_cases hc : (checkF b 0).1 = 0
    · rw [decide_eq_true hc] at hwf
      have chk_ : True ∧ True := by simp only [and_self, litV, bytesV_length]
      clear chk_
      repeat' (first | simp -implicitDefEqProofs only [XL, XM, TL, Option.isSome_some, Option.bind_some, Option.bind_none, Option.map_some, Option.map_none, Option.some.injEq, List.getElem?_cons_zero, List.getElem?_cons_succ, List.getElem?_toArray, List.toList_toArray, Nat.reduceEqDiff, if_true, if_false, ↓reduceIte, reduceCtorEq, Bool.false_eq_true, List.nil_append, List.append_nil, List.cons_append, Bool.or_self, Bool.or_true, Bool.or_false, Bool.true_or, Bool.false_or, Bool.and_true, Bool.true_and, Bool.not_true, Bool.not_false, Nat.reduceAdd, Nat.reduceMul, Nat.reduceSub, Nat.reduceLT, Nat.reduceLeDiff, Int.reduceToNat, List.all_cons, List.all_nil, List.map_cons, List.map_nil, List.set_cons_zero,  true_and, and_true, Int.natCast_nonneg, Int.le_refl, Nat.le_refl, Int.toNat_natCast, Nat.sub_zero,  List.drop_zero, List.drop_succ_cons, List.length_cons, List.length_nil,  List.set_cons_succ, and_self, decide_true, decide_false, Int.reduceLT, Int.reduceLE, Int.reduceEq, Int.reduceSub, Int.reduceAdd, Int.reduceMul, String.reduceEq, stK_eq, stV.eq_1, stR_some, stE_ag, stE_one, stE_whole, litV, bytesV_length] | simp (disch := omega) only [ifp, ifn, wrap_i64, wrap_u8, wrap_i32, wrap_u64, wrap_u32, Int.tdiv_eq_ediv_of_nonneg, Int.tmod_eq_emod_of_nonneg] | ((with_reducible refine BrK_intro (fun hwb => ?_) (fun hwb => ?_)) <;> (try rw [hwb]) <;> simp only [decide_eq_true_eq, decide_eq_false_iff_not, Bool.not_eq_true', Bool.not_eq_false', Bool.not_true, Bool.not_false] at hwb) | ((with_reducible refine gbK_intro (fun hwb => ?_) (fun hwb => ?_)) <;> (try rw [hwb]) <;> simp only [decide_eq_true_eq, decide_eq_false_iff_not, Bool.not_eq_true', Bool.not_eq_false', Bool.not_true, Bool.not_false] at hwb) | ((with_reducible refine qgb_intro (fun hwb => ?_) (fun hwb => ?_)) <;> (try rw [hwb]) <;> simp only [decide_eq_true_eq, decide_eq_false_iff_not, Bool.not_eq_true', Bool.not_eq_false', Bool.not_true, Bool.not_false] at hwb) | (with_reducible intro hl) | (with_reducible refine drawK_q (by kernel_rfl) (by kernel_rfl) ?_) | (with_reducible refine call_eq (hl) ?_) | (with_reducible refine call_eq (hwf) ?_))
      all_goals first
        | (exfalso; omega)
        | (refine RetK_nil2 (e := 1) (.refl _) ?_; rfl)
        | (refine RetK_pure (.refl _) ?_; rfl)
    · rw [decide_eq_false hc] at hwf
      have chk_ : True ∧ True := by simp only [and_self, litV, bytesV_length]
      clear chk_
      repeat' (first | simp -implicitDefEqProofs only [XL, XM, TL, Option.isSome_some, Option.bind_some, Option.bind_none, Option.map_some, Option.map_none, Option.some.injEq, List.getElem?_cons_zero, List.getElem?_cons_succ, List.getElem?_toArray, List.toList_toArray, Nat.reduceEqDiff, if_true, if_false, ↓reduceIte, reduceCtorEq, Bool.false_eq_true, List.nil_append, List.append_nil, List.cons_append, Bool.or_self, Bool.or_true, Bool.or_false, Bool.true_or, Bool.false_or, Bool.and_true, Bool.true_and, Bool.not_true, Bool.not_false, Nat.reduceAdd, Nat.reduceMul, Nat.reduceSub, Nat.reduceLT, Nat.reduceLeDiff, Int.reduceToNat, List.all_cons, List.all_nil, List.map_cons, List.map_nil, List.set_cons_zero,  true_and, and_true, Int.natCast_nonneg, Int.le_refl, Nat.le_refl, Int.toNat_natCast, Nat.sub_zero,  List.drop_zero, List.drop_succ_cons, List.length_cons, List.length_nil,  List.set_cons_succ, and_self, decide_true, decide_false, Int.reduceLT, Int.reduceLE, Int.reduceEq, Int.reduceSub, Int.reduceAdd, Int.reduceMul, String.reduceEq, stK_eq, stV.eq_1, stR_some, stE_ag, stE_one, stE_whole, litV, bytesV_length] | simp (disch := omega) only [ifp, ifn, wrap_i64, wrap_u8, wrap_i32, wrap_u64, wrap_u32, Int.tdiv_eq_ediv_of_nonneg, Int.tmod_eq_emod_of_nonneg] | ((with_reducible refine BrK_intro (fun hwb => ?_) (fun hwb => ?_)) <;> (try rw [hwb]) <;> simp only [decide_eq_true_eq, decide_eq_false_iff_not, Bool.not_eq_true', Bool.not_eq_false', Bool.not_true, Bool.not_false] at hwb) | ((with_reducible refine gbK_intro (fun hwb => ?_) (fun hwb => ?_)) <;> (try rw [hwb]) <;> simp only [decide_eq_true_eq, decide_eq_false_iff_not, Bool.not_eq_true', Bool.not_eq_false', Bool.not_true, Bool.not_false] at hwb) | ((with_reducible refine qgb_intro (fun hwb => ?_) (fun hwb => ?_)) <;> (try rw [hwb]) <;> simp only [decide_eq_true_eq, decide_eq_false_iff_not, Bool.not_eq_true', Bool.not_eq_false', Bool.not_true, Bool.not_false] at hwb) | (with_reducible intro hl) | (with_reducible refine drawK_q (by kernel_rfl) (by kernel_rfl) ?_) | (with_reducible refine call_eq (hl) ?_) | (with_reducible refine call_eq (hwf) ?_))
      all_goals first
        | (exfalso; omega)
        | (refine RetK_nil2 (e := 1) (.refl _) ?_; rfl)
        | (refine RetK_pure (.refl _) ?_; rfl)

/-- Positions. -/
def wd (b : List UInt8) (i : Nat) : Nat := if (charF b i).1 = 0 then 1 else (charF b i).1
def colGo (b : List UInt8) (at_ : Nat) : Nat → Nat → Nat → Nat
  | 0, _, c => c
  | f + 1, i, c => if i < at_ then (if i + wd b i ≤ at_ then colGo b at_ f (i + wd b i) (c + 1) else c) else c
/-- Behind the last LF before an offset. -/
def fromF (b : List UInt8) : Nat → Nat
  | 0 => 0
  | n + 1 => if at0 b n = 10 then n + 1 else fromF b n
def lfs (b : List UInt8) (at_ : Nat) : Nat := (b.take at_).count 10
def posF (b : List UInt8) (at_ : Nat) : Nat × Nat := (1 + lfs b at_, colGo b at_ (at_ + 1) (fromF b at_) 1)
theorem fromF_le (b : List UInt8) : ∀ n, fromF b n ≤ n
  | 0 => Nat.le_refl _
  | n + 1 => by unfold fromF; split; exact Nat.le_refl _; have := fromF_le b n; omega

theorem lastIndex_spec (G : Gl) (h : H) (b : List UInt8) (n : Nat) (hn : n ≤ b.length) (hlen : b.length ≤ 100000000) :
    XCalls Tryz.prog G 25 [.im 1 (bytesV (b.take n)), .i .u8 10] h (fun o h' => o = .ret (.i .i64 ((fromF b n : Int) - 1)) ∧ h' = h) := by
  have hi : XCalls Tryz.prog G 44 [.im 1 (bytesV (b.take n)), .i .u8 10] h (fun o h' => o = .ret (.i .i64 ((fromF b n : Int) - 1)) ∧ h' = h) := by
    refine enterK (rs := [.tmp 4]) Tryz.func44 (by kernel_rfl) rfl rfl (by kernel_rfl) rfl (Nat.le_of_ble_eq_true rfl) (fun hbd => ?_)
    have hl : (b.take n).length = n := by simp; omega
    have chk_ : True ∧ True := by simp only [and_self, bytesV_length, hl]
    clear chk_
    repeat' (first | simp -implicitDefEqProofs only [XL, XM, TL, Option.isSome_some, Option.bind_some, Option.bind_none, Option.map_some, Option.map_none, Option.some.injEq, List.getElem?_cons_zero, List.getElem?_cons_succ, List.getElem?_toArray, List.toList_toArray, Nat.reduceEqDiff, if_true, if_false, ↓reduceIte, reduceCtorEq, Bool.false_eq_true, List.nil_append, List.append_nil, List.cons_append, Bool.or_self, Bool.or_true, Bool.or_false, Bool.true_or, Bool.false_or, Bool.and_true, Bool.true_and, Bool.not_true, Bool.not_false, Nat.reduceAdd, Nat.reduceMul, Nat.reduceSub, Nat.reduceLT, Nat.reduceLeDiff, Int.reduceToNat, List.all_cons, List.all_nil, List.map_cons, List.map_nil, List.set_cons_zero,  true_and, and_true, Int.natCast_nonneg, Int.le_refl, Nat.le_refl, Int.toNat_natCast, Nat.sub_zero,  List.drop_zero, List.drop_succ_cons, List.length_cons, List.length_nil,  List.set_cons_succ, and_self, decide_true, decide_false, Int.reduceLT, Int.reduceLE, Int.reduceEq, Int.reduceSub, Int.reduceAdd, Int.reduceMul, String.reduceEq, stK_eq, stV.eq_1, stR_some, stE_ag, stE_one, stE_whole, bytesV_length, hl] | simp (disch := omega) only [ifp, ifn, wrap_i64, wrap_u8, wrap_i32, wrap_u64, wrap_u32, Int.tdiv_eq_ediv_of_nonneg, Int.tmod_eq_emod_of_nonneg] | ((with_reducible refine BrK_intro (fun hwb => ?_) (fun hwb => ?_)) <;> (try rw [hwb]) <;> simp only [decide_eq_true_eq, decide_eq_false_iff_not, Bool.not_eq_true', Bool.not_eq_false', Bool.not_true, Bool.not_false] at hwb) | ((with_reducible refine gbK_intro (fun hwb => ?_) (fun hwb => ?_)) <;> (try rw [hwb]) <;> simp only [decide_eq_true_eq, decide_eq_false_iff_not, Bool.not_eq_true', Bool.not_eq_false', Bool.not_true, Bool.not_false] at hwb) | ((with_reducible refine qgb_intro (fun hwb => ?_) (fun hwb => ?_)) <;> (try rw [hwb]) <;> simp only [decide_eq_true_eq, decide_eq_false_iff_not, Bool.not_eq_true', Bool.not_eq_false', Bool.not_true, Bool.not_false] at hwb) | (with_reducible intro hl) | (with_reducible refine drawK_q (by kernel_rfl) (by kernel_rfl) ?_) )
    refine loopO [4, 5, 9, 10, 11, 12, 13, 14, 15, 16, 17, 18, 19] (fun (k : Nat) a g => g = h ∧ a 5 = some (.i .i64 ((k : Int) - 1)) ∧ k ≤ n ∧ fromF b k = fromF b n) (fun k => k) n (by exact ⟨rfl, rfl, Nat.le_refl _, rfl⟩) ?_
    rintro k a g hoff ⟨rfl, h5, hk, heq⟩
    (have e0' := hoff 0 rfl; have e1' := hoff 1 rfl; simp only [XL, XM, Option.isSome_some, Option.bind_some, Option.bind_none, Option.map_some, Option.map_none, Option.some.injEq, List.getElem?_cons_zero, List.getElem?_cons_succ, List.getElem?_toArray, List.toList_toArray, Nat.reduceEqDiff, if_true, if_false, ↓reduceIte, reduceCtorEq, Bool.false_eq_true, List.nil_append, List.append_nil, List.cons_append, Bool.or_self, Bool.or_true, Bool.or_false, Bool.true_or, Bool.false_or, Bool.and_true, Bool.true_and, Bool.not_true, Bool.not_false, Nat.reduceAdd, Nat.reduceMul, Nat.reduceSub, Nat.reduceLT, Nat.reduceLeDiff, Int.reduceToNat, List.all_cons, List.all_nil, List.map_cons, List.map_nil, List.set_cons_zero,  true_and, and_true, Int.natCast_nonneg, Int.le_refl, Nat.le_refl, Int.toNat_natCast, Nat.sub_zero,  List.drop_zero, List.drop_succ_cons, List.length_cons, List.length_nil,  List.set_cons_succ, and_self, decide_true, decide_false, Int.reduceLT, Int.reduceLE, Int.reduceEq, Int.reduceSub, Int.reduceAdd, Int.reduceMul, String.reduceEq, stK_eq, stV.eq_1, stR_some, stE_ag, stE_one, stE_whole] at e0' e1'; have e0 := e0'; clear e0'; have e1 := e1'; clear e1')
    skip
    cases k with
    | zero =>
      have chk_ : True ∧ True := by simp only [and_self, e0, e1, h5]
      clear chk_
      repeat' (first | simp -implicitDefEqProofs only [XL, XM, TL, Option.isSome_some, Option.bind_some, Option.bind_none, Option.map_some, Option.map_none, Option.some.injEq, List.getElem?_cons_zero, List.getElem?_cons_succ, List.getElem?_toArray, List.toList_toArray, Nat.reduceEqDiff, if_true, if_false, ↓reduceIte, reduceCtorEq, Bool.false_eq_true, List.nil_append, List.append_nil, List.cons_append, Bool.or_self, Bool.or_true, Bool.or_false, Bool.true_or, Bool.false_or, Bool.and_true, Bool.true_and, Bool.not_true, Bool.not_false, Nat.reduceAdd, Nat.reduceMul, Nat.reduceSub, Nat.reduceLT, Nat.reduceLeDiff, Int.reduceToNat, List.all_cons, List.all_nil, List.map_cons, List.map_nil, List.set_cons_zero,  true_and, and_true, Int.natCast_nonneg, Int.le_refl, Nat.le_refl, Int.toNat_natCast, Nat.sub_zero,  List.drop_zero, List.drop_succ_cons, List.length_cons, List.length_nil,  List.set_cons_succ, and_self, decide_true, decide_false, Int.reduceLT, Int.reduceLE, Int.reduceEq, Int.reduceSub, Int.reduceAdd, Int.reduceMul, String.reduceEq, stK_eq, stV.eq_1, stR_some, stE_ag, stE_one, stE_whole, e0, e1, h5] | simp (disch := omega) only [ifp, ifn, wrap_i64, wrap_u8, wrap_i32, wrap_u64, wrap_u32, Int.tdiv_eq_ediv_of_nonneg, Int.tmod_eq_emod_of_nonneg] | ((with_reducible refine BrK_intro (fun hwb => ?_) (fun hwb => ?_)) <;> (try rw [hwb]) <;> simp only [decide_eq_true_eq, decide_eq_false_iff_not, Bool.not_eq_true', Bool.not_eq_false', Bool.not_true, Bool.not_false] at hwb) | ((with_reducible refine gbK_intro (fun hwb => ?_) (fun hwb => ?_)) <;> (try rw [hwb]) <;> simp only [decide_eq_true_eq, decide_eq_false_iff_not, Bool.not_eq_true', Bool.not_eq_false', Bool.not_true, Bool.not_false] at hwb) | ((with_reducible refine qgb_intro (fun hwb => ?_) (fun hwb => ?_)) <;> (try rw [hwb]) <;> simp only [decide_eq_true_eq, decide_eq_false_iff_not, Bool.not_eq_true', Bool.not_eq_false', Bool.not_true, Bool.not_false] at hwb) | (with_reducible intro hl) | (with_reducible refine drawK_q (by kernel_rfl) (by kernel_rfl) ?_) )
      all_goals first
        | (exfalso; omega)
        | (refine RetK_pure (.refl _) ?_
           rw [← heq]; rfl)
    | succ k =>
      have ec : ((k + 1 : Nat) : Int) - 1 = (k : Int) := by omega
      have hg : (b.take n)[k]? = some (b.getD k 0) := by rw [List.getElem?_take, if_pos (by omega)]; exact at0_get (by omega)
      have hq : ((b.getD k 0).toNat : Int) = (at0 b k : Int) := rfl
      have chk_ : True ∧ True := by simp only [and_self, e0, e1, h5, ec, bytesV_get, hg, bV_cells, hq]
      clear chk_
      repeat' (first | simp -implicitDefEqProofs only [XL, XM, TL, Option.isSome_some, Option.bind_some, Option.bind_none, Option.map_some, Option.map_none, Option.some.injEq, List.getElem?_cons_zero, List.getElem?_cons_succ, List.getElem?_toArray, List.toList_toArray, Nat.reduceEqDiff, if_true, if_false, ↓reduceIte, reduceCtorEq, Bool.false_eq_true, List.nil_append, List.append_nil, List.cons_append, Bool.or_self, Bool.or_true, Bool.or_false, Bool.true_or, Bool.false_or, Bool.and_true, Bool.true_and, Bool.not_true, Bool.not_false, Nat.reduceAdd, Nat.reduceMul, Nat.reduceSub, Nat.reduceLT, Nat.reduceLeDiff, Int.reduceToNat, List.all_cons, List.all_nil, List.map_cons, List.map_nil, List.set_cons_zero,  true_and, and_true, Int.natCast_nonneg, Int.le_refl, Nat.le_refl, Int.toNat_natCast, Nat.sub_zero,  List.drop_zero, List.drop_succ_cons, List.length_cons, List.length_nil,  List.set_cons_succ, and_self, decide_true, decide_false, Int.reduceLT, Int.reduceLE, Int.reduceEq, Int.reduceSub, Int.reduceAdd, Int.reduceMul, String.reduceEq, stK_eq, stV.eq_1, stR_some, stE_ag, stE_one, stE_whole, e0, e1, h5, ec, bytesV_get, hg, bV_cells, hq] | simp (disch := omega) only [ifp, ifn, wrap_i64, wrap_u8, wrap_i32, wrap_u64, wrap_u32, Int.tdiv_eq_ediv_of_nonneg, Int.tmod_eq_emod_of_nonneg] | ((with_reducible refine BrK_intro (fun hwb => ?_) (fun hwb => ?_)) <;> (try rw [hwb]) <;> simp only [decide_eq_true_eq, decide_eq_false_iff_not, Bool.not_eq_true', Bool.not_eq_false', Bool.not_true, Bool.not_false] at hwb) | ((with_reducible refine gbK_intro (fun hwb => ?_) (fun hwb => ?_)) <;> (try rw [hwb]) <;> simp only [decide_eq_true_eq, decide_eq_false_iff_not, Bool.not_eq_true', Bool.not_eq_false', Bool.not_true, Bool.not_false] at hwb) | ((with_reducible refine qgb_intro (fun hwb => ?_) (fun hwb => ?_)) <;> (try rw [hwb]) <;> simp only [decide_eq_true_eq, decide_eq_false_iff_not, Bool.not_eq_true', Bool.not_eq_false', Bool.not_true, Bool.not_false] at hwb) | (with_reducible intro hl) | (with_reducible refine drawK_q (by kernel_rfl) (by kernel_rfl) ?_) )
      all_goals first
        | (exfalso; omega)
        | (refine RetK_pure (.refl _) ?_
           rw [← heq, fromF, if_pos (by omega)]
           congr 1; omega)
        | (refine LO.mk k (by omega) (by repeat (first | with_reducible exact hoff | with_reducible exact Off.refl _ _ | refine Off.upd ?_ rfl | refine Off.trans hoff ?_ rfl)) ?_
           refine ⟨rfl, rfl, by omega, ?_⟩
           rw [← heq]
           conv => rhs; rw [fromF, if_neg (by omega)])
  refine enterK (rs := [.tmp 4]) Tryz.func25 (by kernel_rfl) rfl rfl (by kernel_rfl) rfl (Nat.le_of_ble_eq_true rfl) (fun hbd => ?_)
  repeat' (first | simp -implicitDefEqProofs only [XL, XM, TL, Option.isSome_some, Option.bind_some, Option.bind_none, Option.map_some, Option.map_none, Option.some.injEq, List.getElem?_cons_zero, List.getElem?_cons_succ, List.getElem?_toArray, List.toList_toArray, Nat.reduceEqDiff, if_true, if_false, ↓reduceIte, reduceCtorEq, Bool.false_eq_true, List.nil_append, List.append_nil, List.cons_append, Bool.or_self, Bool.or_true, Bool.or_false, Bool.true_or, Bool.false_or, Bool.and_true, Bool.true_and, Bool.not_true, Bool.not_false, Nat.reduceAdd, Nat.reduceMul, Nat.reduceSub, Nat.reduceLT, Nat.reduceLeDiff, Int.reduceToNat, List.all_cons, List.all_nil, List.map_cons, List.map_nil, List.set_cons_zero,  true_and, and_true, Int.natCast_nonneg, Int.le_refl, Nat.le_refl, Int.toNat_natCast, Nat.sub_zero,  List.drop_zero, List.drop_succ_cons, List.length_cons, List.length_nil,  List.set_cons_succ, and_self, decide_true, decide_false, Int.reduceLT, Int.reduceLE, Int.reduceEq, Int.reduceSub, Int.reduceAdd, Int.reduceMul, String.reduceEq, stK_eq, stV.eq_1, stR_some, stE_ag, stE_one, stE_whole] | simp (disch := omega) only [ifp, ifn, wrap_i64, wrap_u8, wrap_i32, wrap_u64, wrap_u32, Int.tdiv_eq_ediv_of_nonneg, Int.tmod_eq_emod_of_nonneg] | ((with_reducible refine BrK_intro (fun hwb => ?_) (fun hwb => ?_)) <;> (try rw [hwb]) <;> simp only [decide_eq_true_eq, decide_eq_false_iff_not, Bool.not_eq_true', Bool.not_eq_false', Bool.not_true, Bool.not_false] at hwb) | ((with_reducible refine gbK_intro (fun hwb => ?_) (fun hwb => ?_)) <;> (try rw [hwb]) <;> simp only [decide_eq_true_eq, decide_eq_false_iff_not, Bool.not_eq_true', Bool.not_eq_false', Bool.not_true, Bool.not_false] at hwb) | ((with_reducible refine qgb_intro (fun hwb => ?_) (fun hwb => ?_)) <;> (try rw [hwb]) <;> simp only [decide_eq_true_eq, decide_eq_false_iff_not, Bool.not_eq_true', Bool.not_eq_false', Bool.not_true, Bool.not_false] at hwb) | (with_reducible intro hl) | (with_reducible refine drawK_q (by kernel_rfl) (by kernel_rfl) ?_) | (with_reducible refine call_eq (hi) ?_))
  exact RetK_pure (.refl _) rfl
end Go.X
end

section
open Go Go.Proofs
namespace Go.X
set_option linter.unusedSimpArgs false
set_option maxRecDepth 10000

theorem wd_pos (b : List UInt8) (i : Nat) : 1 ≤ wd b i := by unfold wd; split <;> omega
theorem wd_le (b : List UInt8) (i : Nat) (hi : i < b.length) : i + wd b i ≤ b.length := by
  have := charF_le b i hi
  unfold wd; split <;> omega
theorem decG_wd {b : List UInt8} {i : Nat} (hi : i < b.length) : (decG (b.drop i)).2 = wd b i := by
  rw [decG_drop b i hi]; unfold wd; split <;> rfl

theorem position_spec (G : Gl) (hT : Tabs G) (h : H) (b : List UInt8) (n : Nat) (hn : n ≤ b.length) (hlen : b.length ≤ 100000000) :
    XCalls Tryz.prog G 12 [.im 1 (bytesV b), .i .i64 n] h (fun o h' => o = .ret (.tu [.i .i64 (posF b n).1, .i .i64 (posF b n).2]) ∧ h' = h) := by
  have hc := count_spec G h (b.take n) 10
  have hcl : Lib.countByte (b.take n) 10 ≤ n := by unfold Lib.countByte; have := List.count_le_length (l := b.take n) (a := 10); simp at this; omega
  have hli := lastIndex_spec G h b n hn hlen
  have hfl := fromF_le b n
  have hq : (0 : Int) ≤ (n : Int) ∧ (n : Int) ≤ (b.length : Int) := by omega
  refine enterK (rs := [.tmp 4, .tmp 5]) Tryz.func12 (by kernel_rfl) rfl rfl (by kernel_rfl) rfl (Nat.le_of_ble_eq_true rfl) (fun hbd => ?_)
  have chk_ : True ∧ True := by simp only [and_self, bytesV_length, hq, bytesV_take]
  clear chk_
  repeat' (first | simp -implicitDefEqProofs only [XL, XM, TL, Option.isSome_some, Option.bind_some, Option.bind_none, Option.map_some, Option.map_none, Option.some.injEq, List.getElem?_cons_zero, List.getElem?_cons_succ, List.getElem?_toArray, List.toList_toArray, Nat.reduceEqDiff, if_true, if_false, ↓reduceIte, reduceCtorEq, Bool.false_eq_true, List.nil_append, List.append_nil, List.cons_append, Bool.or_self, Bool.or_true, Bool.or_false, Bool.true_or, Bool.false_or, Bool.and_true, Bool.true_and, Bool.not_true, Bool.not_false, Nat.reduceAdd, Nat.reduceMul, Nat.reduceSub, Nat.reduceLT, Nat.reduceLeDiff, Int.reduceToNat, List.all_cons, List.all_nil, List.map_cons, List.map_nil, List.set_cons_zero,  true_and, and_true, Int.natCast_nonneg, Int.le_refl, Nat.le_refl, Int.toNat_natCast, Nat.sub_zero,  List.drop_zero, List.drop_succ_cons, List.length_cons, List.length_nil,  List.set_cons_succ, and_self, decide_true, decide_false, Int.reduceLT, Int.reduceLE, Int.reduceEq, Int.reduceSub, Int.reduceAdd, Int.reduceMul, String.reduceEq, stK_eq, stV.eq_1, stR_some, stE_ag, stE_one, stE_whole, bytesV_length, hq, bytesV_take] | simp (disch := omega) only [ifp, ifn, wrap_i64, wrap_u8, wrap_i32, wrap_u64, wrap_u32, Int.tdiv_eq_ediv_of_nonneg, Int.tmod_eq_emod_of_nonneg] | ((with_reducible refine BrK_intro (fun hwb => ?_) (fun hwb => ?_)) <;> (try rw [hwb]) <;> simp only [decide_eq_true_eq, decide_eq_false_iff_not, Bool.not_eq_true', Bool.not_eq_false', Bool.not_true, Bool.not_false] at hwb) | ((with_reducible refine gbK_intro (fun hwb => ?_) (fun hwb => ?_)) <;> (try rw [hwb]) <;> simp only [decide_eq_true_eq, decide_eq_false_iff_not, Bool.not_eq_true', Bool.not_eq_false', Bool.not_true, Bool.not_false] at hwb) | ((with_reducible refine qgb_intro (fun hwb => ?_) (fun hwb => ?_)) <;> (try rw [hwb]) <;> simp only [decide_eq_true_eq, decide_eq_false_iff_not, Bool.not_eq_true', Bool.not_eq_false', Bool.not_true, Bool.not_false] at hwb) | (with_reducible intro hl) | (with_reducible refine drawK_q (by kernel_rfl) (by kernel_rfl) ?_) )
  all_goals first | (exfalso; omega) | skip
  refine bslK_intro (by simp -implicitDefEqProofs only [XL, XM, TL, Option.isSome_some, Option.bind_some, Option.bind_none, Option.map_some, Option.map_none, Option.some.injEq, List.getElem?_cons_zero, List.getElem?_cons_succ, List.getElem?_toArray, List.toList_toArray, Nat.reduceEqDiff, if_true, if_false, ↓reduceIte, reduceCtorEq, Bool.false_eq_true, List.nil_append, List.append_nil, List.cons_append, Bool.or_self, Bool.or_true, Bool.or_false, Bool.true_or, Bool.false_or, Bool.and_true, Bool.true_and, Bool.not_true, Bool.not_false, Nat.reduceAdd, Nat.reduceMul, Nat.reduceSub, Nat.reduceLT, Nat.reduceLeDiff, Int.reduceToNat, List.all_cons, List.all_nil, List.map_cons, List.map_nil, List.set_cons_zero,  true_and, and_true, Int.natCast_nonneg, Int.le_refl, Nat.le_refl, Int.toNat_natCast, Nat.sub_zero,  List.drop_zero, List.drop_succ_cons, List.length_cons, List.length_nil,  List.set_cons_succ, and_self, decide_true, decide_false, Int.reduceLT, Int.reduceLE, Int.reduceEq, Int.reduceSub, Int.reduceAdd, Int.reduceMul, String.reduceEq, stK_eq, stV.eq_1, stR_some, stE_ag, stE_one, stE_whole]; rfl) rfl (by simp [V.fits, V.cells]) (by simp) (fun id hid => ?_)
  simp -implicitDefEqProofs only [XL, XM, TL, Option.isSome_some, Option.bind_some, Option.bind_none, Option.map_some, Option.map_none, Option.some.injEq, List.getElem?_cons_zero, List.getElem?_cons_succ, List.getElem?_toArray, List.toList_toArray, Nat.reduceEqDiff, if_true, if_false, ↓reduceIte, reduceCtorEq, Bool.false_eq_true, List.nil_append, List.append_nil, List.cons_append, Bool.or_self, Bool.or_true, Bool.or_false, Bool.true_or, Bool.false_or, Bool.and_true, Bool.true_and, Bool.not_true, Bool.not_false, Nat.reduceAdd, Nat.reduceMul, Nat.reduceSub, Nat.reduceLT, Nat.reduceLeDiff, Int.reduceToNat, List.all_cons, List.all_nil, List.map_cons, List.map_nil, List.set_cons_zero,  true_and, and_true, Int.natCast_nonneg, Int.le_refl, Nat.le_refl, Int.toNat_natCast, Nat.sub_zero,  List.drop_zero, List.drop_succ_cons, List.length_cons, List.length_nil,  List.set_cons_succ, and_self, decide_true, decide_false, Int.reduceLT, Int.reduceLE, Int.reduceEq, Int.reduceSub, Int.reduceAdd, Int.reduceMul, String.reduceEq, stK_eq, stV.eq_1, stR_some, stE_ag, stE_one, stE_whole]
  refine callK_frz (FzL.two (Fz.slice (e := 1) (by simp only [set_eq, if_true]; rfl) (by simp))) (Sub.set_fresh (.refl h) hid _) (by simpa using hid) ?_
  refine call_eq (h1 := h) hc ?_
  have hf1 : (fromF b n : Int) - 1 + 1 = (fromF b n : Int) := by omega
  have chk_ : True ∧ True := by simp only [and_self, bytesV_length, hq, bytesV_take, hf1]
  clear chk_
  repeat' (first | simp -implicitDefEqProofs only [XL, XM, TL, Option.isSome_some, Option.bind_some, Option.bind_none, Option.map_some, Option.map_none, Option.some.injEq, List.getElem?_cons_zero, List.getElem?_cons_succ, List.getElem?_toArray, List.toList_toArray, Nat.reduceEqDiff, if_true, if_false, ↓reduceIte, reduceCtorEq, Bool.false_eq_true, List.nil_append, List.append_nil, List.cons_append, Bool.or_self, Bool.or_true, Bool.or_false, Bool.true_or, Bool.false_or, Bool.and_true, Bool.true_and, Bool.not_true, Bool.not_false, Nat.reduceAdd, Nat.reduceMul, Nat.reduceSub, Nat.reduceLT, Nat.reduceLeDiff, Int.reduceToNat, List.all_cons, List.all_nil, List.map_cons, List.map_nil, List.set_cons_zero,  true_and, and_true, Int.natCast_nonneg, Int.le_refl, Nat.le_refl, Int.toNat_natCast, Nat.sub_zero,  List.drop_zero, List.drop_succ_cons, List.length_cons, List.length_nil,  List.set_cons_succ, and_self, decide_true, decide_false, Int.reduceLT, Int.reduceLE, Int.reduceEq, Int.reduceSub, Int.reduceAdd, Int.reduceMul, String.reduceEq, stK_eq, stV.eq_1, stR_some, stE_ag, stE_one, stE_whole, bytesV_length, hq, bytesV_take, hf1] | simp (disch := omega) only [ifp, ifn, wrap_i64, wrap_u8, wrap_i32, wrap_u64, wrap_u32, Int.tdiv_eq_ediv_of_nonneg, Int.tmod_eq_emod_of_nonneg] | ((with_reducible refine BrK_intro (fun hwb => ?_) (fun hwb => ?_)) <;> (try rw [hwb]) <;> simp only [decide_eq_true_eq, decide_eq_false_iff_not, Bool.not_eq_true', Bool.not_eq_false', Bool.not_true, Bool.not_false] at hwb) | ((with_reducible refine gbK_intro (fun hwb => ?_) (fun hwb => ?_)) <;> (try rw [hwb]) <;> simp only [decide_eq_true_eq, decide_eq_false_iff_not, Bool.not_eq_true', Bool.not_eq_false', Bool.not_true, Bool.not_false] at hwb) | ((with_reducible refine qgb_intro (fun hwb => ?_) (fun hwb => ?_)) <;> (try rw [hwb]) <;> simp only [decide_eq_true_eq, decide_eq_false_iff_not, Bool.not_eq_true', Bool.not_eq_false', Bool.not_true, Bool.not_false] at hwb) | (with_reducible intro hl) | (with_reducible refine drawK_q (by kernel_rfl) (by kernel_rfl) ?_) | (with_reducible refine call_eq (hli) ?_))
  refine loopO [8, 9, 10, 11, 32, 33, 34, 35, 36, 37, 38, 39, 40, 41, 42, 43, 44, 45, 46, 47, 48, 49] (fun (st : Nat × Nat × Nat) a g => g = h ∧ a 8 = some (.i .i64 st.2.2) ∧ a 9 = some (.i .i64 st.2.1) ∧ st.2.1 ≤ b.length ∧ st.2.2 ≤ st.2.1 + 1 ∧ n < st.1 + st.2.1 ∧ (st.2.1 ≤ n → colGo b n st.1 st.2.1 st.2.2 = (posF b n).2) ∧ (n < st.2.1 → st.2.2 = (posF b n).2)) (fun st => b.length - st.2.1) (n + 1, fromF b n, 1) (by exact ⟨rfl, rfl, rfl, by simp only; omega, by simp only; omega, by simp only; omega, fun _ => rfl, fun hh => by simp only at hh; omega⟩) ?_
  rintro ⟨f, i, c⟩ a g hoff ⟨rfl, h8, h9, hil, hci, hf, hlo, hhi⟩
  simp only at h8 h9 hil hci hf hlo hhi
  (have e0' := hoff 0 rfl; have e1' := hoff 1 rfl; have e4' := hoff 4 rfl; have e5' := hoff 5 rfl; have e6' := hoff 6 rfl; simp only [XL, XM, Option.isSome_some, Option.bind_some, Option.bind_none, Option.map_some, Option.map_none, Option.some.injEq, List.getElem?_cons_zero, List.getElem?_cons_succ, List.getElem?_toArray, List.toList_toArray, Nat.reduceEqDiff, if_true, if_false, ↓reduceIte, reduceCtorEq, Bool.false_eq_true, List.nil_append, List.append_nil, List.cons_append, Bool.or_self, Bool.or_true, Bool.or_false, Bool.true_or, Bool.false_or, Bool.and_true, Bool.true_and, Bool.not_true, Bool.not_false, Nat.reduceAdd, Nat.reduceMul, Nat.reduceSub, Nat.reduceLT, Nat.reduceLeDiff, Int.reduceToNat, List.all_cons, List.all_nil, List.map_cons, List.map_nil, List.set_cons_zero,  true_and, and_true, Int.natCast_nonneg, Int.le_refl, Nat.le_refl, Int.toNat_natCast, Nat.sub_zero,  List.drop_zero, List.drop_succ_cons, List.length_cons, List.length_nil,  List.set_cons_succ, and_self, decide_true, decide_false, Int.reduceLT, Int.reduceLE, Int.reduceEq, Int.reduceSub, Int.reduceAdd, Int.reduceMul, String.reduceEq, stK_eq, stV.eq_1, stR_some, stE_ag, stE_one, stE_whole] at e0' e1' e4' e5' e6'; have e0 := e0'; clear e0'; have e1 := e1'; clear e1'; have e4 := e4'; clear e4'; have e5 := e5'; clear e5'; have e6 := e6'; clear e6')
  skip
  by_cases hin : i < n
  · have hib : i < b.length := by omega
    have hde := decode_spec G hT g (b.drop i)
    have hw := wd_le b i hib
    have hw1 := wd_pos b i
    rw [show decG (b.drop i) = ((decG (b.drop i)).1, wd b i) by rw [← decG_wd hib]] at hde
    have hq2 : (0 : Int) ≤ (i : Int) ∧ (i : Int) ≤ (b.length : Int) := by omega
    obtain ⟨f, rfl⟩ : ∃ f', f = f' + 1 := ⟨f - 1, by omega⟩
    have hun := hlo (by omega)
    rw [colGo, if_pos hin] at hun
    generalize wd b i = w at *
    generalize (decG (b.drop i)).1 = r at *
    have chk_ : True ∧ True := by simp only [and_self, e0, e1, e4, e5, e6, h8, h9, bytesV_length, hq2, bytesV_drop, drop_bytes]
    clear chk_
    repeat' (first | simp -implicitDefEqProofs only [XL, XM, TL, Option.isSome_some, Option.bind_some, Option.bind_none, Option.map_some, Option.map_none, Option.some.injEq, List.getElem?_cons_zero, List.getElem?_cons_succ, List.getElem?_toArray, List.toList_toArray, Nat.reduceEqDiff, if_true, if_false, ↓reduceIte, reduceCtorEq, Bool.false_eq_true, List.nil_append, List.append_nil, List.cons_append, Bool.or_self, Bool.or_true, Bool.or_false, Bool.true_or, Bool.false_or, Bool.and_true, Bool.true_and, Bool.not_true, Bool.not_false, Nat.reduceAdd, Nat.reduceMul, Nat.reduceSub, Nat.reduceLT, Nat.reduceLeDiff, Int.reduceToNat, List.all_cons, List.all_nil, List.map_cons, List.map_nil, List.set_cons_zero,  true_and, and_true, Int.natCast_nonneg, Int.le_refl, Nat.le_refl, Int.toNat_natCast, Nat.sub_zero,  List.drop_zero, List.drop_succ_cons, List.length_cons, List.length_nil,  List.set_cons_succ, and_self, decide_true, decide_false, Int.reduceLT, Int.reduceLE, Int.reduceEq, Int.reduceSub, Int.reduceAdd, Int.reduceMul, String.reduceEq, stK_eq, stV.eq_1, stR_some, stE_ag, stE_one, stE_whole, e0, e1, e4, e5, e6, h8, h9, bytesV_length, hq2, bytesV_drop, drop_bytes] | simp (disch := omega) only [ifp, ifn, wrap_i64, wrap_u8, wrap_i32, wrap_u64, wrap_u32, Int.tdiv_eq_ediv_of_nonneg, Int.tmod_eq_emod_of_nonneg] | ((with_reducible refine BrK_intro (fun hwb => ?_) (fun hwb => ?_)) <;> (try rw [hwb]) <;> simp only [decide_eq_true_eq, decide_eq_false_iff_not, Bool.not_eq_true', Bool.not_eq_false', Bool.not_true, Bool.not_false] at hwb) | ((with_reducible refine gbK_intro (fun hwb => ?_) (fun hwb => ?_)) <;> (try rw [hwb]) <;> simp only [decide_eq_true_eq, decide_eq_false_iff_not, Bool.not_eq_true', Bool.not_eq_false', Bool.not_true, Bool.not_false] at hwb) | ((with_reducible refine qgb_intro (fun hwb => ?_) (fun hwb => ?_)) <;> (try rw [hwb]) <;> simp only [decide_eq_true_eq, decide_eq_false_iff_not, Bool.not_eq_true', Bool.not_eq_false', Bool.not_true, Bool.not_false] at hwb) | (with_reducible intro hl) | (with_reducible refine drawK_q (by kernel_rfl) (by kernel_rfl) ?_) | (with_reducible refine call_eq (hde) ?_))
    all_goals first | (exfalso; omega) | skip
    · rw [if_pos (by omega)] at hun
      refine LO.mk (f, i + w, c + 1) (by simp only; omega) (by repeat (first | with_reducible exact hoff | with_reducible exact Off.refl _ _ | refine Off.upd ?_ rfl | refine Off.trans hoff ?_ rfl)) ?_
      refine ⟨rfl, rfl, rfl, by simp only; omega, by simp only; omega, by simp only; omega, fun _ => hun, fun hh => by simp only at hh; omega⟩
    · rw [if_neg (by omega)] at hun
      refine LO.mk (f, i + w, c) (by simp only; omega) (by repeat (first | with_reducible exact hoff | with_reducible exact Off.refl _ _ | refine Off.upd ?_ rfl | refine Off.trans hoff ?_ rfl)) ?_
      refine ⟨rfl, h8, rfl, by simp only; omega, by simp only; omega, by simp only; omega, fun hh => by simp only at hh; omega, fun _ => hun⟩
  · have hfin : c = (posF b n).2 := by
      by_cases hlt : n < i
      · exact hhi hlt
      · have := hlo (by omega)
        rw [← this]
        cases f with
        | zero => rfl
        | succ f => rw [colGo, if_neg (by omega)]
    have chk_ : True ∧ True := by simp only [and_self, e0, e1, e4, e5, e6, h8, h9]
    clear chk_
    repeat' (first | simp -implicitDefEqProofs only [XL, XM, TL, Option.isSome_some, Option.bind_some, Option.bind_none, Option.map_some, Option.map_none, Option.some.injEq, List.getElem?_cons_zero, List.getElem?_cons_succ, List.getElem?_toArray, List.toList_toArray, Nat.reduceEqDiff, if_true, if_false, ↓reduceIte, reduceCtorEq, Bool.false_eq_true, List.nil_append, List.append_nil, List.cons_append, Bool.or_self, Bool.or_true, Bool.or_false, Bool.true_or, Bool.false_or, Bool.and_true, Bool.true_and, Bool.not_true, Bool.not_false, Nat.reduceAdd, Nat.reduceMul, Nat.reduceSub, Nat.reduceLT, Nat.reduceLeDiff, Int.reduceToNat, List.all_cons, List.all_nil, List.map_cons, List.map_nil, List.set_cons_zero,  true_and, and_true, Int.natCast_nonneg, Int.le_refl, Nat.le_refl, Int.toNat_natCast, Nat.sub_zero,  List.drop_zero, List.drop_succ_cons, List.length_cons, List.length_nil,  List.set_cons_succ, and_self, decide_true, decide_false, Int.reduceLT, Int.reduceLE, Int.reduceEq, Int.reduceSub, Int.reduceAdd, Int.reduceMul, String.reduceEq, stK_eq, stV.eq_1, stR_some, stE_ag, stE_one, stE_whole, e0, e1, e4, e5, e6, h8, h9] | simp (disch := omega) only [ifp, ifn, wrap_i64, wrap_u8, wrap_i32, wrap_u64, wrap_u32, Int.tdiv_eq_ediv_of_nonneg, Int.tmod_eq_emod_of_nonneg] | ((with_reducible refine BrK_intro (fun hwb => ?_) (fun hwb => ?_)) <;> (try rw [hwb]) <;> simp only [decide_eq_true_eq, decide_eq_false_iff_not, Bool.not_eq_true', Bool.not_eq_false', Bool.not_true, Bool.not_false] at hwb) | ((with_reducible refine gbK_intro (fun hwb => ?_) (fun hwb => ?_)) <;> (try rw [hwb]) <;> simp only [decide_eq_true_eq, decide_eq_false_iff_not, Bool.not_eq_true', Bool.not_eq_false', Bool.not_true, Bool.not_false] at hwb) | ((with_reducible refine qgb_intro (fun hwb => ?_) (fun hwb => ?_)) <;> (try rw [hwb]) <;> simp only [decide_eq_true_eq, decide_eq_false_iff_not, Bool.not_eq_true', Bool.not_eq_false', Bool.not_true, Bool.not_false] at hwb) | (with_reducible intro hl) | (with_reducible refine drawK_q (by kernel_rfl) (by kernel_rfl) ?_) )
    all_goals first | (exfalso; omega) | skip
    refine RetK_pure (.refl _) ?_
    rw [← hfin]
    simp only [posF, lfs, Lib.countByte]
    congr 2
end Go.X
end

section
open Go Go.Proofs
namespace Go.X
set_option linter.unusedSimpArgs false
set_option maxRecDepth 10000

theorem resW_c1 (P : Program) (Q : Out → H → Prop) (t : Nat) (ty : TypeId) (a : Tm) (h : H) : resW P [.cell t ty] Q a h = ob (a t) fun p => ob (ptrCells h p) fun cs => ob (loadFrom (tld P ty) cs) fun v => RetK Q v h := by
  simp only [resW, resV]
  cases a t with
  | none => rfl
  | some p =>
    simp only [Option.bind_some, ob_some]
    cases ptrCells h p with
    | none => rfl
    | some cs =>
      simp only [Option.bind_some, ob_some]
      cases loadFrom (tld P ty) cs <;> rfl

theorem hasPrefix_at0 {s : List UInt8} {c : UInt8} {p : List UInt8} (h : at0 s 0 ≠ c.toNat) : Lib.hasPrefix s (c :: p) = false := by
  cases s with
  | nil => rfl
  | cons x s =>
    have : x ≠ c := by rintro rfl; exact h (by simp [at0])
    simp [Lib.hasPrefix, List.isPrefixOf, Ne.symm this]

theorem skip_nil (G : Gl) (h : H) : XCalls Tryz.prog G 39 [.s []] h (fun o h' => o = .ret (.i .i64 0) ∧ h' = h) := by
  refine enterK (rs := [.tmp 2]) Tryz.func39 (by kernel_rfl) rfl rfl (by kernel_rfl) rfl (Nat.le_of_ble_eq_true rfl) (fun hbd => ?_)
  repeat' (first | simp -implicitDefEqProofs only [XL, XM, TL, Option.isSome_some, Option.bind_some, Option.bind_none, Option.map_some, Option.map_none, Option.some.injEq, List.getElem?_cons_zero, List.getElem?_cons_succ, List.getElem?_toArray, List.toList_toArray, Nat.reduceEqDiff, if_true, if_false, ↓reduceIte, reduceCtorEq, Bool.false_eq_true, List.nil_append, List.append_nil, List.cons_append, Bool.or_self, Bool.or_true, Bool.or_false, Bool.true_or, Bool.false_or, Bool.and_true, Bool.true_and, Bool.not_true, Bool.not_false, Nat.reduceAdd, Nat.reduceMul, Nat.reduceSub, Nat.reduceLT, Nat.reduceLeDiff, Int.reduceToNat, List.all_cons, List.all_nil, List.map_cons, List.map_nil, List.set_cons_zero,  true_and, and_true, Int.natCast_nonneg, Int.le_refl, Nat.le_refl, Int.toNat_natCast, Nat.sub_zero,  List.drop_zero, List.drop_succ_cons, List.length_cons, List.length_nil,  List.set_cons_succ, and_self, decide_true, decide_false, Int.reduceLT, Int.reduceLE, Int.reduceEq, Int.reduceSub, Int.reduceAdd, Int.reduceMul, String.reduceEq, stK_eq, stV.eq_1, stR_some, stE_ag, stE_one, stE_whole] | simp (disch := omega) only [ifp, ifn, wrap_i64, wrap_u8, wrap_i32, wrap_u64, wrap_u32, Int.tdiv_eq_ediv_of_nonneg, Int.tmod_eq_emod_of_nonneg] | ((with_reducible refine BrK_intro (fun hwb => ?_) (fun hwb => ?_)) <;> (try rw [hwb]) <;> simp only [decide_eq_true_eq, decide_eq_false_iff_not, Bool.not_eq_true', Bool.not_eq_false', Bool.not_true, Bool.not_false] at hwb) | ((with_reducible refine gbK_intro (fun hwb => ?_) (fun hwb => ?_)) <;> (try rw [hwb]) <;> simp only [decide_eq_true_eq, decide_eq_false_iff_not, Bool.not_eq_true', Bool.not_eq_false', Bool.not_true, Bool.not_false] at hwb) | ((with_reducible refine qgb_intro (fun hwb => ?_) (fun hwb => ?_)) <;> (try rw [hwb]) <;> simp only [decide_eq_true_eq, decide_eq_false_iff_not, Bool.not_eq_true', Bool.not_eq_false', Bool.not_true, Bool.not_false] at hwb) | (with_reducible intro hl) | (with_reducible refine drawK_q (by kernel_rfl) (by kernel_rfl) ?_) )
  refine loopO [2, 3, 4, 5, 6, 7, 8, 9, 10, 11, 12, 13, 14, 15, 16, 17, 18, 19, 20, 21, 22, 23, 24, 25, 26, 27, 28, 29, 30, 31, 32, 33, 34, 35, 36, 37, 38, 39, 40, 41, 42, 43, 44, 45, 46, 47] (fun (st : Unit) a g => g = h ∧ a 3 = some (.i .i64 0)) (fun st => 0) () (by exact ⟨rfl, rfl⟩) ?_
  rintro ⟨⟩ a g hoff ⟨rfl, h3⟩
  (have e0' := hoff 0 rfl; simp only [XL, XM, Option.isSome_some, Option.bind_some, Option.bind_none, Option.map_some, Option.map_none, Option.some.injEq, List.getElem?_cons_zero, List.getElem?_cons_succ, List.getElem?_toArray, List.toList_toArray, Nat.reduceEqDiff, if_true, if_false, ↓reduceIte, reduceCtorEq, Bool.false_eq_true, List.nil_append, List.append_nil, List.cons_append, Bool.or_self, Bool.or_true, Bool.or_false, Bool.true_or, Bool.false_or, Bool.and_true, Bool.true_and, Bool.not_true, Bool.not_false, Nat.reduceAdd, Nat.reduceMul, Nat.reduceSub, Nat.reduceLT, Nat.reduceLeDiff, Int.reduceToNat, List.all_cons, List.all_nil, List.map_cons, List.map_nil, List.set_cons_zero,  true_and, and_true, Int.natCast_nonneg, Int.le_refl, Nat.le_refl, Int.toNat_natCast, Nat.sub_zero,  List.drop_zero, List.drop_succ_cons, List.length_cons, List.length_nil,  List.set_cons_succ, and_self, decide_true, decide_false, Int.reduceLT, Int.reduceLE, Int.reduceEq, Int.reduceSub, Int.reduceAdd, Int.reduceMul, String.reduceEq, stK_eq, stV.eq_1, stR_some, stE_ag, stE_one, stE_whole] at e0'; have e0 := e0'; clear e0')
  skip
  have chk_ : True ∧ True := by simp only [and_self, e0, h3]
  clear chk_
  repeat' (first | simp -implicitDefEqProofs only [XL, XM, TL, Option.isSome_some, Option.bind_some, Option.bind_none, Option.map_some, Option.map_none, Option.some.injEq, List.getElem?_cons_zero, List.getElem?_cons_succ, List.getElem?_toArray, List.toList_toArray, Nat.reduceEqDiff, if_true, if_false, ↓reduceIte, reduceCtorEq, Bool.false_eq_true, List.nil_append, List.append_nil, List.cons_append, Bool.or_self, Bool.or_true, Bool.or_false, Bool.true_or, Bool.false_or, Bool.and_true, Bool.true_and, Bool.not_true, Bool.not_false, Nat.reduceAdd, Nat.reduceMul, Nat.reduceSub, Nat.reduceLT, Nat.reduceLeDiff, Int.reduceToNat, List.all_cons, List.all_nil, List.map_cons, List.map_nil, List.set_cons_zero,  true_and, and_true, Int.natCast_nonneg, Int.le_refl, Nat.le_refl, Int.toNat_natCast, Nat.sub_zero,  List.drop_zero, List.drop_succ_cons, List.length_cons, List.length_nil,  List.set_cons_succ, and_self, decide_true, decide_false, Int.reduceLT, Int.reduceLE, Int.reduceEq, Int.reduceSub, Int.reduceAdd, Int.reduceMul, String.reduceEq, stK_eq, stV.eq_1, stR_some, stE_ag, stE_one, stE_whole, e0, h3] | simp (disch := omega) only [ifp, ifn, wrap_i64, wrap_u8, wrap_i32, wrap_u64, wrap_u32, Int.tdiv_eq_ediv_of_nonneg, Int.tmod_eq_emod_of_nonneg] | ((with_reducible refine BrK_intro (fun hwb => ?_) (fun hwb => ?_)) <;> (try rw [hwb]) <;> simp only [decide_eq_true_eq, decide_eq_false_iff_not, Bool.not_eq_true', Bool.not_eq_false', Bool.not_true, Bool.not_false] at hwb) | ((with_reducible refine gbK_intro (fun hwb => ?_) (fun hwb => ?_)) <;> (try rw [hwb]) <;> simp only [decide_eq_true_eq, decide_eq_false_iff_not, Bool.not_eq_true', Bool.not_eq_false', Bool.not_true, Bool.not_false] at hwb) | ((with_reducible refine qgb_intro (fun hwb => ?_) (fun hwb => ?_)) <;> (try rw [hwb]) <;> simp only [decide_eq_true_eq, decide_eq_false_iff_not, Bool.not_eq_true', Bool.not_eq_false', Bool.not_true, Bool.not_false] at hwb) | (with_reducible intro hl) | (with_reducible refine drawK_q (by kernel_rfl) (by kernel_rfl) ?_) )
  all_goals first | (exfalso; omega) | (refine RetK_pure (.refl _) rfl)

theorem skip_quote (G : Gl) (h : H) (s : List UInt8) (hs : 0 < s.length) (hq : at0 s 0 = 34) (hlen : s.length ≤ 1000000000) : XCalls Tryz.prog G 39 [.s s] h (fun o h' => o = .ret (.i .i64 0) ∧ h' = h) := by
  have hc := classOf_spec G h 34
  rw [show clsF 34 = 3 from rfl] at hc
  have hp1 := hasPrefix_spec G h s [47, 47]
  have hp2 := hasPrefix_spec G h s [47, 42]
  rw [hasPrefix_at0 (by rw [hq]; decide)] at hp1 hp2
  have h34 : UInt8.toNat 34 = 34 := rfl
  have hi : s[0]? = some 34 := by
    cases s with
    | nil => simp at hs
    | cons x s =>
      simp only [at0, List.getD_cons_zero] at hq
      simp only [List.getElem?_cons_zero, Option.some.injEq]
      exact UInt8.toNat_inj.1 hq
  refine enterK (rs := [.tmp 2]) Tryz.func39 (by kernel_rfl) rfl rfl (by kernel_rfl) rfl (Nat.le_of_ble_eq_true rfl) (fun hbd => ?_)
  repeat' (first | simp -implicitDefEqProofs only [XL, XM, TL, Option.isSome_some, Option.bind_some, Option.bind_none, Option.map_some, Option.map_none, Option.some.injEq, List.getElem?_cons_zero, List.getElem?_cons_succ, List.getElem?_toArray, List.toList_toArray, Nat.reduceEqDiff, if_true, if_false, ↓reduceIte, reduceCtorEq, Bool.false_eq_true, List.nil_append, List.append_nil, List.cons_append, Bool.or_self, Bool.or_true, Bool.or_false, Bool.true_or, Bool.false_or, Bool.and_true, Bool.true_and, Bool.not_true, Bool.not_false, Nat.reduceAdd, Nat.reduceMul, Nat.reduceSub, Nat.reduceLT, Nat.reduceLeDiff, Int.reduceToNat, List.all_cons, List.all_nil, List.map_cons, List.map_nil, List.set_cons_zero,  true_and, and_true, Int.natCast_nonneg, Int.le_refl, Nat.le_refl, Int.toNat_natCast, Nat.sub_zero,  List.drop_zero, List.drop_succ_cons, List.length_cons, List.length_nil,  List.set_cons_succ, and_self, decide_true, decide_false, Int.reduceLT, Int.reduceLE, Int.reduceEq, Int.reduceSub, Int.reduceAdd, Int.reduceMul, String.reduceEq, stK_eq, stV.eq_1, stR_some, stE_ag, stE_one, stE_whole] | simp (disch := omega) only [ifp, ifn, wrap_i64, wrap_u8, wrap_i32, wrap_u64, wrap_u32, Int.tdiv_eq_ediv_of_nonneg, Int.tmod_eq_emod_of_nonneg] | ((with_reducible refine BrK_intro (fun hwb => ?_) (fun hwb => ?_)) <;> (try rw [hwb]) <;> simp only [decide_eq_true_eq, decide_eq_false_iff_not, Bool.not_eq_true', Bool.not_eq_false', Bool.not_true, Bool.not_false] at hwb) | ((with_reducible refine gbK_intro (fun hwb => ?_) (fun hwb => ?_)) <;> (try rw [hwb]) <;> simp only [decide_eq_true_eq, decide_eq_false_iff_not, Bool.not_eq_true', Bool.not_eq_false', Bool.not_true, Bool.not_false] at hwb) | ((with_reducible refine qgb_intro (fun hwb => ?_) (fun hwb => ?_)) <;> (try rw [hwb]) <;> simp only [decide_eq_true_eq, decide_eq_false_iff_not, Bool.not_eq_true', Bool.not_eq_false', Bool.not_true, Bool.not_false] at hwb) | (with_reducible intro hl) | (with_reducible refine drawK_q (by kernel_rfl) (by kernel_rfl) ?_) )
  refine loopO [2, 3, 4, 5, 6, 7, 8, 9, 10, 11, 12, 13, 14, 15, 16, 17, 18, 19, 20, 21, 22, 23, 24, 25, 26, 27, 28, 29, 30, 31, 32, 33, 34, 35, 36, 37, 38, 39, 40, 41, 42, 43, 44, 45, 46, 47] (fun (st : Unit) a g => g = h ∧ a 3 = some (.i .i64 0)) (fun st => 0) () (by exact ⟨rfl, rfl⟩) ?_
  rintro ⟨⟩ a g hoff ⟨rfl, h3⟩
  (have e0' := hoff 0 rfl; simp only [XL, XM, Option.isSome_some, Option.bind_some, Option.bind_none, Option.map_some, Option.map_none, Option.some.injEq, List.getElem?_cons_zero, List.getElem?_cons_succ, List.getElem?_toArray, List.toList_toArray, Nat.reduceEqDiff, if_true, if_false, ↓reduceIte, reduceCtorEq, Bool.false_eq_true, List.nil_append, List.append_nil, List.cons_append, Bool.or_self, Bool.or_true, Bool.or_false, Bool.true_or, Bool.false_or, Bool.and_true, Bool.true_and, Bool.not_true, Bool.not_false, Nat.reduceAdd, Nat.reduceMul, Nat.reduceSub, Nat.reduceLT, Nat.reduceLeDiff, Int.reduceToNat, List.all_cons, List.all_nil, List.map_cons, List.map_nil, List.set_cons_zero,  true_and, and_true, Int.natCast_nonneg, Int.le_refl, Nat.le_refl, Int.toNat_natCast, Nat.sub_zero,  List.drop_zero, List.drop_succ_cons, List.length_cons, List.length_nil,  List.set_cons_succ, and_self, decide_true, decide_false, Int.reduceLT, Int.reduceLE, Int.reduceEq, Int.reduceSub, Int.reduceAdd, Int.reduceMul, String.reduceEq, stK_eq, stV.eq_1, stR_some, stE_ag, stE_one, stE_whole] at e0'; have e0 := e0'; clear e0')
  skip
  have chk_ : True ∧ True := by simp only [and_self, e0, h3, hi, h34, List.take_length]
  clear chk_
  repeat' (first | simp -implicitDefEqProofs only [XL, XM, TL, Option.isSome_some, Option.bind_some, Option.bind_none, Option.map_some, Option.map_none, Option.some.injEq, List.getElem?_cons_zero, List.getElem?_cons_succ, List.getElem?_toArray, List.toList_toArray, Nat.reduceEqDiff, if_true, if_false, ↓reduceIte, reduceCtorEq, Bool.false_eq_true, List.nil_append, List.append_nil, List.cons_append, Bool.or_self, Bool.or_true, Bool.or_false, Bool.true_or, Bool.false_or, Bool.and_true, Bool.true_and, Bool.not_true, Bool.not_false, Nat.reduceAdd, Nat.reduceMul, Nat.reduceSub, Nat.reduceLT, Nat.reduceLeDiff, Int.reduceToNat, List.all_cons, List.all_nil, List.map_cons, List.map_nil, List.set_cons_zero,  true_and, and_true, Int.natCast_nonneg, Int.le_refl, Nat.le_refl, Int.toNat_natCast, Nat.sub_zero,  List.drop_zero, List.drop_succ_cons, List.length_cons, List.length_nil,  List.set_cons_succ, and_self, decide_true, decide_false, Int.reduceLT, Int.reduceLE, Int.reduceEq, Int.reduceSub, Int.reduceAdd, Int.reduceMul, String.reduceEq, stK_eq, stV.eq_1, stR_some, stE_ag, stE_one, stE_whole, e0, h3, hi, h34, List.take_length] | simp (disch := omega) only [ifp, ifn, wrap_i64, wrap_u8, wrap_i32, wrap_u64, wrap_u32, Int.tdiv_eq_ediv_of_nonneg, Int.tmod_eq_emod_of_nonneg] | ((with_reducible refine BrK_intro (fun hwb => ?_) (fun hwb => ?_)) <;> (try rw [hwb]) <;> simp only [decide_eq_true_eq, decide_eq_false_iff_not, Bool.not_eq_true', Bool.not_eq_false', Bool.not_true, Bool.not_false] at hwb) | ((with_reducible refine gbK_intro (fun hwb => ?_) (fun hwb => ?_)) <;> (try rw [hwb]) <;> simp only [decide_eq_true_eq, decide_eq_false_iff_not, Bool.not_eq_true', Bool.not_eq_false', Bool.not_true, Bool.not_false] at hwb) | ((with_reducible refine qgb_intro (fun hwb => ?_) (fun hwb => ?_)) <;> (try rw [hwb]) <;> simp only [decide_eq_true_eq, decide_eq_false_iff_not, Bool.not_eq_true', Bool.not_eq_false', Bool.not_true, Bool.not_false] at hwb) | (with_reducible intro hl) | (with_reducible refine drawK_q (by kernel_rfl) (by kernel_rfl) ?_) | (with_reducible refine call_eq (hc) ?_) | (with_reducible refine call_eq (hp1) ?_) | (with_reducible refine call_eq (hp2) ?_))
  all_goals first | (exfalso; omega) | (refine RetK_pure (.refl _) rfl)

/-- A token: its kind, where it begins, its length. -/
def tokV (k at_ n : Nat) : V := .ag [.i .i64 k, .i .i64 at_, .i .i64 n]

theorem tokenAt_quote (G : Gl) (hT : Tabs G) (h : H) (s l : List UInt8) (n : Nat) (hs : 0 < s.length) (hq : at0 s 0 = 34) (hlen : s.length ≤ 1000000000) (hlit : litF s = some (l, n)) (hn : n ≤ 1000000000) :
    XCalls Tryz.prog G 40 [.s s] h (fun o h' => o = .ret (tokV 4 0 n) ∧ h' = h) := by
  have h34 : UInt8.toNat 34 = 34 := rfl
  have hi : s[0]? = some 34 := by
    cases s with
    | nil => simp at hs
    | cons x s =>
      simp only [at0, List.getD_cons_zero] at hq
      simp only [List.getElem?_cons_zero, Option.some.injEq]
      exact UInt8.toNat_inj.1 hq
  refine enterK (rs := [.cell 2 33]) Tryz.func40 (by kernel_rfl) rfl rfl (by kernel_rfl) rfl (Nat.le_of_ble_eq_true rfl) (fun hbd => ?_)
  simp -implicitDefEqProofs only [XL, XM, TL, Option.isSome_some, Option.bind_some, Option.bind_none, Option.map_some, Option.map_none, Option.some.injEq, List.getElem?_cons_zero, List.getElem?_cons_succ, List.getElem?_toArray, List.toList_toArray, Nat.reduceEqDiff, if_true, if_false, ↓reduceIte, reduceCtorEq, Bool.false_eq_true, List.nil_append, List.append_nil, List.cons_append, Bool.or_self, Bool.or_true, Bool.or_false, Bool.true_or, Bool.false_or, Bool.and_true, Bool.true_and, Bool.not_true, Bool.not_false, Nat.reduceAdd, Nat.reduceMul, Nat.reduceSub, Nat.reduceLT, Nat.reduceLeDiff, Int.reduceToNat, List.all_cons, List.all_nil, List.map_cons, List.map_nil, List.set_cons_zero,  true_and, and_true, Int.natCast_nonneg, Int.le_refl, Nat.le_refl, Int.toNat_natCast, Nat.sub_zero,  List.drop_zero, List.drop_succ_cons, List.length_cons, List.length_nil,  List.set_cons_succ, and_self, decide_true, decide_false, Int.reduceLT, Int.reduceLE, Int.reduceEq, Int.reduceSub, Int.reduceAdd, Int.reduceMul, String.reduceEq, stK_eq, stV.eq_1, stR_some, stE_ag, stE_one, stE_whole]
  refine boxK_intro rfl (fun id hid => ?_)
  have hc := classOf_spec G (h.set id (.row 3 [tokV 0 0 0])) 34
  rw [show clsF 34 = 3 from rfl] at hc
  have hl := literal_spec G hT (h.set id (.row 3 [tokV 0 0 0])) s hlen
  rw [hlit] at hl
  unfold litV tokV at *
  have chk_ : True ∧ True := by simp only [and_self, hi, h34]
  clear chk_
  repeat' (first | simp -implicitDefEqProofs only [XL, XM, TL, Option.isSome_some, Option.bind_some, Option.bind_none, Option.map_some, Option.map_none, Option.some.injEq, List.getElem?_cons_zero, List.getElem?_cons_succ, List.getElem?_toArray, List.toList_toArray, Nat.reduceEqDiff, if_true, if_false, ↓reduceIte, reduceCtorEq, Bool.false_eq_true, List.nil_append, List.append_nil, List.cons_append, Bool.or_self, Bool.or_true, Bool.or_false, Bool.true_or, Bool.false_or, Bool.and_true, Bool.true_and, Bool.not_true, Bool.not_false, Nat.reduceAdd, Nat.reduceMul, Nat.reduceSub, Nat.reduceLT, Nat.reduceLeDiff, Int.reduceToNat, List.all_cons, List.all_nil, List.map_cons, List.map_nil, List.set_cons_zero,  true_and, and_true, Int.natCast_nonneg, Int.le_refl, Nat.le_refl, Int.toNat_natCast, Nat.sub_zero,  List.drop_zero, List.drop_succ_cons, List.length_cons, List.length_nil,  List.set_cons_succ, and_self, decide_true, decide_false, Int.reduceLT, Int.reduceLE, Int.reduceEq, Int.reduceSub, Int.reduceAdd, Int.reduceMul, String.reduceEq, stK_eq, stV.eq_1, stR_some, stE_ag, stE_one, stE_whole, hi, h34] | simp (disch := omega) only [ifp, ifn, wrap_i64, wrap_u8, wrap_i32, wrap_u64, wrap_u32, Int.tdiv_eq_ediv_of_nonneg, Int.tmod_eq_emod_of_nonneg] | ((with_reducible refine BrK_intro (fun hwb => ?_) (fun hwb => ?_)) <;> (try rw [hwb]) <;> simp only [decide_eq_true_eq, decide_eq_false_iff_not, Bool.not_eq_true', Bool.not_eq_false', Bool.not_true, Bool.not_false] at hwb) | ((with_reducible refine gbK_intro (fun hwb => ?_) (fun hwb => ?_)) <;> (try rw [hwb]) <;> simp only [decide_eq_true_eq, decide_eq_false_iff_not, Bool.not_eq_true', Bool.not_eq_false', Bool.not_true, Bool.not_false] at hwb) | ((with_reducible refine qgb_intro (fun hwb => ?_) (fun hwb => ?_)) <;> (try rw [hwb]) <;> simp only [decide_eq_true_eq, decide_eq_false_iff_not, Bool.not_eq_true', Bool.not_eq_false', Bool.not_true, Bool.not_false] at hwb) | (with_reducible intro hl) | (with_reducible refine drawK_q (by kernel_rfl) (by kernel_rfl) ?_) | (with_reducible refine call_eq (hc) ?_) | (with_reducible refine call_eq (hl) ?_))
  all_goals first | (exfalso; omega) | skip
  simp -implicitDefEqProofs only [XL, XM, TL, Option.isSome_some, Option.bind_some, Option.bind_none, Option.map_some, Option.map_none, Option.some.injEq, List.getElem?_cons_zero, List.getElem?_cons_succ, List.getElem?_toArray, List.toList_toArray, Nat.reduceEqDiff, if_true, if_false, ↓reduceIte, reduceCtorEq, Bool.false_eq_true, List.nil_append, List.append_nil, List.cons_append, Bool.or_self, Bool.or_true, Bool.or_false, Bool.true_or, Bool.false_or, Bool.and_true, Bool.true_and, Bool.not_true, Bool.not_false, Nat.reduceAdd, Nat.reduceMul, Nat.reduceSub, Nat.reduceLT, Nat.reduceLeDiff, Int.reduceToNat, List.all_cons, List.all_nil, List.map_cons, List.map_nil, List.set_cons_zero,  true_and, and_true, Int.natCast_nonneg, Int.le_refl, Nat.le_refl, Int.toNat_natCast, Nat.sub_zero,  List.drop_zero, List.drop_succ_cons, List.length_cons, List.length_nil,  List.set_cons_succ, and_self, decide_true, decide_false, Int.reduceLT, Int.reduceLE, Int.reduceEq, Int.reduceSub, Int.reduceAdd, Int.reduceMul, String.reduceEq, stK_eq, stV.eq_1, stR_some, stE_ag, stE_one, stE_whole, resW_c1]
  refine RetK_pure (Sub.set_fresh (Sub.set_fresh (.refl _) hid _) hid _) rfl

end Go.X
end

section
open Go
namespace Go.X
set_option linter.unusedSimpArgs false
set_option linter.unusedVariables false
set_option maxRecDepth 10000

theorem utf8V_ascii {v : Nat} (h : v < 128) : utf8V v = [UInt8.ofNat v] := by simp only [utf8V, if_pos h]
theorem indexByte_at (c : UInt8) : ∀ (p rest : List UInt8), (∀ x ∈ p, x ≠ c) → Lib.indexByte (p ++ c :: rest) c = p.length
  | [], rest, _ => by simp [Lib.indexByte]
  | x :: p, rest, h => by
    have ih := indexByte_at c p rest fun y hy => h y (by simp [hy])
    have hx : (x == c) = false := by simpa using h x (by simp)
    simp only [List.cons_append, Lib.indexByte, hx, ih, Bool.false_eq_true, if_false, List.length_cons]
    rw [if_neg (by simp only [beq_iff_eq]; omega)]
    simp
theorem hexD_facts : ∀ v < 128, hexL (hexD v) 0 = some v ∧ (∀ c ∈ hexD v, c ≠ 125 ∧ c.toNat < 128) ∧ 1 ≤ (hexD v).length ∧ (hexD v).length ≤ 2 := by decide

theorem escF_quote {v : Nat} (hv : v = 34 ∨ v = 92) (rest : List UInt8) : escF ([92, UInt8.ofNat v] ++ rest) = some (v, 2) := by
  have h1 : at0 ([92, UInt8.ofNat v] ++ rest) 1 = v := by
    rcases hv with rfl | rfl <;> rfl
  unfold escF
  rw [h1, if_pos ⟨by simp, hv⟩]
theorem escF_hex {v : Nat} (hv : v < 128) (rest : List UInt8) : escF ([92, 117, 123] ++ hexD v ++ [125] ++ rest) = some (v, 4 + (hexD v).length) := by
  obtain ⟨h1, h2, h3, h4⟩ := hexD_facts v hv
  have hs : [92, 117, 123] ++ hexD v ++ [125] ++ rest = ([92, 117, 123] ++ hexD v) ++ 125 :: rest := by simp
  rw [hs]
  have hi := indexByte_at 125 ([92, 117, 123] ++ hexD v) rest (by
    intro x hx
    rcases List.mem_append.1 hx with h | h
    · simp only [List.mem_cons, List.not_mem_nil, or_false] at h
      rcases h with rfl | rfl | rfl <;> decide
    · exact (h2 x h).1)
  unfold escF
  have ha : at0 (([92, 117, 123] ++ hexD v) ++ 125 :: rest) 1 = 117 := rfl
  rw [ha, if_neg (by omega), hi]
  have hp : Lib.hasPrefix (([92, 117, 123] ++ hexD v) ++ 125 :: rest) [92, 117, 123] = true := by simp [Lib.hasPrefix, List.isPrefixOf]
  rw [hp, if_neg (by simp), if_neg (by simp; omega)]
  have hd : (((([92, 117, 123] ++ hexD v) ++ 125 :: rest).drop 3).take ((([92, 117, 123] ++ hexD v).length : Int).toNat - 3)) = hexD v := by
    have e1 : ((([92, 117, 123] ++ hexD v).length : Int).toNat - 3) = (hexD v).length := by
      rw [Int.toNat_natCast]; simp
    rw [e1]
    show ((hexD v) ++ 125 :: rest).take (hexD v).length = _
    rw [List.take_left]
  rw [hd, h1]
  simp only []
  rw [if_pos (by simp only [isPoint, decide_eq_true_eq]; omega)]
  simp; omega

theorem at0_mid (p q : List UInt8) : at0 (p ++ q) p.length = at0 q 0 := at0_app p q 0
theorem utf8V_first {v : Nat} (hv : isPoint v = true) (q : List UInt8) : (v < 128 → at0 (utf8V v ++ q) 0 = v) ∧ (128 ≤ v → 128 ≤ at0 (utf8V v ++ q) 0) := by
  simp only [isPoint, decide_eq_true_eq] at hv
  refine ⟨fun h => ?_, fun h => ?_⟩
  · rw [utf8V_ascii h]; show (UInt8.ofNat v).toNat = v; simp; omega
  · unfold utf8V
    rw [if_neg (by omega)]
    split
    · show 128 ≤ (UInt8.ofNat _).toNat; simp only [UInt8.toNat_ofNat']; omega
    · split
      · show 128 ≤ (UInt8.ofNat _).toNat; simp only [UInt8.toNat_ofNat']; omega
      · show 128 ≤ (UInt8.ofNat _).toNat; simp only [UInt8.toNat_ofNat']; omega

theorem litGo_quote : ∀ (vs : List Nat) (p out : List UInt8) (f : Nat), Pts vs → vs.length < f → litGo (p ++ (qL vs ++ [34])) f p.length out = some (out ++ encL vs, p.length + (qL vs).length + 1)
  | [], p, out, f, _, hf => by
    cases f with
    | zero => omega
    | succ f =>
      rw [litGo, if_pos (by simp [qL]), if_pos (by rw [at0_mid]; rfl)]
      simp [qL, encL]
  | v :: vs, p, out, f, hv, hf => by
    cases f with
    | zero => omega
    | succ f =>
      have ih := litGo_quote vs (p ++ qV v) (out ++ utf8V v) f hv.tail (by simp at hf; omega)
      have hq : qL (v :: vs) = qV v ++ qL vs := rfl
      have hs : p ++ (qL (v :: vs) ++ [34]) = p ++ qV v ++ (qL vs ++ [34]) := by rw [hq]; simp
      have hsd : (p ++ (qL (v :: vs) ++ [34])).drop p.length = qV v ++ (qL vs ++ [34]) := by rw [hs, List.append_assoc, List.drop_left]
      have hat : at0 (p ++ (qL (v :: vs) ++ [34])) p.length = at0 (qV v ++ (qL vs ++ [34])) 0 := by rw [hs, List.append_assoc, at0_mid]
      have hlen : p.length < (p ++ (qL (v :: vs) ++ [34])).length := by simp
      have hfin : some ((out ++ utf8V v) ++ encL vs, (p ++ qV v).length + (qL vs).length + 1) = some (out ++ encL (v :: vs), p.length + (qL (v :: vs)).length + 1) := by
        rw [encL_cons, hq]; simp; omega
      rw [← hs] at ih
      have hpt := hv.head
      have esc : ∀ n, (qV v).length = n → at0 (qV v ++ (qL vs ++ [34])) 0 = 92 → escF (qV v ++ (qL vs ++ [34])) = some (v, n) →
          litGo (p ++ (qL (v :: vs) ++ [34])) (f + 1) p.length out = some (out ++ encL (v :: vs), p.length + (qL (v :: vs)).length + 1) := by
        intro n hn h92 he
        have h92' := hat.trans h92
        have hch := charF_one (l := p ++ (qL (v :: vs) ++ [34])) (i := p.length) (by rw [h92']; omega)
        rw [litGo, if_pos hlen, h92', hch, if_neg (by omega), if_neg (by simp), if_neg (by simp), hsd, he]
        simp only []
        rw [← hfin, ← ih, ← hn]
        simp
      by_cases c1 : v = 34 ∨ v = 92
      · have hqv : qV v = [92, UInt8.ofNat v] := by unfold qV; rw [if_pos c1]
        refine esc 2 (by rw [hqv]; rfl) (by rw [hqv]; rfl) ?_
        rw [hqv]; exact escF_quote c1 _
      · by_cases c2 : v < 32 ∨ v = 127
        · have hqv : qV v = [92, 117, 123] ++ hexD v ++ [125] := by unfold qV; rw [if_neg c1, if_pos c2]
          refine esc (4 + (hexD v).length) (by rw [hqv]; simp; omega) (by rw [hqv]; rfl) ?_
          rw [hqv]; exact escF_hex (by omega) _
        · have hqv : qV v = utf8V v := by unfold qV; rw [if_neg c1, if_neg c2]
          have hch := charF_dec p (qL vs ++ [34]) v hpt
          have hs' : p ++ (qL (v :: vs) ++ [34]) = p ++ (utf8V v ++ (qL vs ++ [34])) := by rw [hq, hqv]; simp
          have hf := utf8V_first hpt (qL vs ++ [34])
          have hp := utf8V_pos v
          rw [hqv] at hat hsd hfin ih
          rw [hs'] at hat hsd ih hlen ⊢
          have hne : at0 (p ++ (utf8V v ++ (qL vs ++ [34]))) p.length ≠ 34 ∧ at0 (p ++ (utf8V v ++ (qL vs ++ [34]))) p.length ≠ 10 ∧ at0 (p ++ (utf8V v ++ (qL vs ++ [34]))) p.length ≠ 92 := by
            rw [hat]
            by_cases hlt : v < 128
            · have := hf.1 hlt; omega
            · have := hf.2 (by omega); omega
          rw [litGo, if_pos hlen, if_neg hne.1, hch, if_neg (by simp only; omega), if_pos hne.2.2, hsd, List.take_left, ← hfin, ← ih]
          simp

theorem qL_len2 (vs : List Nat) : vs.length ≤ (qL vs).length := by
  induction vs with
  | nil => simp
  | cons v vs ih =>
    have : 1 ≤ (qV v).length := by
      unfold qV
      have := utf8V_pos v
      repeat' split
      all_goals simp <;> omega
    simp only [qL, List.flatMap_cons, List.length_append, List.length_cons] at *
    omega
theorem quoteV_len (vs : List Nat) : (quoteV vs).length = (qL vs).length + 2 := by simp [quoteV]
theorem litF_quote (vs : List Nat) (hv : Pts vs) : litF (quoteV vs) = some (encL vs, (quoteV vs).length) := by
  have hl := quoteV_len vs
  have h2 := qL_len2 vs
  unfold litF
  rw [if_pos ⟨by omega, rfl⟩]
  have := litGo_quote vs [34] [] ((quoteV vs).length + 1) hv (by omega)
  have e : quoteV vs = [34] ++ (qL vs ++ [34]) := by simp [quoteV]
  rw [← e] at this
  rw [show ([34] : List UInt8).length = 1 from rfl] at this
  rw [this, hl]
  simp; omega

theorem enc_ascii : ∀ (l : List UInt8), (∀ c ∈ l, c.toNat < 128) → encL (l.map (·.toNat)) = l ∧ Pts (l.map (·.toNat))
  | [], _ => ⟨rfl, fun v hv => by simp at hv⟩
  | c :: l, h => by
    obtain ⟨h1, h2⟩ := enc_ascii l fun x hx => h x (by simp [hx])
    have hc := h c (by simp)
    refine ⟨?_, ?_⟩
    · rw [List.map_cons, encL_cons, h1, utf8V_ascii hc]; simp
    · intro v hv
      rcases List.mem_cons.1 hv with rfl | hv
      · simp only [isPoint, decide_eq_true_eq]; omega
      · exact h2 v hv
theorem Pts.append {a b : List Nat} (ha : Pts a) (hb : Pts b) : Pts (a ++ b) := fun v hv => by
  rcases List.mem_append.1 hv with h | h
  · exact ha v h
  · exact hb v h
theorem qL_enc : ∀ (vs : List Nat), Pts vs → ∃ ws, Pts ws ∧ qL vs = encL ws
  | [], _ => ⟨[], fun v hv => by simp at hv, rfl⟩
  | v :: vs, h => by
    obtain ⟨ws, h1, h2⟩ := qL_enc vs h.tail
    have hq : qL (v :: vs) = qV v ++ qL vs := rfl
    by_cases hc : v = 34 ∨ v = 92 ∨ v < 32 ∨ v = 127
    · obtain ⟨-, h3, -, -⟩ := hexD_facts v (by omega)
      obtain ⟨h4, h5⟩ := enc_ascii (qV v) (by
        unfold qV
        split
        · intro c hcm
          simp only [List.mem_cons, List.not_mem_nil, or_false] at hcm
          rcases hcm with rfl | rfl
          · decide
          · simp; omega
        · rw [if_pos (by omega)]
          intro c hcm
          simp only [List.mem_append, List.mem_cons, List.not_mem_nil, or_false] at hcm
          rcases hcm with (hcm | hcm) | hcm
          · rcases hcm with rfl | rfl | rfl <;> decide
          · exact (h3 c hcm).2
          · rw [hcm]; decide)
      exact ⟨(qV v).map (·.toNat) ++ ws, h5.append h1, by rw [encL_append, h4, hq, h2]⟩
    · refine ⟨v :: ws, ?_, ?_⟩
      · intro x hx
        rcases List.mem_cons.1 hx with rfl | hx
        · exact h.head
        · exact h1 x hx
      · rw [encL_cons, hq, h2]; unfold qV; rw [if_neg (by omega), if_neg (by omega)]
theorem checkF_quote (vs : List Nat) (hv : Pts vs) : checkF (quoteV vs) 0 = (0, 0) := by
  obtain ⟨ws, h1, h2⟩ := qL_enc vs hv
  obtain ⟨h3, h4⟩ := enc_ascii [34] (by simp)
  have e : quoteV vs = encL ([34] ++ ws ++ [34]) := by
    rw [encL_append, encL_append, ← h2]
    show (34 :: qL vs) ++ [34] = _
    rfl
  rw [e]
  exact checkF_enc [] _ ((h4.append h1).append h4)
theorem unqF_quote (vs : List Nat) (hv : Pts vs) : unqF (quoteV vs) = (encL vs, 0) := by
  unfold unqF
  rw [litF_quote vs hv]
  simp only []
  rw [checkF_quote vs hv, if_pos (by simp)]

/-! positions -/
theorem lfs_succ (b : List UInt8) (n : Nat) (h : n < b.length) : lfs b (n + 1) = lfs b n + if at0 b n = 10 then 1 else 0 := by
  unfold lfs at0
  rw [List.take_add_one, List.count_append, List.getElem?_eq_getElem h]
  simp only [Option.toList_some, List.count_singleton, List.getD_eq_getElem?_getD, List.getElem?_eq_getElem h, Option.getD_some]
  congr 1
  by_cases hc : b[n] = 10
  · rw [hc]; rfl
  · have : b[n].toNat ≠ 10 := fun e => hc (UInt8.toNat_inj.1 e)
    rw [if_neg this]; simp [hc]
theorem lfs_mono (b : List UInt8) (i : Nat) : ∀ j, i ≤ j → j ≤ b.length → lfs b i ≤ lfs b j ∧ (lfs b i = lfs b j → fromF b i = fromF b j)
  | 0, hij, _ => by
    have : i = 0 := by omega
    subst this; exact ⟨Nat.le_refl _, fun _ => rfl⟩
  | j + 1, hij, hj => by
    by_cases he : i = j + 1
    · subst he; exact ⟨Nat.le_refl _, fun _ => rfl⟩
    · obtain ⟨h1, h2⟩ := lfs_mono b i j (by omega) (by omega)
      have hs := lfs_succ b j (by omega)
      by_cases hc : at0 b j = 10
      · rw [if_pos hc] at hs; exact ⟨by omega, fun e => by omega⟩
      · rw [if_neg hc] at hs
        refine ⟨by omega, fun e => ?_⟩
        rw [h2 (by omega)]
        conv => rhs; rw [fromF]
        rw [if_neg hc]
theorem colGo_ge (b : List UInt8) (n : Nat) : ∀ (f k c : Nat), c ≤ colGo b n f k c
  | 0, _, _ => Nat.le_refl _
  | f + 1, k, c => by
    unfold colGo
    split
    · split
      · have := colGo_ge b n f (k + wd b k) (c + 1); omega
      · exact Nat.le_refl _
    · exact Nat.le_refl _
theorem colGo_mono (b : List UInt8) {n m : Nat} (h : n ≤ m) : ∀ (f f' k c : Nat), f ≤ f' → colGo b n f k c ≤ colGo b m f' k c
  | 0, f', k, c, _ => colGo_ge b m f' k c
  | f + 1, 0, k, c, hf => by omega
  | f + 1, f' + 1, k, c, hf => by
    by_cases h1 : k < n
    · by_cases h2 : k + wd b k ≤ n
      · rw [colGo, if_pos h1, if_pos h2, colGo, if_pos (by omega), if_pos (by omega)]
        exact colGo_mono b h f f' _ _ (by omega)
      · rw [colGo, if_pos h1, if_neg h2]; exact colGo_ge b m _ _ _
    · rw [colGo, if_neg h1]; exact colGo_ge b m _ _ _
theorem colGo_le (b : List UInt8) (n : Nat) : ∀ (f k c : Nat), colGo b n f k c ≤ c + (n - k)
  | 0, _, _ => by simp [colGo]
  | f + 1, k, c => by
    have := wd_pos b k
    unfold colGo
    split
    · split
      · have := colGo_le b n f (k + wd b k) (c + 1); omega
      · omega
    · omega
theorem pos_facts (b : List UInt8) (i j : Nat) (hij : i ≤ j) (hj : j ≤ b.length) :
    (posF b i).1 = 1 + lfs b i ∧ 1 ≤ (posF b i).2 ∧ ((posF b i).1 < (posF b j).1 ∨ ((posF b j).1 = (posF b i).1 ∧ (posF b i).2 ≤ (posF b j).2)) ∧ (posF b j).2 ≤ b.length + 1 ∧ lfs b i ≤ i := by
  obtain ⟨h1, h2⟩ := lfs_mono b i j hij hj
  refine ⟨rfl, colGo_ge _ _ _ _ _, ?_, ?_, ?_⟩
  · simp only [posF]
    by_cases he : lfs b i = lfs b j
    · refine .inr ⟨by omega, ?_⟩
      rw [h2 he]
      exact colGo_mono b hij _ _ _ _ (by omega)
    · exact .inl (by omega)
  · have := colGo_le b j (j + 1) (fromF b j) 1
    simp only [posF]; omega
  · unfold lfs; have := List.count_le_length (l := b.take i) (a := 10); simp at this; omega

theorem spoilF_len (s b : List UInt8) (p : Nat) : (spoilF s b p).length ≤ s.length + 8 := by
  have hb : ∀ k, (badT.getD (k % 7) []).length ≤ 8 := by
    intro k
    have : k % 7 < 7 := Nat.mod_lt _ (by omega)
    generalize k % 7 = j at this
    have : ∀ j < 7, (badT.getD j []).length ≤ 8 := by decide
    exact this j ‹_›
  have := hb (nx b p).1
  unfold spoilF
  simp only [List.length_append, List.length_take, List.length_drop]
  omega
theorem drawF_len (code : List UInt8) : (drawF code).length ≤ 60 := by
  unfold drawF
  simp only []
  generalize hn : (nx (List.take 600 code) (nx (List.take 600 code) 0).2) = n
  have h6 : n.1 % 6 < 6 := Nat.mod_lt _ (by omega)
  have := textsF_len (code.take 600) (n.1 % 6) n.2
  split
  · have := spoilF_len (textsF (code.take 600) (n.1 % 6) n.2).1 (code.take 600) (textsF (code.take 600) (n.1 % 6) n.2).2
    omega
  · omega
end Go.X
end
