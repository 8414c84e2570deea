/- Walks: the law's drawn texts and the reference's CheckText. -/
import Derived.Test.YtlhigokiophckaaGreatDoorKitD
import Derived.Lib.DecodeN

section
open Go Go.Proofs
namespace Go.X
set_option linter.unusedSimpArgs false
set_option maxRecDepth 10000

theorem take_spec (G : Gl) (h : H) (l : List UInt8) (i : Nat) :
    XCalls Tryz.prog G 11 [.im 1 (bytesV l), .i .i64 i] h (fun o h' => o = .ret (.i .i64 (if l.length = 0 then 0 else (l.getD (i % l.length) 0).toNat)) ∧ h' = h) := by
  refine enterK (rs := [.tmp 4]) Tryz.func11 (by kernel_rfl) rfl rfl (by kernel_rfl) rfl (Nat.le_of_ble_eq_true rfl) (fun hbd => ?_)
  simp -implicitDefEqProofs only [XL, XM, TL, Option.isSome_some, Option.bind_some, Option.bind_none, Option.map_some, Option.map_none, Option.some.injEq, List.getElem?_cons_zero, List.getElem?_cons_succ, List.getElem?_toArray, List.toList_toArray, Nat.reduceEqDiff, if_true, if_false, ↓reduceIte, reduceCtorEq, Bool.false_eq_true, List.nil_append, List.append_nil, List.cons_append, Bool.or_self, Bool.or_true, Bool.or_false, Bool.true_or, Bool.false_or, Bool.and_true, Bool.true_and, Bool.not_true, Bool.not_false, Nat.reduceAdd, Nat.reduceMul, Nat.reduceSub, Nat.reduceLT, Nat.reduceLeDiff, Int.reduceToNat, List.all_cons, List.all_nil, List.map_cons, List.map_nil, List.set_cons_zero,  true_and, and_true, Int.natCast_nonneg, Int.le_refl, Nat.le_refl, Int.toNat_natCast, Nat.sub_zero,  List.drop_zero, List.drop_succ_cons, List.length_cons, List.length_nil,  List.set_cons_succ, and_self, decide_true, decide_false, Int.reduceLT, Int.reduceLE, Int.reduceEq, Int.reduceSub, Int.reduceAdd, Int.reduceMul, String.reduceEq, stK_eq, stV.eq_1, stR_some, stE_ag, stE_one, stE_whole, bytesV_length]
  intro hb
  refine BrK_intro (fun h1 => ?_) (fun h1 => ?_)
  · simp -implicitDefEqProofs only [XL, XM, TL, Option.isSome_some, Option.bind_some, Option.bind_none, Option.map_some, Option.map_none, Option.some.injEq, List.getElem?_cons_zero, List.getElem?_cons_succ, List.getElem?_toArray, List.toList_toArray, Nat.reduceEqDiff, if_true, if_false, ↓reduceIte, reduceCtorEq, Bool.false_eq_true, List.nil_append, List.append_nil, List.cons_append, Bool.or_self, Bool.or_true, Bool.or_false, Bool.true_or, Bool.false_or, Bool.and_true, Bool.true_and, Bool.not_true, Bool.not_false, Nat.reduceAdd, Nat.reduceMul, Nat.reduceSub, Nat.reduceLT, Nat.reduceLeDiff, Int.reduceToNat, List.all_cons, List.all_nil, List.map_cons, List.map_nil, List.set_cons_zero,  true_and, and_true, Int.natCast_nonneg, Int.le_refl, Nat.le_refl, Int.toNat_natCast, Nat.sub_zero,  List.drop_zero, List.drop_succ_cons, List.length_cons, List.length_nil,  List.set_cons_succ, and_self, decide_true, decide_false, Int.reduceLT, Int.reduceLE, Int.reduceEq, Int.reduceSub, Int.reduceAdd, Int.reduceMul, String.reduceEq, stK_eq, stV.eq_1, stR_some, stE_ag, stE_one, stE_whole]
    simp only [decide_eq_true_eq] at h1
    have h2 : l.length = 0 := by omega
    exact RetK_keep (.refl _) ⟨by simp [h2], rfl⟩
  · simp only [decide_eq_false_iff_not] at h1
    have h2 : l.length ≠ 0 := by omega
    have h3 : i % l.length < l.length := Nat.mod_lt _ (by omega)
    have h4 : (i : Int).tmod (l.length : Int) = ((i % l.length : Nat) : Int) := by rw [Int.tmod_eq_emod_of_nonneg (by omega)]; rfl
    have h5 : l[i % l.length]? = some (l[i % l.length]) := List.getElem?_eq_getElem h3
    have h6 := u8_lt l[i % l.length]
    simp -implicitDefEqProofs only [XL, XM, TL, Option.isSome_some, Option.bind_some, Option.bind_none, Option.map_some, Option.map_none, Option.some.injEq, List.getElem?_cons_zero, List.getElem?_cons_succ, List.getElem?_toArray, List.toList_toArray, Nat.reduceEqDiff, if_true, if_false, ↓reduceIte, reduceCtorEq, Bool.false_eq_true, List.nil_append, List.append_nil, List.cons_append, Bool.or_self, Bool.or_true, Bool.or_false, Bool.true_or, Bool.false_or, Bool.and_true, Bool.true_and, Bool.not_true, Bool.not_false, Nat.reduceAdd, Nat.reduceMul, Nat.reduceSub, Nat.reduceLT, Nat.reduceLeDiff, Int.reduceToNat, List.all_cons, List.all_nil, List.map_cons, List.map_nil, List.set_cons_zero,  true_and, and_true, Int.natCast_nonneg, Int.le_refl, Nat.le_refl, Int.toNat_natCast, Nat.sub_zero,  List.drop_zero, List.drop_succ_cons, List.length_cons, List.length_nil,  List.set_cons_succ, and_self, decide_true, decide_false, Int.reduceLT, Int.reduceLE, Int.reduceEq, Int.reduceSub, Int.reduceAdd, Int.reduceMul, String.reduceEq, stK_eq, stV.eq_1, stR_some, stE_ag, stE_one, stE_whole, bytesV_length, bytesV_get, h1, h4, Int.toNat_natCast, h5, bV_cells, Int.natCast_nonneg]
    intro _
    refine RetK_keep (.refl _) ⟨?_, rfl⟩
    rw [wrap_i64 (by omega) (by omega)]
    simp [h2, List.getD, h5]

def isPoint (v : Int) : Bool := decide (0 ≤ v ∧ v ≤ 0x10ffff ∧ (v < 0xd800 ∨ v > 0xdfff))
theorem l1point_spec (G : Gl) (h : H) (v : Int) :
    XCalls Tryz.prog G 30 [.i .i64 v] h (fun o h' => o = .ret (.b (isPoint v)) ∧ h' = h) := by
  refine enterK (rs := [.tmp 2]) Tryz.func30 (by kernel_rfl) rfl rfl (by kernel_rfl) rfl (Nat.le_of_ble_eq_true rfl) (fun hbd => ?_)
  repeat' (first | simp -implicitDefEqProofs only [XL, XM, TL, Option.isSome_some, Option.bind_some, Option.bind_none, Option.map_some, Option.map_none, Option.some.injEq, List.getElem?_cons_zero, List.getElem?_cons_succ, List.getElem?_toArray, List.toList_toArray, Nat.reduceEqDiff, if_true, if_false, ↓reduceIte, reduceCtorEq, Bool.false_eq_true, List.nil_append, List.append_nil, List.cons_append, Bool.or_self, Bool.or_true, Bool.or_false, Bool.true_or, Bool.false_or, Bool.and_true, Bool.true_and, Bool.not_true, Bool.not_false, Nat.reduceAdd, Nat.reduceMul, Nat.reduceSub, Nat.reduceLT, Nat.reduceLeDiff, Int.reduceToNat, List.all_cons, List.all_nil, List.map_cons, List.map_nil, List.set_cons_zero,  true_and, and_true, Int.natCast_nonneg, Int.le_refl, Nat.le_refl, Int.toNat_natCast, Nat.sub_zero,  List.drop_zero, List.drop_succ_cons, List.length_cons, List.length_nil,  List.set_cons_succ, and_self, decide_true, decide_false, Int.reduceLT, Int.reduceLE, Int.reduceEq, Int.reduceSub, Int.reduceAdd, Int.reduceMul, String.reduceEq, stK_eq, stV.eq_1, stR_some, stE_ag, stE_one, stE_whole] | simp (disch := omega) only [ifp, ifn, wrap_i64, wrap_u8, wrap_i32, wrap_u64, wrap_u32, Int.tdiv_eq_ediv_of_nonneg, Int.tmod_eq_emod_of_nonneg] | ((with_reducible refine BrK_intro (fun hwb => ?_) (fun hwb => ?_)) <;> (try rw [hwb]) <;> simp only [decide_eq_true_eq, decide_eq_false_iff_not, Bool.not_eq_true', Bool.not_eq_false', Bool.not_true, Bool.not_false] at hwb) | ((with_reducible refine gbK_intro (fun hwb => ?_) (fun hwb => ?_)) <;> (try rw [hwb]) <;> simp only [decide_eq_true_eq, decide_eq_false_iff_not, Bool.not_eq_true', Bool.not_eq_false', Bool.not_true, Bool.not_false] at hwb) | ((with_reducible refine qgb_intro (fun hwb => ?_) (fun hwb => ?_)) <;> (try rw [hwb]) <;> simp only [decide_eq_true_eq, decide_eq_false_iff_not, Bool.not_eq_true', Bool.not_eq_false', Bool.not_true, Bool.not_false] at hwb) | (with_reducible intro hl) | (with_reducible refine drawK_q (by kernel_rfl) (by kernel_rfl) ?_) )
  all_goals (refine RetK_pure (.refl _) ?_; congr 1; unfold isPoint; rw [Bool.eq_iff_iff]; simp; try omega)

def utf8V (v : Nat) : List UInt8 :=
  if v < 128 then [UInt8.ofNat v] else if v < 2048 then [UInt8.ofNat (192 + v / 64), UInt8.ofNat (128 + v % 64)]
  else if v < 65536 then [UInt8.ofNat (224 + v / 4096), UInt8.ofNat (128 + v / 64 % 64), UInt8.ofNat (128 + v % 64)]
  else [UInt8.ofNat (240 + v / 262144), UInt8.ofNat (128 + v / 4096 % 64), UInt8.ofNat (128 + v / 64 % 64), UInt8.ofNat (128 + v % 64)]

theorem l1utf8_spec (G : Gl) (h : H) (v : Nat) (h1 : v ≤ 0x10ffff) :
    XCalls Tryz.prog G 31 [.i .i64 v] h (fun o h' => o = .ret (.im 1 (bytesV (utf8V v))) ∧ h' = h) := by
  refine enterK (rs := [.tmp 2]) Tryz.func31 (by kernel_rfl) rfl rfl (by kernel_rfl) rfl (Nat.le_of_ble_eq_true rfl) (fun hbd => ?_)
  repeat' (first | simp -implicitDefEqProofs only [XL, XM, TL, Option.isSome_some, Option.bind_some, Option.bind_none, Option.map_some, Option.map_none, Option.some.injEq, List.getElem?_cons_zero, List.getElem?_cons_succ, List.getElem?_toArray, List.toList_toArray, Nat.reduceEqDiff, if_true, if_false, ↓reduceIte, reduceCtorEq, Bool.false_eq_true, List.nil_append, List.append_nil, List.cons_append, Bool.or_self, Bool.or_true, Bool.or_false, Bool.true_or, Bool.false_or, Bool.and_true, Bool.true_and, Bool.not_true, Bool.not_false, Nat.reduceAdd, Nat.reduceMul, Nat.reduceSub, Nat.reduceLT, Nat.reduceLeDiff, Int.reduceToNat, List.all_cons, List.all_nil, List.map_cons, List.map_nil, List.set_cons_zero,  true_and, and_true, Int.natCast_nonneg, Int.le_refl, Nat.le_refl, Int.toNat_natCast, Nat.sub_zero,  List.drop_zero, List.drop_succ_cons, List.length_cons, List.length_nil,  List.set_cons_succ, and_self, decide_true, decide_false, Int.reduceLT, Int.reduceLE, Int.reduceEq, Int.reduceSub, Int.reduceAdd, Int.reduceMul, String.reduceEq, stK_eq, stV.eq_1, stR_some, stE_ag, stE_one, stE_whole] | simp (disch := omega) only [ifp, ifn, wrap_i64, wrap_u8, wrap_i32, wrap_u64, wrap_u32, Int.tdiv_eq_ediv_of_nonneg, Int.tmod_eq_emod_of_nonneg] | ((with_reducible refine BrK_intro (fun hwb => ?_) (fun hwb => ?_)) <;> (try rw [hwb]) <;> simp only [decide_eq_true_eq, decide_eq_false_iff_not, Bool.not_eq_true', Bool.not_eq_false', Bool.not_true, Bool.not_false] at hwb) | ((with_reducible refine gbK_intro (fun hwb => ?_) (fun hwb => ?_)) <;> (try rw [hwb]) <;> simp only [decide_eq_true_eq, decide_eq_false_iff_not, Bool.not_eq_true', Bool.not_eq_false', Bool.not_true, Bool.not_false] at hwb) | ((with_reducible refine qgb_intro (fun hwb => ?_) (fun hwb => ?_)) <;> (try rw [hwb]) <;> simp only [decide_eq_true_eq, decide_eq_false_iff_not, Bool.not_eq_true', Bool.not_eq_false', Bool.not_true, Bool.not_false] at hwb) | (with_reducible intro hl) | (with_reducible refine drawK_q (by kernel_rfl) (by kernel_rfl) ?_) )
  all_goals
    refine bslK_intro (by simp -implicitDefEqProofs only [XL, XM, TL, Option.isSome_some, Option.bind_some, Option.bind_none, Option.map_some, Option.map_none, Option.some.injEq, List.getElem?_cons_zero, List.getElem?_cons_succ, List.getElem?_toArray, List.toList_toArray, Nat.reduceEqDiff, if_true, if_false, ↓reduceIte, reduceCtorEq, Bool.false_eq_true, List.nil_append, List.append_nil, List.cons_append, Bool.or_self, Bool.or_true, Bool.or_false, Bool.true_or, Bool.false_or, Bool.and_true, Bool.true_and, Bool.not_true, Bool.not_false, Nat.reduceAdd, Nat.reduceMul, Nat.reduceSub, Nat.reduceLT, Nat.reduceLeDiff, Int.reduceToNat, List.all_cons, List.all_nil, List.map_cons, List.map_nil, List.set_cons_zero,  true_and, and_true, Int.natCast_nonneg, Int.le_refl, Nat.le_refl, Int.toNat_natCast, Nat.sub_zero,  List.drop_zero, List.drop_succ_cons, List.length_cons, List.length_nil,  List.set_cons_succ, and_self, decide_true, decide_false, Int.reduceLT, Int.reduceLE, Int.reduceEq, Int.reduceSub, Int.reduceAdd, Int.reduceMul, String.reduceEq, stK_eq, stV.eq_1, stR_some, stE_ag, stE_one, stE_whole]; rfl) rfl (by simp [V.fits, V.cells]) (by simp) (fun id hid => ?_)
    repeat (first | simp -implicitDefEqProofs only [XL, XM, TL, Option.isSome_some, Option.bind_some, Option.bind_none, Option.map_some, Option.map_none, Option.some.injEq, List.getElem?_cons_zero, List.getElem?_cons_succ, List.getElem?_toArray, List.toList_toArray, Nat.reduceEqDiff, if_true, if_false, ↓reduceIte, reduceCtorEq, Bool.false_eq_true, List.nil_append, List.append_nil, List.cons_append, Bool.or_self, Bool.or_true, Bool.or_false, Bool.true_or, Bool.false_or, Bool.and_true, Bool.true_and, Bool.not_true, Bool.not_false, Nat.reduceAdd, Nat.reduceMul, Nat.reduceSub, Nat.reduceLT, Nat.reduceLeDiff, Int.reduceToNat, List.all_cons, List.all_nil, List.map_cons, List.map_nil, List.set_cons_zero,  true_and, and_true, Int.natCast_nonneg, Int.le_refl, Nat.le_refl, Int.toNat_natCast, Nat.sub_zero,  List.drop_zero, List.drop_succ_cons, List.length_cons, List.length_nil,  List.set_cons_succ, and_self, decide_true, decide_false, Int.reduceLT, Int.reduceLE, Int.reduceEq, Int.reduceSub, Int.reduceAdd, Int.reduceMul, String.reduceEq, stK_eq, stV.eq_1, stR_some, stE_ag, stE_one, stE_whole] | simp (disch := omega) only [ifp, ifn, wrap_i64, wrap_u8, wrap_i32, wrap_u64, wrap_u32, Int.tdiv_eq_ediv_of_nonneg, Int.tmod_eq_emod_of_nonneg])
    refine RetK_row (by simp only [set_eq, if_true]; rfl) (by simp) (Sub.of_set (.refl _) hid) hid (And.intro ?_ rfl)
    simp only [utf8V]
    (repeat' (first | rw [if_pos (by omega)] | rw [if_neg (by omega)]))
    simp [bytesV, bV, UInt8.toNat_ofNat']
    try omega
end Go.X
end

section
open Go Go.Proofs
namespace Go.X
set_option linter.unusedSimpArgs false
set_option maxRecDepth 10000

theorem set_self {h : H} {id : Nat} {o : O} (e : h id = some o) : h.set id o = h := by
  funext j; unfold H.set; split
  · rename_i hj; subst hj; exact e.symm
  · rfl

theorem sameB_spec (G : Gl) (h : H) (l m : List UInt8) :
    XCalls Tryz.prog G 10 [.im 1 (bytesV l), .im 1 (bytesV m)] h (fun o h' => o = .ret (.b (decide (l = m))) ∧ h' = h) := by
  refine enterK (rs := [.tmp 4]) Tryz.func10 (by kernel_rfl) rfl rfl (by kernel_rfl) rfl (Nat.le_of_ble_eq_true rfl) (fun hbd => ?_)
  simp -implicitDefEqProofs only [XL, XM, TL, Option.isSome_some, Option.bind_some, Option.bind_none, Option.map_some, Option.map_none, Option.some.injEq, List.getElem?_cons_zero, List.getElem?_cons_succ, List.getElem?_toArray, List.toList_toArray, Nat.reduceEqDiff, if_true, if_false, ↓reduceIte, reduceCtorEq, Bool.false_eq_true, List.nil_append, List.append_nil, List.cons_append, Bool.or_self, Bool.or_true, Bool.or_false, Bool.true_or, Bool.false_or, Bool.and_true, Bool.true_and, Bool.not_true, Bool.not_false, Nat.reduceAdd, Nat.reduceMul, Nat.reduceSub, Nat.reduceLT, Nat.reduceLeDiff, Int.reduceToNat, List.all_cons, List.all_nil, List.map_cons, List.map_nil, List.set_cons_zero,  true_and, and_true, Int.natCast_nonneg, Int.le_refl, Nat.le_refl, Int.toNat_natCast, Nat.sub_zero,  List.drop_zero, List.drop_succ_cons, List.length_cons, List.length_nil,  List.set_cons_succ, and_self, decide_true, decide_false, Int.reduceLT, Int.reduceLE, Int.reduceEq, Int.reduceSub, Int.reduceAdd, Int.reduceMul, String.reduceEq, stK_eq, stV.eq_1, stR_some, stE_ag, stE_one, stE_whole, bytesV_length]
  intro hb1 hb2
  refine BrK_intro (fun hb => ?_) (fun hb => ?_)
  · simp -implicitDefEqProofs only [XL, XM, TL, Option.isSome_some, Option.bind_some, Option.bind_none, Option.map_some, Option.map_none, Option.some.injEq, List.getElem?_cons_zero, List.getElem?_cons_succ, List.getElem?_toArray, List.toList_toArray, Nat.reduceEqDiff, if_true, if_false, ↓reduceIte, reduceCtorEq, Bool.false_eq_true, List.nil_append, List.append_nil, List.cons_append, Bool.or_self, Bool.or_true, Bool.or_false, Bool.true_or, Bool.false_or, Bool.and_true, Bool.true_and, Bool.not_true, Bool.not_false, Nat.reduceAdd, Nat.reduceMul, Nat.reduceSub, Nat.reduceLT, Nat.reduceLeDiff, Int.reduceToNat, List.all_cons, List.all_nil, List.map_cons, List.map_nil, List.set_cons_zero,  true_and, and_true, Int.natCast_nonneg, Int.le_refl, Nat.le_refl, Int.toNat_natCast, Nat.sub_zero,  List.drop_zero, List.drop_succ_cons, List.length_cons, List.length_nil,  List.set_cons_succ, and_self, decide_true, decide_false, Int.reduceLT, Int.reduceLE, Int.reduceEq, Int.reduceSub, Int.reduceAdd, Int.reduceMul, String.reduceEq, stK_eq, stV.eq_1, stR_some, stE_ag, stE_one, stE_whole]
    simp at hb
    refine RetK_pure (.refl _) ?_
    congr 1
    have : l ≠ m := by rintro rfl; exact hb rfl
    simp [this]
  · simp at hb
    have hlen : l.length = m.length := by omega
    simp -implicitDefEqProofs only [XL, XM, TL, Option.isSome_some, Option.bind_some, Option.bind_none, Option.map_some, Option.map_none, Option.some.injEq, List.getElem?_cons_zero, List.getElem?_cons_succ, List.getElem?_toArray, List.toList_toArray, Nat.reduceEqDiff, if_true, if_false, ↓reduceIte, reduceCtorEq, Bool.false_eq_true, List.nil_append, List.append_nil, List.cons_append, Bool.or_self, Bool.or_true, Bool.or_false, Bool.true_or, Bool.false_or, Bool.and_true, Bool.true_and, Bool.not_true, Bool.not_false, Nat.reduceAdd, Nat.reduceMul, Nat.reduceSub, Nat.reduceLT, Nat.reduceLeDiff, Int.reduceToNat, List.all_cons, List.all_nil, List.map_cons, List.map_nil, List.set_cons_zero,  true_and, and_true, Int.natCast_nonneg, Int.le_refl, Nat.le_refl, Int.toNat_natCast, Nat.sub_zero,  List.drop_zero, List.drop_succ_cons, List.length_cons, List.length_nil,  List.set_cons_succ, and_self, decide_true, decide_false, Int.reduceLT, Int.reduceLE, Int.reduceEq, Int.reduceSub, Int.reduceAdd, Int.reduceMul, String.reduceEq, stK_eq, stV.eq_1, stR_some, stE_ag, stE_one, stE_whole]
    refine loopK_intro (fun (i : Nat) a h' => h' = h ∧ a 0 = some (.im 1 (bytesV l)) ∧ a 1 = some (.im 1 (bytesV m)) ∧ a 5 = some (.i .i64 i) ∧ i ≤ l.length ∧ l.take i = m.take i) (fun i => l.length - i) 0 (by simp -implicitDefEqProofs only [XL, XM, TL, Option.isSome_some, Option.bind_some, Option.bind_none, Option.map_some, Option.map_none, Option.some.injEq, List.getElem?_cons_zero, List.getElem?_cons_succ, List.getElem?_toArray, List.toList_toArray, Nat.reduceEqDiff, if_true, if_false, ↓reduceIte, reduceCtorEq, Bool.false_eq_true, List.nil_append, List.append_nil, List.cons_append, Bool.or_self, Bool.or_true, Bool.or_false, Bool.true_or, Bool.false_or, Bool.and_true, Bool.true_and, Bool.not_true, Bool.not_false, Nat.reduceAdd, Nat.reduceMul, Nat.reduceSub, Nat.reduceLT, Nat.reduceLeDiff, Int.reduceToNat, List.all_cons, List.all_nil, List.map_cons, List.map_nil, List.set_cons_zero,  true_and, and_true, Int.natCast_nonneg, Int.le_refl, Nat.le_refl, Int.toNat_natCast, Nat.sub_zero,  List.drop_zero, List.drop_succ_cons, List.length_cons, List.length_nil,  List.set_cons_succ, and_self, decide_true, decide_false, Int.reduceLT, Int.reduceLE, Int.reduceEq, Int.reduceSub, Int.reduceAdd, Int.reduceMul, String.reduceEq, stK_eq, stV.eq_1, stR_some, stE_ag, stE_one, stE_whole]; simp) ?_
    rintro i a h' ⟨rfl, h0, h1, h5, hi, heq⟩
    simp -implicitDefEqProofs only [XL, XM, TL, Option.isSome_some, Option.bind_some, Option.bind_none, Option.map_some, Option.map_none, Option.some.injEq, List.getElem?_cons_zero, List.getElem?_cons_succ, List.getElem?_toArray, List.toList_toArray, Nat.reduceEqDiff, if_true, if_false, ↓reduceIte, reduceCtorEq, Bool.false_eq_true, List.nil_append, List.append_nil, List.cons_append, Bool.or_self, Bool.or_true, Bool.or_false, Bool.true_or, Bool.false_or, Bool.and_true, Bool.true_and, Bool.not_true, Bool.not_false, Nat.reduceAdd, Nat.reduceMul, Nat.reduceSub, Nat.reduceLT, Nat.reduceLeDiff, Int.reduceToNat, List.all_cons, List.all_nil, List.map_cons, List.map_nil, List.set_cons_zero,  true_and, and_true, Int.natCast_nonneg, Int.le_refl, Nat.le_refl, Int.toNat_natCast, Nat.sub_zero,  List.drop_zero, List.drop_succ_cons, List.length_cons, List.length_nil,  List.set_cons_succ, and_self, decide_true, decide_false, Int.reduceLT, Int.reduceLE, Int.reduceEq, Int.reduceSub, Int.reduceAdd, Int.reduceMul, String.reduceEq, stK_eq, stV.eq_1, stR_some, stE_ag, stE_one, stE_whole, h0, h1, h5, bytesV_length]
    intro _
    refine BrK_intro (fun hb => ?_) (fun hb => ?_)
    · simp at hb
      have hl1 : l[i]? = some l[i] := List.getElem?_eq_getElem hb
      have hm1 : m[i]? = some (m[i]'(by omega)) := List.getElem?_eq_getElem (by omega)
      simp -implicitDefEqProofs only [XL, XM, TL, Option.isSome_some, Option.bind_some, Option.bind_none, Option.map_some, Option.map_none, Option.some.injEq, List.getElem?_cons_zero, List.getElem?_cons_succ, List.getElem?_toArray, List.toList_toArray, Nat.reduceEqDiff, if_true, if_false, ↓reduceIte, reduceCtorEq, Bool.false_eq_true, List.nil_append, List.append_nil, List.cons_append, Bool.or_self, Bool.or_true, Bool.or_false, Bool.true_or, Bool.false_or, Bool.and_true, Bool.true_and, Bool.not_true, Bool.not_false, Nat.reduceAdd, Nat.reduceMul, Nat.reduceSub, Nat.reduceLT, Nat.reduceLeDiff, Int.reduceToNat, List.all_cons, List.all_nil, List.map_cons, List.map_nil, List.set_cons_zero,  true_and, and_true, Int.natCast_nonneg, Int.le_refl, Nat.le_refl, Int.toNat_natCast, Nat.sub_zero,  List.drop_zero, List.drop_succ_cons, List.length_cons, List.length_nil,  List.set_cons_succ, and_self, decide_true, decide_false, Int.reduceLT, Int.reduceLE, Int.reduceEq, Int.reduceSub, Int.reduceAdd, Int.reduceMul, String.reduceEq, stK_eq, stV.eq_1, stR_some, stE_ag, stE_one, stE_whole]
      refine drawK_q (by kernel_rfl) (by kernel_rfl) ?_
      simp -implicitDefEqProofs only [XL, XM, TL, Option.isSome_some, Option.bind_some, Option.bind_none, Option.map_some, Option.map_none, Option.some.injEq, List.getElem?_cons_zero, List.getElem?_cons_succ, List.getElem?_toArray, List.toList_toArray, Nat.reduceEqDiff, if_true, if_false, ↓reduceIte, reduceCtorEq, Bool.false_eq_true, List.nil_append, List.append_nil, List.cons_append, Bool.or_self, Bool.or_true, Bool.or_false, Bool.true_or, Bool.false_or, Bool.and_true, Bool.true_and, Bool.not_true, Bool.not_false, Nat.reduceAdd, Nat.reduceMul, Nat.reduceSub, Nat.reduceLT, Nat.reduceLeDiff, Int.reduceToNat, List.all_cons, List.all_nil, List.map_cons, List.map_nil, List.set_cons_zero,  true_and, and_true, Int.natCast_nonneg, Int.le_refl, Nat.le_refl, Int.toNat_natCast, Nat.sub_zero,  List.drop_zero, List.drop_succ_cons, List.length_cons, List.length_nil,  List.set_cons_succ, and_self, decide_true, decide_false, Int.reduceLT, Int.reduceLE, Int.reduceEq, Int.reduceSub, Int.reduceAdd, Int.reduceMul, String.reduceEq, stK_eq, stV.eq_1, stR_some, stE_ag, stE_one, stE_whole, h0, h1, h5, bytesV_get, Int.toNat_natCast, Int.natCast_nonneg, hl1, hm1, bV_cells]
      refine BrK_intro (fun hc => ?_) (fun hc => ?_)
      · simp -implicitDefEqProofs only [XL, XM, TL, Option.isSome_some, Option.bind_some, Option.bind_none, Option.map_some, Option.map_none, Option.some.injEq, List.getElem?_cons_zero, List.getElem?_cons_succ, List.getElem?_toArray, List.toList_toArray, Nat.reduceEqDiff, if_true, if_false, ↓reduceIte, reduceCtorEq, Bool.false_eq_true, List.nil_append, List.append_nil, List.cons_append, Bool.or_self, Bool.or_true, Bool.or_false, Bool.true_or, Bool.false_or, Bool.and_true, Bool.true_and, Bool.not_true, Bool.not_false, Nat.reduceAdd, Nat.reduceMul, Nat.reduceSub, Nat.reduceLT, Nat.reduceLeDiff, Int.reduceToNat, List.all_cons, List.all_nil, List.map_cons, List.map_nil, List.set_cons_zero,  true_and, and_true, Int.natCast_nonneg, Int.le_refl, Nat.le_refl, Int.toNat_natCast, Nat.sub_zero,  List.drop_zero, List.drop_succ_cons, List.length_cons, List.length_nil,  List.set_cons_succ, and_self, decide_true, decide_false, Int.reduceLT, Int.reduceLE, Int.reduceEq, Int.reduceSub, Int.reduceAdd, Int.reduceMul, String.reduceEq, stK_eq, stV.eq_1, stR_some, stE_ag, stE_one, stE_whole]
        simp at hc
        refine RetK_pure (.refl _) ?_
        congr 1
        have : l ≠ m := by
          rintro rfl; exact hc rfl
        simp [this]
      · simp at hc
        have chk_ : True ∧ True := by simp only [and_self, h5]
        clear chk_
        repeat (first | simp -implicitDefEqProofs only [XL, XM, TL, Option.isSome_some, Option.bind_some, Option.bind_none, Option.map_some, Option.map_none, Option.some.injEq, List.getElem?_cons_zero, List.getElem?_cons_succ, List.getElem?_toArray, List.toList_toArray, Nat.reduceEqDiff, if_true, if_false, ↓reduceIte, reduceCtorEq, Bool.false_eq_true, List.nil_append, List.append_nil, List.cons_append, Bool.or_self, Bool.or_true, Bool.or_false, Bool.true_or, Bool.false_or, Bool.and_true, Bool.true_and, Bool.not_true, Bool.not_false, Nat.reduceAdd, Nat.reduceMul, Nat.reduceSub, Nat.reduceLT, Nat.reduceLeDiff, Int.reduceToNat, List.all_cons, List.all_nil, List.map_cons, List.map_nil, List.set_cons_zero,  true_and, and_true, Int.natCast_nonneg, Int.le_refl, Nat.le_refl, Int.toNat_natCast, Nat.sub_zero,  List.drop_zero, List.drop_succ_cons, List.length_cons, List.length_nil,  List.set_cons_succ, and_self, decide_true, decide_false, Int.reduceLT, Int.reduceLE, Int.reduceEq, Int.reduceSub, Int.reduceAdd, Int.reduceMul, String.reduceEq, stK_eq, stV.eq_1, stR_some, stE_ag, stE_one, stE_whole, h5] | simp (disch := omega) only [ifp, ifn, wrap_i64, wrap_u8, wrap_i32, wrap_u64, wrap_u32, Int.tdiv_eq_ediv_of_nonneg, Int.tmod_eq_emod_of_nonneg])
        refine LP.mk (i + 1) (by omega) ⟨rfl, h0, h1, rfl, by omega, ?_⟩
        rw [List.take_add_one, List.take_add_one, heq, hl1, hm1]
        have : l[i] = m[i] := by
          have h3 : l[i].toNat = (m[i]'(by omega)).toNat := by omega
          exact UInt8.toNat_inj.1 h3
        rw [this]
    · simp at hb
      simp -implicitDefEqProofs only [XL, XM, TL, Option.isSome_some, Option.bind_some, Option.bind_none, Option.map_some, Option.map_none, Option.some.injEq, List.getElem?_cons_zero, List.getElem?_cons_succ, List.getElem?_toArray, List.toList_toArray, Nat.reduceEqDiff, if_true, if_false, ↓reduceIte, reduceCtorEq, Bool.false_eq_true, List.nil_append, List.append_nil, List.cons_append, Bool.or_self, Bool.or_true, Bool.or_false, Bool.true_or, Bool.false_or, Bool.and_true, Bool.true_and, Bool.not_true, Bool.not_false, Nat.reduceAdd, Nat.reduceMul, Nat.reduceSub, Nat.reduceLT, Nat.reduceLeDiff, Int.reduceToNat, List.all_cons, List.all_nil, List.map_cons, List.map_nil, List.set_cons_zero,  true_and, and_true, Int.natCast_nonneg, Int.le_refl, Nat.le_refl, Int.toNat_natCast, Nat.sub_zero,  List.drop_zero, List.drop_succ_cons, List.length_cons, List.length_nil,  List.set_cons_succ, and_self, decide_true, decide_false, Int.reduceLT, Int.reduceLE, Int.reduceEq, Int.reduceSub, Int.reduceAdd, Int.reduceMul, String.reduceEq, stK_eq, stV.eq_1, stR_some, stE_ag, stE_one, stE_whole]
      refine RetK_pure (.refl _) ?_
      congr 1
      have h3 : i = l.length := by omega
      subst h3
      rw [List.take_of_length_le (Nat.le_refl _), List.take_of_length_le (by omega)] at heq
      simp [heq]

def rdO (b : List UInt8) (p : Nat) : O := .row 2 [.ag [.im 1 (bytesV b), .i .i64 p]]
theorem open_spec (G : Gl) (h : H) (l : List UInt8) :
    XCalls Tryz.prog G 26 [.im 1 (bytesV l)] h (fun o h' => ∃ id, h id = none ∧ o = .ret (.ptr id 0 0) ∧ h' = h.set id (rdO (l.take 600) 0)) := by
  refine enterK (rs := [.tmp 2]) Tryz.func26 (by kernel_rfl) rfl rfl (by kernel_rfl) rfl (Nat.le_of_ble_eq_true rfl) (fun hbd => ?_)
  simp -implicitDefEqProofs only [XL, XM, TL, Option.isSome_some, Option.bind_some, Option.bind_none, Option.map_some, Option.map_none, Option.some.injEq, List.getElem?_cons_zero, List.getElem?_cons_succ, List.getElem?_toArray, List.toList_toArray, Nat.reduceEqDiff, if_true, if_false, ↓reduceIte, reduceCtorEq, Bool.false_eq_true, List.nil_append, List.append_nil, List.cons_append, Bool.or_self, Bool.or_true, Bool.or_false, Bool.true_or, Bool.false_or, Bool.and_true, Bool.true_and, Bool.not_true, Bool.not_false, Nat.reduceAdd, Nat.reduceMul, Nat.reduceSub, Nat.reduceLT, Nat.reduceLeDiff, Int.reduceToNat, List.all_cons, List.all_nil, List.map_cons, List.map_nil, List.set_cons_zero,  true_and, and_true, Int.natCast_nonneg, Int.le_refl, Nat.le_refl, Int.toNat_natCast, Nat.sub_zero,  List.drop_zero, List.drop_succ_cons, List.length_cons, List.length_nil,  List.set_cons_succ, and_self, decide_true, decide_false, Int.reduceLT, Int.reduceLE, Int.reduceEq, Int.reduceSub, Int.reduceAdd, Int.reduceMul, String.reduceEq, stK_eq, stV.eq_1, stR_some, stE_ag, stE_one, stE_whole, bytesV_length]
  intro hb
  refine BrK_intro (fun hb => ?_) (fun hb => ?_)
  · simp at hb
    have hc : (0 : Int) ≤ 600 ∧ (600 : Int) ≤ l.length := by omega
    simp -implicitDefEqProofs only [XL, XM, TL, Option.isSome_some, Option.bind_some, Option.bind_none, Option.map_some, Option.map_none, Option.some.injEq, List.getElem?_cons_zero, List.getElem?_cons_succ, List.getElem?_toArray, List.toList_toArray, Nat.reduceEqDiff, if_true, if_false, ↓reduceIte, reduceCtorEq, Bool.false_eq_true, List.nil_append, List.append_nil, List.cons_append, Bool.or_self, Bool.or_true, Bool.or_false, Bool.true_or, Bool.false_or, Bool.and_true, Bool.true_and, Bool.not_true, Bool.not_false, Nat.reduceAdd, Nat.reduceMul, Nat.reduceSub, Nat.reduceLT, Nat.reduceLeDiff, Int.reduceToNat, List.all_cons, List.all_nil, List.map_cons, List.map_nil, List.set_cons_zero,  true_and, and_true, Int.natCast_nonneg, Int.le_refl, Nat.le_refl, Int.toNat_natCast, Nat.sub_zero,  List.drop_zero, List.drop_succ_cons, List.length_cons, List.length_nil,  List.set_cons_succ, and_self, decide_true, decide_false, Int.reduceLT, Int.reduceLE, Int.reduceEq, Int.reduceSub, Int.reduceAdd, Int.reduceMul, String.reduceEq, stK_eq, stV.eq_1, stR_some, stE_ag, stE_one, stE_whole, bytesV_length, hc, bytesV_take]
    refine boxK_intro (fits_ag _) (fun id hid => ?_)
    simp -implicitDefEqProofs only [XL, XM, TL, Option.isSome_some, Option.bind_some, Option.bind_none, Option.map_some, Option.map_none, Option.some.injEq, List.getElem?_cons_zero, List.getElem?_cons_succ, List.getElem?_toArray, List.toList_toArray, Nat.reduceEqDiff, if_true, if_false, ↓reduceIte, reduceCtorEq, Bool.false_eq_true, List.nil_append, List.append_nil, List.cons_append, Bool.or_self, Bool.or_true, Bool.or_false, Bool.true_or, Bool.false_or, Bool.and_true, Bool.true_and, Bool.not_true, Bool.not_false, Nat.reduceAdd, Nat.reduceMul, Nat.reduceSub, Nat.reduceLT, Nat.reduceLeDiff, Int.reduceToNat, List.all_cons, List.all_nil, List.map_cons, List.map_nil, List.set_cons_zero,  true_and, and_true, Int.natCast_nonneg, Int.le_refl, Nat.le_refl, Int.toNat_natCast, Nat.sub_zero,  List.drop_zero, List.drop_succ_cons, List.length_cons, List.length_nil,  List.set_cons_succ, and_self, decide_true, decide_false, Int.reduceLT, Int.reduceLE, Int.reduceEq, Int.reduceSub, Int.reduceAdd, Int.reduceMul, String.reduceEq, stK_eq, stV.eq_1, stR_some, stE_ag, stE_one, stE_whole]
    exact RetK_keep (.refl _) ⟨id, hid, rfl, rfl⟩
  · simp at hb
    simp -implicitDefEqProofs only [XL, XM, TL, Option.isSome_some, Option.bind_some, Option.bind_none, Option.map_some, Option.map_none, Option.some.injEq, List.getElem?_cons_zero, List.getElem?_cons_succ, List.getElem?_toArray, List.toList_toArray, Nat.reduceEqDiff, if_true, if_false, ↓reduceIte, reduceCtorEq, Bool.false_eq_true, List.nil_append, List.append_nil, List.cons_append, Bool.or_self, Bool.or_true, Bool.or_false, Bool.true_or, Bool.false_or, Bool.and_true, Bool.true_and, Bool.not_true, Bool.not_false, Nat.reduceAdd, Nat.reduceMul, Nat.reduceSub, Nat.reduceLT, Nat.reduceLeDiff, Int.reduceToNat, List.all_cons, List.all_nil, List.map_cons, List.map_nil, List.set_cons_zero,  true_and, and_true, Int.natCast_nonneg, Int.le_refl, Nat.le_refl, Int.toNat_natCast, Nat.sub_zero,  List.drop_zero, List.drop_succ_cons, List.length_cons, List.length_nil,  List.set_cons_succ, and_self, decide_true, decide_false, Int.reduceLT, Int.reduceLE, Int.reduceEq, Int.reduceSub, Int.reduceAdd, Int.reduceMul, String.reduceEq, stK_eq, stV.eq_1, stR_some, stE_ag, stE_one, stE_whole, bytesV_length, bytesV_take]
    refine boxK_intro (fits_ag _) (fun id hid => ?_)
    simp -implicitDefEqProofs only [XL, XM, TL, Option.isSome_some, Option.bind_some, Option.bind_none, Option.map_some, Option.map_none, Option.some.injEq, List.getElem?_cons_zero, List.getElem?_cons_succ, List.getElem?_toArray, List.toList_toArray, Nat.reduceEqDiff, if_true, if_false, ↓reduceIte, reduceCtorEq, Bool.false_eq_true, List.nil_append, List.append_nil, List.cons_append, Bool.or_self, Bool.or_true, Bool.or_false, Bool.true_or, Bool.false_or, Bool.and_true, Bool.true_and, Bool.not_true, Bool.not_false, Nat.reduceAdd, Nat.reduceMul, Nat.reduceSub, Nat.reduceLT, Nat.reduceLeDiff, Int.reduceToNat, List.all_cons, List.all_nil, List.map_cons, List.map_nil, List.set_cons_zero,  true_and, and_true, Int.natCast_nonneg, Int.le_refl, Nat.le_refl, Int.toNat_natCast, Nat.sub_zero,  List.drop_zero, List.drop_succ_cons, List.length_cons, List.length_nil,  List.set_cons_succ, and_self, decide_true, decide_false, Int.reduceLT, Int.reduceLE, Int.reduceEq, Int.reduceSub, Int.reduceAdd, Int.reduceMul, String.reduceEq, stK_eq, stV.eq_1, stR_some, stE_ag, stE_one, stE_whole]
    refine RetK_keep (.refl _) ⟨id, hid, rfl, ?_⟩
    rw [List.take_of_length_le (Nat.le_refl _), List.take_of_length_le (by omega)]; rfl

def nx (b : List UInt8) (p : Nat) : Nat × Nat := if p < b.length then ((b.getD p 0).toNat, p + 1) else (0, p)
theorem next_spec (G : Gl) (h : H) (id : Nat) (b : List UInt8) (p : Nat) (hid : h id = some (rdO b p)) (hp : p ≤ 1000) :
    XCalls Tryz.prog G 27 [.ptr id 0 0] h (fun o h' => o = .ret (.i .i64 (nx b p).1) ∧ h' = h.set id (rdO b (nx b p).2)) := by
  unfold rdO at hid
  refine enterK (rs := [.tmp 2]) Tryz.func27 (by kernel_rfl) rfl rfl (by kernel_rfl) rfl (Nat.le_of_ble_eq_true rfl) (fun hbd => ?_)
  simp -implicitDefEqProofs only [XL, XM, TL, Option.isSome_some, Option.bind_some, Option.bind_none, Option.map_some, Option.map_none, Option.some.injEq, List.getElem?_cons_zero, List.getElem?_cons_succ, List.getElem?_toArray, List.toList_toArray, Nat.reduceEqDiff, if_true, if_false, ↓reduceIte, reduceCtorEq, Bool.false_eq_true, List.nil_append, List.append_nil, List.cons_append, Bool.or_self, Bool.or_true, Bool.or_false, Bool.true_or, Bool.false_or, Bool.and_true, Bool.true_and, Bool.not_true, Bool.not_false, Nat.reduceAdd, Nat.reduceMul, Nat.reduceSub, Nat.reduceLT, Nat.reduceLeDiff, Int.reduceToNat, List.all_cons, List.all_nil, List.map_cons, List.map_nil, List.set_cons_zero,  true_and, and_true, Int.natCast_nonneg, Int.le_refl, Nat.le_refl, Int.toNat_natCast, Nat.sub_zero,  List.drop_zero, List.drop_succ_cons, List.length_cons, List.length_nil,  List.set_cons_succ, and_self, decide_true, decide_false, Int.reduceLT, Int.reduceLE, Int.reduceEq, Int.reduceSub, Int.reduceAdd, Int.reduceMul, String.reduceEq, stK_eq, stV.eq_1, stR_some, stE_ag, stE_one, stE_whole]
  refine drawK_q (by kernel_rfl) (by kernel_rfl) ?_
  simp -implicitDefEqProofs only [XL, XM, TL, Option.isSome_some, Option.bind_some, Option.bind_none, Option.map_some, Option.map_none, Option.some.injEq, List.getElem?_cons_zero, List.getElem?_cons_succ, List.getElem?_toArray, List.toList_toArray, Nat.reduceEqDiff, if_true, if_false, ↓reduceIte, reduceCtorEq, Bool.false_eq_true, List.nil_append, List.append_nil, List.cons_append, Bool.or_self, Bool.or_true, Bool.or_false, Bool.true_or, Bool.false_or, Bool.and_true, Bool.true_and, Bool.not_true, Bool.not_false, Nat.reduceAdd, Nat.reduceMul, Nat.reduceSub, Nat.reduceLT, Nat.reduceLeDiff, Int.reduceToNat, List.all_cons, List.all_nil, List.map_cons, List.map_nil, List.set_cons_zero,  true_and, and_true, Int.natCast_nonneg, Int.le_refl, Nat.le_refl, Int.toNat_natCast, Nat.sub_zero,  List.drop_zero, List.drop_succ_cons, List.length_cons, List.length_nil,  List.set_cons_succ, and_self, decide_true, decide_false, Int.reduceLT, Int.reduceLE, Int.reduceEq, Int.reduceSub, Int.reduceAdd, Int.reduceMul, String.reduceEq, stK_eq, stV.eq_1, stR_some, stE_ag, stE_one, stE_whole, hid, bytesV_length]
  refine BrK_intro (fun hb => ?_) (fun hb => ?_)
  · simp at hb
    simp -implicitDefEqProofs only [XL, XM, TL, Option.isSome_some, Option.bind_some, Option.bind_none, Option.map_some, Option.map_none, Option.some.injEq, List.getElem?_cons_zero, List.getElem?_cons_succ, List.getElem?_toArray, List.toList_toArray, Nat.reduceEqDiff, if_true, if_false, ↓reduceIte, reduceCtorEq, Bool.false_eq_true, List.nil_append, List.append_nil, List.cons_append, Bool.or_self, Bool.or_true, Bool.or_false, Bool.true_or, Bool.false_or, Bool.and_true, Bool.true_and, Bool.not_true, Bool.not_false, Nat.reduceAdd, Nat.reduceMul, Nat.reduceSub, Nat.reduceLT, Nat.reduceLeDiff, Int.reduceToNat, List.all_cons, List.all_nil, List.map_cons, List.map_nil, List.set_cons_zero,  true_and, and_true, Int.natCast_nonneg, Int.le_refl, Nat.le_refl, Int.toNat_natCast, Nat.sub_zero,  List.drop_zero, List.drop_succ_cons, List.length_cons, List.length_nil,  List.set_cons_succ, and_self, decide_true, decide_false, Int.reduceLT, Int.reduceLE, Int.reduceEq, Int.reduceSub, Int.reduceAdd, Int.reduceMul, String.reduceEq, stK_eq, stV.eq_1, stR_some, stE_ag, stE_one, stE_whole]
    rw [show h.set id (rdO b (nx b p).2) = h by rw [show (nx b p).2 = p by unfold nx; rw [if_neg (by omega)]]; exact set_self hid]
    refine RetK_pure (.refl _) ?_
    unfold nx; rw [if_neg (by omega)]; rfl
  · simp at hb
    simp -implicitDefEqProofs only [XL, XM, TL, Option.isSome_some, Option.bind_some, Option.bind_none, Option.map_some, Option.map_none, Option.some.injEq, List.getElem?_cons_zero, List.getElem?_cons_succ, List.getElem?_toArray, List.toList_toArray, Nat.reduceEqDiff, if_true, if_false, ↓reduceIte, reduceCtorEq, Bool.false_eq_true, List.nil_append, List.append_nil, List.cons_append, Bool.or_self, Bool.or_true, Bool.or_false, Bool.true_or, Bool.false_or, Bool.and_true, Bool.true_and, Bool.not_true, Bool.not_false, Nat.reduceAdd, Nat.reduceMul, Nat.reduceSub, Nat.reduceLT, Nat.reduceLeDiff, Int.reduceToNat, List.all_cons, List.all_nil, List.map_cons, List.map_nil, List.set_cons_zero,  true_and, and_true, Int.natCast_nonneg, Int.le_refl, Nat.le_refl, Int.toNat_natCast, Nat.sub_zero,  List.drop_zero, List.drop_succ_cons, List.length_cons, List.length_nil,  List.set_cons_succ, and_self, decide_true, decide_false, Int.reduceLT, Int.reduceLE, Int.reduceEq, Int.reduceSub, Int.reduceAdd, Int.reduceMul, String.reduceEq, stK_eq, stV.eq_1, stR_some, stE_ag, stE_one, stE_whole]
    refine drawK_q (by kernel_rfl) (by kernel_rfl) ?_
    have hb1 : b[p]? = some b[p] := List.getElem?_eq_getElem hb
    simp -implicitDefEqProofs only [XL, XM, TL, Option.isSome_some, Option.bind_some, Option.bind_none, Option.map_some, Option.map_none, Option.some.injEq, List.getElem?_cons_zero, List.getElem?_cons_succ, List.getElem?_toArray, List.toList_toArray, Nat.reduceEqDiff, if_true, if_false, ↓reduceIte, reduceCtorEq, Bool.false_eq_true, List.nil_append, List.append_nil, List.cons_append, Bool.or_self, Bool.or_true, Bool.or_false, Bool.true_or, Bool.false_or, Bool.and_true, Bool.true_and, Bool.not_true, Bool.not_false, Nat.reduceAdd, Nat.reduceMul, Nat.reduceSub, Nat.reduceLT, Nat.reduceLeDiff, Int.reduceToNat, List.all_cons, List.all_nil, List.map_cons, List.map_nil, List.set_cons_zero,  true_and, and_true, Int.natCast_nonneg, Int.le_refl, Nat.le_refl, Int.toNat_natCast, Nat.sub_zero,  List.drop_zero, List.drop_succ_cons, List.length_cons, List.length_nil,  List.set_cons_succ, and_self, decide_true, decide_false, Int.reduceLT, Int.reduceLE, Int.reduceEq, Int.reduceSub, Int.reduceAdd, Int.reduceMul, String.reduceEq, stK_eq, stV.eq_1, stR_some, stE_ag, stE_one, stE_whole, hid, bytesV_length, bytesV_get, Int.toNat_natCast, Int.natCast_nonneg, hb1, bV_cells]
    have h8 := u8_lt b[p]
    repeat (first | simp -implicitDefEqProofs only [XL, XM, TL, Option.isSome_some, Option.bind_some, Option.bind_none, Option.map_some, Option.map_none, Option.some.injEq, List.getElem?_cons_zero, List.getElem?_cons_succ, List.getElem?_toArray, List.toList_toArray, Nat.reduceEqDiff, if_true, if_false, ↓reduceIte, reduceCtorEq, Bool.false_eq_true, List.nil_append, List.append_nil, List.cons_append, Bool.or_self, Bool.or_true, Bool.or_false, Bool.true_or, Bool.false_or, Bool.and_true, Bool.true_and, Bool.not_true, Bool.not_false, Nat.reduceAdd, Nat.reduceMul, Nat.reduceSub, Nat.reduceLT, Nat.reduceLeDiff, Int.reduceToNat, List.all_cons, List.all_nil, List.map_cons, List.map_nil, List.set_cons_zero,  true_and, and_true, Int.natCast_nonneg, Int.le_refl, Nat.le_refl, Int.toNat_natCast, Nat.sub_zero,  List.drop_zero, List.drop_succ_cons, List.length_cons, List.length_nil,  List.set_cons_succ, and_self, decide_true, decide_false, Int.reduceLT, Int.reduceLE, Int.reduceEq, Int.reduceSub, Int.reduceAdd, Int.reduceMul, String.reduceEq, stK_eq, stV.eq_1, stR_some, stE_ag, stE_one, stE_whole] | simp (disch := omega) only [ifp, ifn, wrap_i64, wrap_u8, wrap_i32, wrap_u64, wrap_u32, Int.tdiv_eq_ediv_of_nonneg, Int.tmod_eq_emod_of_nonneg])
    have e : nx b p = (b[p].toNat, p + 1) := by unfold nx; rw [if_pos hb]; simp [List.getD, hb1]
    rw [e]
    refine RetK_pure (.refl _) rfl
end Go.X
end

section
open Go Go.Proofs
namespace Go.X
set_option linter.unusedSimpArgs false
set_option maxRecDepth 10000

theorem nx_lt (b : List UInt8) (p : Nat) : (nx b p).1 < 256 := by
  unfold nx; split
  · exact UInt8.toNat_lt _
  · simp
def wordsT : List (List UInt8) := [[], [97], [98, 55], [80, 97, 99, 107, 32, 195, 165], [226, 130, 172], [240, 159, 152, 128, 120], [116, 97, 98, 9, 110, 101, 119, 10], [34, 113, 92], [100, 111, 99, 107], [127], [65, 49], [122]]

theorem drawText_spec (G : Gl) (h : H) (id : Nat) (b : List UInt8) (p : Nat) (hid : h id = some (rdO b p)) (hp : p ≤ 1000) :
    XCalls Tryz.prog G 45 [.ptr id 0 0] h (fun o h' => o = .ret (.im 1 (bytesV (wordsT.getD ((nx b p).1 % 12) []))) ∧ h' = h.set id (rdO b (nx b p).2)) := by
  have hn := nx_lt b p
  refine enterK (rs := [.tmp 2]) Tryz.func45 (by kernel_rfl) rfl rfl (by kernel_rfl) rfl (Nat.le_of_ble_eq_true rfl) (fun hbd => ?_)
  simp -implicitDefEqProofs only [XL, XM, TL, Option.isSome_some, Option.bind_some, Option.bind_none, Option.map_some, Option.map_none, Option.some.injEq, List.getElem?_cons_zero, List.getElem?_cons_succ, List.getElem?_toArray, List.toList_toArray, Nat.reduceEqDiff, if_true, if_false, ↓reduceIte, reduceCtorEq, Bool.false_eq_true, List.nil_append, List.append_nil, List.cons_append, Bool.or_self, Bool.or_true, Bool.or_false, Bool.true_or, Bool.false_or, Bool.and_true, Bool.true_and, Bool.not_true, Bool.not_false, Nat.reduceAdd, Nat.reduceMul, Nat.reduceSub, Nat.reduceLT, Nat.reduceLeDiff, Int.reduceToNat, List.all_cons, List.all_nil, List.map_cons, List.map_nil, List.set_cons_zero,  true_and, and_true, Int.natCast_nonneg, Int.le_refl, Nat.le_refl, Int.toNat_natCast, Nat.sub_zero,  List.drop_zero, List.drop_succ_cons, List.length_cons, List.length_nil,  List.set_cons_succ, and_self, decide_true, decide_false, Int.reduceLT, Int.reduceLE, Int.reduceEq, Int.reduceSub, Int.reduceAdd, Int.reduceMul, String.reduceEq, stK_eq, stV.eq_1, stR_some, stE_ag, stE_one, stE_whole]
  refine call_eq (next_spec G h id b p hid hp) ?_
  repeat (first | simp -implicitDefEqProofs only [XL, XM, TL, Option.isSome_some, Option.bind_some, Option.bind_none, Option.map_some, Option.map_none, Option.some.injEq, List.getElem?_cons_zero, List.getElem?_cons_succ, List.getElem?_toArray, List.toList_toArray, Nat.reduceEqDiff, if_true, if_false, ↓reduceIte, reduceCtorEq, Bool.false_eq_true, List.nil_append, List.append_nil, List.cons_append, Bool.or_self, Bool.or_true, Bool.or_false, Bool.true_or, Bool.false_or, Bool.and_true, Bool.true_and, Bool.not_true, Bool.not_false, Nat.reduceAdd, Nat.reduceMul, Nat.reduceSub, Nat.reduceLT, Nat.reduceLeDiff, Int.reduceToNat, List.all_cons, List.all_nil, List.map_cons, List.map_nil, List.set_cons_zero,  true_and, and_true, Int.natCast_nonneg, Int.le_refl, Nat.le_refl, Int.toNat_natCast, Nat.sub_zero,  List.drop_zero, List.drop_succ_cons, List.length_cons, List.length_nil,  List.set_cons_succ, and_self, decide_true, decide_false, Int.reduceLT, Int.reduceLE, Int.reduceEq, Int.reduceSub, Int.reduceAdd, Int.reduceMul, String.reduceEq, stK_eq, stV.eq_1, stR_some, stE_ag, stE_one, stE_whole] | simp (disch := omega) only [ifp, ifn, wrap_i64, wrap_u8, wrap_i32, wrap_u64, wrap_u32, Int.tdiv_eq_ediv_of_nonneg, Int.tmod_eq_emod_of_nonneg])
  refine bslK_intro (by simp -implicitDefEqProofs only [XL, XM, TL, Option.isSome_some, Option.bind_some, Option.bind_none, Option.map_some, Option.map_none, Option.some.injEq, List.getElem?_cons_zero, List.getElem?_cons_succ, List.getElem?_toArray, List.toList_toArray, Nat.reduceEqDiff, if_true, if_false, ↓reduceIte, reduceCtorEq, Bool.false_eq_true, List.nil_append, List.append_nil, List.cons_append, Bool.or_self, Bool.or_true, Bool.or_false, Bool.true_or, Bool.false_or, Bool.and_true, Bool.true_and, Bool.not_true, Bool.not_false, Nat.reduceAdd, Nat.reduceMul, Nat.reduceSub, Nat.reduceLT, Nat.reduceLeDiff, Int.reduceToNat, List.all_cons, List.all_nil, List.map_cons, List.map_nil, List.set_cons_zero,  true_and, and_true, Int.natCast_nonneg, Int.le_refl, Nat.le_refl, Int.toNat_natCast, Nat.sub_zero,  List.drop_zero, List.drop_succ_cons, List.length_cons, List.length_nil,  List.set_cons_succ, and_self, decide_true, decide_false, Int.reduceLT, Int.reduceLE, Int.reduceEq, Int.reduceSub, Int.reduceAdd, Int.reduceMul, String.reduceEq, stK_eq, stV.eq_1, stR_some, stE_ag, stE_one, stE_whole]; rfl) rfl (by simp [V.fits, V.cells]) (by simp) (fun id2 hid2 => ?_)
  have hk : (nx b p).1 % 12 < 12 := Nat.mod_lt _ (by omega)
  have hc : (0 : Int) ≤ ((nx b p).1 : Int) % 12 ∧ ((nx b p).1 : Int) % 12 < 12 := by omega
  have hk2 : ((nx b p).1 : Int) % 12 = (((nx b p).1 % 12 : Nat) : Int) := by omega
  generalize hkk : (nx b p).1 % 12 = kk at *
  rw [hk2] at hc ⊢
  change K _ _ _ (H.set _ id2 (.row 1 (wordsT.map V.s)))
  have hw : wordsT[kk]? = some (wordsT.getD kk []) := by
    rw [List.getD_eq_getElem?_getD]
    have : kk < wordsT.length := hk
    rw [List.getElem?_eq_getElem this]; rfl
  have chk_ : True ∧ True := by simp only [and_self, hc, hw, List.getElem?_map, Nat.zero_add]
  clear chk_
  repeat (first | simp -implicitDefEqProofs only [XL, XM, TL, Option.isSome_some, Option.bind_some, Option.bind_none, Option.map_some, Option.map_none, Option.some.injEq, List.getElem?_cons_zero, List.getElem?_cons_succ, List.getElem?_toArray, List.toList_toArray, Nat.reduceEqDiff, if_true, if_false, ↓reduceIte, reduceCtorEq, Bool.false_eq_true, List.nil_append, List.append_nil, List.cons_append, Bool.or_self, Bool.or_true, Bool.or_false, Bool.true_or, Bool.false_or, Bool.and_true, Bool.true_and, Bool.not_true, Bool.not_false, Nat.reduceAdd, Nat.reduceMul, Nat.reduceSub, Nat.reduceLT, Nat.reduceLeDiff, Int.reduceToNat, List.all_cons, List.all_nil, List.map_cons, List.map_nil, List.set_cons_zero,  true_and, and_true, Int.natCast_nonneg, Int.le_refl, Nat.le_refl, Int.toNat_natCast, Nat.sub_zero,  List.drop_zero, List.drop_succ_cons, List.length_cons, List.length_nil,  List.set_cons_succ, and_self, decide_true, decide_false, Int.reduceLT, Int.reduceLE, Int.reduceEq, Int.reduceSub, Int.reduceAdd, Int.reduceMul, String.reduceEq, stK_eq, stV.eq_1, stR_some, stE_ag, stE_one, stE_whole, hc, hw, List.getElem?_map, Nat.zero_add] | simp (disch := omega) only [ifp, ifn, wrap_i64, wrap_u8, wrap_i32, wrap_u64, wrap_u32, Int.tdiv_eq_ediv_of_nonneg, Int.tmod_eq_emod_of_nonneg])
  refine conv_strBytes (by simp -implicitDefEqProofs only [XL, XM, TL, Option.isSome_some, Option.bind_some, Option.bind_none, Option.map_some, Option.map_none, Option.some.injEq, List.getElem?_cons_zero, List.getElem?_cons_succ, List.getElem?_toArray, List.toList_toArray, Nat.reduceEqDiff, if_true, if_false, ↓reduceIte, reduceCtorEq, Bool.false_eq_true, List.nil_append, List.append_nil, List.cons_append, Bool.or_self, Bool.or_true, Bool.or_false, Bool.true_or, Bool.false_or, Bool.and_true, Bool.true_and, Bool.not_true, Bool.not_false, Nat.reduceAdd, Nat.reduceMul, Nat.reduceSub, Nat.reduceLT, Nat.reduceLeDiff, Int.reduceToNat, List.all_cons, List.all_nil, List.map_cons, List.map_nil, List.set_cons_zero,  true_and, and_true, Int.natCast_nonneg, Int.le_refl, Nat.le_refl, Int.toNat_natCast, Nat.sub_zero,  List.drop_zero, List.drop_succ_cons, List.length_cons, List.length_nil,  List.set_cons_succ, and_self, decide_true, decide_false, Int.reduceLT, Int.reduceLE, Int.reduceEq, Int.reduceSub, Int.reduceAdd, Int.reduceMul, String.reduceEq, stK_eq, stV.eq_1, stR_some, stE_ag, stE_one, stE_whole]) (by simp -implicitDefEqProofs only [XL, XM, TL, Option.isSome_some, Option.bind_some, Option.bind_none, Option.map_some, Option.map_none, Option.some.injEq, List.getElem?_cons_zero, List.getElem?_cons_succ, List.getElem?_toArray, List.toList_toArray, Nat.reduceEqDiff, if_true, if_false, ↓reduceIte, reduceCtorEq, Bool.false_eq_true, List.nil_append, List.append_nil, List.cons_append, Bool.or_self, Bool.or_true, Bool.or_false, Bool.true_or, Bool.false_or, Bool.and_true, Bool.true_and, Bool.not_true, Bool.not_false, Nat.reduceAdd, Nat.reduceMul, Nat.reduceSub, Nat.reduceLT, Nat.reduceLeDiff, Int.reduceToNat, List.all_cons, List.all_nil, List.map_cons, List.map_nil, List.set_cons_zero,  true_and, and_true, Int.natCast_nonneg, Int.le_refl, Nat.le_refl, Int.toNat_natCast, Nat.sub_zero,  List.drop_zero, List.drop_succ_cons, List.length_cons, List.length_nil,  List.set_cons_succ, and_self, decide_true, decide_false, Int.reduceLT, Int.reduceLE, Int.reduceEq, Int.reduceSub, Int.reduceAdd, Int.reduceMul, String.reduceEq, stK_eq, stV.eq_1, stR_some, stE_ag, stE_one, stE_whole]; rfl) (by simp -implicitDefEqProofs only [XL, XM, TL, Option.isSome_some, Option.bind_some, Option.bind_none, Option.map_some, Option.map_none, Option.some.injEq, List.getElem?_cons_zero, List.getElem?_cons_succ, List.getElem?_toArray, List.toList_toArray, Nat.reduceEqDiff, if_true, if_false, ↓reduceIte, reduceCtorEq, Bool.false_eq_true, List.nil_append, List.append_nil, List.cons_append, Bool.or_self, Bool.or_true, Bool.or_false, Bool.true_or, Bool.false_or, Bool.and_true, Bool.true_and, Bool.not_true, Bool.not_false, Nat.reduceAdd, Nat.reduceMul, Nat.reduceSub, Nat.reduceLT, Nat.reduceLeDiff, Int.reduceToNat, List.all_cons, List.all_nil, List.map_cons, List.map_nil, List.set_cons_zero,  true_and, and_true, Int.natCast_nonneg, Int.le_refl, Nat.le_refl, Int.toNat_natCast, Nat.sub_zero,  List.drop_zero, List.drop_succ_cons, List.length_cons, List.length_nil,  List.set_cons_succ, and_self, decide_true, decide_false, Int.reduceLT, Int.reduceLE, Int.reduceEq, Int.reduceSub, Int.reduceAdd, Int.reduceMul, String.reduceEq, stK_eq, stV.eq_1, stR_some, stE_ag, stE_one, stE_whole]) (by simp -implicitDefEqProofs only [XL, XM, TL, Option.isSome_some, Option.bind_some, Option.bind_none, Option.map_some, Option.map_none, Option.some.injEq, List.getElem?_cons_zero, List.getElem?_cons_succ, List.getElem?_toArray, List.toList_toArray, Nat.reduceEqDiff, if_true, if_false, ↓reduceIte, reduceCtorEq, Bool.false_eq_true, List.nil_append, List.append_nil, List.cons_append, Bool.or_self, Bool.or_true, Bool.or_false, Bool.true_or, Bool.false_or, Bool.and_true, Bool.true_and, Bool.not_true, Bool.not_false, Nat.reduceAdd, Nat.reduceMul, Nat.reduceSub, Nat.reduceLT, Nat.reduceLeDiff, Int.reduceToNat, List.all_cons, List.all_nil, List.map_cons, List.map_nil, List.set_cons_zero,  true_and, and_true, Int.natCast_nonneg, Int.le_refl, Nat.le_refl, Int.toNat_natCast, Nat.sub_zero,  List.drop_zero, List.drop_succ_cons, List.length_cons, List.length_nil,  List.set_cons_succ, and_self, decide_true, decide_false, Int.reduceLT, Int.reduceLE, Int.reduceEq, Int.reduceSub, Int.reduceAdd, Int.reduceMul, String.reduceEq, stK_eq, stV.eq_1, stR_some, stE_ag, stE_one, stE_whole]) (fun id3 hid4 => ?_)
  simp -implicitDefEqProofs only [XL, XM, TL, Option.isSome_some, Option.bind_some, Option.bind_none, Option.map_some, Option.map_none, Option.some.injEq, List.getElem?_cons_zero, List.getElem?_cons_succ, List.getElem?_toArray, List.toList_toArray, Nat.reduceEqDiff, if_true, if_false, ↓reduceIte, reduceCtorEq, Bool.false_eq_true, List.nil_append, List.append_nil, List.cons_append, Bool.or_self, Bool.or_true, Bool.or_false, Bool.true_or, Bool.false_or, Bool.and_true, Bool.true_and, Bool.not_true, Bool.not_false, Nat.reduceAdd, Nat.reduceMul, Nat.reduceSub, Nat.reduceLT, Nat.reduceLeDiff, Int.reduceToNat, List.all_cons, List.all_nil, List.map_cons, List.map_nil, List.set_cons_zero,  true_and, and_true, Int.natCast_nonneg, Int.le_refl, Nat.le_refl, Int.toNat_natCast, Nat.sub_zero,  List.drop_zero, List.drop_succ_cons, List.length_cons, List.length_nil,  List.set_cons_succ, and_self, decide_true, decide_false, Int.reduceLT, Int.reduceLE, Int.reduceEq, Int.reduceSub, Int.reduceAdd, Int.reduceMul, String.reduceEq, stK_eq, stV.eq_1, stR_some, stE_ag, stE_one, stE_whole]
  refine RetK_prow (by simp only [set_eq, if_true]; rfl) (by simp) (Sub.of_set (Sub.of_set (.refl _) hid2) (fs hid4)) (fs hid4) ?_
  rw [List.drop_zero, List.take_of_length_le (by simp)]; rfl

def textsF (b : List UInt8) : Nat → Nat → List UInt8 × Nat
  | 0, p => ([], p)
  | n + 1, p => (wordsT.getD ((nx b p).1 % 12) [] ++ (textsF b n (nx b p).2).1, (textsF b n (nx b p).2).2)

theorem nx_le (b : List UInt8) (p : Nat) : (nx b p).2 ≤ p + 1 := by unfold nx; split <;> simp
theorem word_len (k : Nat) : (wordsT.getD (k % 12) []).length ≤ 8 := by
  have : k % 12 < 12 := Nat.mod_lt _ (by omega)
  generalize k % 12 = j at this
  have : ∀ j < 12, (wordsT.getD j []).length ≤ 8 := by decide
  exact this j ‹_›
theorem textsF_len (b : List UInt8) (n p : Nat) : (textsF b n p).1.length ≤ 8 * n := by
  induction n generalizing p with
  | zero => simp [textsF]
  | succ n ih =>
    simp only [textsF, List.length_append]
    have := ih (nx b p).2
    have := word_len (nx b p).1
    omega
theorem textsF_le (b : List UInt8) (n p : Nat) : (textsF b n p).2 ≤ p + n := by
  induction n generalizing p with
  | zero => simp [textsF]
  | succ n ih =>
    simp only [textsF]
    have := ih (nx b p).2
    have := nx_le b p
    omega

theorem texts_spec (G : Gl) (h : H) (id : Nat) (b : List UInt8) (p : Nat) (hid : h id = some (rdO b p)) (hp : p ≤ 500) :
    XCalls Tryz.prog G 28 [.ptr id 0 0] h (fun o h' => o = .ret (.im 1 (bytesV (textsF b ((nx b p).1 % 6) (nx b p).2).1)) ∧ h' = h.set id (rdO b (textsF b ((nx b p).1 % 6) (nx b p).2).2)) := by
  have hn := nx_lt b p
  refine enterK (rs := [.tmp 2]) Tryz.func28 (by kernel_rfl) rfl rfl (by kernel_rfl) rfl (Nat.le_of_ble_eq_true rfl) (fun hbd => ?_)
  simp -implicitDefEqProofs only [XL, XM, TL, Option.isSome_some, Option.bind_some, Option.bind_none, Option.map_some, Option.map_none, Option.some.injEq, List.getElem?_cons_zero, List.getElem?_cons_succ, List.getElem?_toArray, List.toList_toArray, Nat.reduceEqDiff, if_true, if_false, ↓reduceIte, reduceCtorEq, Bool.false_eq_true, List.nil_append, List.append_nil, List.cons_append, Bool.or_self, Bool.or_true, Bool.or_false, Bool.true_or, Bool.false_or, Bool.and_true, Bool.true_and, Bool.not_true, Bool.not_false, Nat.reduceAdd, Nat.reduceMul, Nat.reduceSub, Nat.reduceLT, Nat.reduceLeDiff, Int.reduceToNat, List.all_cons, List.all_nil, List.map_cons, List.map_nil, List.set_cons_zero,  true_and, and_true, Int.natCast_nonneg, Int.le_refl, Nat.le_refl, Int.toNat_natCast, Nat.sub_zero,  List.drop_zero, List.drop_succ_cons, List.length_cons, List.length_nil,  List.set_cons_succ, and_self, decide_true, decide_false, Int.reduceLT, Int.reduceLE, Int.reduceEq, Int.reduceSub, Int.reduceAdd, Int.reduceMul, String.reduceEq, stK_eq, stV.eq_1, stR_some, stE_ag, stE_one, stE_whole]
  refine call_eq (next_spec G h id b p hid (by omega)) ?_
  repeat (first | simp -implicitDefEqProofs only [XL, XM, TL, Option.isSome_some, Option.bind_some, Option.bind_none, Option.map_some, Option.map_none, Option.some.injEq, List.getElem?_cons_zero, List.getElem?_cons_succ, List.getElem?_toArray, List.toList_toArray, Nat.reduceEqDiff, if_true, if_false, ↓reduceIte, reduceCtorEq, Bool.false_eq_true, List.nil_append, List.append_nil, List.cons_append, Bool.or_self, Bool.or_true, Bool.or_false, Bool.true_or, Bool.false_or, Bool.and_true, Bool.true_and, Bool.not_true, Bool.not_false, Nat.reduceAdd, Nat.reduceMul, Nat.reduceSub, Nat.reduceLT, Nat.reduceLeDiff, Int.reduceToNat, List.all_cons, List.all_nil, List.map_cons, List.map_nil, List.set_cons_zero,  true_and, and_true, Int.natCast_nonneg, Int.le_refl, Nat.le_refl, Int.toNat_natCast, Nat.sub_zero,  List.drop_zero, List.drop_succ_cons, List.length_cons, List.length_nil,  List.set_cons_succ, and_self, decide_true, decide_false, Int.reduceLT, Int.reduceLE, Int.reduceEq, Int.reduceSub, Int.reduceAdd, Int.reduceMul, String.reduceEq, stK_eq, stV.eq_1, stR_some, stE_ag, stE_one, stE_whole] | simp (disch := omega) only [ifp, ifn, wrap_i64, wrap_u8, wrap_i32, wrap_u64, wrap_u32, Int.tdiv_eq_ediv_of_nonneg, Int.tmod_eq_emod_of_nonneg])
  have hk : (nx b p).1 % 6 < 6 := Nat.mod_lt _ (by omega)
  have hk2 : ((nx b p).1 : Int) % 6 = (((nx b p).1 % 6 : Nat) : Int) := by omega
  have hp1 := nx_le b p
  generalize hkk : (nx b p).1 % 6 = n at *
  generalize hpp : (nx b p).2 = p1 at *
  rw [hk2]
  refine loopK_intro (fun (s : Nat × List UInt8 × Nat) a h' => a 0 = some (.ptr id 0 0) ∧ a 4 = some (.i .i64 n) ∧ a 5 = some (.i .i64 s.1) ∧ s.1 ≤ n ∧ (textsF b (n - s.1) s.2.2).2 = (textsF b n p1).2 ∧ s.2.1 ++ (textsF b (n - s.1) s.2.2).1 = (textsF b n p1).1 ∧ s.2.2 ≤ p1 + s.1 ∧ ∃ v, a 3 = some v ∧ Buf 1 (h.set id (rdO b s.2.2)) h' v (bytesV s.2.1)) (fun s => n - s.1) (0, [], p1) ⟨rfl, rfl, rfl, Nat.zero_le _, rfl, rfl, Nat.le_refl _, .nil, rfl, Buf.nil _ _⟩ ?_
  rintro ⟨j, acc, q⟩ a h' ⟨h0, h4, h5, hj, ht2, ht1, hq, v, h3, hbuf⟩
  simp only at h0 h4 h5 hj ht2 ht1 hq h3 hbuf
  simp -implicitDefEqProofs only [XL, XM, TL, Option.isSome_some, Option.bind_some, Option.bind_none, Option.map_some, Option.map_none, Option.some.injEq, List.getElem?_cons_zero, List.getElem?_cons_succ, List.getElem?_toArray, List.toList_toArray, Nat.reduceEqDiff, if_true, if_false, ↓reduceIte, reduceCtorEq, Bool.false_eq_true, List.nil_append, List.append_nil, List.cons_append, Bool.or_self, Bool.or_true, Bool.or_false, Bool.true_or, Bool.false_or, Bool.and_true, Bool.true_and, Bool.not_true, Bool.not_false, Nat.reduceAdd, Nat.reduceMul, Nat.reduceSub, Nat.reduceLT, Nat.reduceLeDiff, Int.reduceToNat, List.all_cons, List.all_nil, List.map_cons, List.map_nil, List.set_cons_zero,  true_and, and_true, Int.natCast_nonneg, Int.le_refl, Nat.le_refl, Int.toNat_natCast, Nat.sub_zero,  List.drop_zero, List.drop_succ_cons, List.length_cons, List.length_nil,  List.set_cons_succ, and_self, decide_true, decide_false, Int.reduceLT, Int.reduceLE, Int.reduceEq, Int.reduceSub, Int.reduceAdd, Int.reduceMul, String.reduceEq, stK_eq, stV.eq_1, stR_some, stE_ag, stE_one, stE_whole, h0, h4, h5, h3]
  refine BrK_intro (fun hb => ?_) (fun hb => ?_)
  · simp at hb
    simp -implicitDefEqProofs only [XL, XM, TL, Option.isSome_some, Option.bind_some, Option.bind_none, Option.map_some, Option.map_none, Option.some.injEq, List.getElem?_cons_zero, List.getElem?_cons_succ, List.getElem?_toArray, List.toList_toArray, Nat.reduceEqDiff, if_true, if_false, ↓reduceIte, reduceCtorEq, Bool.false_eq_true, List.nil_append, List.append_nil, List.cons_append, Bool.or_self, Bool.or_true, Bool.or_false, Bool.true_or, Bool.false_or, Bool.and_true, Bool.true_and, Bool.not_true, Bool.not_false, Nat.reduceAdd, Nat.reduceMul, Nat.reduceSub, Nat.reduceLT, Nat.reduceLeDiff, Int.reduceToNat, List.all_cons, List.all_nil, List.map_cons, List.map_nil, List.set_cons_zero,  true_and, and_true, Int.natCast_nonneg, Int.le_refl, Nat.le_refl, Int.toNat_natCast, Nat.sub_zero,  List.drop_zero, List.drop_succ_cons, List.length_cons, List.length_nil,  List.set_cons_succ, and_self, decide_true, decide_false, Int.reduceLT, Int.reduceLE, Int.reduceEq, Int.reduceSub, Int.reduceAdd, Int.reduceMul, String.reduceEq, stK_eq, stV.eq_1, stR_some, stE_ag, stE_one, stE_whole, h0, h3]
    have hidq : h.set id (rdO b q) id = some (rdO b q) := by simp [H.set]
    refine call_eq (drawText_spec G h' id b q (hbuf.get hidq) (by omega)) ?_
    have hbuf' := hbuf.set hidq (rdO b (nx b q).2)
    rw [set_set] at hbuf'
    have hwl := word_len (nx b q).1
    simp -implicitDefEqProofs only [XL, XM, TL, Option.isSome_some, Option.bind_some, Option.bind_none, Option.map_some, Option.map_none, Option.some.injEq, List.getElem?_cons_zero, List.getElem?_cons_succ, List.getElem?_toArray, List.toList_toArray, Nat.reduceEqDiff, if_true, if_false, ↓reduceIte, reduceCtorEq, Bool.false_eq_true, List.nil_append, List.append_nil, List.cons_append, Bool.or_self, Bool.or_true, Bool.or_false, Bool.true_or, Bool.false_or, Bool.and_true, Bool.true_and, Bool.not_true, Bool.not_false, Nat.reduceAdd, Nat.reduceMul, Nat.reduceSub, Nat.reduceLT, Nat.reduceLeDiff, Int.reduceToNat, List.all_cons, List.all_nil, List.map_cons, List.map_nil, List.set_cons_zero,  true_and, and_true, Int.natCast_nonneg, Int.le_refl, Nat.le_refl, Int.toNat_natCast, Nat.sub_zero,  List.drop_zero, List.drop_succ_cons, List.length_cons, List.length_nil,  List.set_cons_succ, and_self, decide_true, decide_false, Int.reduceLT, Int.reduceLE, Int.reduceEq, Int.reduceSub, Int.reduceAdd, Int.reduceMul, String.reduceEq, stK_eq, stV.eq_1, stR_some, stE_ag, stE_one, stE_whole, h3]
    have hacc : acc.length ≤ 48 := by
      have h1 := congrArg List.length ht1
      have h2 := textsF_len b n p1
      rw [List.length_append] at h1
      omega
    refine appK_buf hbuf' (by simp -implicitDefEqProofs only [XL, XM, TL, Option.isSome_some, Option.bind_some, Option.bind_none, Option.map_some, Option.map_none, Option.some.injEq, List.getElem?_cons_zero, List.getElem?_cons_succ, List.getElem?_toArray, List.toList_toArray, Nat.reduceEqDiff, if_true, if_false, ↓reduceIte, reduceCtorEq, Bool.false_eq_true, List.nil_append, List.append_nil, List.cons_append, Bool.or_self, Bool.or_true, Bool.or_false, Bool.true_or, Bool.false_or, Bool.and_true, Bool.true_and, Bool.not_true, Bool.not_false, Nat.reduceAdd, Nat.reduceMul, Nat.reduceSub, Nat.reduceLT, Nat.reduceLeDiff, Int.reduceToNat, List.all_cons, List.all_nil, List.map_cons, List.map_nil, List.set_cons_zero,  true_and, and_true, Int.natCast_nonneg, Int.le_refl, Nat.le_refl, Int.toNat_natCast, Nat.sub_zero,  List.drop_zero, List.drop_succ_cons, List.length_cons, List.length_nil,  List.set_cons_succ, and_self, decide_true, decide_false, Int.reduceLT, Int.reduceLE, Int.reduceEq, Int.reduceSub, Int.reduceAdd, Int.reduceMul, String.reduceEq, stK_eq, stV.eq_1, stR_some, stE_ag, stE_one, stE_whole]; rfl) rfl (by simp -implicitDefEqProofs only [XL, XM, TL, Option.isSome_some, Option.bind_some, Option.bind_none, Option.map_some, Option.map_none, Option.some.injEq, List.getElem?_cons_zero, List.getElem?_cons_succ, List.getElem?_toArray, List.toList_toArray, Nat.reduceEqDiff, if_true, if_false, ↓reduceIte, reduceCtorEq, Bool.false_eq_true, List.nil_append, List.append_nil, List.cons_append, Bool.or_self, Bool.or_true, Bool.or_false, Bool.true_or, Bool.false_or, Bool.and_true, Bool.true_and, Bool.not_true, Bool.not_false, Nat.reduceAdd, Nat.reduceMul, Nat.reduceSub, Nat.reduceLT, Nat.reduceLeDiff, Int.reduceToNat, List.all_cons, List.all_nil, List.map_cons, List.map_nil, List.set_cons_zero,  true_and, and_true, Int.natCast_nonneg, Int.le_refl, Nat.le_refl, Int.toNat_natCast, Nat.sub_zero,  List.drop_zero, List.drop_succ_cons, List.length_cons, List.length_nil,  List.set_cons_succ, and_self, decide_true, decide_false, Int.reduceLT, Int.reduceLE, Int.reduceEq, Int.reduceSub, Int.reduceAdd, Int.reduceMul, String.reduceEq, stK_eq, stV.eq_1, stR_some, stE_ag, stE_one, stE_whole]) (by decide) (by rw [bytesV_length, bytesV_length]; omega) (fun v' h'' hb'' => ?_)
    have chk_ : True ∧ True := by simp only [and_self, h5]
    clear chk_
    repeat (first | simp -implicitDefEqProofs only [XL, XM, TL, Option.isSome_some, Option.bind_some, Option.bind_none, Option.map_some, Option.map_none, Option.some.injEq, List.getElem?_cons_zero, List.getElem?_cons_succ, List.getElem?_toArray, List.toList_toArray, Nat.reduceEqDiff, if_true, if_false, ↓reduceIte, reduceCtorEq, Bool.false_eq_true, List.nil_append, List.append_nil, List.cons_append, Bool.or_self, Bool.or_true, Bool.or_false, Bool.true_or, Bool.false_or, Bool.and_true, Bool.true_and, Bool.not_true, Bool.not_false, Nat.reduceAdd, Nat.reduceMul, Nat.reduceSub, Nat.reduceLT, Nat.reduceLeDiff, Int.reduceToNat, List.all_cons, List.all_nil, List.map_cons, List.map_nil, List.set_cons_zero,  true_and, and_true, Int.natCast_nonneg, Int.le_refl, Nat.le_refl, Int.toNat_natCast, Nat.sub_zero,  List.drop_zero, List.drop_succ_cons, List.length_cons, List.length_nil,  List.set_cons_succ, and_self, decide_true, decide_false, Int.reduceLT, Int.reduceLE, Int.reduceEq, Int.reduceSub, Int.reduceAdd, Int.reduceMul, String.reduceEq, stK_eq, stV.eq_1, stR_some, stE_ag, stE_one, stE_whole, h5] | simp (disch := omega) only [ifp, ifn, wrap_i64, wrap_u8, wrap_i32, wrap_u64, wrap_u32, Int.tdiv_eq_ediv_of_nonneg, Int.tmod_eq_emod_of_nonneg])
    have e1 : n - j = (n - (j + 1)) + 1 := by omega
    rw [e1] at ht1 ht2
    simp only [textsF] at ht1 ht2
    have := nx_le b q
    refine LP.mk (j + 1, acc ++ wordsT.getD ((nx b q).1 % 12) [], (nx b q).2) (by simp only []; omega) ⟨h0, h4, rfl, by simp only []; omega, ht2, by simpa using ht1, by simp only []; omega, v', rfl, by simpa [bytesV] using hb''⟩
  · simp at hb
    simp -implicitDefEqProofs only [XL, XM, TL, Option.isSome_some, Option.bind_some, Option.bind_none, Option.map_some, Option.map_none, Option.some.injEq, List.getElem?_cons_zero, List.getElem?_cons_succ, List.getElem?_toArray, List.toList_toArray, Nat.reduceEqDiff, if_true, if_false, ↓reduceIte, reduceCtorEq, Bool.false_eq_true, List.nil_append, List.append_nil, List.cons_append, Bool.or_self, Bool.or_true, Bool.or_false, Bool.true_or, Bool.false_or, Bool.and_true, Bool.true_and, Bool.not_true, Bool.not_false, Nat.reduceAdd, Nat.reduceMul, Nat.reduceSub, Nat.reduceLT, Nat.reduceLeDiff, Int.reduceToNat, List.all_cons, List.all_nil, List.map_cons, List.map_nil, List.set_cons_zero,  true_and, and_true, Int.natCast_nonneg, Int.le_refl, Nat.le_refl, Int.toNat_natCast, Nat.sub_zero,  List.drop_zero, List.drop_succ_cons, List.length_cons, List.length_nil,  List.set_cons_succ, and_self, decide_true, decide_false, Int.reduceLT, Int.reduceLE, Int.reduceEq, Int.reduceSub, Int.reduceAdd, Int.reduceMul, String.reduceEq, stK_eq, stV.eq_1, stR_some, stE_ag, stE_one, stE_whole, h3]
    have hjn : n - j = 0 := by omega
    rw [hjn] at ht1 ht2
    simp only [textsF, List.append_nil] at ht1 ht2
    subst ht2; subst ht1
    exact RetK_buf hbuf rfl
end Go.X
end

section
open Go Go.Proofs
namespace Go.X
set_option linter.unusedSimpArgs false
set_option maxRecDepth 10000

def badT : List (List UInt8) := [[128], [192, 175], [237, 160, 128], [244, 144, 128, 128], [226, 130], [255], [240, 143, 191, 191]]
def spoilF (s b : List UInt8) (p : Nat) : List UInt8 := s.take ((nx b p).1 % (s.length + 1)) ++ badT.getD ((nx b p).1 % 7) [] ++ s.drop ((nx b p).1 % (s.length + 1))

theorem spoil_spec (G : Gl) (h : H) (id : Nat) (s b : List UInt8) (p : Nat) (hid : h id = some (rdO b p)) (hp : p ≤ 900) (hs : s.length ≤ 1000) :
    XCalls Tryz.prog G 29 [.im 1 (bytesV s), .ptr id 0 0] h (fun o h' => o = .ret (.im 1 (bytesV (spoilF s b p))) ∧ h' = h.set id (rdO b (nx b p).2)) := by
  have hn := nx_lt b p
  refine enterK (rs := [.tmp 4]) Tryz.func29 (by kernel_rfl) rfl rfl (by kernel_rfl) rfl (Nat.le_of_ble_eq_true rfl) (fun hbd => ?_)
  simp -implicitDefEqProofs only [XL, XM, TL, Option.isSome_some, Option.bind_some, Option.bind_none, Option.map_some, Option.map_none, Option.some.injEq, List.getElem?_cons_zero, List.getElem?_cons_succ, List.getElem?_toArray, List.toList_toArray, Nat.reduceEqDiff, if_true, if_false, ↓reduceIte, reduceCtorEq, Bool.false_eq_true, List.nil_append, List.append_nil, List.cons_append, Bool.or_self, Bool.or_true, Bool.or_false, Bool.true_or, Bool.false_or, Bool.and_true, Bool.true_and, Bool.not_true, Bool.not_false, Nat.reduceAdd, Nat.reduceMul, Nat.reduceSub, Nat.reduceLT, Nat.reduceLeDiff, Int.reduceToNat, List.all_cons, List.all_nil, List.map_cons, List.map_nil, List.set_cons_zero,  true_and, and_true, Int.natCast_nonneg, Int.le_refl, Nat.le_refl, Int.toNat_natCast, Nat.sub_zero,  List.drop_zero, List.drop_succ_cons, List.length_cons, List.length_nil,  List.set_cons_succ, and_self, decide_true, decide_false, Int.reduceLT, Int.reduceLE, Int.reduceEq, Int.reduceSub, Int.reduceAdd, Int.reduceMul, String.reduceEq, stK_eq, stV.eq_1, stR_some, stE_ag, stE_one, stE_whole]
  refine call_eq (next_spec G h id b p hid (by omega)) ?_
  simp -implicitDefEqProofs only [XL, XM, TL, Option.isSome_some, Option.bind_some, Option.bind_none, Option.map_some, Option.map_none, Option.some.injEq, List.getElem?_cons_zero, List.getElem?_cons_succ, List.getElem?_toArray, List.toList_toArray, Nat.reduceEqDiff, if_true, if_false, ↓reduceIte, reduceCtorEq, Bool.false_eq_true, List.nil_append, List.append_nil, List.cons_append, Bool.or_self, Bool.or_true, Bool.or_false, Bool.true_or, Bool.false_or, Bool.and_true, Bool.true_and, Bool.not_true, Bool.not_false, Nat.reduceAdd, Nat.reduceMul, Nat.reduceSub, Nat.reduceLT, Nat.reduceLeDiff, Int.reduceToNat, List.all_cons, List.all_nil, List.map_cons, List.map_nil, List.set_cons_zero,  true_and, and_true, Int.natCast_nonneg, Int.le_refl, Nat.le_refl, Int.toNat_natCast, Nat.sub_zero,  List.drop_zero, List.drop_succ_cons, List.length_cons, List.length_nil,  List.set_cons_succ, and_self, decide_true, decide_false, Int.reduceLT, Int.reduceLE, Int.reduceEq, Int.reduceSub, Int.reduceAdd, Int.reduceMul, String.reduceEq, stK_eq, stV.eq_1, stR_some, stE_ag, stE_one, stE_whole]
  refine bslK_intro (by simp -implicitDefEqProofs only [XL, XM, TL, Option.isSome_some, Option.bind_some, Option.bind_none, Option.map_some, Option.map_none, Option.some.injEq, List.getElem?_cons_zero, List.getElem?_cons_succ, List.getElem?_toArray, List.toList_toArray, Nat.reduceEqDiff, if_true, if_false, ↓reduceIte, reduceCtorEq, Bool.false_eq_true, List.nil_append, List.append_nil, List.cons_append, Bool.or_self, Bool.or_true, Bool.or_false, Bool.true_or, Bool.false_or, Bool.and_true, Bool.true_and, Bool.not_true, Bool.not_false, Nat.reduceAdd, Nat.reduceMul, Nat.reduceSub, Nat.reduceLT, Nat.reduceLeDiff, Int.reduceToNat, List.all_cons, List.all_nil, List.map_cons, List.map_nil, List.set_cons_zero,  true_and, and_true, Int.natCast_nonneg, Int.le_refl, Nat.le_refl, Int.toNat_natCast, Nat.sub_zero,  List.drop_zero, List.drop_succ_cons, List.length_cons, List.length_nil,  List.set_cons_succ, and_self, decide_true, decide_false, Int.reduceLT, Int.reduceLE, Int.reduceEq, Int.reduceSub, Int.reduceAdd, Int.reduceMul, String.reduceEq, stK_eq, stV.eq_1, stR_some, stE_ag, stE_one, stE_whole]; rfl) rfl (by simp [V.fits, V.cells]) (by simp) (fun id2 hid2 => ?_)
  change K _ _ _ (H.set _ id2 (.row 1 (badT.map V.s)))
  simp -implicitDefEqProofs only [XL, XM, TL, Option.isSome_some, Option.bind_some, Option.bind_none, Option.map_some, Option.map_none, Option.some.injEq, List.getElem?_cons_zero, List.getElem?_cons_succ, List.getElem?_toArray, List.toList_toArray, Nat.reduceEqDiff, if_true, if_false, ↓reduceIte, reduceCtorEq, Bool.false_eq_true, List.nil_append, List.append_nil, List.cons_append, Bool.or_self, Bool.or_true, Bool.or_false, Bool.true_or, Bool.false_or, Bool.and_true, Bool.true_and, Bool.not_true, Bool.not_false, Nat.reduceAdd, Nat.reduceMul, Nat.reduceSub, Nat.reduceLT, Nat.reduceLeDiff, Int.reduceToNat, List.all_cons, List.all_nil, List.map_cons, List.map_nil, List.set_cons_zero,  true_and, and_true, Int.natCast_nonneg, Int.le_refl, Nat.le_refl, Int.toNat_natCast, Nat.sub_zero,  List.drop_zero, List.drop_succ_cons, List.length_cons, List.length_nil,  List.set_cons_succ, and_self, decide_true, decide_false, Int.reduceLT, Int.reduceLE, Int.reduceEq, Int.reduceSub, Int.reduceAdd, Int.reduceMul, String.reduceEq, stK_eq, stV.eq_1, stR_some, stE_ag, stE_one, stE_whole, bytesV_length]
  intro _
  unfold spoilF
  generalize hv : (nx b p).1 = kv at *
  have e1 : IntKind.i64.wrap ((s.length : Int) + 1) = ((s.length + 1 : Nat) : Int) := by rw [wrap_i64 (by omega) (by omega)]; omega
  have e2 : ¬ ((s.length + 1 : Nat) : Int) = 0 := by omega
  have e3 : (kv : Int).tmod ((s.length + 1 : Nat) : Int) = ((kv % (s.length + 1) : Nat) : Int) := by rw [Int.tmod_eq_emod_of_nonneg (by omega)]; rfl
  have e4 : (kv : Int).tmod 7 = ((kv % 7 : Nat) : Int) := by rw [Int.tmod_eq_emod_of_nonneg (by omega)]; rfl
  have hat : kv % (s.length + 1) < s.length + 1 := Nat.mod_lt _ (by omega)
  have hk7 : kv % 7 < 7 := Nat.mod_lt _ (by omega)
  generalize hatt : kv % (s.length + 1) = at_ at *
  generalize hk77 : kv % 7 = k7 at *
  have hw : badT[k7]? = some (badT.getD k7 []) := by
    rw [List.getD_eq_getElem?_getD]
    have : k7 < badT.length := hk7
    rw [List.getElem?_eq_getElem this]; rfl
  have hbl : (badT.getD k7 []).length ≤ 4 := by
    have : ∀ j < 7, (badT.getD j []).length ≤ 4 := by decide
    exact this k7 hk7
  have h2 : (0 : Int) ≤ (at_ : Int) ∧ (at_ : Int) ≤ (s.length : Int) := by omega
  have chk_ : True ∧ True := by simp only [and_self, e1, e2, e3, e4, bytesV_length, h2, bytesV_take]
  clear chk_
  repeat (first | simp -implicitDefEqProofs only [XL, XM, TL, Option.isSome_some, Option.bind_some, Option.bind_none, Option.map_some, Option.map_none, Option.some.injEq, List.getElem?_cons_zero, List.getElem?_cons_succ, List.getElem?_toArray, List.toList_toArray, Nat.reduceEqDiff, if_true, if_false, ↓reduceIte, reduceCtorEq, Bool.false_eq_true, List.nil_append, List.append_nil, List.cons_append, Bool.or_self, Bool.or_true, Bool.or_false, Bool.true_or, Bool.false_or, Bool.and_true, Bool.true_and, Bool.not_true, Bool.not_false, Nat.reduceAdd, Nat.reduceMul, Nat.reduceSub, Nat.reduceLT, Nat.reduceLeDiff, Int.reduceToNat, List.all_cons, List.all_nil, List.map_cons, List.map_nil, List.set_cons_zero,  true_and, and_true, Int.natCast_nonneg, Int.le_refl, Nat.le_refl, Int.toNat_natCast, Nat.sub_zero,  List.drop_zero, List.drop_succ_cons, List.length_cons, List.length_nil,  List.set_cons_succ, and_self, decide_true, decide_false, Int.reduceLT, Int.reduceLE, Int.reduceEq, Int.reduceSub, Int.reduceAdd, Int.reduceMul, String.reduceEq, stK_eq, stV.eq_1, stR_some, stE_ag, stE_one, stE_whole, e1, e2, e3, e4, bytesV_length, h2, bytesV_take] | simp (disch := omega) only [ifp, ifn, wrap_i64, wrap_u8, wrap_i32, wrap_u64, wrap_u32, Int.tdiv_eq_ediv_of_nonneg, Int.tmod_eq_emod_of_nonneg])
  refine appK_buf (Buf.nil 1 _) (by simp -implicitDefEqProofs only [XL, XM, TL, Option.isSome_some, Option.bind_some, Option.bind_none, Option.map_some, Option.map_none, Option.some.injEq, List.getElem?_cons_zero, List.getElem?_cons_succ, List.getElem?_toArray, List.toList_toArray, Nat.reduceEqDiff, if_true, if_false, ↓reduceIte, reduceCtorEq, Bool.false_eq_true, List.nil_append, List.append_nil, List.cons_append, Bool.or_self, Bool.or_true, Bool.or_false, Bool.true_or, Bool.false_or, Bool.and_true, Bool.true_and, Bool.not_true, Bool.not_false, Nat.reduceAdd, Nat.reduceMul, Nat.reduceSub, Nat.reduceLT, Nat.reduceLeDiff, Int.reduceToNat, List.all_cons, List.all_nil, List.map_cons, List.map_nil, List.set_cons_zero,  true_and, and_true, Int.natCast_nonneg, Int.le_refl, Nat.le_refl, Int.toNat_natCast, Nat.sub_zero,  List.drop_zero, List.drop_succ_cons, List.length_cons, List.length_nil,  List.set_cons_succ, and_self, decide_true, decide_false, Int.reduceLT, Int.reduceLE, Int.reduceEq, Int.reduceSub, Int.reduceAdd, Int.reduceMul, String.reduceEq, stK_eq, stV.eq_1, stR_some, stE_ag, stE_one, stE_whole]; rfl) rfl (by simp -implicitDefEqProofs only [XL, XM, TL, Option.isSome_some, Option.bind_some, Option.bind_none, Option.map_some, Option.map_none, Option.some.injEq, List.getElem?_cons_zero, List.getElem?_cons_succ, List.getElem?_toArray, List.toList_toArray, Nat.reduceEqDiff, if_true, if_false, ↓reduceIte, reduceCtorEq, Bool.false_eq_true, List.nil_append, List.append_nil, List.cons_append, Bool.or_self, Bool.or_true, Bool.or_false, Bool.true_or, Bool.false_or, Bool.and_true, Bool.true_and, Bool.not_true, Bool.not_false, Nat.reduceAdd, Nat.reduceMul, Nat.reduceSub, Nat.reduceLT, Nat.reduceLeDiff, Int.reduceToNat, List.all_cons, List.all_nil, List.map_cons, List.map_nil, List.set_cons_zero,  true_and, and_true, Int.natCast_nonneg, Int.le_refl, Nat.le_refl, Int.toNat_natCast, Nat.sub_zero,  List.drop_zero, List.drop_succ_cons, List.length_cons, List.length_nil,  List.set_cons_succ, and_self, decide_true, decide_false, Int.reduceLT, Int.reduceLE, Int.reduceEq, Int.reduceSub, Int.reduceAdd, Int.reduceMul, String.reduceEq, stK_eq, stV.eq_1, stR_some, stE_ag, stE_one, stE_whole]) (by decide) (by simp only [List.length_append, List.length_nil, bytesV_length, List.length_map, List.length_take, List.length_drop]; omega) (fun v1 h1 hb1 => ?_)
  have hid2' := hb1.get (id := id2) (o := .row 1 (badT.map V.s)) (by simp [H.set])
  have chk_ : True ∧ True := by simp only [and_self, e1, e2, e3, e4, hid2', List.getElem?_map, hw, Nat.zero_add]
  clear chk_
  repeat (first | simp -implicitDefEqProofs only [XL, XM, TL, Option.isSome_some, Option.bind_some, Option.bind_none, Option.map_some, Option.map_none, Option.some.injEq, List.getElem?_cons_zero, List.getElem?_cons_succ, List.getElem?_toArray, List.toList_toArray, Nat.reduceEqDiff, if_true, if_false, ↓reduceIte, reduceCtorEq, Bool.false_eq_true, List.nil_append, List.append_nil, List.cons_append, Bool.or_self, Bool.or_true, Bool.or_false, Bool.true_or, Bool.false_or, Bool.and_true, Bool.true_and, Bool.not_true, Bool.not_false, Nat.reduceAdd, Nat.reduceMul, Nat.reduceSub, Nat.reduceLT, Nat.reduceLeDiff, Int.reduceToNat, List.all_cons, List.all_nil, List.map_cons, List.map_nil, List.set_cons_zero,  true_and, and_true, Int.natCast_nonneg, Int.le_refl, Nat.le_refl, Int.toNat_natCast, Nat.sub_zero,  List.drop_zero, List.drop_succ_cons, List.length_cons, List.length_nil,  List.set_cons_succ, and_self, decide_true, decide_false, Int.reduceLT, Int.reduceLE, Int.reduceEq, Int.reduceSub, Int.reduceAdd, Int.reduceMul, String.reduceEq, stK_eq, stV.eq_1, stR_some, stE_ag, stE_one, stE_whole, e1, e2, e3, e4, hid2', List.getElem?_map, hw, Nat.zero_add] | simp (disch := omega) only [ifp, ifn, wrap_i64, wrap_u8, wrap_i32, wrap_u64, wrap_u32, Int.tdiv_eq_ediv_of_nonneg, Int.tmod_eq_emod_of_nonneg])
  refine appK_buf hb1 (by simp -implicitDefEqProofs only [XL, XM, TL, Option.isSome_some, Option.bind_some, Option.bind_none, Option.map_some, Option.map_none, Option.some.injEq, List.getElem?_cons_zero, List.getElem?_cons_succ, List.getElem?_toArray, List.toList_toArray, Nat.reduceEqDiff, if_true, if_false, ↓reduceIte, reduceCtorEq, Bool.false_eq_true, List.nil_append, List.append_nil, List.cons_append, Bool.or_self, Bool.or_true, Bool.or_false, Bool.true_or, Bool.false_or, Bool.and_true, Bool.true_and, Bool.not_true, Bool.not_false, Nat.reduceAdd, Nat.reduceMul, Nat.reduceSub, Nat.reduceLT, Nat.reduceLeDiff, Int.reduceToNat, List.all_cons, List.all_nil, List.map_cons, List.map_nil, List.set_cons_zero,  true_and, and_true, Int.natCast_nonneg, Int.le_refl, Nat.le_refl, Int.toNat_natCast, Nat.sub_zero,  List.drop_zero, List.drop_succ_cons, List.length_cons, List.length_nil,  List.set_cons_succ, and_self, decide_true, decide_false, Int.reduceLT, Int.reduceLE, Int.reduceEq, Int.reduceSub, Int.reduceAdd, Int.reduceMul, String.reduceEq, stK_eq, stV.eq_1, stR_some, stE_ag, stE_one, stE_whole]; rfl) rfl (by simp -implicitDefEqProofs only [XL, XM, TL, Option.isSome_some, Option.bind_some, Option.bind_none, Option.map_some, Option.map_none, Option.some.injEq, List.getElem?_cons_zero, List.getElem?_cons_succ, List.getElem?_toArray, List.toList_toArray, Nat.reduceEqDiff, if_true, if_false, ↓reduceIte, reduceCtorEq, Bool.false_eq_true, List.nil_append, List.append_nil, List.cons_append, Bool.or_self, Bool.or_true, Bool.or_false, Bool.true_or, Bool.false_or, Bool.and_true, Bool.true_and, Bool.not_true, Bool.not_false, Nat.reduceAdd, Nat.reduceMul, Nat.reduceSub, Nat.reduceLT, Nat.reduceLeDiff, Int.reduceToNat, List.all_cons, List.all_nil, List.map_cons, List.map_nil, List.set_cons_zero,  true_and, and_true, Int.natCast_nonneg, Int.le_refl, Nat.le_refl, Int.toNat_natCast, Nat.sub_zero,  List.drop_zero, List.drop_succ_cons, List.length_cons, List.length_nil,  List.set_cons_succ, and_self, decide_true, decide_false, Int.reduceLT, Int.reduceLE, Int.reduceEq, Int.reduceSub, Int.reduceAdd, Int.reduceMul, String.reduceEq, stK_eq, stV.eq_1, stR_some, stE_ag, stE_one, stE_whole]) (by decide) (by simp only [List.length_append, List.length_nil, bytesV_length, List.length_map, List.length_take, List.length_drop]; omega) (fun v2 h2' hb2 => ?_)
  have chk_ : True ∧ True := by simp only [and_self, bytesV_length, h2, bytesV_drop]
  clear chk_
  repeat (first | simp -implicitDefEqProofs only [XL, XM, TL, Option.isSome_some, Option.bind_some, Option.bind_none, Option.map_some, Option.map_none, Option.some.injEq, List.getElem?_cons_zero, List.getElem?_cons_succ, List.getElem?_toArray, List.toList_toArray, Nat.reduceEqDiff, if_true, if_false, ↓reduceIte, reduceCtorEq, Bool.false_eq_true, List.nil_append, List.append_nil, List.cons_append, Bool.or_self, Bool.or_true, Bool.or_false, Bool.true_or, Bool.false_or, Bool.and_true, Bool.true_and, Bool.not_true, Bool.not_false, Nat.reduceAdd, Nat.reduceMul, Nat.reduceSub, Nat.reduceLT, Nat.reduceLeDiff, Int.reduceToNat, List.all_cons, List.all_nil, List.map_cons, List.map_nil, List.set_cons_zero,  true_and, and_true, Int.natCast_nonneg, Int.le_refl, Nat.le_refl, Int.toNat_natCast, Nat.sub_zero,  List.drop_zero, List.drop_succ_cons, List.length_cons, List.length_nil,  List.set_cons_succ, and_self, decide_true, decide_false, Int.reduceLT, Int.reduceLE, Int.reduceEq, Int.reduceSub, Int.reduceAdd, Int.reduceMul, String.reduceEq, stK_eq, stV.eq_1, stR_some, stE_ag, stE_one, stE_whole, bytesV_length, h2, bytesV_drop] | simp (disch := omega) only [ifp, ifn, wrap_i64, wrap_u8, wrap_i32, wrap_u64, wrap_u32, Int.tdiv_eq_ediv_of_nonneg, Int.tmod_eq_emod_of_nonneg])
  have e5 : List.take (s.length - at_) (bytesV (List.drop at_ s)) = bytesV (s.drop at_) := by rw [bytesV_take, List.take_of_length_le (by simp)]
  rw [e5]
  refine appK_buf hb2 (by simp -implicitDefEqProofs only [XL, XM, TL, Option.isSome_some, Option.bind_some, Option.bind_none, Option.map_some, Option.map_none, Option.some.injEq, List.getElem?_cons_zero, List.getElem?_cons_succ, List.getElem?_toArray, List.toList_toArray, Nat.reduceEqDiff, if_true, if_false, ↓reduceIte, reduceCtorEq, Bool.false_eq_true, List.nil_append, List.append_nil, List.cons_append, Bool.or_self, Bool.or_true, Bool.or_false, Bool.true_or, Bool.false_or, Bool.and_true, Bool.true_and, Bool.not_true, Bool.not_false, Nat.reduceAdd, Nat.reduceMul, Nat.reduceSub, Nat.reduceLT, Nat.reduceLeDiff, Int.reduceToNat, List.all_cons, List.all_nil, List.map_cons, List.map_nil, List.set_cons_zero,  true_and, and_true, Int.natCast_nonneg, Int.le_refl, Nat.le_refl, Int.toNat_natCast, Nat.sub_zero,  List.drop_zero, List.drop_succ_cons, List.length_cons, List.length_nil,  List.set_cons_succ, and_self, decide_true, decide_false, Int.reduceLT, Int.reduceLE, Int.reduceEq, Int.reduceSub, Int.reduceAdd, Int.reduceMul, String.reduceEq, stK_eq, stV.eq_1, stR_some, stE_ag, stE_one, stE_whole]; rfl) rfl (by simp -implicitDefEqProofs only [XL, XM, TL, Option.isSome_some, Option.bind_some, Option.bind_none, Option.map_some, Option.map_none, Option.some.injEq, List.getElem?_cons_zero, List.getElem?_cons_succ, List.getElem?_toArray, List.toList_toArray, Nat.reduceEqDiff, if_true, if_false, ↓reduceIte, reduceCtorEq, Bool.false_eq_true, List.nil_append, List.append_nil, List.cons_append, Bool.or_self, Bool.or_true, Bool.or_false, Bool.true_or, Bool.false_or, Bool.and_true, Bool.true_and, Bool.not_true, Bool.not_false, Nat.reduceAdd, Nat.reduceMul, Nat.reduceSub, Nat.reduceLT, Nat.reduceLeDiff, Int.reduceToNat, List.all_cons, List.all_nil, List.map_cons, List.map_nil, List.set_cons_zero,  true_and, and_true, Int.natCast_nonneg, Int.le_refl, Nat.le_refl, Int.toNat_natCast, Nat.sub_zero,  List.drop_zero, List.drop_succ_cons, List.length_cons, List.length_nil,  List.set_cons_succ, and_self, decide_true, decide_false, Int.reduceLT, Int.reduceLE, Int.reduceEq, Int.reduceSub, Int.reduceAdd, Int.reduceMul, String.reduceEq, stK_eq, stV.eq_1, stR_some, stE_ag, stE_one, stE_whole]) (by decide) (by simp only [List.length_append, List.length_nil, bytesV_length, List.length_map, List.length_take, List.length_drop]; omega) (fun v3 h3' hb3 => ?_)
  simp -implicitDefEqProofs only [XL, XM, TL, Option.isSome_some, Option.bind_some, Option.bind_none, Option.map_some, Option.map_none, Option.some.injEq, List.getElem?_cons_zero, List.getElem?_cons_succ, List.getElem?_toArray, List.toList_toArray, Nat.reduceEqDiff, if_true, if_false, ↓reduceIte, reduceCtorEq, Bool.false_eq_true, List.nil_append, List.append_nil, List.cons_append, Bool.or_self, Bool.or_true, Bool.or_false, Bool.true_or, Bool.false_or, Bool.and_true, Bool.true_and, Bool.not_true, Bool.not_false, Nat.reduceAdd, Nat.reduceMul, Nat.reduceSub, Nat.reduceLT, Nat.reduceLeDiff, Int.reduceToNat, List.all_cons, List.all_nil, List.map_cons, List.map_nil, List.set_cons_zero,  true_and, and_true, Int.natCast_nonneg, Int.le_refl, Nat.le_refl, Int.toNat_natCast, Nat.sub_zero,  List.drop_zero, List.drop_succ_cons, List.length_cons, List.length_nil,  List.set_cons_succ, and_self, decide_true, decide_false, Int.reduceLT, Int.reduceLE, Int.reduceEq, Int.reduceSub, Int.reduceAdd, Int.reduceMul, String.reduceEq, stK_eq, stV.eq_1, stR_some, stE_ag, stE_one, stE_whole]
  refine RetK_buf' hb3 (Sub.of_set (.refl _) hid2) ?_
  simp only [bytesV, List.map_append, List.nil_append]; rfl

def drawF (code : List UInt8) : List UInt8 :=
  let b := code.take 600
  let k := nx b 0
  let n := nx b k.2
  let t := textsF b (n.1 % 6) n.2
  if k.1 % 3 = 0 then spoilF t.1 b t.2 else t.1

theorem drawCheck_spec (G : Gl) (h : H) (code : List UInt8) :
    XCalls Tryz.prog G 13 [.im 1 (bytesV code)] h (fun o h' => o = .ret (.im 1 (bytesV (drawF code))) ∧ h' = h) := by
  refine enterK (rs := [.tmp 2]) Tryz.func13 (by kernel_rfl) rfl rfl (by kernel_rfl) rfl (Nat.le_of_ble_eq_true rfl) (fun hbd => ?_)
  simp -implicitDefEqProofs only [XL, XM, TL, Option.isSome_some, Option.bind_some, Option.bind_none, Option.map_some, Option.map_none, Option.some.injEq, List.getElem?_cons_zero, List.getElem?_cons_succ, List.getElem?_toArray, List.toList_toArray, Nat.reduceEqDiff, if_true, if_false, ↓reduceIte, reduceCtorEq, Bool.false_eq_true, List.nil_append, List.append_nil, List.cons_append, Bool.or_self, Bool.or_true, Bool.or_false, Bool.true_or, Bool.false_or, Bool.and_true, Bool.true_and, Bool.not_true, Bool.not_false, Nat.reduceAdd, Nat.reduceMul, Nat.reduceSub, Nat.reduceLT, Nat.reduceLeDiff, Int.reduceToNat, List.all_cons, List.all_nil, List.map_cons, List.map_nil, List.set_cons_zero,  true_and, and_true, Int.natCast_nonneg, Int.le_refl, Nat.le_refl, Int.toNat_natCast, Nat.sub_zero,  List.drop_zero, List.drop_succ_cons, List.length_cons, List.length_nil,  List.set_cons_succ, and_self, decide_true, decide_false, Int.reduceLT, Int.reduceLE, Int.reduceEq, Int.reduceSub, Int.reduceAdd, Int.reduceMul, String.reduceEq, stK_eq, stV.eq_1, stR_some, stE_ag, stE_one, stE_whole]
  refine call_ex (open_spec G h code) (fun id hid => ?_)
  have hr0 : h.set id (rdO (code.take 600) 0) id = some (rdO (code.take 600) 0) := by simp [H.set]
  unfold drawF
  generalize code.take 600 = b at *
  simp -implicitDefEqProofs only [XL, XM, TL, Option.isSome_some, Option.bind_some, Option.bind_none, Option.map_some, Option.map_none, Option.some.injEq, List.getElem?_cons_zero, List.getElem?_cons_succ, List.getElem?_toArray, List.toList_toArray, Nat.reduceEqDiff, if_true, if_false, ↓reduceIte, reduceCtorEq, Bool.false_eq_true, List.nil_append, List.append_nil, List.cons_append, Bool.or_self, Bool.or_true, Bool.or_false, Bool.true_or, Bool.false_or, Bool.and_true, Bool.true_and, Bool.not_true, Bool.not_false, Nat.reduceAdd, Nat.reduceMul, Nat.reduceSub, Nat.reduceLT, Nat.reduceLeDiff, Int.reduceToNat, List.all_cons, List.all_nil, List.map_cons, List.map_nil, List.set_cons_zero,  true_and, and_true, Int.natCast_nonneg, Int.le_refl, Nat.le_refl, Int.toNat_natCast, Nat.sub_zero,  List.drop_zero, List.drop_succ_cons, List.length_cons, List.length_nil,  List.set_cons_succ, and_self, decide_true, decide_false, Int.reduceLT, Int.reduceLE, Int.reduceEq, Int.reduceSub, Int.reduceAdd, Int.reduceMul, String.reduceEq, stK_eq, stV.eq_1, stR_some, stE_ag, stE_one, stE_whole]
  refine call_eq (next_spec G _ id b 0 hr0 (by omega)) ?_
  rw [set_set]
  have hr1 : h.set id (rdO b (nx b 0).2) id = some (rdO b (nx b 0).2) := by simp [H.set]
  have hk := nx_lt b 0
  have hk1 := nx_le b 0
  generalize nx b 0 = k at *
  simp -implicitDefEqProofs only [XL, XM, TL, Option.isSome_some, Option.bind_some, Option.bind_none, Option.map_some, Option.map_none, Option.some.injEq, List.getElem?_cons_zero, List.getElem?_cons_succ, List.getElem?_toArray, List.toList_toArray, Nat.reduceEqDiff, if_true, if_false, ↓reduceIte, reduceCtorEq, Bool.false_eq_true, List.nil_append, List.append_nil, List.cons_append, Bool.or_self, Bool.or_true, Bool.or_false, Bool.true_or, Bool.false_or, Bool.and_true, Bool.true_and, Bool.not_true, Bool.not_false, Nat.reduceAdd, Nat.reduceMul, Nat.reduceSub, Nat.reduceLT, Nat.reduceLeDiff, Int.reduceToNat, List.all_cons, List.all_nil, List.map_cons, List.map_nil, List.set_cons_zero,  true_and, and_true, Int.natCast_nonneg, Int.le_refl, Nat.le_refl, Int.toNat_natCast, Nat.sub_zero,  List.drop_zero, List.drop_succ_cons, List.length_cons, List.length_nil,  List.set_cons_succ, and_self, decide_true, decide_false, Int.reduceLT, Int.reduceLE, Int.reduceEq, Int.reduceSub, Int.reduceAdd, Int.reduceMul, String.reduceEq, stK_eq, stV.eq_1, stR_some, stE_ag, stE_one, stE_whole]
  refine call_eq (texts_spec G _ id b k.2 hr1 (by omega)) ?_
  rw [set_set]
  have hn := nx_lt b k.2
  have hn1 := nx_le b k.2
  generalize nx b k.2 = n at *
  have ht := textsF_len b (n.1 % 6) n.2
  have ht2 := textsF_le b (n.1 % 6) n.2
  have hm : n.1 % 6 < 6 := Nat.mod_lt _ (by omega)
  generalize textsF b (n.1 % 6) n.2 = t at *
  have hr2 : h.set id (rdO b t.2) id = some (rdO b t.2) := by simp [H.set]
  repeat (first | simp -implicitDefEqProofs only [XL, XM, TL, Option.isSome_some, Option.bind_some, Option.bind_none, Option.map_some, Option.map_none, Option.some.injEq, List.getElem?_cons_zero, List.getElem?_cons_succ, List.getElem?_toArray, List.toList_toArray, Nat.reduceEqDiff, if_true, if_false, ↓reduceIte, reduceCtorEq, Bool.false_eq_true, List.nil_append, List.append_nil, List.cons_append, Bool.or_self, Bool.or_true, Bool.or_false, Bool.true_or, Bool.false_or, Bool.and_true, Bool.true_and, Bool.not_true, Bool.not_false, Nat.reduceAdd, Nat.reduceMul, Nat.reduceSub, Nat.reduceLT, Nat.reduceLeDiff, Int.reduceToNat, List.all_cons, List.all_nil, List.map_cons, List.map_nil, List.set_cons_zero,  true_and, and_true, Int.natCast_nonneg, Int.le_refl, Nat.le_refl, Int.toNat_natCast, Nat.sub_zero,  List.drop_zero, List.drop_succ_cons, List.length_cons, List.length_nil,  List.set_cons_succ, and_self, decide_true, decide_false, Int.reduceLT, Int.reduceLE, Int.reduceEq, Int.reduceSub, Int.reduceAdd, Int.reduceMul, String.reduceEq, stK_eq, stV.eq_1, stR_some, stE_ag, stE_one, stE_whole] | simp (disch := omega) only [ifp, ifn, wrap_i64, wrap_u8, wrap_i32, wrap_u64, wrap_u32, Int.tdiv_eq_ediv_of_nonneg, Int.tmod_eq_emod_of_nonneg])
  refine BrK_intro (fun hb => ?_) (fun hb => ?_)
  · simp at hb
    simp -implicitDefEqProofs only [XL, XM, TL, Option.isSome_some, Option.bind_some, Option.bind_none, Option.map_some, Option.map_none, Option.some.injEq, List.getElem?_cons_zero, List.getElem?_cons_succ, List.getElem?_toArray, List.toList_toArray, Nat.reduceEqDiff, if_true, if_false, ↓reduceIte, reduceCtorEq, Bool.false_eq_true, List.nil_append, List.append_nil, List.cons_append, Bool.or_self, Bool.or_true, Bool.or_false, Bool.true_or, Bool.false_or, Bool.and_true, Bool.true_and, Bool.not_true, Bool.not_false, Nat.reduceAdd, Nat.reduceMul, Nat.reduceSub, Nat.reduceLT, Nat.reduceLeDiff, Int.reduceToNat, List.all_cons, List.all_nil, List.map_cons, List.map_nil, List.set_cons_zero,  true_and, and_true, Int.natCast_nonneg, Int.le_refl, Nat.le_refl, Int.toNat_natCast, Nat.sub_zero,  List.drop_zero, List.drop_succ_cons, List.length_cons, List.length_nil,  List.set_cons_succ, and_self, decide_true, decide_false, Int.reduceLT, Int.reduceLE, Int.reduceEq, Int.reduceSub, Int.reduceAdd, Int.reduceMul, String.reduceEq, stK_eq, stV.eq_1, stR_some, stE_ag, stE_one, stE_whole]
    refine call_eq (spoil_spec G _ id t.1 b t.2 hr2 (by omega) (by omega)) ?_
    rw [set_set]
    simp -implicitDefEqProofs only [XL, XM, TL, Option.isSome_some, Option.bind_some, Option.bind_none, Option.map_some, Option.map_none, Option.some.injEq, List.getElem?_cons_zero, List.getElem?_cons_succ, List.getElem?_toArray, List.toList_toArray, Nat.reduceEqDiff, if_true, if_false, ↓reduceIte, reduceCtorEq, Bool.false_eq_true, List.nil_append, List.append_nil, List.cons_append, Bool.or_self, Bool.or_true, Bool.or_false, Bool.true_or, Bool.false_or, Bool.and_true, Bool.true_and, Bool.not_true, Bool.not_false, Nat.reduceAdd, Nat.reduceMul, Nat.reduceSub, Nat.reduceLT, Nat.reduceLeDiff, Int.reduceToNat, List.all_cons, List.all_nil, List.map_cons, List.map_nil, List.set_cons_zero,  true_and, and_true, Int.natCast_nonneg, Int.le_refl, Nat.le_refl, Int.toNat_natCast, Nat.sub_zero,  List.drop_zero, List.drop_succ_cons, List.length_cons, List.length_nil,  List.set_cons_succ, and_self, decide_true, decide_false, Int.reduceLT, Int.reduceLE, Int.reduceEq, Int.reduceSub, Int.reduceAdd, Int.reduceMul, String.reduceEq, stK_eq, stV.eq_1, stR_some, stE_ag, stE_one, stE_whole]
    refine RetK_pure (Sub.of_set (.refl _) hid) ?_
    rw [if_pos (by omega)]
  · simp at hb
    simp -implicitDefEqProofs only [XL, XM, TL, Option.isSome_some, Option.bind_some, Option.bind_none, Option.map_some, Option.map_none, Option.some.injEq, List.getElem?_cons_zero, List.getElem?_cons_succ, List.getElem?_toArray, List.toList_toArray, Nat.reduceEqDiff, if_true, if_false, ↓reduceIte, reduceCtorEq, Bool.false_eq_true, List.nil_append, List.append_nil, List.cons_append, Bool.or_self, Bool.or_true, Bool.or_false, Bool.true_or, Bool.false_or, Bool.and_true, Bool.true_and, Bool.not_true, Bool.not_false, Nat.reduceAdd, Nat.reduceMul, Nat.reduceSub, Nat.reduceLT, Nat.reduceLeDiff, Int.reduceToNat, List.all_cons, List.all_nil, List.map_cons, List.map_nil, List.set_cons_zero,  true_and, and_true, Int.natCast_nonneg, Int.le_refl, Nat.le_refl, Int.toNat_natCast, Nat.sub_zero,  List.drop_zero, List.drop_succ_cons, List.length_cons, List.length_nil,  List.set_cons_succ, and_self, decide_true, decide_false, Int.reduceLT, Int.reduceLE, Int.reduceEq, Int.reduceSub, Int.reduceAdd, Int.reduceMul, String.reduceEq, stK_eq, stV.eq_1, stR_some, stE_ag, stE_one, stE_whole]
    refine RetK_pure (Sub.of_set (.refl _) hid) ?_
    rw [if_neg (by omega)]

theorem drawQuote_spec (G : Gl) (h : H) (code : List UInt8) :
    XCalls Tryz.prog G 4 [.im 1 (bytesV code)] h (fun o h' => o = .ret (.im 1 (bytesV (drawF code))) ∧ h' = h) := by
  refine enterK (rs := [.tmp 2]) Tryz.func4 (by kernel_rfl) rfl rfl (by kernel_rfl) rfl (Nat.le_of_ble_eq_true rfl) (fun hbd => ?_)
  simp -implicitDefEqProofs only [XL, XM, TL, Option.isSome_some, Option.bind_some, Option.bind_none, Option.map_some, Option.map_none, Option.some.injEq, List.getElem?_cons_zero, List.getElem?_cons_succ, List.getElem?_toArray, List.toList_toArray, Nat.reduceEqDiff, if_true, if_false, ↓reduceIte, reduceCtorEq, Bool.false_eq_true, List.nil_append, List.append_nil, List.cons_append, Bool.or_self, Bool.or_true, Bool.or_false, Bool.true_or, Bool.false_or, Bool.and_true, Bool.true_and, Bool.not_true, Bool.not_false, Nat.reduceAdd, Nat.reduceMul, Nat.reduceSub, Nat.reduceLT, Nat.reduceLeDiff, Int.reduceToNat, List.all_cons, List.all_nil, List.map_cons, List.map_nil, List.set_cons_zero,  true_and, and_true, Int.natCast_nonneg, Int.le_refl, Nat.le_refl, Int.toNat_natCast, Nat.sub_zero,  List.drop_zero, List.drop_succ_cons, List.length_cons, List.length_nil,  List.set_cons_succ, and_self, decide_true, decide_false, Int.reduceLT, Int.reduceLE, Int.reduceEq, Int.reduceSub, Int.reduceAdd, Int.reduceMul, String.reduceEq, stK_eq, stV.eq_1, stR_some, stE_ag, stE_one, stE_whole]
  refine call_eq (drawCheck_spec G h code) ?_
  simp -implicitDefEqProofs only [XL, XM, TL, Option.isSome_some, Option.bind_some, Option.bind_none, Option.map_some, Option.map_none, Option.some.injEq, List.getElem?_cons_zero, List.getElem?_cons_succ, List.getElem?_toArray, List.toList_toArray, Nat.reduceEqDiff, if_true, if_false, ↓reduceIte, reduceCtorEq, Bool.false_eq_true, List.nil_append, List.append_nil, List.cons_append, Bool.or_self, Bool.or_true, Bool.or_false, Bool.true_or, Bool.false_or, Bool.and_true, Bool.true_and, Bool.not_true, Bool.not_false, Nat.reduceAdd, Nat.reduceMul, Nat.reduceSub, Nat.reduceLT, Nat.reduceLeDiff, Int.reduceToNat, List.all_cons, List.all_nil, List.map_cons, List.map_nil, List.set_cons_zero,  true_and, and_true, Int.natCast_nonneg, Int.le_refl, Nat.le_refl, Int.toNat_natCast, Nat.sub_zero,  List.drop_zero, List.drop_succ_cons, List.length_cons, List.length_nil,  List.set_cons_succ, and_self, decide_true, decide_false, Int.reduceLT, Int.reduceLE, Int.reduceEq, Int.reduceSub, Int.reduceAdd, Int.reduceMul, String.reduceEq, stK_eq, stV.eq_1, stR_some, stE_ag, stE_one, stE_whole]
  exact RetK_pure (.refl _) rfl
end Go.X
end

section
open Go Go.Proofs
namespace Go.X
set_option linter.unusedSimpArgs false
set_option maxRecDepth 10000

def at0 (b : List UInt8) (i : Nat) : Nat := (b.getD i 0).toNat
def headF (c : Nat) : Nat × Nat := if 192 ≤ c ∧ c < 224 then (2, c - 192) else if 224 ≤ c ∧ c < 240 then (3, c - 224) else if 240 ≤ c ∧ c < 248 then (4, c - 240) else (0, 0)
def contF (b : List UInt8) (at_ : Nat) : Nat → Nat → Nat → Option Nat
  | 0, _, v => some v
  | m + 1, i, v => if at0 b (at_ + i) < 128 ∨ 192 ≤ at0 b (at_ + i) then none else contF b at_ m (i + 1) (v * 64 + at0 b (at_ + i) - 128)
def charF (b : List UInt8) (at_ : Nat) : Nat × Nat :=
  if at0 b at_ < 128 then (1, at0 b at_) else
  if (headF (at0 b at_)).1 = 0 ∨ at_ + (headF (at0 b at_)).1 > b.length then (0, 0) else
  match contF b at_ ((headF (at0 b at_)).1 - 1) 1 (headF (at0 b at_)).2 with
  | none => (0, 0)
  | some v => if isPoint v = true ∧ (utf8V v).length = (headF (at0 b at_)).1 then ((headF (at0 b at_)).1, v) else (0, 0)

theorem at0_get {b : List UInt8} {i : Nat} (hi : i < b.length) : b[i]? = some (b.getD i 0) := by
  rw [List.getD_eq_getElem?_getD, List.getElem?_eq_getElem hi]; rfl
theorem at0_lt (b : List UInt8) (i : Nat) : at0 b i < 256 := UInt8.toNat_lt _

theorem l1char_spec (G : Gl) (h : H) (b : List UInt8) (at_ : Nat) (hat : at_ < b.length) (hlen : b.length ≤ 1000000000) :
    XCalls Tryz.prog G 14 [.im 1 (bytesV b), .i .i64 at_] h (fun o h' => o = .ret (.tu [.i .i64 (charF b at_).1, .i .i64 (charF b at_).2]) ∧ h' = h) := by
  refine enterK (rs := [.tmp 4, .tmp 5]) Tryz.func14 (by kernel_rfl) rfl rfl (by kernel_rfl) rfl (Nat.le_of_ble_eq_true rfl) (fun hbd => ?_)
  have hg := at0_get hat
  have hc := at0_lt b at_
  have hcc : ((b.getD at_ 0).toNat : Int) = (at0 b at_ : Int) := rfl
  have chk_ : True ∧ True := by simp only [and_self, bytesV_get, hg, bV_cells, hcc]
  clear chk_
  repeat (first | simp -implicitDefEqProofs only [XL, XM, TL, Option.isSome_some, Option.bind_some, Option.bind_none, Option.map_some, Option.map_none, Option.some.injEq, List.getElem?_cons_zero, List.getElem?_cons_succ, List.getElem?_toArray, List.toList_toArray, Nat.reduceEqDiff, if_true, if_false, ↓reduceIte, reduceCtorEq, Bool.false_eq_true, List.nil_append, List.append_nil, List.cons_append, Bool.or_self, Bool.or_true, Bool.or_false, Bool.true_or, Bool.false_or, Bool.and_true, Bool.true_and, Bool.not_true, Bool.not_false, Nat.reduceAdd, Nat.reduceMul, Nat.reduceSub, Nat.reduceLT, Nat.reduceLeDiff, Int.reduceToNat, List.all_cons, List.all_nil, List.map_cons, List.map_nil, List.set_cons_zero,  true_and, and_true, Int.natCast_nonneg, Int.le_refl, Nat.le_refl, Int.toNat_natCast, Nat.sub_zero,  List.drop_zero, List.drop_succ_cons, List.length_cons, List.length_nil,  List.set_cons_succ, and_self, decide_true, decide_false, Int.reduceLT, Int.reduceLE, Int.reduceEq, Int.reduceSub, Int.reduceAdd, Int.reduceMul, String.reduceEq, stK_eq, stV.eq_1, stR_some, stE_ag, stE_one, stE_whole, bytesV_get, hg, bV_cells, hcc] | simp (disch := omega) only [ifp, ifn, wrap_i64, wrap_u8, wrap_i32, wrap_u64, wrap_u32, Int.tdiv_eq_ediv_of_nonneg, Int.tmod_eq_emod_of_nonneg])
  unfold charF
  generalize at0 b at_ = c0 at *
  refine BrK_intro (fun hb => ?_) (fun hb => ?_)
  · simp at hb
    simp -implicitDefEqProofs only [XL, XM, TL, Option.isSome_some, Option.bind_some, Option.bind_none, Option.map_some, Option.map_none, Option.some.injEq, List.getElem?_cons_zero, List.getElem?_cons_succ, List.getElem?_toArray, List.toList_toArray, Nat.reduceEqDiff, if_true, if_false, ↓reduceIte, reduceCtorEq, Bool.false_eq_true, List.nil_append, List.append_nil, List.cons_append, Bool.or_self, Bool.or_true, Bool.or_false, Bool.true_or, Bool.false_or, Bool.and_true, Bool.true_and, Bool.not_true, Bool.not_false, Nat.reduceAdd, Nat.reduceMul, Nat.reduceSub, Nat.reduceLT, Nat.reduceLeDiff, Int.reduceToNat, List.all_cons, List.all_nil, List.map_cons, List.map_nil, List.set_cons_zero,  true_and, and_true, Int.natCast_nonneg, Int.le_refl, Nat.le_refl, Int.toNat_natCast, Nat.sub_zero,  List.drop_zero, List.drop_succ_cons, List.length_cons, List.length_nil,  List.set_cons_succ, and_self, decide_true, decide_false, Int.reduceLT, Int.reduceLE, Int.reduceEq, Int.reduceSub, Int.reduceAdd, Int.reduceMul, String.reduceEq, stK_eq, stV.eq_1, stR_some, stE_ag, stE_one, stE_whole]
    refine RetK_pure (.refl _) ?_
    rw [if_pos (by omega)]; rfl
  · simp at hb
    rw [if_neg (by omega)]
    simp -implicitDefEqProofs only [XL, XM, TL, Option.isSome_some, Option.bind_some, Option.bind_none, Option.map_some, Option.map_none, Option.some.injEq, List.getElem?_cons_zero, List.getElem?_cons_succ, List.getElem?_toArray, List.toList_toArray, Nat.reduceEqDiff, if_true, if_false, ↓reduceIte, reduceCtorEq, Bool.false_eq_true, List.nil_append, List.append_nil, List.cons_append, Bool.or_self, Bool.or_true, Bool.or_false, Bool.true_or, Bool.false_or, Bool.and_true, Bool.true_and, Bool.not_true, Bool.not_false, Nat.reduceAdd, Nat.reduceMul, Nat.reduceSub, Nat.reduceLT, Nat.reduceLeDiff, Int.reduceToNat, List.all_cons, List.all_nil, List.map_cons, List.map_nil, List.set_cons_zero,  true_and, and_true, Int.natCast_nonneg, Int.le_refl, Nat.le_refl, Int.toNat_natCast, Nat.sub_zero,  List.drop_zero, List.drop_succ_cons, List.length_cons, List.length_nil,  List.set_cons_succ, and_self, decide_true, decide_false, Int.reduceLT, Int.reduceLE, Int.reduceEq, Int.reduceSub, Int.reduceAdd, Int.reduceMul, String.reduceEq, stK_eq, stV.eq_1, stR_some, stE_ag, stE_one, stE_whole]
    refine gbK_cut2 (fun a' h' => h' = h ∧ a' 0 = some (.im 1 (bytesV b)) ∧ a' 1 = some (.i .i64 at_) ∧ a' 7 = some (.i .i64 (headF c0).1) ∧ a' 8 = some (.i .i64 (headF c0).2)) ?_ ?_
    · repeat' (first | simp -implicitDefEqProofs only [XL, XM, TL, Option.isSome_some, Option.bind_some, Option.bind_none, Option.map_some, Option.map_none, Option.some.injEq, List.getElem?_cons_zero, List.getElem?_cons_succ, List.getElem?_toArray, List.toList_toArray, Nat.reduceEqDiff, if_true, if_false, ↓reduceIte, reduceCtorEq, Bool.false_eq_true, List.nil_append, List.append_nil, List.cons_append, Bool.or_self, Bool.or_true, Bool.or_false, Bool.true_or, Bool.false_or, Bool.and_true, Bool.true_and, Bool.not_true, Bool.not_false, Nat.reduceAdd, Nat.reduceMul, Nat.reduceSub, Nat.reduceLT, Nat.reduceLeDiff, Int.reduceToNat, List.all_cons, List.all_nil, List.map_cons, List.map_nil, List.set_cons_zero,  true_and, and_true, Int.natCast_nonneg, Int.le_refl, Nat.le_refl, Int.toNat_natCast, Nat.sub_zero,  List.drop_zero, List.drop_succ_cons, List.length_cons, List.length_nil,  List.set_cons_succ, and_self, decide_true, decide_false, Int.reduceLT, Int.reduceLE, Int.reduceEq, Int.reduceSub, Int.reduceAdd, Int.reduceMul, String.reduceEq, stK_eq, stV.eq_1, stR_some, stE_ag, stE_one, stE_whole] | simp (disch := omega) only [ifp, ifn, wrap_i64, wrap_u8, wrap_i32, wrap_u64, wrap_u32, Int.tdiv_eq_ediv_of_nonneg, Int.tmod_eq_emod_of_nonneg] | ((with_reducible refine BrK_intro (fun hwb => ?_) (fun hwb => ?_)) <;> (try rw [hwb]) <;> simp only [decide_eq_true_eq, decide_eq_false_iff_not, Bool.not_eq_true', Bool.not_eq_false', Bool.not_true, Bool.not_false] at hwb) | ((with_reducible refine gbK_intro (fun hwb => ?_) (fun hwb => ?_)) <;> (try rw [hwb]) <;> simp only [decide_eq_true_eq, decide_eq_false_iff_not, Bool.not_eq_true', Bool.not_eq_false', Bool.not_true, Bool.not_false] at hwb) | ((with_reducible refine qgb_intro (fun hwb => ?_) (fun hwb => ?_)) <;> (try rw [hwb]) <;> simp only [decide_eq_true_eq, decide_eq_false_iff_not, Bool.not_eq_true', Bool.not_eq_false', Bool.not_true, Bool.not_false] at hwb) | (with_reducible intro hl) | (with_reducible refine drawK_q (by kernel_rfl) (by kernel_rfl) ?_) )
      all_goals first
        | (exfalso; omega)
        | (simp only [headF]
           repeat' (first | rw [if_pos (by omega)] | rw [if_neg (by omega)])
           try rw [wrap_i64 (by omega) (by omega)]
           constructor <;> congr 1 <;> omega)
    · have hh : (headF c0).1 ≤ 4 ∧ (headF c0).2 < 64 := by
        simp only [headF]
        repeat' split
        all_goals (constructor <;> simp only [] <;> omega)
      generalize headF c0 = nv at *
      obtain ⟨n, v0⟩ := nv
      simp only at hh ⊢
      obtain ⟨hn4, hv0⟩ := hh
      rintro a h' ⟨rfl, h0, h1, h7, h8⟩
      simp -implicitDefEqProofs only [XL, XM, TL, Option.isSome_some, Option.bind_some, Option.bind_none, Option.map_some, Option.map_none, Option.some.injEq, List.getElem?_cons_zero, List.getElem?_cons_succ, List.getElem?_toArray, List.toList_toArray, Nat.reduceEqDiff, if_true, if_false, ↓reduceIte, reduceCtorEq, Bool.false_eq_true, List.nil_append, List.append_nil, List.cons_append, Bool.or_self, Bool.or_true, Bool.or_false, Bool.true_or, Bool.false_or, Bool.and_true, Bool.true_and, Bool.not_true, Bool.not_false, Nat.reduceAdd, Nat.reduceMul, Nat.reduceSub, Nat.reduceLT, Nat.reduceLeDiff, Int.reduceToNat, List.all_cons, List.all_nil, List.map_cons, List.map_nil, List.set_cons_zero,  true_and, and_true, Int.natCast_nonneg, Int.le_refl, Nat.le_refl, Int.toNat_natCast, Nat.sub_zero,  List.drop_zero, List.drop_succ_cons, List.length_cons, List.length_nil,  List.set_cons_succ, and_self, decide_true, decide_false, Int.reduceLT, Int.reduceLE, Int.reduceEq, Int.reduceSub, Int.reduceAdd, Int.reduceMul, String.reduceEq, stK_eq, stV.eq_1, stR_some, stE_ag, stE_one, stE_whole, h0, h1, h7, h8]
      refine gbK_cut2 (fun a' h'' => h'' = h' ∧ a' 0 = some (.im 1 (bytesV b)) ∧ a' 1 = some (.i .i64 at_) ∧ a' 7 = some (.i .i64 n) ∧ a' 8 = some (.i .i64 v0) ∧ n ≠ 0 ∧ at_ + n ≤ b.length) ?_ ?_
      · refine gbK_intro (fun hb => ?_) (fun hb => ?_)
        · rw [hb]
          simp at hb
          have chk_ : True ∧ True := by simp only [and_self, h0, h1, h7, h8, bytesV_length]
          clear chk_
          repeat (first | simp -implicitDefEqProofs only [XL, XM, TL, Option.isSome_some, Option.bind_some, Option.bind_none, Option.map_some, Option.map_none, Option.some.injEq, List.getElem?_cons_zero, List.getElem?_cons_succ, List.getElem?_toArray, List.toList_toArray, Nat.reduceEqDiff, if_true, if_false, ↓reduceIte, reduceCtorEq, Bool.false_eq_true, List.nil_append, List.append_nil, List.cons_append, Bool.or_self, Bool.or_true, Bool.or_false, Bool.true_or, Bool.false_or, Bool.and_true, Bool.true_and, Bool.not_true, Bool.not_false, Nat.reduceAdd, Nat.reduceMul, Nat.reduceSub, Nat.reduceLT, Nat.reduceLeDiff, Int.reduceToNat, List.all_cons, List.all_nil, List.map_cons, List.map_nil, List.set_cons_zero,  true_and, and_true, Int.natCast_nonneg, Int.le_refl, Nat.le_refl, Int.toNat_natCast, Nat.sub_zero,  List.drop_zero, List.drop_succ_cons, List.length_cons, List.length_nil,  List.set_cons_succ, and_self, decide_true, decide_false, Int.reduceLT, Int.reduceLE, Int.reduceEq, Int.reduceSub, Int.reduceAdd, Int.reduceMul, String.reduceEq, stK_eq, stV.eq_1, stR_some, stE_ag, stE_one, stE_whole, h0, h1, h7, h8, bytesV_length] | simp (disch := omega) only [ifp, ifn, wrap_i64, wrap_u8, wrap_i32, wrap_u64, wrap_u32, Int.tdiv_eq_ediv_of_nonneg, Int.tmod_eq_emod_of_nonneg])
          intro _
          refine BrK_intro (fun hb2 => ?_) (fun hb2 => ?_)
          · simp at hb2
            simp -implicitDefEqProofs only [XL, XM, TL, Option.isSome_some, Option.bind_some, Option.bind_none, Option.map_some, Option.map_none, Option.some.injEq, List.getElem?_cons_zero, List.getElem?_cons_succ, List.getElem?_toArray, List.toList_toArray, Nat.reduceEqDiff, if_true, if_false, ↓reduceIte, reduceCtorEq, Bool.false_eq_true, List.nil_append, List.append_nil, List.cons_append, Bool.or_self, Bool.or_true, Bool.or_false, Bool.true_or, Bool.false_or, Bool.and_true, Bool.true_and, Bool.not_true, Bool.not_false, Nat.reduceAdd, Nat.reduceMul, Nat.reduceSub, Nat.reduceLT, Nat.reduceLeDiff, Int.reduceToNat, List.all_cons, List.all_nil, List.map_cons, List.map_nil, List.set_cons_zero,  true_and, and_true, Int.natCast_nonneg, Int.le_refl, Nat.le_refl, Int.toNat_natCast, Nat.sub_zero,  List.drop_zero, List.drop_succ_cons, List.length_cons, List.length_nil,  List.set_cons_succ, and_self, decide_true, decide_false, Int.reduceLT, Int.reduceLE, Int.reduceEq, Int.reduceSub, Int.reduceAdd, Int.reduceMul, String.reduceEq, stK_eq, stV.eq_1, stR_some, stE_ag, stE_one, stE_whole]
            refine RetK_pure (.refl _) ?_
            rw [if_pos (by omega)]; rfl
          · simp at hb2
            simp -implicitDefEqProofs only [XL, XM, TL, Option.isSome_some, Option.bind_some, Option.bind_none, Option.map_some, Option.map_none, Option.some.injEq, List.getElem?_cons_zero, List.getElem?_cons_succ, List.getElem?_toArray, List.toList_toArray, Nat.reduceEqDiff, if_true, if_false, ↓reduceIte, reduceCtorEq, Bool.false_eq_true, List.nil_append, List.append_nil, List.cons_append, Bool.or_self, Bool.or_true, Bool.or_false, Bool.true_or, Bool.false_or, Bool.and_true, Bool.true_and, Bool.not_true, Bool.not_false, Nat.reduceAdd, Nat.reduceMul, Nat.reduceSub, Nat.reduceLT, Nat.reduceLeDiff, Int.reduceToNat, List.all_cons, List.all_nil, List.map_cons, List.map_nil, List.set_cons_zero,  true_and, and_true, Int.natCast_nonneg, Int.le_refl, Nat.le_refl, Int.toNat_natCast, Nat.sub_zero,  List.drop_zero, List.drop_succ_cons, List.length_cons, List.length_nil,  List.set_cons_succ, and_self, decide_true, decide_false, Int.reduceLT, Int.reduceLE, Int.reduceEq, Int.reduceSub, Int.reduceAdd, Int.reduceMul, String.reduceEq, stK_eq, stV.eq_1, stR_some, stE_ag, stE_one, stE_whole, h0, h1, h7, h8]
            exact ⟨hb, by omega⟩
        · rw [hb]
          simp at hb
          simp -implicitDefEqProofs only [XL, XM, TL, Option.isSome_some, Option.bind_some, Option.bind_none, Option.map_some, Option.map_none, Option.some.injEq, List.getElem?_cons_zero, List.getElem?_cons_succ, List.getElem?_toArray, List.toList_toArray, Nat.reduceEqDiff, if_true, if_false, ↓reduceIte, reduceCtorEq, Bool.false_eq_true, List.nil_append, List.append_nil, List.cons_append, Bool.or_self, Bool.or_true, Bool.or_false, Bool.true_or, Bool.false_or, Bool.and_true, Bool.true_and, Bool.not_true, Bool.not_false, Nat.reduceAdd, Nat.reduceMul, Nat.reduceSub, Nat.reduceLT, Nat.reduceLeDiff, Int.reduceToNat, List.all_cons, List.all_nil, List.map_cons, List.map_nil, List.set_cons_zero,  true_and, and_true, Int.natCast_nonneg, Int.le_refl, Nat.le_refl, Int.toNat_natCast, Nat.sub_zero,  List.drop_zero, List.drop_succ_cons, List.length_cons, List.length_nil,  List.set_cons_succ, and_self, decide_true, decide_false, Int.reduceLT, Int.reduceLE, Int.reduceEq, Int.reduceSub, Int.reduceAdd, Int.reduceMul, String.reduceEq, stK_eq, stV.eq_1, stR_some, stE_ag, stE_one, stE_whole, h0, h1, h7, h8]
          refine RetK_pure (.refl _) ?_
          rw [if_pos (by omega)]; rfl
      · rintro a h'' ⟨rfl, h0, h1, h7, h8, hn0, hnl⟩
        rw [if_neg (by omega)]
        simp -implicitDefEqProofs only [XL, XM, TL, Option.isSome_some, Option.bind_some, Option.bind_none, Option.map_some, Option.map_none, Option.some.injEq, List.getElem?_cons_zero, List.getElem?_cons_succ, List.getElem?_toArray, List.toList_toArray, Nat.reduceEqDiff, if_true, if_false, ↓reduceIte, reduceCtorEq, Bool.false_eq_true, List.nil_append, List.append_nil, List.cons_append, Bool.or_self, Bool.or_true, Bool.or_false, Bool.true_or, Bool.false_or, Bool.and_true, Bool.true_and, Bool.not_true, Bool.not_false, Nat.reduceAdd, Nat.reduceMul, Nat.reduceSub, Nat.reduceLT, Nat.reduceLeDiff, Int.reduceToNat, List.all_cons, List.all_nil, List.map_cons, List.map_nil, List.set_cons_zero,  true_and, and_true, Int.natCast_nonneg, Int.le_refl, Nat.le_refl, Int.toNat_natCast, Nat.sub_zero,  List.drop_zero, List.drop_succ_cons, List.length_cons, List.length_nil,  List.set_cons_succ, and_self, decide_true, decide_false, Int.reduceLT, Int.reduceLE, Int.reduceEq, Int.reduceSub, Int.reduceAdd, Int.reduceMul, String.reduceEq, stK_eq, stV.eq_1, stR_some, stE_ag, stE_one, stE_whole, h0, h1, h7, h8]
        refine loopK_intro (fun (s : Nat × Nat) a g => g = h'' ∧ a 0 = some (.im 1 (bytesV b)) ∧ a 1 = some (.i .i64 at_) ∧ a 7 = some (.i .i64 n) ∧ a 8 = some (.i .i64 s.2) ∧ a 9 = some (.i .i64 s.1) ∧ 1 ≤ s.1 ∧ s.1 ≤ n ∧ contF b at_ (n - s.1) s.1 s.2 = contF b at_ (n - 1) 1 v0 ∧ ((s.1 = 1 ∧ s.2 < 64) ∨ (s.1 = 2 ∧ s.2 < 4096) ∨ (s.1 = 3 ∧ s.2 < 262144) ∨ (s.1 = 4 ∧ s.2 < 16777216))) (fun s => n - s.1) (1, v0) ⟨rfl, h0, h1, h7, h8, rfl, Nat.le_refl _, by simp only []; omega, rfl, .inl ⟨rfl, hv0⟩⟩ ?_
        rintro ⟨i, v⟩ a g ⟨rfl, h0, h1, h7, h8, h9, hi1, hin, hcont, hbnd⟩
        simp only at h8 h9 hi1 hin hcont hbnd
        simp -implicitDefEqProofs only [XL, XM, TL, Option.isSome_some, Option.bind_some, Option.bind_none, Option.map_some, Option.map_none, Option.some.injEq, List.getElem?_cons_zero, List.getElem?_cons_succ, List.getElem?_toArray, List.toList_toArray, Nat.reduceEqDiff, if_true, if_false, ↓reduceIte, reduceCtorEq, Bool.false_eq_true, List.nil_append, List.append_nil, List.cons_append, Bool.or_self, Bool.or_true, Bool.or_false, Bool.true_or, Bool.false_or, Bool.and_true, Bool.true_and, Bool.not_true, Bool.not_false, Nat.reduceAdd, Nat.reduceMul, Nat.reduceSub, Nat.reduceLT, Nat.reduceLeDiff, Int.reduceToNat, List.all_cons, List.all_nil, List.map_cons, List.map_nil, List.set_cons_zero,  true_and, and_true, Int.natCast_nonneg, Int.le_refl, Nat.le_refl, Int.toNat_natCast, Nat.sub_zero,  List.drop_zero, List.drop_succ_cons, List.length_cons, List.length_nil,  List.set_cons_succ, and_self, decide_true, decide_false, Int.reduceLT, Int.reduceLE, Int.reduceEq, Int.reduceSub, Int.reduceAdd, Int.reduceMul, String.reduceEq, stK_eq, stV.eq_1, stR_some, stE_ag, stE_one, stE_whole, h0, h1, h7, h8, h9]
        refine BrK_intro (fun hb => ?_) (fun hb => ?_)
        · simp at hb
          have hgi := at0_get (b := b) (i := at_ + i) (by omega)
          have hci := at0_lt b (at_ + i)
          have hcci : ((b.getD (at_ + i) 0).toNat : Int) = (at0 b (at_ + i) : Int) := rfl
          have e1 : IntKind.i64.wrap ((at_ : Int) + (i : Int)) = ((at_ + i : Nat) : Int) := by rw [wrap_i64 (by omega) (by omega)]; omega
          have e2 : n - i = (n - (i + 1)) + 1 := by omega
          rw [e2, contF] at hcont
          have chk_ : True ∧ True := by simp only [and_self, h0, h1, h7, h8, h9, e1, bytesV_get, hgi, bV_cells, hcci]
          clear chk_
          repeat (first | simp -implicitDefEqProofs only [XL, XM, TL, Option.isSome_some, Option.bind_some, Option.bind_none, Option.map_some, Option.map_none, Option.some.injEq, List.getElem?_cons_zero, List.getElem?_cons_succ, List.getElem?_toArray, List.toList_toArray, Nat.reduceEqDiff, if_true, if_false, ↓reduceIte, reduceCtorEq, Bool.false_eq_true, List.nil_append, List.append_nil, List.cons_append, Bool.or_self, Bool.or_true, Bool.or_false, Bool.true_or, Bool.false_or, Bool.and_true, Bool.true_and, Bool.not_true, Bool.not_false, Nat.reduceAdd, Nat.reduceMul, Nat.reduceSub, Nat.reduceLT, Nat.reduceLeDiff, Int.reduceToNat, List.all_cons, List.all_nil, List.map_cons, List.map_nil, List.set_cons_zero,  true_and, and_true, Int.natCast_nonneg, Int.le_refl, Nat.le_refl, Int.toNat_natCast, Nat.sub_zero,  List.drop_zero, List.drop_succ_cons, List.length_cons, List.length_nil,  List.set_cons_succ, and_self, decide_true, decide_false, Int.reduceLT, Int.reduceLE, Int.reduceEq, Int.reduceSub, Int.reduceAdd, Int.reduceMul, String.reduceEq, stK_eq, stV.eq_1, stR_some, stE_ag, stE_one, stE_whole, h0, h1, h7, h8, h9, e1, bytesV_get, hgi, bV_cells, hcci] | simp (disch := omega) only [ifp, ifn, wrap_i64, wrap_u8, wrap_i32, wrap_u64, wrap_u32, Int.tdiv_eq_ediv_of_nonneg, Int.tmod_eq_emod_of_nonneg])
          refine gbK_cut2 (fun a' g' => g' = g ∧ a' 0 = some (.im 1 (bytesV b)) ∧ a' 1 = some (.i .i64 at_) ∧ a' 7 = some (.i .i64 n) ∧ a' 8 = some (.i .i64 v) ∧ a' 9 = some (.i .i64 i) ∧ a' 10 = some (.i .i64 (at0 b (at_ + i))) ∧ 128 ≤ at0 b (at_ + i) ∧ at0 b (at_ + i) < 192) ?_ ?_
          · have bad : at0 b (at_ + i) < 128 ∨ 192 ≤ at0 b (at_ + i) → contF b at_ (n - 1) 1 v0 = none := fun hh => by rw [if_pos hh] at hcont; exact hcont.symm
            have chk_ : True ∧ True := by simp only [and_self, h0, h1, h7, h8, h9]
            clear chk_
            repeat' (first | simp -implicitDefEqProofs only [XL, XM, TL, Option.isSome_some, Option.bind_some, Option.bind_none, Option.map_some, Option.map_none, Option.some.injEq, List.getElem?_cons_zero, List.getElem?_cons_succ, List.getElem?_toArray, List.toList_toArray, Nat.reduceEqDiff, if_true, if_false, ↓reduceIte, reduceCtorEq, Bool.false_eq_true, List.nil_append, List.append_nil, List.cons_append, Bool.or_self, Bool.or_true, Bool.or_false, Bool.true_or, Bool.false_or, Bool.and_true, Bool.true_and, Bool.not_true, Bool.not_false, Nat.reduceAdd, Nat.reduceMul, Nat.reduceSub, Nat.reduceLT, Nat.reduceLeDiff, Int.reduceToNat, List.all_cons, List.all_nil, List.map_cons, List.map_nil, List.set_cons_zero,  true_and, and_true, Int.natCast_nonneg, Int.le_refl, Nat.le_refl, Int.toNat_natCast, Nat.sub_zero,  List.drop_zero, List.drop_succ_cons, List.length_cons, List.length_nil,  List.set_cons_succ, and_self, decide_true, decide_false, Int.reduceLT, Int.reduceLE, Int.reduceEq, Int.reduceSub, Int.reduceAdd, Int.reduceMul, String.reduceEq, stK_eq, stV.eq_1, stR_some, stE_ag, stE_one, stE_whole, h0, h1, h7, h8, h9] | simp (disch := omega) only [ifp, ifn, wrap_i64, wrap_u8, wrap_i32, wrap_u64, wrap_u32, Int.tdiv_eq_ediv_of_nonneg, Int.tmod_eq_emod_of_nonneg] | ((with_reducible refine BrK_intro (fun hwb => ?_) (fun hwb => ?_)) <;> (try rw [hwb]) <;> simp only [decide_eq_true_eq, decide_eq_false_iff_not, Bool.not_eq_true', Bool.not_eq_false', Bool.not_true, Bool.not_false] at hwb) | ((with_reducible refine gbK_intro (fun hwb => ?_) (fun hwb => ?_)) <;> (try rw [hwb]) <;> simp only [decide_eq_true_eq, decide_eq_false_iff_not, Bool.not_eq_true', Bool.not_eq_false', Bool.not_true, Bool.not_false] at hwb) | ((with_reducible refine qgb_intro (fun hwb => ?_) (fun hwb => ?_)) <;> (try rw [hwb]) <;> simp only [decide_eq_true_eq, decide_eq_false_iff_not, Bool.not_eq_true', Bool.not_eq_false', Bool.not_true, Bool.not_false] at hwb) | (with_reducible intro hl) | (with_reducible refine drawK_q (by kernel_rfl) (by kernel_rfl) ?_) )
            all_goals first
              | (refine RetK_pure (.refl _) ?_
                 rw [bad (by omega)]; rfl)
              | (constructor <;> omega)
          · rintro a g' ⟨rfl, h0, h1, h7, h8, h9, h10, hl, hu⟩
            rw [if_neg (by omega)] at hcont
            have chk_ : True ∧ True := by simp only [and_self, h0, h1, h7, h8, h9, h10]
            clear chk_
            repeat (first | simp -implicitDefEqProofs only [XL, XM, TL, Option.isSome_some, Option.bind_some, Option.bind_none, Option.map_some, Option.map_none, Option.some.injEq, List.getElem?_cons_zero, List.getElem?_cons_succ, List.getElem?_toArray, List.toList_toArray, Nat.reduceEqDiff, if_true, if_false, ↓reduceIte, reduceCtorEq, Bool.false_eq_true, List.nil_append, List.append_nil, List.cons_append, Bool.or_self, Bool.or_true, Bool.or_false, Bool.true_or, Bool.false_or, Bool.and_true, Bool.true_and, Bool.not_true, Bool.not_false, Nat.reduceAdd, Nat.reduceMul, Nat.reduceSub, Nat.reduceLT, Nat.reduceLeDiff, Int.reduceToNat, List.all_cons, List.all_nil, List.map_cons, List.map_nil, List.set_cons_zero,  true_and, and_true, Int.natCast_nonneg, Int.le_refl, Nat.le_refl, Int.toNat_natCast, Nat.sub_zero,  List.drop_zero, List.drop_succ_cons, List.length_cons, List.length_nil,  List.set_cons_succ, and_self, decide_true, decide_false, Int.reduceLT, Int.reduceLE, Int.reduceEq, Int.reduceSub, Int.reduceAdd, Int.reduceMul, String.reduceEq, stK_eq, stV.eq_1, stR_some, stE_ag, stE_one, stE_whole, h0, h1, h7, h8, h9, h10] | simp (disch := omega) only [ifp, ifn, wrap_i64, wrap_u8, wrap_i32, wrap_u64, wrap_u32, Int.tdiv_eq_ediv_of_nonneg, Int.tmod_eq_emod_of_nonneg])
            have e3 : (v : Int) * 64 + (at0 b (at_ + i) : Int) - 128 = ((v * 64 + at0 b (at_ + i) - 128 : Nat) : Int) := by omega
            rw [e3]
            refine LP.mk (i + 1, v * 64 + at0 b (at_ + i) - 128) (by simp only []; omega) ⟨rfl, h0, h1, h7, rfl, rfl, by simp only []; omega, by simp only []; omega, hcont, by simp only []; omega⟩
        · simp at hb
          simp -implicitDefEqProofs only [XL, XM, TL, Option.isSome_some, Option.bind_some, Option.bind_none, Option.map_some, Option.map_none, Option.some.injEq, List.getElem?_cons_zero, List.getElem?_cons_succ, List.getElem?_toArray, List.toList_toArray, Nat.reduceEqDiff, if_true, if_false, ↓reduceIte, reduceCtorEq, Bool.false_eq_true, List.nil_append, List.append_nil, List.cons_append, Bool.or_self, Bool.or_true, Bool.or_false, Bool.true_or, Bool.false_or, Bool.and_true, Bool.true_and, Bool.not_true, Bool.not_false, Nat.reduceAdd, Nat.reduceMul, Nat.reduceSub, Nat.reduceLT, Nat.reduceLeDiff, Int.reduceToNat, List.all_cons, List.all_nil, List.map_cons, List.map_nil, List.set_cons_zero,  true_and, and_true, Int.natCast_nonneg, Int.le_refl, Nat.le_refl, Int.toNat_natCast, Nat.sub_zero,  List.drop_zero, List.drop_succ_cons, List.length_cons, List.length_nil,  List.set_cons_succ, and_self, decide_true, decide_false, Int.reduceLT, Int.reduceLE, Int.reduceEq, Int.reduceSub, Int.reduceAdd, Int.reduceMul, String.reduceEq, stK_eq, stV.eq_1, stR_some, stE_ag, stE_one, stE_whole, h8]
          have hni : n - i = 0 := by omega
          rw [hni, contF] at hcont
          rw [← hcont]
          refine call_eq (l1point_spec G g v) ?_
          simp -implicitDefEqProofs only [XL, XM, TL, Option.isSome_some, Option.bind_some, Option.bind_none, Option.map_some, Option.map_none, Option.some.injEq, List.getElem?_cons_zero, List.getElem?_cons_succ, List.getElem?_toArray, List.toList_toArray, Nat.reduceEqDiff, if_true, if_false, ↓reduceIte, reduceCtorEq, Bool.false_eq_true, List.nil_append, List.append_nil, List.cons_append, Bool.or_self, Bool.or_true, Bool.or_false, Bool.true_or, Bool.false_or, Bool.and_true, Bool.true_and, Bool.not_true, Bool.not_false, Nat.reduceAdd, Nat.reduceMul, Nat.reduceSub, Nat.reduceLT, Nat.reduceLeDiff, Int.reduceToNat, List.all_cons, List.all_nil, List.map_cons, List.map_nil, List.set_cons_zero,  true_and, and_true, Int.natCast_nonneg, Int.le_refl, Nat.le_refl, Int.toNat_natCast, Nat.sub_zero,  List.drop_zero, List.drop_succ_cons, List.length_cons, List.length_nil,  List.set_cons_succ, and_self, decide_true, decide_false, Int.reduceLT, Int.reduceLE, Int.reduceEq, Int.reduceSub, Int.reduceAdd, Int.reduceMul, String.reduceEq, stK_eq, stV.eq_1, stR_some, stE_ag, stE_one, stE_whole]
          refine gbK_intro (fun hb => ?_) (fun hb => ?_)
          · rw [hb]
            simp only [Bool.not_eq_eq_eq_not, Bool.not_false] at hb
            simp -implicitDefEqProofs only [XL, XM, TL, Option.isSome_some, Option.bind_some, Option.bind_none, Option.map_some, Option.map_none, Option.some.injEq, List.getElem?_cons_zero, List.getElem?_cons_succ, List.getElem?_toArray, List.toList_toArray, Nat.reduceEqDiff, if_true, if_false, ↓reduceIte, reduceCtorEq, Bool.false_eq_true, List.nil_append, List.append_nil, List.cons_append, Bool.or_self, Bool.or_true, Bool.or_false, Bool.true_or, Bool.false_or, Bool.and_true, Bool.true_and, Bool.not_true, Bool.not_false, Nat.reduceAdd, Nat.reduceMul, Nat.reduceSub, Nat.reduceLT, Nat.reduceLeDiff, Int.reduceToNat, List.all_cons, List.all_nil, List.map_cons, List.map_nil, List.set_cons_zero,  true_and, and_true, Int.natCast_nonneg, Int.le_refl, Nat.le_refl, Int.toNat_natCast, Nat.sub_zero,  List.drop_zero, List.drop_succ_cons, List.length_cons, List.length_nil,  List.set_cons_succ, and_self, decide_true, decide_false, Int.reduceLT, Int.reduceLE, Int.reduceEq, Int.reduceSub, Int.reduceAdd, Int.reduceMul, String.reduceEq, stK_eq, stV.eq_1, stR_some, stE_ag, stE_one, stE_whole, h8]
            refine call_eq (l1utf8_spec G g v (by simp only [isPoint, decide_eq_true_eq] at hb; omega)) ?_
            simp -implicitDefEqProofs only [XL, XM, TL, Option.isSome_some, Option.bind_some, Option.bind_none, Option.map_some, Option.map_none, Option.some.injEq, List.getElem?_cons_zero, List.getElem?_cons_succ, List.getElem?_toArray, List.toList_toArray, Nat.reduceEqDiff, if_true, if_false, ↓reduceIte, reduceCtorEq, Bool.false_eq_true, List.nil_append, List.append_nil, List.cons_append, Bool.or_self, Bool.or_true, Bool.or_false, Bool.true_or, Bool.false_or, Bool.and_true, Bool.true_and, Bool.not_true, Bool.not_false, Nat.reduceAdd, Nat.reduceMul, Nat.reduceSub, Nat.reduceLT, Nat.reduceLeDiff, Int.reduceToNat, List.all_cons, List.all_nil, List.map_cons, List.map_nil, List.set_cons_zero,  true_and, and_true, Int.natCast_nonneg, Int.le_refl, Nat.le_refl, Int.toNat_natCast, Nat.sub_zero,  List.drop_zero, List.drop_succ_cons, List.length_cons, List.length_nil,  List.set_cons_succ, and_self, decide_true, decide_false, Int.reduceLT, Int.reduceLE, Int.reduceEq, Int.reduceSub, Int.reduceAdd, Int.reduceMul, String.reduceEq, stK_eq, stV.eq_1, stR_some, stE_ag, stE_one, stE_whole, h7, bytesV_length]
            intro _
            refine BrK_intro (fun hb2 => ?_) (fun hb2 => ?_)
            · simp at hb2
              simp -implicitDefEqProofs only [XL, XM, TL, Option.isSome_some, Option.bind_some, Option.bind_none, Option.map_some, Option.map_none, Option.some.injEq, List.getElem?_cons_zero, List.getElem?_cons_succ, List.getElem?_toArray, List.toList_toArray, Nat.reduceEqDiff, if_true, if_false, ↓reduceIte, reduceCtorEq, Bool.false_eq_true, List.nil_append, List.append_nil, List.cons_append, Bool.or_self, Bool.or_true, Bool.or_false, Bool.true_or, Bool.false_or, Bool.and_true, Bool.true_and, Bool.not_true, Bool.not_false, Nat.reduceAdd, Nat.reduceMul, Nat.reduceSub, Nat.reduceLT, Nat.reduceLeDiff, Int.reduceToNat, List.all_cons, List.all_nil, List.map_cons, List.map_nil, List.set_cons_zero,  true_and, and_true, Int.natCast_nonneg, Int.le_refl, Nat.le_refl, Int.toNat_natCast, Nat.sub_zero,  List.drop_zero, List.drop_succ_cons, List.length_cons, List.length_nil,  List.set_cons_succ, and_self, decide_true, decide_false, Int.reduceLT, Int.reduceLE, Int.reduceEq, Int.reduceSub, Int.reduceAdd, Int.reduceMul, String.reduceEq, stK_eq, stV.eq_1, stR_some, stE_ag, stE_one, stE_whole]
              refine RetK_pure (.refl _) ?_
              rw [if_neg (by rintro ⟨_, h9⟩; omega)]; rfl
            · simp at hb2
              simp -implicitDefEqProofs only [XL, XM, TL, Option.isSome_some, Option.bind_some, Option.bind_none, Option.map_some, Option.map_none, Option.some.injEq, List.getElem?_cons_zero, List.getElem?_cons_succ, List.getElem?_toArray, List.toList_toArray, Nat.reduceEqDiff, if_true, if_false, ↓reduceIte, reduceCtorEq, Bool.false_eq_true, List.nil_append, List.append_nil, List.cons_append, Bool.or_self, Bool.or_true, Bool.or_false, Bool.true_or, Bool.false_or, Bool.and_true, Bool.true_and, Bool.not_true, Bool.not_false, Nat.reduceAdd, Nat.reduceMul, Nat.reduceSub, Nat.reduceLT, Nat.reduceLeDiff, Int.reduceToNat, List.all_cons, List.all_nil, List.map_cons, List.map_nil, List.set_cons_zero,  true_and, and_true, Int.natCast_nonneg, Int.le_refl, Nat.le_refl, Int.toNat_natCast, Nat.sub_zero,  List.drop_zero, List.drop_succ_cons, List.length_cons, List.length_nil,  List.set_cons_succ, and_self, decide_true, decide_false, Int.reduceLT, Int.reduceLE, Int.reduceEq, Int.reduceSub, Int.reduceAdd, Int.reduceMul, String.reduceEq, stK_eq, stV.eq_1, stR_some, stE_ag, stE_one, stE_whole, h7, h8]
              refine RetK_pure (.refl _) ?_
              rw [if_pos ⟨hb, by omega⟩]
          · rw [hb]
            simp only [Bool.not_eq_eq_eq_not, Bool.not_true, Bool.not_false] at hb
            simp -implicitDefEqProofs only [XL, XM, TL, Option.isSome_some, Option.bind_some, Option.bind_none, Option.map_some, Option.map_none, Option.some.injEq, List.getElem?_cons_zero, List.getElem?_cons_succ, List.getElem?_toArray, List.toList_toArray, Nat.reduceEqDiff, if_true, if_false, ↓reduceIte, reduceCtorEq, Bool.false_eq_true, List.nil_append, List.append_nil, List.cons_append, Bool.or_self, Bool.or_true, Bool.or_false, Bool.true_or, Bool.false_or, Bool.and_true, Bool.true_and, Bool.not_true, Bool.not_false, Nat.reduceAdd, Nat.reduceMul, Nat.reduceSub, Nat.reduceLT, Nat.reduceLeDiff, Int.reduceToNat, List.all_cons, List.all_nil, List.map_cons, List.map_nil, List.set_cons_zero,  true_and, and_true, Int.natCast_nonneg, Int.le_refl, Nat.le_refl, Int.toNat_natCast, Nat.sub_zero,  List.drop_zero, List.drop_succ_cons, List.length_cons, List.length_nil,  List.set_cons_succ, and_self, decide_true, decide_false, Int.reduceLT, Int.reduceLE, Int.reduceEq, Int.reduceSub, Int.reduceAdd, Int.reduceMul, String.reduceEq, stK_eq, stV.eq_1, stR_some, stE_ag, stE_one, stE_whole, h7, h8]
            refine RetK_pure (.refl _) ?_
            rw [if_neg (by rintro ⟨h9, _⟩; rw [hb] at h9; cases h9)]; rfl
end Go.X
end

section
open Go Go.Proofs
namespace Go.X
set_option linter.unusedSimpArgs false
set_option maxRecDepth 10000

def checkF (b : List UInt8) (at_ : Nat) : Nat × Nat :=
  if _h : at_ < b.length then (if _h2 : (charF b at_).1 = 0 then (2, at_) else checkF b (at_ + (charF b at_).1)) else (0, 0)
termination_by b.length - at_

theorem charF_le (b : List UInt8) (at_ : Nat) (h : at_ < b.length) : at_ + (charF b at_).1 ≤ b.length := by
  unfold charF
  split
  · simp only []; omega
  · split
    · simp only []; omega
    · split
      · simp only []; omega
      · split <;> simp only [] <;> omega

theorem specCheck_spec (G : Gl) (h : H) (b : List UInt8) (hlen : b.length ≤ 1000000000) :
    XCalls Tryz.prog G 5 [.im 1 (bytesV b)] h (fun o h' => o = .ret (.tu [.i .i64 (checkF b 0).1, .i .i64 (checkF b 0).2]) ∧ h' = h) := by
  refine enterK (rs := [.tmp 2, .tmp 3]) Tryz.func5 (by kernel_rfl) rfl rfl (by kernel_rfl) rfl (Nat.le_of_ble_eq_true rfl) (fun hbd => ?_)
  simp -implicitDefEqProofs only [XL, XM, TL, Option.isSome_some, Option.bind_some, Option.bind_none, Option.map_some, Option.map_none, Option.some.injEq, List.getElem?_cons_zero, List.getElem?_cons_succ, List.getElem?_toArray, List.toList_toArray, Nat.reduceEqDiff, if_true, if_false, ↓reduceIte, reduceCtorEq, Bool.false_eq_true, List.nil_append, List.append_nil, List.cons_append, Bool.or_self, Bool.or_true, Bool.or_false, Bool.true_or, Bool.false_or, Bool.and_true, Bool.true_and, Bool.not_true, Bool.not_false, Nat.reduceAdd, Nat.reduceMul, Nat.reduceSub, Nat.reduceLT, Nat.reduceLeDiff, Int.reduceToNat, List.all_cons, List.all_nil, List.map_cons, List.map_nil, List.set_cons_zero,  true_and, and_true, Int.natCast_nonneg, Int.le_refl, Nat.le_refl, Int.toNat_natCast, Nat.sub_zero,  List.drop_zero, List.drop_succ_cons, List.length_cons, List.length_nil,  List.set_cons_succ, and_self, decide_true, decide_false, Int.reduceLT, Int.reduceLE, Int.reduceEq, Int.reduceSub, Int.reduceAdd, Int.reduceMul, String.reduceEq, stK_eq, stV.eq_1, stR_some, stE_ag, stE_one, stE_whole]
  refine loopK_intro (fun (i : Nat) a g => g = h ∧ a 0 = some (.im 1 (bytesV b)) ∧ a 4 = some (.i .i64 i) ∧ i ≤ b.length ∧ checkF b i = checkF b 0) (fun i => b.length - i) 0 ⟨rfl, rfl, rfl, Nat.zero_le _, rfl⟩ ?_
  rintro i a g ⟨rfl, h0, h4, hi, heq⟩
  rw [← heq]
  simp -implicitDefEqProofs only [XL, XM, TL, Option.isSome_some, Option.bind_some, Option.bind_none, Option.map_some, Option.map_none, Option.some.injEq, List.getElem?_cons_zero, List.getElem?_cons_succ, List.getElem?_toArray, List.toList_toArray, Nat.reduceEqDiff, if_true, if_false, ↓reduceIte, reduceCtorEq, Bool.false_eq_true, List.nil_append, List.append_nil, List.cons_append, Bool.or_self, Bool.or_true, Bool.or_false, Bool.true_or, Bool.false_or, Bool.and_true, Bool.true_and, Bool.not_true, Bool.not_false, Nat.reduceAdd, Nat.reduceMul, Nat.reduceSub, Nat.reduceLT, Nat.reduceLeDiff, Int.reduceToNat, List.all_cons, List.all_nil, List.map_cons, List.map_nil, List.set_cons_zero,  true_and, and_true, Int.natCast_nonneg, Int.le_refl, Nat.le_refl, Int.toNat_natCast, Nat.sub_zero,  List.drop_zero, List.drop_succ_cons, List.length_cons, List.length_nil,  List.set_cons_succ, and_self, decide_true, decide_false, Int.reduceLT, Int.reduceLE, Int.reduceEq, Int.reduceSub, Int.reduceAdd, Int.reduceMul, String.reduceEq, stK_eq, stV.eq_1, stR_some, stE_ag, stE_one, stE_whole, h0, h4, bytesV_length]
  intro _
  refine BrK_intro (fun hb => ?_) (fun hb => ?_)
  · simp at hb
    simp -implicitDefEqProofs only [XL, XM, TL, Option.isSome_some, Option.bind_some, Option.bind_none, Option.map_some, Option.map_none, Option.some.injEq, List.getElem?_cons_zero, List.getElem?_cons_succ, List.getElem?_toArray, List.toList_toArray, Nat.reduceEqDiff, if_true, if_false, ↓reduceIte, reduceCtorEq, Bool.false_eq_true, List.nil_append, List.append_nil, List.cons_append, Bool.or_self, Bool.or_true, Bool.or_false, Bool.true_or, Bool.false_or, Bool.and_true, Bool.true_and, Bool.not_true, Bool.not_false, Nat.reduceAdd, Nat.reduceMul, Nat.reduceSub, Nat.reduceLT, Nat.reduceLeDiff, Int.reduceToNat, List.all_cons, List.all_nil, List.map_cons, List.map_nil, List.set_cons_zero,  true_and, and_true, Int.natCast_nonneg, Int.le_refl, Nat.le_refl, Int.toNat_natCast, Nat.sub_zero,  List.drop_zero, List.drop_succ_cons, List.length_cons, List.length_nil,  List.set_cons_succ, and_self, decide_true, decide_false, Int.reduceLT, Int.reduceLE, Int.reduceEq, Int.reduceSub, Int.reduceAdd, Int.reduceMul, String.reduceEq, stK_eq, stV.eq_1, stR_some, stE_ag, stE_one, stE_whole, h0, h4]
    refine call_eq (l1char_spec G g b i hb hlen) ?_
    have hle := charF_le b i hb
    have hun : checkF b i = if h2 : (charF b i).1 = 0 then (2, i) else checkF b (i + (charF b i).1) := by
      rw [checkF, dif_pos hb]
    generalize charF b i = nv at *
    simp -implicitDefEqProofs only [XL, XM, TL, Option.isSome_some, Option.bind_some, Option.bind_none, Option.map_some, Option.map_none, Option.some.injEq, List.getElem?_cons_zero, List.getElem?_cons_succ, List.getElem?_toArray, List.toList_toArray, Nat.reduceEqDiff, if_true, if_false, ↓reduceIte, reduceCtorEq, Bool.false_eq_true, List.nil_append, List.append_nil, List.cons_append, Bool.or_self, Bool.or_true, Bool.or_false, Bool.true_or, Bool.false_or, Bool.and_true, Bool.true_and, Bool.not_true, Bool.not_false, Nat.reduceAdd, Nat.reduceMul, Nat.reduceSub, Nat.reduceLT, Nat.reduceLeDiff, Int.reduceToNat, List.all_cons, List.all_nil, List.map_cons, List.map_nil, List.set_cons_zero,  true_and, and_true, Int.natCast_nonneg, Int.le_refl, Nat.le_refl, Int.toNat_natCast, Nat.sub_zero,  List.drop_zero, List.drop_succ_cons, List.length_cons, List.length_nil,  List.set_cons_succ, and_self, decide_true, decide_false, Int.reduceLT, Int.reduceLE, Int.reduceEq, Int.reduceSub, Int.reduceAdd, Int.reduceMul, String.reduceEq, stK_eq, stV.eq_1, stR_some, stE_ag, stE_one, stE_whole]
    refine BrK_intro (fun hb2 => ?_) (fun hb2 => ?_)
    · simp at hb2
      simp -implicitDefEqProofs only [XL, XM, TL, Option.isSome_some, Option.bind_some, Option.bind_none, Option.map_some, Option.map_none, Option.some.injEq, List.getElem?_cons_zero, List.getElem?_cons_succ, List.getElem?_toArray, List.toList_toArray, Nat.reduceEqDiff, if_true, if_false, ↓reduceIte, reduceCtorEq, Bool.false_eq_true, List.nil_append, List.append_nil, List.cons_append, Bool.or_self, Bool.or_true, Bool.or_false, Bool.true_or, Bool.false_or, Bool.and_true, Bool.true_and, Bool.not_true, Bool.not_false, Nat.reduceAdd, Nat.reduceMul, Nat.reduceSub, Nat.reduceLT, Nat.reduceLeDiff, Int.reduceToNat, List.all_cons, List.all_nil, List.map_cons, List.map_nil, List.set_cons_zero,  true_and, and_true, Int.natCast_nonneg, Int.le_refl, Nat.le_refl, Int.toNat_natCast, Nat.sub_zero,  List.drop_zero, List.drop_succ_cons, List.length_cons, List.length_nil,  List.set_cons_succ, and_self, decide_true, decide_false, Int.reduceLT, Int.reduceLE, Int.reduceEq, Int.reduceSub, Int.reduceAdd, Int.reduceMul, String.reduceEq, stK_eq, stV.eq_1, stR_some, stE_ag, stE_one, stE_whole, h4]
      refine RetK_pure (.refl _) ?_
      rw [hun, dif_pos (by omega)]; rfl
    · simp at hb2
      have e : (i : Int) + (nv.1 : Int) = ((i + nv.1 : Nat) : Int) := by omega
      have chk_ : True ∧ True := by simp only [and_self, h4, e]
      clear chk_
      repeat (first | simp -implicitDefEqProofs only [XL, XM, TL, Option.isSome_some, Option.bind_some, Option.bind_none, Option.map_some, Option.map_none, Option.some.injEq, List.getElem?_cons_zero, List.getElem?_cons_succ, List.getElem?_toArray, List.toList_toArray, Nat.reduceEqDiff, if_true, if_false, ↓reduceIte, reduceCtorEq, Bool.false_eq_true, List.nil_append, List.append_nil, List.cons_append, Bool.or_self, Bool.or_true, Bool.or_false, Bool.true_or, Bool.false_or, Bool.and_true, Bool.true_and, Bool.not_true, Bool.not_false, Nat.reduceAdd, Nat.reduceMul, Nat.reduceSub, Nat.reduceLT, Nat.reduceLeDiff, Int.reduceToNat, List.all_cons, List.all_nil, List.map_cons, List.map_nil, List.set_cons_zero,  true_and, and_true, Int.natCast_nonneg, Int.le_refl, Nat.le_refl, Int.toNat_natCast, Nat.sub_zero,  List.drop_zero, List.drop_succ_cons, List.length_cons, List.length_nil,  List.set_cons_succ, and_self, decide_true, decide_false, Int.reduceLT, Int.reduceLE, Int.reduceEq, Int.reduceSub, Int.reduceAdd, Int.reduceMul, String.reduceEq, stK_eq, stV.eq_1, stR_some, stE_ag, stE_one, stE_whole, h4, e] | simp (disch := omega) only [ifp, ifn, wrap_i64, wrap_u8, wrap_i32, wrap_u64, wrap_u32, Int.tdiv_eq_ediv_of_nonneg, Int.tmod_eq_emod_of_nonneg])
      rw [dif_neg (by omega)] at hun
      exact LP.mk (i + nv.1) (by omega) ⟨rfl, h0, rfl, hle, hun.symm⟩
  · simp at hb
    simp -implicitDefEqProofs only [XL, XM, TL, Option.isSome_some, Option.bind_some, Option.bind_none, Option.map_some, Option.map_none, Option.some.injEq, List.getElem?_cons_zero, List.getElem?_cons_succ, List.getElem?_toArray, List.toList_toArray, Nat.reduceEqDiff, if_true, if_false, ↓reduceIte, reduceCtorEq, Bool.false_eq_true, List.nil_append, List.append_nil, List.cons_append, Bool.or_self, Bool.or_true, Bool.or_false, Bool.true_or, Bool.false_or, Bool.and_true, Bool.true_and, Bool.not_true, Bool.not_false, Nat.reduceAdd, Nat.reduceMul, Nat.reduceSub, Nat.reduceLT, Nat.reduceLeDiff, Int.reduceToNat, List.all_cons, List.all_nil, List.map_cons, List.map_nil, List.set_cons_zero,  true_and, and_true, Int.natCast_nonneg, Int.le_refl, Nat.le_refl, Int.toNat_natCast, Nat.sub_zero,  List.drop_zero, List.drop_succ_cons, List.length_cons, List.length_nil,  List.set_cons_succ, and_self, decide_true, decide_false, Int.reduceLT, Int.reduceLE, Int.reduceEq, Int.reduceSub, Int.reduceAdd, Int.reduceMul, String.reduceEq, stK_eq, stV.eq_1, stR_some, stE_ag, stE_one, stE_whole]
    refine RetK_pure (.refl _) ?_
    rw [checkF, dif_neg (by omega)]; rfl
end Go.X
end

section
open Go
namespace Go.X
set_option maxRecDepth 10000
set_option linter.unusedSimpArgs false
set_option linter.unusedVariables false

theorem get!_at0 (l : List UInt8) (i : Nat) : ((⟨⟨l⟩⟩ : ByteArray).get! i).toNat = at0 l i := by
  unfold at0
  show (Array.getD ⟨l⟩ i default).toNat = _
  rw [Array.getD_eq_getD_getElem?, List.getElem?_toArray, List.getD_eq_getElem?_getD]; rfl

theorem utf8V_len (v : Nat) : (utf8V v).length = if v < 128 then 1 else if v < 2048 then 2 else if v < 65536 then 3 else 4 := by
  unfold utf8V; repeat' split
  all_goals rfl

theorem decV_N (l : List UInt8) (i : Nat) : decV l i = Lib.decodeN (l.length - i) (at0 l i) (at0 l (i + 1)) (at0 l (i + 2)) (at0 l (i + 3)) := by
  unfold decV
  rw [Lib.decode_at]
  simp only [get!_at0]
  rfl

theorem decV_drop (l : List UInt8) (i j : Nat) : decV (l.drop i) j = decV l (i + j) := by
  rw [decV_N, decV_N]
  have : ∀ k, at0 (l.drop i) k = at0 l (i + k) := by
    intro k; unfold at0; rw [List.getD_eq_getElem?_getD, List.getElem?_drop, List.getD_eq_getElem?_getD]
  simp only [this, List.length_drop]
  congr 1; omega

theorem charF_two {l : List UInt8} {i : Nat} (c : 192 ≤ at0 l i ∧ at0 l i < 224) : charF l i = if i + 2 ≤ l.length ∧ (128 ≤ at0 l (i + 1) ∧ at0 l (i + 1) < 192) ∧ 128 ≤ (at0 l i - 192) * 64 + at0 l (i + 1) - 128 then (2, (at0 l i - 192) * 64 + at0 l (i + 1) - 128) else (0, 0) := by
  have h1 := at0_lt l (i + 1)
  have hh : headF (at0 l i) = (2, at0 l i - 192) := by simp only [headF]; rw [if_pos c]
  unfold charF
  rw [if_neg (by omega), hh]
  simp only [contF, utf8V_len, isPoint, decide_eq_true_eq]
  generalize at0 l i = b0 at *
  generalize at0 l (i + 1) = b1 at *
  by_cases hn : i + 2 > l.length
  · rw [if_pos (.inr hn), if_neg (by omega)]
  rw [if_neg (by omega)]
  by_cases c2 : b1 < 128 ∨ 192 ≤ b1
  · rw [if_pos c2, if_neg (by omega)]
  rw [if_neg c2]
  simp only
  repeat' split
  all_goals first | rfl | (exfalso; omega)
theorem charF_three {l : List UInt8} {i : Nat} (c : 224 ≤ at0 l i ∧ at0 l i < 240) : charF l i = if i + 3 ≤ l.length ∧ (128 ≤ at0 l (i + 1) ∧ at0 l (i + 1) < 192) ∧ (128 ≤ at0 l (i + 2) ∧ at0 l (i + 2) < 192) ∧
    2048 ≤ (at0 l i - 224) * 4096 + (at0 l (i + 1) - 128) * 64 + (at0 l (i + 2) - 128) ∧ ((at0 l i - 224) * 4096 + (at0 l (i + 1) - 128) * 64 + (at0 l (i + 2) - 128) < 55296 ∨ 57343 < (at0 l i - 224) * 4096 + (at0 l (i + 1) - 128) * 64 + (at0 l (i + 2) - 128))
    then (3, (at0 l i - 224) * 4096 + (at0 l (i + 1) - 128) * 64 + (at0 l (i + 2) - 128)) else (0, 0) := by
  have hh : headF (at0 l i) = (3, at0 l i - 224) := by simp only [headF]; rw [if_neg (by omega), if_pos c]
  unfold charF
  rw [if_neg (by omega), hh]
  simp only [contF, utf8V_len, isPoint, decide_eq_true_eq]
  have e2 : i + (1 + 1) = i + 2 := by omega
  rw [e2]
  generalize at0 l i = b0 at *
  generalize at0 l (i + 1) = b1 at *
  generalize at0 l (i + 2) = b2 at *
  by_cases hn : i + 3 > l.length
  · rw [if_pos (.inr hn), if_neg (by omega)]
  rw [if_neg (by omega)]
  by_cases c2 : b1 < 128 ∨ 192 ≤ b1
  · rw [if_pos c2, if_neg (by omega)]
  rw [if_neg c2]
  by_cases c3 : b2 < 128 ∨ 192 ≤ b2
  · rw [if_pos c3, if_neg (by omega)]
  rw [if_neg c3]
  have e : ((b0 - 224) * 64 + b1 - 128) * 64 + b2 - 128 = (b0 - 224) * 4096 + (b1 - 128) * 64 + (b2 - 128) := by omega
  simp only [e]
  generalize (b0 - 224) * 4096 + (b1 - 128) * 64 + (b2 - 128) = v at *
  repeat' split
  all_goals first | rfl | (exfalso; omega)
theorem charF_four {l : List UInt8} {i : Nat} (c : 240 ≤ at0 l i ∧ at0 l i < 248) : charF l i = if i + 4 ≤ l.length ∧ (128 ≤ at0 l (i + 1) ∧ at0 l (i + 1) < 192) ∧ (128 ≤ at0 l (i + 2) ∧ at0 l (i + 2) < 192) ∧ (128 ≤ at0 l (i + 3) ∧ at0 l (i + 3) < 192) ∧
    65536 ≤ (at0 l i - 240) * 262144 + (at0 l (i + 1) - 128) * 4096 + (at0 l (i + 2) - 128) * 64 + (at0 l (i + 3) - 128) ∧ (at0 l i - 240) * 262144 + (at0 l (i + 1) - 128) * 4096 + (at0 l (i + 2) - 128) * 64 + (at0 l (i + 3) - 128) ≤ 1114111
    then (4, (at0 l i - 240) * 262144 + (at0 l (i + 1) - 128) * 4096 + (at0 l (i + 2) - 128) * 64 + (at0 l (i + 3) - 128)) else (0, 0) := by
  have hh : headF (at0 l i) = (4, at0 l i - 240) := by simp only [headF]; rw [if_neg (by omega), if_neg (by omega), if_pos c]
  unfold charF
  rw [if_neg (by omega), hh]
  simp only [contF, utf8V_len, isPoint, decide_eq_true_eq]
  have e2 : i + (1 + 1) = i + 2 := by omega
  have e3 : i + (1 + 1 + 1) = i + 3 := by omega
  rw [e2, e3]
  generalize at0 l i = b0 at *
  generalize at0 l (i + 1) = b1 at *
  generalize at0 l (i + 2) = b2 at *
  generalize at0 l (i + 3) = b3 at *
  by_cases hn : i + 4 > l.length
  · rw [if_pos (.inr hn), if_neg (by omega)]
  rw [if_neg (by omega)]
  by_cases c2 : b1 < 128 ∨ 192 ≤ b1
  · rw [if_pos c2, if_neg (by omega)]
  rw [if_neg c2]
  by_cases c3 : b2 < 128 ∨ 192 ≤ b2
  · rw [if_pos c3, if_neg (by omega)]
  rw [if_neg c3]
  by_cases c4 : b3 < 128 ∨ 192 ≤ b3
  · rw [if_pos c4, if_neg (by omega)]
  rw [if_neg c4]
  have e : (((b0 - 240) * 64 + b1 - 128) * 64 + b2 - 128) * 64 + b3 - 128 = (b0 - 240) * 262144 + (b1 - 128) * 4096 + (b2 - 128) * 64 + (b3 - 128) := by omega
  simp only [e]
  generalize (b0 - 240) * 262144 + (b1 - 128) * 4096 + (b2 - 128) * 64 + (b3 - 128) = v at *
  repeat' split
  all_goals first | rfl | (exfalso; omega)
theorem charF_one {l : List UInt8} {i : Nat} (c : at0 l i < 128) : charF l i = (1, at0 l i) := by unfold charF; rw [if_pos c]
theorem charF_none {l : List UInt8} {i : Nat} (c : 128 ≤ at0 l i) (c2 : at0 l i < 192 ∨ 248 ≤ at0 l i) : charF l i = (0, 0) := by
  have hh : headF (at0 l i) = (0, 0) := by simp only [headF]; rw [if_neg (by omega), if_neg (by omega), if_neg (by omega)]
  unfold charF
  rw [if_neg (by omega), hh, if_pos (.inl rfl)]

/-- The library's decoder is the reference's. -/
theorem decV_char (l : List UInt8) (i : Nat) (hi : i < l.length) : decV l i = if (charF l i).1 = 0 then (65533, 1) else ((charF l i).2, (charF l i).1) := by
  rw [decV_N]
  have h0 := at0_lt l i
  have h1 := at0_lt l (i + 1)
  have h2 := at0_lt l (i + 2)
  have h3 := at0_lt l (i + 3)
  by_cases c0 : at0 l i < 128
  · rw [charF_one c0]; simp [Lib.decodeN, c0]
  generalize hR : charF l i = r
  by_cases c1 : 192 ≤ at0 l i ∧ at0 l i < 224
  · rw [charF_two c1] at hR
    unfold Lib.decodeN
    generalize at0 l i = b0 at *
    generalize at0 l (i + 1) = b1 at *
    rw [if_neg c0]
    split at hR <;> subst hR <;> simp only [Nat.reduceEqDiff, if_true, if_false]
    · rename_i hc
      have : b0 % 32 * 64 + b1 % 64 = (b0 - 192) * 64 + b1 - 128 := by omega
      rw [if_pos (by omega), if_pos (by omega), this]
    · rename_i hc
      by_cases hd : b0 / 32 = 6 ∧ 1 < l.length - i ∧ b1 / 64 = 2
      · rw [if_pos hd, if_neg (by omega)]
      · rw [if_neg hd, if_neg (by omega), if_neg (by omega)]
  by_cases c2 : 224 ≤ at0 l i ∧ at0 l i < 240
  · rw [charF_three c2] at hR
    unfold Lib.decodeN
    generalize at0 l i = b0 at *
    generalize at0 l (i + 1) = b1 at *
    generalize at0 l (i + 2) = b2 at *
    rw [if_neg c0]
    have hv : 224 ≤ b0 ∧ 128 ≤ b1 ∧ b1 < 192 ∧ 128 ≤ b2 ∧ b2 < 192 → b0 % 16 * 4096 + b1 % 64 * 64 + b2 % 64 = (b0 - 224) * 4096 + (b1 - 128) * 64 + (b2 - 128) := by omega
    have hu : (b0 - 224) * 4096 + (b1 - 128) * 64 + (b2 - 128) ≤ 1114111 ∨ 192 ≤ b1 ∨ 192 ≤ b2 := by omega
    split at hR <;> subst hR <;> simp only [Nat.reduceEqDiff, if_true, if_false]
    · rename_i hc
      rw [if_neg (by omega), if_pos (by omega), hv (by omega), if_pos (by omega)]
    · rename_i hc
      rw [if_neg (by omega)]
      by_cases hd : b0 / 16 = 14 ∧ (1 < l.length - i ∧ b1 / 64 = 2) ∧ 2 < l.length - i ∧ b2 / 64 = 2
      · rw [if_pos hd, hv (by omega), if_neg (by omega)]
      · rw [if_neg hd, if_neg (by omega)]
  by_cases c3 : 240 ≤ at0 l i ∧ at0 l i < 248
  · rw [charF_four c3] at hR
    unfold Lib.decodeN
    generalize at0 l i = b0 at *
    generalize at0 l (i + 1) = b1 at *
    generalize at0 l (i + 2) = b2 at *
    generalize at0 l (i + 3) = b3 at *
    rw [if_neg c0]
    have hv : 240 ≤ b0 ∧ 128 ≤ b1 ∧ b1 < 192 ∧ 128 ≤ b2 ∧ b2 < 192 ∧ 128 ≤ b3 ∧ b3 < 192 → b0 % 8 * 262144 + b1 % 64 * 4096 + b2 % 64 * 64 + b3 % 64 = (b0 - 240) * 262144 + (b1 - 128) * 4096 + (b2 - 128) * 64 + (b3 - 128) := by omega
    split at hR <;> subst hR <;> simp only [Nat.reduceEqDiff, if_true, if_false]
    · rename_i hc
      rw [if_neg (by omega), if_neg (by omega), if_pos (by omega), hv (by omega), if_pos (by omega)]
    · rename_i hc
      rw [if_neg (by omega), if_neg (by omega)]
      by_cases hd : b0 / 8 = 30 ∧ (1 < l.length - i ∧ b1 / 64 = 2) ∧ (2 < l.length - i ∧ b2 / 64 = 2) ∧ 3 < l.length - i ∧ b3 / 64 = 2
      · rw [if_pos hd, hv (by omega), if_neg (by omega)]
      · rw [if_neg hd]
  · rw [charF_none (by omega) (by omega)] at hR
    subst hR
    unfold Lib.decodeN
    rw [if_neg c0, if_neg (by omega), if_neg (by omega), if_neg (by omega)]; rfl
end Go.X
end
