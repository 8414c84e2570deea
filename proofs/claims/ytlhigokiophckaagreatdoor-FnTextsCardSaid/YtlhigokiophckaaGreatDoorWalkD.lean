/- Walks: a literal, FormatInt at base 16, QuoteText; plain laws of utf8. -/
import Derived.Test.YtlhigokiophckaaGreatDoorWalkC
import Derived.Test.YtlhigokiophckaaGreatDoorWalkB

section
open Go Go.Proofs
namespace Go.X
set_option linter.unusedSimpArgs false
set_option maxRecDepth 10000

/-- What impl.literal reads. -/
def litGo (s : List UInt8) : Nat → Nat → List UInt8 → Option (List UInt8 × Nat)
  | 0, _, _ => none
  | f + 1, i, out =>
    if i < s.length then
      if at0 s i = 34 then some (out, i + 1)
      else if at0 s i = 10 ∨ (charF s i).1 = 0 then none
      else if at0 s i ≠ 92 then litGo s f (i + (charF s i).1) (out ++ (s.drop i).take (charF s i).1)
      else match escF (s.drop i) with
        | some (v, n) => litGo s f (i + n) (out ++ utf8V v)
        | none => none
    else none
def litF (s : List UInt8) : Option (List UInt8 × Nat) := if 0 < s.length ∧ at0 s 0 = 34 then litGo s (s.length + 1) 1 [] else none

/-- An answer of a text and a length. -/
def litV : Option (List UInt8 × Nat) → V
  | some (l, n) => .tu [.im 1 (bytesV l), .i .i64 n]
  | none => .tu [.im 1 [], .i .i64 (-1)]

theorem charF_big {s : List UInt8} {i : Nat} (h : 128 ≤ at0 s i) (h0 : (charF s i).1 ≠ 0) : 128 ≤ (charF s i).2 := by
  by_cases c1 : 192 ≤ at0 s i ∧ at0 s i < 224
  · rw [charF_two c1] at h0 ⊢
    by_cases hc : i + 2 ≤ s.length ∧ (128 ≤ at0 s (i + 1) ∧ at0 s (i + 1) < 192) ∧ 128 ≤ (at0 s i - 192) * 64 + at0 s (i + 1) - 128
    · rw [if_pos hc]; exact hc.2.2
    · rw [if_neg hc] at h0; exact absurd rfl h0
  by_cases c2 : 224 ≤ at0 s i ∧ at0 s i < 240
  · rw [charF_three c2] at h0 ⊢
    split at h0
    · rename_i hc; rw [if_pos hc]; have := hc.2.2.2.1; simp only; omega
    · exact absurd rfl h0
  by_cases c3 : 240 ≤ at0 s i ∧ at0 s i < 248
  · rw [charF_four c3] at h0 ⊢
    split at h0
    · rename_i hc; rw [if_pos hc]; have := hc.2.2.2.2.1; simp only; omega
    · exact absurd rfl h0
  · rw [charF_none (by omega) (by omega)] at h0; exact absurd rfl h0
/-- The decoder's answer against a small code point. -/
theorem decG_small {s : List UInt8} {i : Nat} (hi : i < s.length) (k : Nat) (hk : k < 128) : (decG (s.drop i)).1 = k ↔ at0 s i = k := by
  rw [decG_drop s i hi]
  by_cases h : at0 s i < 128
  · rw [charF_one h]; simp
  · have hb := charF_big (s := s) (i := i) (by omega)
    split
    · simp only; omega
    · rename_i h0; have := hb h0; simp only; omega
theorem charF_1 {s : List UInt8} {i : Nat} (h : at0 s i < 128) : (charF s i).1 = 1 := by rw [charF_one h]
theorem escF_le {s : List UInt8} {v n : Nat} (h : escF s = some (v, n)) : 2 ≤ n ∧ n ≤ s.length ∧ isPoint v = true := by
  unfold escF at h
  split at h
  · rename_i hc
    simp only [Option.some.injEq, Prod.mk.injEq] at h
    obtain ⟨rfl, rfl⟩ := h
    refine ⟨Nat.le_refl _, by omega, ?_⟩
    unfold isPoint; simp only [decide_eq_true_eq]; omega
  · split at h
    · cases h
    · split at h
      · cases h
      · rename_i hc
        have hlt := indexByte_lt s 125
        split at h
        · cases h
        · split at h
          · rename_i hp
            simp only [Option.some.injEq, Prod.mk.injEq] at h
            obtain ⟨rfl, rfl⟩ := h
            exact ⟨by omega, by omega, hp⟩
          · cases h

set_option maxHeartbeats 2000000 in
theorem literal_spec (G : Gl) (hT : Tabs G) (h : H) (s : List UInt8) (hlen : s.length ≤ 1000000000) :
    XCalls Tryz.prog G 22 [.s s] h (fun o h' => o = .ret (litV (litF s)) ∧ h' = h) := by
  unfold litF
  refine enterK (rs := [.tmp 2, .tmp 3]) Tryz.func22 (by kernel_rfl) rfl rfl (by kernel_rfl) rfl (Nat.le_of_ble_eq_true rfl) (fun hbd => ?_)
  have hnil : s = [] ↔ s.length = 0 := by constructor <;> intro h <;> simpa using h
  by_cases h0 : 0 < s.length
  · have hg := at0_get h0
    have hq : ((s.getD 0 0).toNat : Int) = (at0 s 0 : Int) := rfl
    have hne : s ≠ [] := by rw [ne_eq, hnil]; omega
    skip
    have chk_ : True ∧ True := by simp only [and_self, hg, hq, hne]
    clear chk_
    repeat' (first | simp -implicitDefEqProofs only [XL, XM, TL, Option.isSome_some, Option.bind_some, Option.bind_none, Option.map_some, Option.map_none, Option.some.injEq, List.getElem?_cons_zero, List.getElem?_cons_succ, List.getElem?_toArray, List.toList_toArray, Nat.reduceEqDiff, if_true, if_false, ↓reduceIte, reduceCtorEq, Bool.false_eq_true, List.nil_append, List.append_nil, List.cons_append, Bool.or_self, Bool.or_true, Bool.or_false, Bool.true_or, Bool.false_or, Bool.and_true, Bool.true_and, Bool.not_true, Bool.not_false, Nat.reduceAdd, Nat.reduceMul, Nat.reduceSub, Nat.reduceLT, Nat.reduceLeDiff, Int.reduceToNat, List.all_cons, List.all_nil, List.map_cons, List.map_nil, List.set_cons_zero,  true_and, and_true, Int.natCast_nonneg, Int.le_refl, Nat.le_refl, Int.toNat_natCast, Nat.sub_zero,  List.drop_zero, List.drop_succ_cons, List.length_cons, List.length_nil,  List.set_cons_succ, and_self, decide_true, decide_false, Int.reduceLT, Int.reduceLE, Int.reduceEq, Int.reduceSub, Int.reduceAdd, Int.reduceMul, String.reduceEq, stK_eq, stV.eq_1, stR_some, stE_ag, stE_one, stE_whole, hg, hq, hne] | simp (disch := omega) only [ifp, ifn, wrap_i64, wrap_u8, wrap_i32, wrap_u64, wrap_u32, Int.tdiv_eq_ediv_of_nonneg, Int.tmod_eq_emod_of_nonneg] | ((with_reducible refine BrK_intro (fun hwb => ?_) (fun hwb => ?_)) <;> (try rw [hwb]) <;> simp only [decide_eq_true_eq, decide_eq_false_iff_not, Bool.not_eq_true', Bool.not_eq_false', Bool.not_true, Bool.not_false] at hwb) | ((with_reducible refine gbK_intro (fun hwb => ?_) (fun hwb => ?_)) <;> (try rw [hwb]) <;> simp only [decide_eq_true_eq, decide_eq_false_iff_not, Bool.not_eq_true', Bool.not_eq_false', Bool.not_true, Bool.not_false] at hwb) | ((with_reducible refine qgb_intro (fun hwb => ?_) (fun hwb => ?_)) <;> (try rw [hwb]) <;> simp only [decide_eq_true_eq, decide_eq_false_iff_not, Bool.not_eq_true', Bool.not_eq_false', Bool.not_true, Bool.not_false] at hwb) | (with_reducible intro hl) | (with_reducible refine drawK_q (by kernel_rfl) (by kernel_rfl) ?_) )
    · exact RetK_nil2 (.refl _) rfl
    refine bslK_ty (by simp -implicitDefEqProofs only [XL, XM, TL, Option.isSome_some, Option.bind_some, Option.bind_none, Option.map_some, Option.map_none, Option.some.injEq, List.getElem?_cons_zero, List.getElem?_cons_succ, List.getElem?_toArray, List.toList_toArray, Nat.reduceEqDiff, if_true, if_false, ↓reduceIte, reduceCtorEq, Bool.false_eq_true, List.nil_append, List.append_nil, List.cons_append, Bool.or_self, Bool.or_true, Bool.or_false, Bool.true_or, Bool.false_or, Bool.and_true, Bool.true_and, Bool.not_true, Bool.not_false, Nat.reduceAdd, Nat.reduceMul, Nat.reduceSub, Nat.reduceLT, Nat.reduceLeDiff, Int.reduceToNat, List.all_cons, List.all_nil, List.map_cons, List.map_nil, List.set_cons_zero,  true_and, and_true, Int.natCast_nonneg, Int.le_refl, Nat.le_refl, Int.toNat_natCast, Nat.sub_zero,  List.drop_zero, List.drop_succ_cons, List.length_cons, List.length_nil,  List.set_cons_succ, and_self, decide_true, decide_false, Int.reduceLT, Int.reduceLE, Int.reduceEq, Int.reduceSub, Int.reduceAdd, Int.reduceMul, String.reduceEq, stK_eq, stV.eq_1, stR_some, stE_ag, stE_one, stE_whole, hg, hq, hne]; rfl) rfl (by simp) (by simp) (fun id hid hty => ?_)
    have chk_ : True ∧ True := by simp only [and_self, hg, hq, hne]
    clear chk_
    repeat' (first | simp -implicitDefEqProofs only [XL, XM, TL, Option.isSome_some, Option.bind_some, Option.bind_none, Option.map_some, Option.map_none, Option.some.injEq, List.getElem?_cons_zero, List.getElem?_cons_succ, List.getElem?_toArray, List.toList_toArray, Nat.reduceEqDiff, if_true, if_false, ↓reduceIte, reduceCtorEq, Bool.false_eq_true, List.nil_append, List.append_nil, List.cons_append, Bool.or_self, Bool.or_true, Bool.or_false, Bool.true_or, Bool.false_or, Bool.and_true, Bool.true_and, Bool.not_true, Bool.not_false, Nat.reduceAdd, Nat.reduceMul, Nat.reduceSub, Nat.reduceLT, Nat.reduceLeDiff, Int.reduceToNat, List.all_cons, List.all_nil, List.map_cons, List.map_nil, List.set_cons_zero,  true_and, and_true, Int.natCast_nonneg, Int.le_refl, Nat.le_refl, Int.toNat_natCast, Nat.sub_zero,  List.drop_zero, List.drop_succ_cons, List.length_cons, List.length_nil,  List.set_cons_succ, and_self, decide_true, decide_false, Int.reduceLT, Int.reduceLE, Int.reduceEq, Int.reduceSub, Int.reduceAdd, Int.reduceMul, String.reduceEq, stK_eq, stV.eq_1, stR_some, stE_ag, stE_one, stE_whole, hg, hq, hne] | simp (disch := omega) only [ifp, ifn, wrap_i64, wrap_u8, wrap_i32, wrap_u64, wrap_u32, Int.tdiv_eq_ediv_of_nonneg, Int.tmod_eq_emod_of_nonneg] | ((with_reducible refine BrK_intro (fun hwb => ?_) (fun hwb => ?_)) <;> (try rw [hwb]) <;> simp only [decide_eq_true_eq, decide_eq_false_iff_not, Bool.not_eq_true', Bool.not_eq_false', Bool.not_true, Bool.not_false] at hwb) | ((with_reducible refine gbK_intro (fun hwb => ?_) (fun hwb => ?_)) <;> (try rw [hwb]) <;> simp only [decide_eq_true_eq, decide_eq_false_iff_not, Bool.not_eq_true', Bool.not_eq_false', Bool.not_true, Bool.not_false] at hwb) | ((with_reducible refine qgb_intro (fun hwb => ?_) (fun hwb => ?_)) <;> (try rw [hwb]) <;> simp only [decide_eq_true_eq, decide_eq_false_iff_not, Bool.not_eq_true', Bool.not_eq_false', Bool.not_true, Bool.not_false] at hwb) | (with_reducible intro hl) | (with_reducible refine drawK_q (by kernel_rfl) (by kernel_rfl) ?_) )
    have hb0 : BufT 5 1 h (h.set id (.row 1 [])) (.sl id 0 0) [] := .inr ⟨id, hid, hty, rfl, rfl⟩
    refine loopO [2, 3, 4, 5, 6, 7, 8, 9, 18, 19, 20, 21, 22, 23, 24, 25, 26, 27, 28, 29, 30, 31, 32, 33, 34, 35, 36, 37, 38, 39, 40, 41, 42, 43, 44, 45, 46, 47, 48, 49, 50, 51, 52, 53, 54, 55, 56, 57, 58, 59, 60, 61, 62, 63, 64, 65, 66, 67, 68, 69, 70, 71, 72, 73, 74] (fun (st : Nat × Nat × List UInt8) a g => (∃ v, a 4 = some v ∧ BufT 5 1 h g v (bytesV st.2.2)) ∧ a 5 = some (.i .i64 st.2.1) ∧ 1 ≤ st.2.1 ∧ st.2.1 ≤ s.length ∧ s.length < st.1 + st.2.1 ∧ st.2.2.length ≤ 2 * st.2.1 ∧ litGo s st.1 st.2.1 st.2.2 = litGo s (s.length + 1) 1 []) (fun st => s.length - st.2.1) (s.length + 1, 1, []) (by exact ⟨⟨_, rfl, hb0⟩, rfl, Nat.le_refl _, h0, by simp only; omega, by simp, rfl⟩) ?_
    rintro ⟨f, i, out⟩ a g hoff ⟨⟨v, h4, hbuf⟩, h5, hi1, hil, hf, hol, heq⟩
    simp only at h4 hbuf h5 hi1 hil hf hol heq
    obtain ⟨f, rfl⟩ : ∃ f', f = f' + 1 := ⟨f - 1, by omega⟩
    (have e0' := hoff 0 rfl; simp only [XL, XM, Option.isSome_some, Option.bind_some, Option.bind_none, Option.map_some, Option.map_none, Option.some.injEq, List.getElem?_cons_zero, List.getElem?_cons_succ, List.getElem?_toArray, List.toList_toArray, Nat.reduceEqDiff, if_true, if_false, ↓reduceIte, reduceCtorEq, Bool.false_eq_true, List.nil_append, List.append_nil, List.cons_append, Bool.or_self, Bool.or_true, Bool.or_false, Bool.true_or, Bool.false_or, Bool.and_true, Bool.true_and, Bool.not_true, Bool.not_false, Nat.reduceAdd, Nat.reduceMul, Nat.reduceSub, Nat.reduceLT, Nat.reduceLeDiff, Int.reduceToNat, List.all_cons, List.all_nil, List.map_cons, List.map_nil, List.set_cons_zero,  true_and, and_true, Int.natCast_nonneg, Int.le_refl, Nat.le_refl, Int.toNat_natCast, Nat.sub_zero,  List.drop_zero, List.drop_succ_cons, List.length_cons, List.length_nil,  List.set_cons_succ, and_self, decide_true, decide_false, Int.reduceLT, Int.reduceLE, Int.reduceEq, Int.reduceSub, Int.reduceAdd, Int.reduceMul, String.reduceEq, stK_eq, stV.eq_1, stR_some, stE_ag, stE_one, stE_whole, hg, hq, hne] at e0'; have e0 := e0'; clear e0')
    skip
    rw [← heq]
    by_cases hlt : i < s.length
    · have hdec := decG_drop s i hlt
      have hs34 := decG_small hlt 34 (by omega)
      have hs10 := decG_small hlt 10 (by omega)
      have hs92 := decG_small hlt 92 (by omega)
      have hcle := charF_le s i hlt
      have hbad := charF_bad hlt
      have hg2 : (0 : Int) ≤ (i : Int) ∧ (i : Int) ≤ (s.length : Int) := by omega
      have htd : List.take (s.length - i) (List.drop i s) = List.drop i s := List.take_of_length_le (by simp)
      have hesc := escape_spec G g (s.drop i) (by simp; omega)
      have hun : litGo s (f + 1) i out = if at0 s i = 34 then some (out, i + 1)
        else if at0 s i = 10 ∨ (charF s i).1 = 0 then none
        else if at0 s i ≠ 92 then litGo s f (i + (charF s i).1) (out ++ (s.drop i).take (charF s i).1)
        else match escF (s.drop i) with
          | some (v, n) => litGo s f (i + n) (out ++ utf8V v)
          | none => none := by rw [litGo, if_pos hlt]
      rw [hun]
      generalize (charF s i).1 = cw at *
      have hz : ((decG (s.drop i)).1 = 65533 ∧ (decG (s.drop i)).2 ≤ 1) ↔ cw = 0 := by
        rw [hdec]; split <;> simp_all
      have hw : cw ≠ 0 → (decG (s.drop i)).2 = cw := by
        rw [hdec]; intro hc; rw [if_neg hc]
      have hde := decodeStr_spec G hT g (s.drop i)
      clear hdec
      generalize decG (s.drop i) = dd at *
      have hsh := hbuf.toBuf.shape
      have happ : ∀ (ys : List V) (c : Cx) (d : Option Tmp) (k : List Fr) (a : Tm), c.P = Tryz.prog → ys.length ≤ 1000000000 → (∀ v' h', BufT 5 1 h h' v' (bytesV out ++ ys) → K c k (updO d v' a) h') → ∀ x, srcV h 1 x = some ys → appK c 22 9 (some v) (some x) d k a g := by
        intro ys c d k a hc hl hk x hx
        obtain ⟨P, G', R', E'⟩ := c
        simp only at hc; subst hc
        exact appK_bufT hbuf (by simp -implicitDefEqProofs only [XL, XM, TL, Option.isSome_some, Option.bind_some, Option.bind_none, Option.map_some, Option.map_none, Option.some.injEq, List.getElem?_cons_zero, List.getElem?_cons_succ, List.getElem?_toArray, List.toList_toArray, Nat.reduceEqDiff, if_true, if_false, ↓reduceIte, reduceCtorEq, Bool.false_eq_true, List.nil_append, List.append_nil, List.cons_append, Bool.or_self, Bool.or_true, Bool.or_false, Bool.true_or, Bool.false_or, Bool.and_true, Bool.true_and, Bool.not_true, Bool.not_false, Nat.reduceAdd, Nat.reduceMul, Nat.reduceSub, Nat.reduceLT, Nat.reduceLeDiff, Int.reduceToNat, List.all_cons, List.all_nil, List.map_cons, List.map_nil, List.set_cons_zero,  true_and, and_true, Int.natCast_nonneg, Int.le_refl, Nat.le_refl, Int.toNat_natCast, Nat.sub_zero,  List.drop_zero, List.drop_succ_cons, List.length_cons, List.length_nil,  List.set_cons_succ, and_self, decide_true, decide_false, Int.reduceLT, Int.reduceLE, Int.reduceEq, Int.reduceSub, Int.reduceAdd, Int.reduceMul, String.reduceEq, stK_eq, stV.eq_1, stR_some, stE_ag, stE_one, stE_whole, hg, hq, hne, e0, h4, h5]; rfl) hx (by simp -implicitDefEqProofs only [XL, XM, TL, Option.isSome_some, Option.bind_some, Option.bind_none, Option.map_some, Option.map_none, Option.some.injEq, List.getElem?_cons_zero, List.getElem?_cons_succ, List.getElem?_toArray, List.toList_toArray, Nat.reduceEqDiff, if_true, if_false, ↓reduceIte, reduceCtorEq, Bool.false_eq_true, List.nil_append, List.append_nil, List.cons_append, Bool.or_self, Bool.or_true, Bool.or_false, Bool.true_or, Bool.false_or, Bool.and_true, Bool.true_and, Bool.not_true, Bool.not_false, Nat.reduceAdd, Nat.reduceMul, Nat.reduceSub, Nat.reduceLT, Nat.reduceLeDiff, Int.reduceToNat, List.all_cons, List.all_nil, List.map_cons, List.map_nil, List.set_cons_zero,  true_and, and_true, Int.natCast_nonneg, Int.le_refl, Nat.le_refl, Int.toNat_natCast, Nat.sub_zero,  List.drop_zero, List.drop_succ_cons, List.length_cons, List.length_nil,  List.set_cons_succ, and_self, decide_true, decide_false, Int.reduceLT, Int.reduceLE, Int.reduceEq, Int.reduceSub, Int.reduceAdd, Int.reduceMul, String.reduceEq, stK_eq, stV.eq_1, stR_some, stE_ag, stE_one, stE_whole, hg, hq, hne, e0, h4, h5]) (by decide) (by rw [bytesV_length]; omega) hk
      cases hes : escF (s.drop i) with
      | none =>
        rw [hes] at hesc
        have chk_ : True ∧ True := by simp only [and_self, hg, hq, hne, e0, h4, h5, hg2, htd]
        clear chk_
        repeat' (first | simp -implicitDefEqProofs only [XL, XM, TL, Option.isSome_some, Option.bind_some, Option.bind_none, Option.map_some, Option.map_none, Option.some.injEq, List.getElem?_cons_zero, List.getElem?_cons_succ, List.getElem?_toArray, List.toList_toArray, Nat.reduceEqDiff, if_true, if_false, ↓reduceIte, reduceCtorEq, Bool.false_eq_true, List.nil_append, List.append_nil, List.cons_append, Bool.or_self, Bool.or_true, Bool.or_false, Bool.true_or, Bool.false_or, Bool.and_true, Bool.true_and, Bool.not_true, Bool.not_false, Nat.reduceAdd, Nat.reduceMul, Nat.reduceSub, Nat.reduceLT, Nat.reduceLeDiff, Int.reduceToNat, List.all_cons, List.all_nil, List.map_cons, List.map_nil, List.set_cons_zero,  true_and, and_true, Int.natCast_nonneg, Int.le_refl, Nat.le_refl, Int.toNat_natCast, Nat.sub_zero,  List.drop_zero, List.drop_succ_cons, List.length_cons, List.length_nil,  List.set_cons_succ, and_self, decide_true, decide_false, Int.reduceLT, Int.reduceLE, Int.reduceEq, Int.reduceSub, Int.reduceAdd, Int.reduceMul, String.reduceEq, stK_eq, stV.eq_1, stR_some, stE_ag, stE_one, stE_whole, hg, hq, hne, e0, h4, h5, hg2, htd] | simp (disch := omega) only [ifp, ifn, wrap_i64, wrap_u8, wrap_i32, wrap_u64, wrap_u32, Int.tdiv_eq_ediv_of_nonneg, Int.tmod_eq_emod_of_nonneg] | ((with_reducible refine BrK_intro (fun hwb => ?_) (fun hwb => ?_)) <;> (try rw [hwb]) <;> simp only [decide_eq_true_eq, decide_eq_false_iff_not, Bool.not_eq_true', Bool.not_eq_false', Bool.not_true, Bool.not_false] at hwb) | ((with_reducible refine gbK_intro (fun hwb => ?_) (fun hwb => ?_)) <;> (try rw [hwb]) <;> simp only [decide_eq_true_eq, decide_eq_false_iff_not, Bool.not_eq_true', Bool.not_eq_false', Bool.not_true, Bool.not_false] at hwb) | ((with_reducible refine qgb_intro (fun hwb => ?_) (fun hwb => ?_)) <;> (try rw [hwb]) <;> simp only [decide_eq_true_eq, decide_eq_false_iff_not, Bool.not_eq_true', Bool.not_eq_false', Bool.not_true, Bool.not_false] at hwb) | (with_reducible intro hl) | (with_reducible refine drawK_q (by kernel_rfl) (by kernel_rfl) ?_) | (with_reducible refine call_eq (hde) ?_) | (with_reducible refine call_eq (hesc) ?_))
        all_goals first
          | (exfalso; omega)
          | (refine RetK_buf2 hbuf.toBuf (.refl _) ?_; rfl)
          | (refine RetK_nil2 (e := 1) hbuf.toBuf.sub ?_; rfl)
          | (refine happ (bytesV ((s.drop i).take cw)) _ _ _ _ rfl (by rw [bytesV_length]; simp; omega) (fun v' h' hb' => ?_) _ ?_
             · have chk_ : True ∧ True := by simp only [and_self, hg, hq, hne, e0, h4, h5]
               clear chk_
               repeat' (first | simp -implicitDefEqProofs only [XL, XM, TL, Option.isSome_some, Option.bind_some, Option.bind_none, Option.map_some, Option.map_none, Option.some.injEq, List.getElem?_cons_zero, List.getElem?_cons_succ, List.getElem?_toArray, List.toList_toArray, Nat.reduceEqDiff, if_true, if_false, ↓reduceIte, reduceCtorEq, Bool.false_eq_true, List.nil_append, List.append_nil, List.cons_append, Bool.or_self, Bool.or_true, Bool.or_false, Bool.true_or, Bool.false_or, Bool.and_true, Bool.true_and, Bool.not_true, Bool.not_false, Nat.reduceAdd, Nat.reduceMul, Nat.reduceSub, Nat.reduceLT, Nat.reduceLeDiff, Int.reduceToNat, List.all_cons, List.all_nil, List.map_cons, List.map_nil, List.set_cons_zero,  true_and, and_true, Int.natCast_nonneg, Int.le_refl, Nat.le_refl, Int.toNat_natCast, Nat.sub_zero,  List.drop_zero, List.drop_succ_cons, List.length_cons, List.length_nil,  List.set_cons_succ, and_self, decide_true, decide_false, Int.reduceLT, Int.reduceLE, Int.reduceEq, Int.reduceSub, Int.reduceAdd, Int.reduceMul, String.reduceEq, stK_eq, stV.eq_1, stR_some, stE_ag, stE_one, stE_whole, hg, hq, hne, e0, h4, h5] | simp (disch := omega) only [ifp, ifn, wrap_i64, wrap_u8, wrap_i32, wrap_u64, wrap_u32, Int.tdiv_eq_ediv_of_nonneg, Int.tmod_eq_emod_of_nonneg] | ((with_reducible refine BrK_intro (fun hwb => ?_) (fun hwb => ?_)) <;> (try rw [hwb]) <;> simp only [decide_eq_true_eq, decide_eq_false_iff_not, Bool.not_eq_true', Bool.not_eq_false', Bool.not_true, Bool.not_false] at hwb) | ((with_reducible refine gbK_intro (fun hwb => ?_) (fun hwb => ?_)) <;> (try rw [hwb]) <;> simp only [decide_eq_true_eq, decide_eq_false_iff_not, Bool.not_eq_true', Bool.not_eq_false', Bool.not_true, Bool.not_false] at hwb) | ((with_reducible refine qgb_intro (fun hwb => ?_) (fun hwb => ?_)) <;> (try rw [hwb]) <;> simp only [decide_eq_true_eq, decide_eq_false_iff_not, Bool.not_eq_true', Bool.not_eq_false', Bool.not_true, Bool.not_false] at hwb) | (with_reducible intro hl) | (with_reducible refine drawK_q (by kernel_rfl) (by kernel_rfl) ?_) )
               refine LO.mk (f, i + cw, out ++ (s.drop i).take cw) (by simp only; omega) (by repeat (first | with_reducible exact hoff | with_reducible exact Off.refl _ _ | refine Off.upd ?_ rfl | refine Off.trans hoff ?_ rfl)) ?_
               refine ⟨⟨v', rfl, by simpa [bytesV] using hb'⟩, ?_, by simp only; omega, by simp only; omega, by simp only; omega, by simp only [List.length_append, List.length_take]; omega, by simp only⟩
               simp only [upd, if_true, Option.some.injEq, V.i.injEq, true_and]; omega
             · have hcw : ((i : Int) + (dd.2 : Int)).toNat - i = cw := by omega
               rw [hcw]; simp only [srcV, if_true]; rfl)
          | skip
        all_goals
          refine happ (bytesV ((s.drop i).take cw)) _ _ _ _ rfl (by rw [bytesV_length]; simp; omega) (fun v' h' hb' => ?_) _ ?_
          · have chk_ : True ∧ True := by simp only [and_self, hg, hq, hne, e0, h4, h5]
            clear chk_
            repeat' (first | simp -implicitDefEqProofs only [XL, XM, TL, Option.isSome_some, Option.bind_some, Option.bind_none, Option.map_some, Option.map_none, Option.some.injEq, List.getElem?_cons_zero, List.getElem?_cons_succ, List.getElem?_toArray, List.toList_toArray, Nat.reduceEqDiff, if_true, if_false, ↓reduceIte, reduceCtorEq, Bool.false_eq_true, List.nil_append, List.append_nil, List.cons_append, Bool.or_self, Bool.or_true, Bool.or_false, Bool.true_or, Bool.false_or, Bool.and_true, Bool.true_and, Bool.not_true, Bool.not_false, Nat.reduceAdd, Nat.reduceMul, Nat.reduceSub, Nat.reduceLT, Nat.reduceLeDiff, Int.reduceToNat, List.all_cons, List.all_nil, List.map_cons, List.map_nil, List.set_cons_zero,  true_and, and_true, Int.natCast_nonneg, Int.le_refl, Nat.le_refl, Int.toNat_natCast, Nat.sub_zero,  List.drop_zero, List.drop_succ_cons, List.length_cons, List.length_nil,  List.set_cons_succ, and_self, decide_true, decide_false, Int.reduceLT, Int.reduceLE, Int.reduceEq, Int.reduceSub, Int.reduceAdd, Int.reduceMul, String.reduceEq, stK_eq, stV.eq_1, stR_some, stE_ag, stE_one, stE_whole, hg, hq, hne, e0, h4, h5] | simp (disch := omega) only [ifp, ifn, wrap_i64, wrap_u8, wrap_i32, wrap_u64, wrap_u32, Int.tdiv_eq_ediv_of_nonneg, Int.tmod_eq_emod_of_nonneg] | ((with_reducible refine BrK_intro (fun hwb => ?_) (fun hwb => ?_)) <;> (try rw [hwb]) <;> simp only [decide_eq_true_eq, decide_eq_false_iff_not, Bool.not_eq_true', Bool.not_eq_false', Bool.not_true, Bool.not_false] at hwb) | ((with_reducible refine gbK_intro (fun hwb => ?_) (fun hwb => ?_)) <;> (try rw [hwb]) <;> simp only [decide_eq_true_eq, decide_eq_false_iff_not, Bool.not_eq_true', Bool.not_eq_false', Bool.not_true, Bool.not_false] at hwb) | ((with_reducible refine qgb_intro (fun hwb => ?_) (fun hwb => ?_)) <;> (try rw [hwb]) <;> simp only [decide_eq_true_eq, decide_eq_false_iff_not, Bool.not_eq_true', Bool.not_eq_false', Bool.not_true, Bool.not_false] at hwb) | (with_reducible intro hl) | (with_reducible refine drawK_q (by kernel_rfl) (by kernel_rfl) ?_) )
            refine LO.mk (f, i + cw, out ++ (s.drop i).take cw) (by simp only; omega) (by repeat (first | with_reducible exact hoff | with_reducible exact Off.refl _ _ | refine Off.upd ?_ rfl | refine Off.trans hoff ?_ rfl)) ?_
            refine ⟨⟨v', rfl, by simpa [bytesV] using hb'⟩, ?_, by simp only; omega, by simp only; omega, by simp only; omega, by simp only [List.length_append, List.length_take]; omega, by simp only⟩
            simp only [upd, if_true, Option.some.injEq, V.i.injEq, true_and]; omega
          · have hcw : ((i : Int) + (dd.2 : Int)).toNat - i = cw := by omega
            rw [hcw]; simp only [srcV, if_true]; rfl
      | some vn =>
        obtain ⟨ev, en⟩ := vn
        rw [hes] at hesc
        obtain ⟨q1, q2, q3⟩ := escF_le hes
        simp only [List.length_drop] at q2
        have chk_ : True ∧ True := by simp only [and_self, hg, hq, hne, e0, h4, h5, hg2, htd]
        clear chk_
        repeat' (first | simp -implicitDefEqProofs only [XL, XM, TL, Option.isSome_some, Option.bind_some, Option.bind_none, Option.map_some, Option.map_none, Option.some.injEq, List.getElem?_cons_zero, List.getElem?_cons_succ, List.getElem?_toArray, List.toList_toArray, Nat.reduceEqDiff, if_true, if_false, ↓reduceIte, reduceCtorEq, Bool.false_eq_true, List.nil_append, List.append_nil, List.cons_append, Bool.or_self, Bool.or_true, Bool.or_false, Bool.true_or, Bool.false_or, Bool.and_true, Bool.true_and, Bool.not_true, Bool.not_false, Nat.reduceAdd, Nat.reduceMul, Nat.reduceSub, Nat.reduceLT, Nat.reduceLeDiff, Int.reduceToNat, List.all_cons, List.all_nil, List.map_cons, List.map_nil, List.set_cons_zero,  true_and, and_true, Int.natCast_nonneg, Int.le_refl, Nat.le_refl, Int.toNat_natCast, Nat.sub_zero,  List.drop_zero, List.drop_succ_cons, List.length_cons, List.length_nil,  List.set_cons_succ, and_self, decide_true, decide_false, Int.reduceLT, Int.reduceLE, Int.reduceEq, Int.reduceSub, Int.reduceAdd, Int.reduceMul, String.reduceEq, stK_eq, stV.eq_1, stR_some, stE_ag, stE_one, stE_whole, hg, hq, hne, e0, h4, h5, hg2, htd] | simp (disch := omega) only [ifp, ifn, wrap_i64, wrap_u8, wrap_i32, wrap_u64, wrap_u32, Int.tdiv_eq_ediv_of_nonneg, Int.tmod_eq_emod_of_nonneg] | ((with_reducible refine BrK_intro (fun hwb => ?_) (fun hwb => ?_)) <;> (try rw [hwb]) <;> simp only [decide_eq_true_eq, decide_eq_false_iff_not, Bool.not_eq_true', Bool.not_eq_false', Bool.not_true, Bool.not_false] at hwb) | ((with_reducible refine gbK_intro (fun hwb => ?_) (fun hwb => ?_)) <;> (try rw [hwb]) <;> simp only [decide_eq_true_eq, decide_eq_false_iff_not, Bool.not_eq_true', Bool.not_eq_false', Bool.not_true, Bool.not_false] at hwb) | ((with_reducible refine qgb_intro (fun hwb => ?_) (fun hwb => ?_)) <;> (try rw [hwb]) <;> simp only [decide_eq_true_eq, decide_eq_false_iff_not, Bool.not_eq_true', Bool.not_eq_false', Bool.not_true, Bool.not_false] at hwb) | (with_reducible intro hl) | (with_reducible refine drawK_q (by kernel_rfl) (by kernel_rfl) ?_) | (with_reducible refine call_eq (hde) ?_) | (with_reducible refine call_eq (hesc) ?_))
        all_goals first
          | (exfalso; omega)
          | (refine RetK_buf2 hbuf.toBuf (.refl _) ?_; rfl)
          | (refine RetK_nil2 (e := 1) hbuf.toBuf.sub ?_; rfl)
          | (refine call_q (appendRune_spec G h g v out ev q3 (by omega) hbuf) (fun v' h' hb' => ?_)
             have chk_ : True ∧ True := by simp only [and_self, hg, hq, hne, e0, h4, h5]
             clear chk_
             repeat' (first | simp -implicitDefEqProofs only [XL, XM, TL, Option.isSome_some, Option.bind_some, Option.bind_none, Option.map_some, Option.map_none, Option.some.injEq, List.getElem?_cons_zero, List.getElem?_cons_succ, List.getElem?_toArray, List.toList_toArray, Nat.reduceEqDiff, if_true, if_false, ↓reduceIte, reduceCtorEq, Bool.false_eq_true, List.nil_append, List.append_nil, List.cons_append, Bool.or_self, Bool.or_true, Bool.or_false, Bool.true_or, Bool.false_or, Bool.and_true, Bool.true_and, Bool.not_true, Bool.not_false, Nat.reduceAdd, Nat.reduceMul, Nat.reduceSub, Nat.reduceLT, Nat.reduceLeDiff, Int.reduceToNat, List.all_cons, List.all_nil, List.map_cons, List.map_nil, List.set_cons_zero,  true_and, and_true, Int.natCast_nonneg, Int.le_refl, Nat.le_refl, Int.toNat_natCast, Nat.sub_zero,  List.drop_zero, List.drop_succ_cons, List.length_cons, List.length_nil,  List.set_cons_succ, and_self, decide_true, decide_false, Int.reduceLT, Int.reduceLE, Int.reduceEq, Int.reduceSub, Int.reduceAdd, Int.reduceMul, String.reduceEq, stK_eq, stV.eq_1, stR_some, stE_ag, stE_one, stE_whole, hg, hq, hne, e0, h4, h5] | simp (disch := omega) only [ifp, ifn, wrap_i64, wrap_u8, wrap_i32, wrap_u64, wrap_u32, Int.tdiv_eq_ediv_of_nonneg, Int.tmod_eq_emod_of_nonneg] | ((with_reducible refine BrK_intro (fun hwb => ?_) (fun hwb => ?_)) <;> (try rw [hwb]) <;> simp only [decide_eq_true_eq, decide_eq_false_iff_not, Bool.not_eq_true', Bool.not_eq_false', Bool.not_true, Bool.not_false] at hwb) | ((with_reducible refine gbK_intro (fun hwb => ?_) (fun hwb => ?_)) <;> (try rw [hwb]) <;> simp only [decide_eq_true_eq, decide_eq_false_iff_not, Bool.not_eq_true', Bool.not_eq_false', Bool.not_true, Bool.not_false] at hwb) | ((with_reducible refine qgb_intro (fun hwb => ?_) (fun hwb => ?_)) <;> (try rw [hwb]) <;> simp only [decide_eq_true_eq, decide_eq_false_iff_not, Bool.not_eq_true', Bool.not_eq_false', Bool.not_true, Bool.not_false] at hwb) | (with_reducible intro hl) | (with_reducible refine drawK_q (by kernel_rfl) (by kernel_rfl) ?_) )
             refine LO.mk (f, i + en, out ++ utf8V ev) (by simp only; omega) (by repeat (first | with_reducible exact hoff | with_reducible exact Off.refl _ _ | refine Off.upd ?_ rfl | refine Off.trans hoff ?_ rfl)) ?_
             refine ⟨⟨v', rfl, hb'⟩, ?_, by simp only; omega, by simp only; omega, by simp only; omega, by (have hul := utf8V_len ev; simp only [List.length_append]; rw [hul]; (repeat' split) <;> omega), by simp only⟩
             simp only [upd, if_true, Option.some.injEq, V.i.injEq, true_and]; omega)
          | skip
        all_goals
          refine happ (bytesV ((s.drop i).take cw)) _ _ _ _ rfl (by rw [bytesV_length]; simp; omega) (fun v' h' hb' => ?_) _ ?_
          · have chk_ : True ∧ True := by simp only [and_self, hg, hq, hne, e0, h4, h5]
            clear chk_
            repeat' (first | simp -implicitDefEqProofs only [XL, XM, TL, Option.isSome_some, Option.bind_some, Option.bind_none, Option.map_some, Option.map_none, Option.some.injEq, List.getElem?_cons_zero, List.getElem?_cons_succ, List.getElem?_toArray, List.toList_toArray, Nat.reduceEqDiff, if_true, if_false, ↓reduceIte, reduceCtorEq, Bool.false_eq_true, List.nil_append, List.append_nil, List.cons_append, Bool.or_self, Bool.or_true, Bool.or_false, Bool.true_or, Bool.false_or, Bool.and_true, Bool.true_and, Bool.not_true, Bool.not_false, Nat.reduceAdd, Nat.reduceMul, Nat.reduceSub, Nat.reduceLT, Nat.reduceLeDiff, Int.reduceToNat, List.all_cons, List.all_nil, List.map_cons, List.map_nil, List.set_cons_zero,  true_and, and_true, Int.natCast_nonneg, Int.le_refl, Nat.le_refl, Int.toNat_natCast, Nat.sub_zero,  List.drop_zero, List.drop_succ_cons, List.length_cons, List.length_nil,  List.set_cons_succ, and_self, decide_true, decide_false, Int.reduceLT, Int.reduceLE, Int.reduceEq, Int.reduceSub, Int.reduceAdd, Int.reduceMul, String.reduceEq, stK_eq, stV.eq_1, stR_some, stE_ag, stE_one, stE_whole, hg, hq, hne, e0, h4, h5] | simp (disch := omega) only [ifp, ifn, wrap_i64, wrap_u8, wrap_i32, wrap_u64, wrap_u32, Int.tdiv_eq_ediv_of_nonneg, Int.tmod_eq_emod_of_nonneg] | ((with_reducible refine BrK_intro (fun hwb => ?_) (fun hwb => ?_)) <;> (try rw [hwb]) <;> simp only [decide_eq_true_eq, decide_eq_false_iff_not, Bool.not_eq_true', Bool.not_eq_false', Bool.not_true, Bool.not_false] at hwb) | ((with_reducible refine gbK_intro (fun hwb => ?_) (fun hwb => ?_)) <;> (try rw [hwb]) <;> simp only [decide_eq_true_eq, decide_eq_false_iff_not, Bool.not_eq_true', Bool.not_eq_false', Bool.not_true, Bool.not_false] at hwb) | ((with_reducible refine qgb_intro (fun hwb => ?_) (fun hwb => ?_)) <;> (try rw [hwb]) <;> simp only [decide_eq_true_eq, decide_eq_false_iff_not, Bool.not_eq_true', Bool.not_eq_false', Bool.not_true, Bool.not_false] at hwb) | (with_reducible intro hl) | (with_reducible refine drawK_q (by kernel_rfl) (by kernel_rfl) ?_) )
            refine LO.mk (f, i + cw, out ++ (s.drop i).take cw) (by simp only; omega) (by repeat (first | with_reducible exact hoff | with_reducible exact Off.refl _ _ | refine Off.upd ?_ rfl | refine Off.trans hoff ?_ rfl)) ?_
            refine ⟨⟨v', rfl, by simpa [bytesV] using hb'⟩, ?_, by simp only; omega, by simp only; omega, by simp only; omega, by simp only [List.length_append, List.length_take]; omega, by simp only⟩
            simp only [upd, if_true, Option.some.injEq, V.i.injEq, true_and]; omega
          · have hcw : ((i : Int) + (dd.2 : Int)).toNat - i = cw := by omega
            rw [hcw]; simp only [srcV, if_true]; rfl
    · have hun : litGo s (f + 1) i out = none := by rw [litGo, if_neg hlt]
      rw [hun]
      have chk_ : True ∧ True := by simp only [and_self, hg, hq, hne, e0, h4, h5]
      clear chk_
      repeat' (first | simp -implicitDefEqProofs only [XL, XM, TL, Option.isSome_some, Option.bind_some, Option.bind_none, Option.map_some, Option.map_none, Option.some.injEq, List.getElem?_cons_zero, List.getElem?_cons_succ, List.getElem?_toArray, List.toList_toArray, Nat.reduceEqDiff, if_true, if_false, ↓reduceIte, reduceCtorEq, Bool.false_eq_true, List.nil_append, List.append_nil, List.cons_append, Bool.or_self, Bool.or_true, Bool.or_false, Bool.true_or, Bool.false_or, Bool.and_true, Bool.true_and, Bool.not_true, Bool.not_false, Nat.reduceAdd, Nat.reduceMul, Nat.reduceSub, Nat.reduceLT, Nat.reduceLeDiff, Int.reduceToNat, List.all_cons, List.all_nil, List.map_cons, List.map_nil, List.set_cons_zero,  true_and, and_true, Int.natCast_nonneg, Int.le_refl, Nat.le_refl, Int.toNat_natCast, Nat.sub_zero,  List.drop_zero, List.drop_succ_cons, List.length_cons, List.length_nil,  List.set_cons_succ, and_self, decide_true, decide_false, Int.reduceLT, Int.reduceLE, Int.reduceEq, Int.reduceSub, Int.reduceAdd, Int.reduceMul, String.reduceEq, stK_eq, stV.eq_1, stR_some, stE_ag, stE_one, stE_whole, hg, hq, hne, e0, h4, h5] | simp (disch := omega) only [ifp, ifn, wrap_i64, wrap_u8, wrap_i32, wrap_u64, wrap_u32, Int.tdiv_eq_ediv_of_nonneg, Int.tmod_eq_emod_of_nonneg] | ((with_reducible refine BrK_intro (fun hwb => ?_) (fun hwb => ?_)) <;> (try rw [hwb]) <;> simp only [decide_eq_true_eq, decide_eq_false_iff_not, Bool.not_eq_true', Bool.not_eq_false', Bool.not_true, Bool.not_false] at hwb) | ((with_reducible refine gbK_intro (fun hwb => ?_) (fun hwb => ?_)) <;> (try rw [hwb]) <;> simp only [decide_eq_true_eq, decide_eq_false_iff_not, Bool.not_eq_true', Bool.not_eq_false', Bool.not_true, Bool.not_false] at hwb) | ((with_reducible refine qgb_intro (fun hwb => ?_) (fun hwb => ?_)) <;> (try rw [hwb]) <;> simp only [decide_eq_true_eq, decide_eq_false_iff_not, Bool.not_eq_true', Bool.not_eq_false', Bool.not_true, Bool.not_false] at hwb) | (with_reducible intro hl) | (with_reducible refine drawK_q (by kernel_rfl) (by kernel_rfl) ?_) )
      all_goals first
        | (exfalso; omega)
        | (refine RetK_nil2 (e := 1) hbuf.toBuf.sub ?_; rfl)
  · have : s = [] := hnil.2 (by omega)
    subst this
    repeat' (first | simp -implicitDefEqProofs only [XL, XM, TL, Option.isSome_some, Option.bind_some, Option.bind_none, Option.map_some, Option.map_none, Option.some.injEq, List.getElem?_cons_zero, List.getElem?_cons_succ, List.getElem?_toArray, List.toList_toArray, Nat.reduceEqDiff, if_true, if_false, ↓reduceIte, reduceCtorEq, Bool.false_eq_true, List.nil_append, List.append_nil, List.cons_append, Bool.or_self, Bool.or_true, Bool.or_false, Bool.true_or, Bool.false_or, Bool.and_true, Bool.true_and, Bool.not_true, Bool.not_false, Nat.reduceAdd, Nat.reduceMul, Nat.reduceSub, Nat.reduceLT, Nat.reduceLeDiff, Int.reduceToNat, List.all_cons, List.all_nil, List.map_cons, List.map_nil, List.set_cons_zero,  true_and, and_true, Int.natCast_nonneg, Int.le_refl, Nat.le_refl, Int.toNat_natCast, Nat.sub_zero,  List.drop_zero, List.drop_succ_cons, List.length_cons, List.length_nil,  List.set_cons_succ, and_self, decide_true, decide_false, Int.reduceLT, Int.reduceLE, Int.reduceEq, Int.reduceSub, Int.reduceAdd, Int.reduceMul, String.reduceEq, stK_eq, stV.eq_1, stR_some, stE_ag, stE_one, stE_whole] | simp (disch := omega) only [ifp, ifn, wrap_i64, wrap_u8, wrap_i32, wrap_u64, wrap_u32, Int.tdiv_eq_ediv_of_nonneg, Int.tmod_eq_emod_of_nonneg] | ((with_reducible refine BrK_intro (fun hwb => ?_) (fun hwb => ?_)) <;> (try rw [hwb]) <;> simp only [decide_eq_true_eq, decide_eq_false_iff_not, Bool.not_eq_true', Bool.not_eq_false', Bool.not_true, Bool.not_false] at hwb) | ((with_reducible refine gbK_intro (fun hwb => ?_) (fun hwb => ?_)) <;> (try rw [hwb]) <;> simp only [decide_eq_true_eq, decide_eq_false_iff_not, Bool.not_eq_true', Bool.not_eq_false', Bool.not_true, Bool.not_false] at hwb) | ((with_reducible refine qgb_intro (fun hwb => ?_) (fun hwb => ?_)) <;> (try rw [hwb]) <;> simp only [decide_eq_true_eq, decide_eq_false_iff_not, Bool.not_eq_true', Bool.not_eq_false', Bool.not_true, Bool.not_false] at hwb) | (with_reducible intro hl) | (with_reducible refine drawK_q (by kernel_rfl) (by kernel_rfl) ?_) )
    exact RetK_nil2 (.refl _) rfl
end Go.X
end

section
open Go Go.Proofs
namespace Go.X
set_option linter.unusedSimpArgs false
set_option maxRecDepth 10000

def deBr64 : List Nat := [0, 1, 56, 2, 57, 49, 28, 3, 61, 58, 42, 50, 38, 29, 17, 4, 62, 47, 59, 36, 45, 43, 51, 22, 53, 39, 33, 30, 24, 18, 12, 5, 63, 55, 48, 27, 60, 41, 37, 16, 46, 35, 44, 21, 52, 32, 23, 11, 54, 26, 40, 15, 34, 20, 31, 10, 25, 14, 19, 9, 13, 8, 7, 6]
/-- The globals hold the table of math/bits. -/
def TabB (G : Gl) : Prop := G 6 = some (deBr64.map fun (n : Nat) => V.i .u8 (n : Int))

theorem tz16_spec (G : Gl) (hB : TabB G) (h : H) : XCalls Tryz.prog G 73 [.i .u64 16] h (fun o h' => o = .ret (.i .i64 4) ∧ h' = h) := by
  have h84 : XCalls Tryz.prog G 84 [.i .u64 16] h (fun o h' => o = .ret (.i .i64 4) ∧ h' = h) := by
    have q1 : IntKind.u64.wrap (-16) = 18446744073709551600 := by decide
    have q2 : bitsOf BinOp.and IntKind.u64 16 18446744073709551600 = 16 := by decide
    have q3 : IntKind.u64.wrap (16 * 285870213051353865) = 4573923408821661840 := by decide
    have q4 : (4573923408821661840 : Int).fdiv (2 ^ min 58 IntKind.u64.bits) = 15 := by decide
    have q5 : (List.drop 15 (deBr64.map fun (n : Nat) => V.i .u8 (n : Int)))[0]? = some (.i .u8 4) := rfl
    unfold TabB at hB
    refine enterK (rs := [.tmp 2]) Tryz.func84 (by kernel_rfl) rfl rfl (by kernel_rfl) rfl (Nat.le_of_ble_eq_true rfl) (fun hbd => ?_)
    have chk_ : True ∧ True := by simp only [and_self, hB, q1, q2, q3, q4, q5, conv_int, convV.eq_1]
    clear chk_
    repeat' (first | simp -implicitDefEqProofs only [XL, XM, TL, Option.isSome_some, Option.bind_some, Option.bind_none, Option.map_some, Option.map_none, Option.some.injEq, List.getElem?_cons_zero, List.getElem?_cons_succ, List.getElem?_toArray, List.toList_toArray, Nat.reduceEqDiff, if_true, if_false, ↓reduceIte, reduceCtorEq, Bool.false_eq_true, List.nil_append, List.append_nil, List.cons_append, Bool.or_self, Bool.or_true, Bool.or_false, Bool.true_or, Bool.false_or, Bool.and_true, Bool.true_and, Bool.not_true, Bool.not_false, Nat.reduceAdd, Nat.reduceMul, Nat.reduceSub, Nat.reduceLT, Nat.reduceLeDiff, Int.reduceToNat, List.all_cons, List.all_nil, List.map_cons, List.map_nil, List.set_cons_zero,  true_and, and_true, Int.natCast_nonneg, Int.le_refl, Nat.le_refl, Int.toNat_natCast, Nat.sub_zero,  List.drop_zero, List.drop_succ_cons, List.length_cons, List.length_nil,  List.set_cons_succ, and_self, decide_true, decide_false, Int.reduceLT, Int.reduceLE, Int.reduceEq, Int.reduceSub, Int.reduceAdd, Int.reduceMul, String.reduceEq, stK_eq, stV.eq_1, stR_some, stE_ag, stE_one, stE_whole, hB, q1, q2, q3, q4, q5, conv_int, convV.eq_1] | simp (disch := omega) only [ifp, ifn, wrap_i64, wrap_u8, wrap_i32, wrap_u64, wrap_u32, Int.tdiv_eq_ediv_of_nonneg, Int.tmod_eq_emod_of_nonneg] | ((with_reducible refine BrK_intro (fun hwb => ?_) (fun hwb => ?_)) <;> (try rw [hwb]) <;> simp only [decide_eq_true_eq, decide_eq_false_iff_not, Bool.not_eq_true', Bool.not_eq_false', Bool.not_true, Bool.not_false] at hwb) | ((with_reducible refine gbK_intro (fun hwb => ?_) (fun hwb => ?_)) <;> (try rw [hwb]) <;> simp only [decide_eq_true_eq, decide_eq_false_iff_not, Bool.not_eq_true', Bool.not_eq_false', Bool.not_true, Bool.not_false] at hwb) | ((with_reducible refine qgb_intro (fun hwb => ?_) (fun hwb => ?_)) <;> (try rw [hwb]) <;> simp only [decide_eq_true_eq, decide_eq_false_iff_not, Bool.not_eq_true', Bool.not_eq_false', Bool.not_true, Bool.not_false] at hwb) | (with_reducible intro hl) | (with_reducible refine drawK_q (by kernel_rfl) (by kernel_rfl) ?_) )
    exact RetK_pure (.refl _) rfl
  refine enterK (rs := [.tmp 2]) Tryz.func73 (by kernel_rfl) rfl rfl (by kernel_rfl) rfl (Nat.le_of_ble_eq_true rfl) (fun hbd => ?_)
  repeat' (first | simp -implicitDefEqProofs only [XL, XM, TL, Option.isSome_some, Option.bind_some, Option.bind_none, Option.map_some, Option.map_none, Option.some.injEq, List.getElem?_cons_zero, List.getElem?_cons_succ, List.getElem?_toArray, List.toList_toArray, Nat.reduceEqDiff, if_true, if_false, ↓reduceIte, reduceCtorEq, Bool.false_eq_true, List.nil_append, List.append_nil, List.cons_append, Bool.or_self, Bool.or_true, Bool.or_false, Bool.true_or, Bool.false_or, Bool.and_true, Bool.true_and, Bool.not_true, Bool.not_false, Nat.reduceAdd, Nat.reduceMul, Nat.reduceSub, Nat.reduceLT, Nat.reduceLeDiff, Int.reduceToNat, List.all_cons, List.all_nil, List.map_cons, List.map_nil, List.set_cons_zero,  true_and, and_true, Int.natCast_nonneg, Int.le_refl, Nat.le_refl, Int.toNat_natCast, Nat.sub_zero,  List.drop_zero, List.drop_succ_cons, List.length_cons, List.length_nil,  List.set_cons_succ, and_self, decide_true, decide_false, Int.reduceLT, Int.reduceLE, Int.reduceEq, Int.reduceSub, Int.reduceAdd, Int.reduceMul, String.reduceEq, stK_eq, stV.eq_1, stR_some, stE_ag, stE_one, stE_whole] | simp (disch := omega) only [ifp, ifn, wrap_i64, wrap_u8, wrap_i32, wrap_u64, wrap_u32, Int.tdiv_eq_ediv_of_nonneg, Int.tmod_eq_emod_of_nonneg] | ((with_reducible refine BrK_intro (fun hwb => ?_) (fun hwb => ?_)) <;> (try rw [hwb]) <;> simp only [decide_eq_true_eq, decide_eq_false_iff_not, Bool.not_eq_true', Bool.not_eq_false', Bool.not_true, Bool.not_false] at hwb) | ((with_reducible refine gbK_intro (fun hwb => ?_) (fun hwb => ?_)) <;> (try rw [hwb]) <;> simp only [decide_eq_true_eq, decide_eq_false_iff_not, Bool.not_eq_true', Bool.not_eq_false', Bool.not_true, Bool.not_false] at hwb) | ((with_reducible refine qgb_intro (fun hwb => ?_) (fun hwb => ?_)) <;> (try rw [hwb]) <;> simp only [decide_eq_true_eq, decide_eq_false_iff_not, Bool.not_eq_true', Bool.not_eq_false', Bool.not_true, Bool.not_false] at hwb) | (with_reducible intro hl) | (with_reducible refine drawK_q (by kernel_rfl) (by kernel_rfl) ?_) | (with_reducible refine call_eq (h84) ?_))
  exact RetK_pure (.refl _) rfl
theorem pow16_spec (G : Gl) (h : H) : XCalls Tryz.prog G 72 [.i .i64 16] h (fun o h' => o = .ret (.b true) ∧ h' = h) := by
  have q1 : bitsOf BinOp.and IntKind.i64 16 15 = 0 := by decide
  refine enterK (rs := [.tmp 2]) Tryz.func72 (by kernel_rfl) rfl rfl (by kernel_rfl) rfl (Nat.le_of_ble_eq_true rfl) (fun hbd => ?_)
  have chk_ : True ∧ True := by simp only [and_self, q1]
  clear chk_
  repeat' (first | simp -implicitDefEqProofs only [XL, XM, TL, Option.isSome_some, Option.bind_some, Option.bind_none, Option.map_some, Option.map_none, Option.some.injEq, List.getElem?_cons_zero, List.getElem?_cons_succ, List.getElem?_toArray, List.toList_toArray, Nat.reduceEqDiff, if_true, if_false, ↓reduceIte, reduceCtorEq, Bool.false_eq_true, List.nil_append, List.append_nil, List.cons_append, Bool.or_self, Bool.or_true, Bool.or_false, Bool.true_or, Bool.false_or, Bool.and_true, Bool.true_and, Bool.not_true, Bool.not_false, Nat.reduceAdd, Nat.reduceMul, Nat.reduceSub, Nat.reduceLT, Nat.reduceLeDiff, Int.reduceToNat, List.all_cons, List.all_nil, List.map_cons, List.map_nil, List.set_cons_zero,  true_and, and_true, Int.natCast_nonneg, Int.le_refl, Nat.le_refl, Int.toNat_natCast, Nat.sub_zero,  List.drop_zero, List.drop_succ_cons, List.length_cons, List.length_nil,  List.set_cons_succ, and_self, decide_true, decide_false, Int.reduceLT, Int.reduceLE, Int.reduceEq, Int.reduceSub, Int.reduceAdd, Int.reduceMul, String.reduceEq, stK_eq, stV.eq_1, stR_some, stE_ag, stE_one, stE_whole, q1] | simp (disch := omega) only [ifp, ifn, wrap_i64, wrap_u8, wrap_i32, wrap_u64, wrap_u32, Int.tdiv_eq_ediv_of_nonneg, Int.tmod_eq_emod_of_nonneg] | ((with_reducible refine BrK_intro (fun hwb => ?_) (fun hwb => ?_)) <;> (try rw [hwb]) <;> simp only [decide_eq_true_eq, decide_eq_false_iff_not, Bool.not_eq_true', Bool.not_eq_false', Bool.not_true, Bool.not_false] at hwb) | ((with_reducible refine gbK_intro (fun hwb => ?_) (fun hwb => ?_)) <;> (try rw [hwb]) <;> simp only [decide_eq_true_eq, decide_eq_false_iff_not, Bool.not_eq_true', Bool.not_eq_false', Bool.not_true, Bool.not_false] at hwb) | ((with_reducible refine qgb_intro (fun hwb => ?_) (fun hwb => ?_)) <;> (try rw [hwb]) <;> simp only [decide_eq_true_eq, decide_eq_false_iff_not, Bool.not_eq_true', Bool.not_eq_false', Bool.not_true, Bool.not_false] at hwb) | (with_reducible intro hl) | (with_reducible refine drawK_q (by kernel_rfl) (by kernel_rfl) ?_) )
  exact RetK_pure (.refl _) rfl

def digC (d : Nat) : UInt8 := UInt8.ofNat (if d < 10 then 48 + d else 87 + d)
def digs : List UInt8 := [48, 49, 50, 51, 52, 53, 54, 55, 56, 57, 97, 98, 99, 100, 101, 102, 103, 104, 105, 106, 107, 108, 109, 110, 111, 112, 113, 114, 115, 116, 117, 118, 119, 120, 121, 122]
theorem digs_get : ∀ d < 16, digs[d]? = some (digC d) := by decide
def hexD (r : Nat) : List UInt8 := if r < 16 then [digC r] else [digC (r / 16), digC (r % 16)]

theorem formatBits_spec (G : Gl) (hB : TabB G) (h : H) (r : Nat) (hr : r < 256) :
    XCalls Tryz.prog G 50 [.nil, .i .u64 r, .i .i64 16, .b false, .b false] h (fun o h' => o = .ret (.tu [.im 1 [], .s (hexD r)]) ∧ h' = h) := by
  refine enterK (rs := [.tmp 10, .tmp 11]) Tryz.func50 (by kernel_rfl) rfl rfl (by kernel_rfl) rfl (Nat.le_of_ble_eq_true rfl) (fun hbd => ?_)
  repeat' (first | simp -implicitDefEqProofs only [XL, XM, TL, Option.isSome_some, Option.bind_some, Option.bind_none, Option.map_some, Option.map_none, Option.some.injEq, List.getElem?_cons_zero, List.getElem?_cons_succ, List.getElem?_toArray, List.toList_toArray, Nat.reduceEqDiff, if_true, if_false, ↓reduceIte, reduceCtorEq, Bool.false_eq_true, List.nil_append, List.append_nil, List.cons_append, Bool.or_self, Bool.or_true, Bool.or_false, Bool.true_or, Bool.false_or, Bool.and_true, Bool.true_and, Bool.not_true, Bool.not_false, Nat.reduceAdd, Nat.reduceMul, Nat.reduceSub, Nat.reduceLT, Nat.reduceLeDiff, Int.reduceToNat, List.all_cons, List.all_nil, List.map_cons, List.map_nil, List.set_cons_zero,  true_and, and_true, Int.natCast_nonneg, Int.le_refl, Nat.le_refl, Int.toNat_natCast, Nat.sub_zero,  List.drop_zero, List.drop_succ_cons, List.length_cons, List.length_nil,  List.set_cons_succ, and_self, decide_true, decide_false, Int.reduceLT, Int.reduceLE, Int.reduceEq, Int.reduceSub, Int.reduceAdd, Int.reduceMul, String.reduceEq, stK_eq, stV.eq_1, stR_some, stE_ag, stE_one, stE_whole] | simp (disch := omega) only [ifp, ifn, wrap_i64, wrap_u8, wrap_i32, wrap_u64, wrap_u32, Int.tdiv_eq_ediv_of_nonneg, Int.tmod_eq_emod_of_nonneg] | ((with_reducible refine BrK_intro (fun hwb => ?_) (fun hwb => ?_)) <;> (try rw [hwb]) <;> simp only [decide_eq_true_eq, decide_eq_false_iff_not, Bool.not_eq_true', Bool.not_eq_false', Bool.not_true, Bool.not_false] at hwb) | ((with_reducible refine gbK_intro (fun hwb => ?_) (fun hwb => ?_)) <;> (try rw [hwb]) <;> simp only [decide_eq_true_eq, decide_eq_false_iff_not, Bool.not_eq_true', Bool.not_eq_false', Bool.not_true, Bool.not_false] at hwb) | ((with_reducible refine qgb_intro (fun hwb => ?_) (fun hwb => ?_)) <;> (try rw [hwb]) <;> simp only [decide_eq_true_eq, decide_eq_false_iff_not, Bool.not_eq_true', Bool.not_eq_false', Bool.not_true, Bool.not_false] at hwb) | (with_reducible intro hl) | (with_reducible refine drawK_q (by kernel_rfl) (by kernel_rfl) ?_) )
  refine boxK_arr (e := 1) (xs := List.replicate 65 (.i .u8 0)) (by intro x hx; rw [List.eq_of_mem_replicate hx]; exact ⟨rfl, by simp [V.cells, V.one]⟩) rfl (fun id hid => ?_)
  have chk_ : True ∧ True := by simp only [and_self, conv_int, convV.eq_1]
  clear chk_
  repeat' (first | simp -implicitDefEqProofs only [XL, XM, TL, Option.isSome_some, Option.bind_some, Option.bind_none, Option.map_some, Option.map_none, Option.some.injEq, List.getElem?_cons_zero, List.getElem?_cons_succ, List.getElem?_toArray, List.toList_toArray, Nat.reduceEqDiff, if_true, if_false, ↓reduceIte, reduceCtorEq, Bool.false_eq_true, List.nil_append, List.append_nil, List.cons_append, Bool.or_self, Bool.or_true, Bool.or_false, Bool.true_or, Bool.false_or, Bool.and_true, Bool.true_and, Bool.not_true, Bool.not_false, Nat.reduceAdd, Nat.reduceMul, Nat.reduceSub, Nat.reduceLT, Nat.reduceLeDiff, Int.reduceToNat, List.all_cons, List.all_nil, List.map_cons, List.map_nil, List.set_cons_zero,  true_and, and_true, Int.natCast_nonneg, Int.le_refl, Nat.le_refl, Int.toNat_natCast, Nat.sub_zero,  List.drop_zero, List.drop_succ_cons, List.length_cons, List.length_nil,  List.set_cons_succ, and_self, decide_true, decide_false, Int.reduceLT, Int.reduceLE, Int.reduceEq, Int.reduceSub, Int.reduceAdd, Int.reduceMul, String.reduceEq, stK_eq, stV.eq_1, stR_some, stE_ag, stE_one, stE_whole, conv_int, convV.eq_1] | simp (disch := omega) only [ifp, ifn, wrap_i64, wrap_u8, wrap_i32, wrap_u64, wrap_u32, Int.tdiv_eq_ediv_of_nonneg, Int.tmod_eq_emod_of_nonneg] | ((with_reducible refine BrK_intro (fun hwb => ?_) (fun hwb => ?_)) <;> (try rw [hwb]) <;> simp only [decide_eq_true_eq, decide_eq_false_iff_not, Bool.not_eq_true', Bool.not_eq_false', Bool.not_true, Bool.not_false] at hwb) | ((with_reducible refine gbK_intro (fun hwb => ?_) (fun hwb => ?_)) <;> (try rw [hwb]) <;> simp only [decide_eq_true_eq, decide_eq_false_iff_not, Bool.not_eq_true', Bool.not_eq_false', Bool.not_true, Bool.not_false] at hwb) | ((with_reducible refine qgb_intro (fun hwb => ?_) (fun hwb => ?_)) <;> (try rw [hwb]) <;> simp only [decide_eq_true_eq, decide_eq_false_iff_not, Bool.not_eq_true', Bool.not_eq_false', Bool.not_true, Bool.not_false] at hwb) | (with_reducible intro hl) | (with_reducible refine drawK_q (by kernel_rfl) (by kernel_rfl) ?_) | (with_reducible refine call_eq (pow16_spec G _) ?_) | (with_reducible refine call_eq (tz16_spec G hB _) ?_))
  have q1 : bitsOf .and .u64 r 15 = ((r % 16 : Nat) : Int) := by
    rw [show (15 : Int) = ((15 : Nat) : Int) by rfl, bits_and .u64 r 15 (by show r < 2 ^ 64; omega) (by decide), Nat.and_two_pow_sub_one_eq_mod r 4, wrap_u64 (by omega) (by omega)]
  have q3 : (r : Int).fdiv (2 ^ min 4 IntKind.u64.bits) = ((r / 16 : Nat) : Int) := by
    rw [show min 4 IntKind.u64.bits = 4 by rfl, Int.fdiv_eq_ediv_of_nonneg _ (by decide)]; rfl
  have dg : ∀ d < 16, ([48, 49, 50, 51, 52, 53, 54, 55, 56, 57, 97, 98, 99, 100, 101, 102, 103, 104, 105, 106, 107, 108, 109, 110, 111, 112, 113, 114, 115, 116, 117, 118, 119, 120, 121, 122] : List UInt8)[d]? = some (digC d) := digs_get
  have d1 := dg (r % 16) (Nat.mod_lt _ (by omega))
  have d2 := dg (r / 16) (by omega)
  have p1 : (List.replicate 65 (V.i .u8 0))[64]? = some (.i .u8 0) := rfl
  have p2 : ∀ x : V, ((List.replicate 65 (V.i .u8 0)).set 64 x)[63]? = some (.i .u8 0) := fun x => rfl
  have p3 : ∀ x : V, ((List.replicate 65 (V.i .u8 0)).set 64 x).length = 65 := fun x => by simp
  have p4 : ∀ x y : V, (((List.replicate 65 (V.i .u8 0)).set 64 x).set 63 y).length = 65 := fun x y => by simp
  refine loopO [1, 13, 44, 45, 46, 47, 48, 49, 50, 51, 52, 53, 54, 55, 56, 57] (fun (st : Nat) a g => (st = 0 ∧ a 1 = some (.i .u64 r) ∧ a 13 = some (.i .i64 65) ∧ g = h.set id (.row 1 (List.replicate 65 (.i .u8 0)))) ∨
    (st = 1 ∧ 16 ≤ r ∧ a 1 = some (.i .u64 (r / 16 : Nat)) ∧ a 13 = some (.i .i64 64) ∧ g = h.set id (.row 1 ((List.replicate 65 (.i .u8 0)).set 64 (bV (digC (r % 16))))))) (fun st => 1 - st) 0 (by exact .inl ⟨rfl, rfl, rfl, rfl⟩) ?_
  rintro st a g hoff (⟨rfl, h1, h13, rfl⟩ | ⟨rfl, hr16, h1, h13, rfl⟩)
  · (have e0' := hoff 0 rfl; have e2' := hoff 2 rfl; have e3' := hoff 3 rfl; have e4' := hoff 4 rfl; have e10' := hoff 10 rfl; have e11' := hoff 11 rfl; have e12' := hoff 12 rfl; have e14' := hoff 14 rfl; have e15' := hoff 15 rfl; have e16' := hoff 16 rfl; simp only [XL, XM, Option.isSome_some, Option.bind_some, Option.bind_none, Option.map_some, Option.map_none, Option.some.injEq, List.getElem?_cons_zero, List.getElem?_cons_succ, List.getElem?_toArray, List.toList_toArray, Nat.reduceEqDiff, if_true, if_false, ↓reduceIte, reduceCtorEq, Bool.false_eq_true, List.nil_append, List.append_nil, List.cons_append, Bool.or_self, Bool.or_true, Bool.or_false, Bool.true_or, Bool.false_or, Bool.and_true, Bool.true_and, Bool.not_true, Bool.not_false, Nat.reduceAdd, Nat.reduceMul, Nat.reduceSub, Nat.reduceLT, Nat.reduceLeDiff, Int.reduceToNat, List.all_cons, List.all_nil, List.map_cons, List.map_nil, List.set_cons_zero,  true_and, and_true, Int.natCast_nonneg, Int.le_refl, Nat.le_refl, Int.toNat_natCast, Nat.sub_zero,  List.drop_zero, List.drop_succ_cons, List.length_cons, List.length_nil,  List.set_cons_succ, and_self, decide_true, decide_false, Int.reduceLT, Int.reduceLE, Int.reduceEq, Int.reduceSub, Int.reduceAdd, Int.reduceMul, String.reduceEq, stK_eq, stV.eq_1, stR_some, stE_ag, stE_one, stE_whole] at e0' e2' e3' e4' e10' e11' e12' e14' e15' e16'; have e0 := e0'; clear e0'; have e2 := e2'; clear e2'; have e3 := e3'; clear e3'; have e4 := e4'; clear e4'; have e10 := e10'; clear e10'; have e11 := e11'; clear e11'; have e12 := e12'; clear e12'; have e14 := e14'; clear e14'; have e15 := e15'; clear e15'; have e16 := e16'; clear e16')
    skip
    by_cases hr16 : 16 ≤ r
    · have chk_ : True ∧ True := by simp only [and_self, e0, e2, e3, e4, e10, e11, e12, e14, e15, e16, h1, h13, q1, q3, set_eq, d1, p1, Nat.zero_add]
      clear chk_
      repeat' (first | simp -implicitDefEqProofs only [XL, XM, TL, Option.isSome_some, Option.bind_some, Option.bind_none, Option.map_some, Option.map_none, Option.some.injEq, List.getElem?_cons_zero, List.getElem?_cons_succ, List.getElem?_toArray, List.toList_toArray, Nat.reduceEqDiff, if_true, if_false, ↓reduceIte, reduceCtorEq, Bool.false_eq_true, List.nil_append, List.append_nil, List.cons_append, Bool.or_self, Bool.or_true, Bool.or_false, Bool.true_or, Bool.false_or, Bool.and_true, Bool.true_and, Bool.not_true, Bool.not_false, Nat.reduceAdd, Nat.reduceMul, Nat.reduceSub, Nat.reduceLT, Nat.reduceLeDiff, Int.reduceToNat, List.all_cons, List.all_nil, List.map_cons, List.map_nil, List.set_cons_zero,  true_and, and_true, Int.natCast_nonneg, Int.le_refl, Nat.le_refl, Int.toNat_natCast, Nat.sub_zero,  List.drop_zero, List.drop_succ_cons, List.length_cons, List.length_nil,  List.set_cons_succ, and_self, decide_true, decide_false, Int.reduceLT, Int.reduceLE, Int.reduceEq, Int.reduceSub, Int.reduceAdd, Int.reduceMul, String.reduceEq, stK_eq, stV.eq_1, stR_some, stE_ag, stE_one, stE_whole, e0, e2, e3, e4, e10, e11, e12, e14, e15, e16, h1, h13, q1, q3, set_eq, d1, p1, Nat.zero_add] | simp (disch := omega) only [ifp, ifn, wrap_i64, wrap_u8, wrap_i32, wrap_u64, wrap_u32, Int.tdiv_eq_ediv_of_nonneg, Int.tmod_eq_emod_of_nonneg] | ((with_reducible refine BrK_intro (fun hwb => ?_) (fun hwb => ?_)) <;> (try rw [hwb]) <;> simp only [decide_eq_true_eq, decide_eq_false_iff_not, Bool.not_eq_true', Bool.not_eq_false', Bool.not_true, Bool.not_false] at hwb) | ((with_reducible refine gbK_intro (fun hwb => ?_) (fun hwb => ?_)) <;> (try rw [hwb]) <;> simp only [decide_eq_true_eq, decide_eq_false_iff_not, Bool.not_eq_true', Bool.not_eq_false', Bool.not_true, Bool.not_false] at hwb) | ((with_reducible refine qgb_intro (fun hwb => ?_) (fun hwb => ?_)) <;> (try rw [hwb]) <;> simp only [decide_eq_true_eq, decide_eq_false_iff_not, Bool.not_eq_true', Bool.not_eq_false', Bool.not_true, Bool.not_false] at hwb) | (with_reducible intro hl) | (with_reducible refine drawK_q (by kernel_rfl) (by kernel_rfl) ?_) )
      all_goals first
        | (exfalso; omega)
        | skip
      refine LO.mk 1 (by omega) (by repeat (first | with_reducible exact hoff | with_reducible exact Off.refl _ _ | refine Off.upd ?_ rfl | refine Off.trans hoff ?_ rfl)) ?_
      refine .inr ⟨rfl, hr16, rfl, rfl, ?_⟩
      rw [set_set]; rfl
    · have d3 := dg r (by omega)
      have q4 : bitsOf .and .u64 r 15 = (r : Int) := by rw [q1]; omega
      have chk_ : True ∧ True := by simp only [and_self, e0, e2, e3, e4, e10, e11, e12, e14, e15, e16, h1, h13, q4, set_eq, d3, p1, p3, Nat.zero_add]
      clear chk_
      repeat' (first | simp -implicitDefEqProofs only [XL, XM, TL, Option.isSome_some, Option.bind_some, Option.bind_none, Option.map_some, Option.map_none, Option.some.injEq, List.getElem?_cons_zero, List.getElem?_cons_succ, List.getElem?_toArray, List.toList_toArray, Nat.reduceEqDiff, if_true, if_false, ↓reduceIte, reduceCtorEq, Bool.false_eq_true, List.nil_append, List.append_nil, List.cons_append, Bool.or_self, Bool.or_true, Bool.or_false, Bool.true_or, Bool.false_or, Bool.and_true, Bool.true_and, Bool.not_true, Bool.not_false, Nat.reduceAdd, Nat.reduceMul, Nat.reduceSub, Nat.reduceLT, Nat.reduceLeDiff, Int.reduceToNat, List.all_cons, List.all_nil, List.map_cons, List.map_nil, List.set_cons_zero,  true_and, and_true, Int.natCast_nonneg, Int.le_refl, Nat.le_refl, Int.toNat_natCast, Nat.sub_zero,  List.drop_zero, List.drop_succ_cons, List.length_cons, List.length_nil,  List.set_cons_succ, and_self, decide_true, decide_false, Int.reduceLT, Int.reduceLE, Int.reduceEq, Int.reduceSub, Int.reduceAdd, Int.reduceMul, String.reduceEq, stK_eq, stV.eq_1, stR_some, stE_ag, stE_one, stE_whole, e0, e2, e3, e4, e10, e11, e12, e14, e15, e16, h1, h13, q4, set_eq, d3, p1, p3, Nat.zero_add] | simp (disch := omega) only [ifp, ifn, wrap_i64, wrap_u8, wrap_i32, wrap_u64, wrap_u32, Int.tdiv_eq_ediv_of_nonneg, Int.tmod_eq_emod_of_nonneg] | ((with_reducible refine BrK_intro (fun hwb => ?_) (fun hwb => ?_)) <;> (try rw [hwb]) <;> simp only [decide_eq_true_eq, decide_eq_false_iff_not, Bool.not_eq_true', Bool.not_eq_false', Bool.not_true, Bool.not_false] at hwb) | ((with_reducible refine gbK_intro (fun hwb => ?_) (fun hwb => ?_)) <;> (try rw [hwb]) <;> simp only [decide_eq_true_eq, decide_eq_false_iff_not, Bool.not_eq_true', Bool.not_eq_false', Bool.not_true, Bool.not_false] at hwb) | ((with_reducible refine qgb_intro (fun hwb => ?_) (fun hwb => ?_)) <;> (try rw [hwb]) <;> simp only [decide_eq_true_eq, decide_eq_false_iff_not, Bool.not_eq_true', Bool.not_eq_false', Bool.not_true, Bool.not_false] at hwb) | (with_reducible intro hl) | (with_reducible refine drawK_q (by kernel_rfl) (by kernel_rfl) ?_) )
      all_goals first
        | (exfalso; omega)
        | skip
      refine conv_bytesStr (l := [digC r]) (ys := [bV (digC r)]) rfl (by simp -implicitDefEqProofs only [XL, XM, TL, Option.isSome_some, Option.bind_some, Option.bind_none, Option.map_some, Option.map_none, Option.some.injEq, List.getElem?_cons_zero, List.getElem?_cons_succ, List.getElem?_toArray, List.toList_toArray, Nat.reduceEqDiff, if_true, if_false, ↓reduceIte, reduceCtorEq, Bool.false_eq_true, List.nil_append, List.append_nil, List.cons_append, Bool.or_self, Bool.or_true, Bool.or_false, Bool.true_or, Bool.false_or, Bool.and_true, Bool.true_and, Bool.not_true, Bool.not_false, Nat.reduceAdd, Nat.reduceMul, Nat.reduceSub, Nat.reduceLT, Nat.reduceLeDiff, Int.reduceToNat, List.all_cons, List.all_nil, List.map_cons, List.map_nil, List.set_cons_zero,  true_and, and_true, Int.natCast_nonneg, Int.le_refl, Nat.le_refl, Int.toNat_natCast, Nat.sub_zero,  List.drop_zero, List.drop_succ_cons, List.length_cons, List.length_nil,  List.set_cons_succ, and_self, decide_true, decide_false, Int.reduceLT, Int.reduceLE, Int.reduceEq, Int.reduceSub, Int.reduceAdd, Int.reduceMul, String.reduceEq, stK_eq, stV.eq_1, stR_some, stE_ag, stE_one, stE_whole, e0, e2, e3, e4, e10, e11, e12, e14, e15, e16, h1, h13]; rfl) (by simp -implicitDefEqProofs only [XL, XM, TL, Option.isSome_some, Option.bind_some, Option.bind_none, Option.map_some, Option.map_none, Option.some.injEq, List.getElem?_cons_zero, List.getElem?_cons_succ, List.getElem?_toArray, List.toList_toArray, Nat.reduceEqDiff, if_true, if_false, ↓reduceIte, reduceCtorEq, Bool.false_eq_true, List.nil_append, List.append_nil, List.cons_append, Bool.or_self, Bool.or_true, Bool.or_false, Bool.true_or, Bool.false_or, Bool.and_true, Bool.true_and, Bool.not_true, Bool.not_false, Nat.reduceAdd, Nat.reduceMul, Nat.reduceSub, Nat.reduceLT, Nat.reduceLeDiff, Int.reduceToNat, List.all_cons, List.all_nil, List.map_cons, List.map_nil, List.set_cons_zero,  true_and, and_true, Int.natCast_nonneg, Int.le_refl, Nat.le_refl, Int.toNat_natCast, Nat.sub_zero,  List.drop_zero, List.drop_succ_cons, List.length_cons, List.length_nil,  List.set_cons_succ, and_self, decide_true, decide_false, Int.reduceLT, Int.reduceLE, Int.reduceEq, Int.reduceSub, Int.reduceAdd, Int.reduceMul, String.reduceEq, stK_eq, stV.eq_1, stR_some, stE_ag, stE_one, stE_whole, e0, e2, e3, e4, e10, e11, e12, e14, e15, e16, h1, h13]) (by simp -implicitDefEqProofs only [XL, XM, TL, Option.isSome_some, Option.bind_some, Option.bind_none, Option.map_some, Option.map_none, Option.some.injEq, List.getElem?_cons_zero, List.getElem?_cons_succ, List.getElem?_toArray, List.toList_toArray, Nat.reduceEqDiff, if_true, if_false, ↓reduceIte, reduceCtorEq, Bool.false_eq_true, List.nil_append, List.append_nil, List.cons_append, Bool.or_self, Bool.or_true, Bool.or_false, Bool.true_or, Bool.false_or, Bool.and_true, Bool.true_and, Bool.not_true, Bool.not_false, Nat.reduceAdd, Nat.reduceMul, Nat.reduceSub, Nat.reduceLT, Nat.reduceLeDiff, Int.reduceToNat, List.all_cons, List.all_nil, List.map_cons, List.map_nil, List.set_cons_zero,  true_and, and_true, Int.natCast_nonneg, Int.le_refl, Nat.le_refl, Int.toNat_natCast, Nat.sub_zero,  List.drop_zero, List.drop_succ_cons, List.length_cons, List.length_nil,  List.set_cons_succ, and_self, decide_true, decide_false, Int.reduceLT, Int.reduceLE, Int.reduceEq, Int.reduceSub, Int.reduceAdd, Int.reduceMul, String.reduceEq, stK_eq, stV.eq_1, stR_some, stE_ag, stE_one, stE_whole, e0, e2, e3, e4, e10, e11, e12, e14, e15, e16, h1, h13]) (by simp only [srcV, set_eq, if_true]; rfl) (by simp [bytesOfVs, bV]) ?_
      have chk_ : True ∧ True := by simp only [and_self, e0, e2, e3, e4, e10, e11, e12, e14, e15, e16, h1, h13]
      clear chk_
      repeat' (first | simp -implicitDefEqProofs only [XL, XM, TL, Option.isSome_some, Option.bind_some, Option.bind_none, Option.map_some, Option.map_none, Option.some.injEq, List.getElem?_cons_zero, List.getElem?_cons_succ, List.getElem?_toArray, List.toList_toArray, Nat.reduceEqDiff, if_true, if_false, ↓reduceIte, reduceCtorEq, Bool.false_eq_true, List.nil_append, List.append_nil, List.cons_append, Bool.or_self, Bool.or_true, Bool.or_false, Bool.true_or, Bool.false_or, Bool.and_true, Bool.true_and, Bool.not_true, Bool.not_false, Nat.reduceAdd, Nat.reduceMul, Nat.reduceSub, Nat.reduceLT, Nat.reduceLeDiff, Int.reduceToNat, List.all_cons, List.all_nil, List.map_cons, List.map_nil, List.set_cons_zero,  true_and, and_true, Int.natCast_nonneg, Int.le_refl, Nat.le_refl, Int.toNat_natCast, Nat.sub_zero,  List.drop_zero, List.drop_succ_cons, List.length_cons, List.length_nil,  List.set_cons_succ, and_self, decide_true, decide_false, Int.reduceLT, Int.reduceLE, Int.reduceEq, Int.reduceSub, Int.reduceAdd, Int.reduceMul, String.reduceEq, stK_eq, stV.eq_1, stR_some, stE_ag, stE_one, stE_whole, e0, e2, e3, e4, e10, e11, e12, e14, e15, e16, h1, h13] | simp (disch := omega) only [ifp, ifn, wrap_i64, wrap_u8, wrap_i32, wrap_u64, wrap_u32, Int.tdiv_eq_ediv_of_nonneg, Int.tmod_eq_emod_of_nonneg] | ((with_reducible refine BrK_intro (fun hwb => ?_) (fun hwb => ?_)) <;> (try rw [hwb]) <;> simp only [decide_eq_true_eq, decide_eq_false_iff_not, Bool.not_eq_true', Bool.not_eq_false', Bool.not_true, Bool.not_false] at hwb) | ((with_reducible refine gbK_intro (fun hwb => ?_) (fun hwb => ?_)) <;> (try rw [hwb]) <;> simp only [decide_eq_true_eq, decide_eq_false_iff_not, Bool.not_eq_true', Bool.not_eq_false', Bool.not_true, Bool.not_false] at hwb) | ((with_reducible refine qgb_intro (fun hwb => ?_) (fun hwb => ?_)) <;> (try rw [hwb]) <;> simp only [decide_eq_true_eq, decide_eq_false_iff_not, Bool.not_eq_true', Bool.not_eq_false', Bool.not_true, Bool.not_false] at hwb) | (with_reducible intro hl) | (with_reducible refine drawK_q (by kernel_rfl) (by kernel_rfl) ?_) )
      refine RetK_nil2 (e := 1) ?_ (by simp only [hexD]; rw [if_pos (by omega)])
      rw [set_set]; exact Sub.set_fresh (.refl _) hid _
  · (have e0' := hoff 0 rfl; have e2' := hoff 2 rfl; have e3' := hoff 3 rfl; have e4' := hoff 4 rfl; have e10' := hoff 10 rfl; have e11' := hoff 11 rfl; have e12' := hoff 12 rfl; have e14' := hoff 14 rfl; have e15' := hoff 15 rfl; have e16' := hoff 16 rfl; simp only [XL, XM, Option.isSome_some, Option.bind_some, Option.bind_none, Option.map_some, Option.map_none, Option.some.injEq, List.getElem?_cons_zero, List.getElem?_cons_succ, List.getElem?_toArray, List.toList_toArray, Nat.reduceEqDiff, if_true, if_false, ↓reduceIte, reduceCtorEq, Bool.false_eq_true, List.nil_append, List.append_nil, List.cons_append, Bool.or_self, Bool.or_true, Bool.or_false, Bool.true_or, Bool.false_or, Bool.and_true, Bool.true_and, Bool.not_true, Bool.not_false, Nat.reduceAdd, Nat.reduceMul, Nat.reduceSub, Nat.reduceLT, Nat.reduceLeDiff, Int.reduceToNat, List.all_cons, List.all_nil, List.map_cons, List.map_nil, List.set_cons_zero,  true_and, and_true, Int.natCast_nonneg, Int.le_refl, Nat.le_refl, Int.toNat_natCast, Nat.sub_zero,  List.drop_zero, List.drop_succ_cons, List.length_cons, List.length_nil,  List.set_cons_succ, and_self, decide_true, decide_false, Int.reduceLT, Int.reduceLE, Int.reduceEq, Int.reduceSub, Int.reduceAdd, Int.reduceMul, String.reduceEq, stK_eq, stV.eq_1, stR_some, stE_ag, stE_one, stE_whole] at e0' e2' e3' e4' e10' e11' e12' e14' e15' e16'; have e0 := e0'; clear e0'; have e2 := e2'; clear e2'; have e3 := e3'; clear e3'; have e4 := e4'; clear e4'; have e10 := e10'; clear e10'; have e11 := e11'; clear e11'; have e12 := e12'; clear e12'; have e14 := e14'; clear e14'; have e15 := e15'; clear e15'; have e16 := e16'; clear e16')
    skip
    have q4 : bitsOf .and .u64 ((r / 16 : Nat) : Int) 15 = ((r / 16 : Nat) : Int) := by
      rw [show (15 : Int) = ((15 : Nat) : Int) by rfl, bits_and .u64 (r / 16) 15 (by show r / 16 < 2 ^ 64; omega) (by decide), Nat.and_two_pow_sub_one_eq_mod (r / 16) 4, wrap_u64 (by omega) (by omega)]
      omega
    have chk_ : True ∧ True := by simp only [and_self, e0, e2, e3, e4, e10, e11, e12, e14, e15, e16, h1, h13, q4, set_eq, d2, p2, p3, p4, Nat.zero_add]
    clear chk_
    repeat' (first | simp -implicitDefEqProofs only [XL, XM, TL, Option.isSome_some, Option.bind_some, Option.bind_none, Option.map_some, Option.map_none, Option.some.injEq, List.getElem?_cons_zero, List.getElem?_cons_succ, List.getElem?_toArray, List.toList_toArray, Nat.reduceEqDiff, if_true, if_false, ↓reduceIte, reduceCtorEq, Bool.false_eq_true, List.nil_append, List.append_nil, List.cons_append, Bool.or_self, Bool.or_true, Bool.or_false, Bool.true_or, Bool.false_or, Bool.and_true, Bool.true_and, Bool.not_true, Bool.not_false, Nat.reduceAdd, Nat.reduceMul, Nat.reduceSub, Nat.reduceLT, Nat.reduceLeDiff, Int.reduceToNat, List.all_cons, List.all_nil, List.map_cons, List.map_nil, List.set_cons_zero,  true_and, and_true, Int.natCast_nonneg, Int.le_refl, Nat.le_refl, Int.toNat_natCast, Nat.sub_zero,  List.drop_zero, List.drop_succ_cons, List.length_cons, List.length_nil,  List.set_cons_succ, and_self, decide_true, decide_false, Int.reduceLT, Int.reduceLE, Int.reduceEq, Int.reduceSub, Int.reduceAdd, Int.reduceMul, String.reduceEq, stK_eq, stV.eq_1, stR_some, stE_ag, stE_one, stE_whole, e0, e2, e3, e4, e10, e11, e12, e14, e15, e16, h1, h13, q4, set_eq, d2, p2, p3, p4, Nat.zero_add] | simp (disch := omega) only [ifp, ifn, wrap_i64, wrap_u8, wrap_i32, wrap_u64, wrap_u32, Int.tdiv_eq_ediv_of_nonneg, Int.tmod_eq_emod_of_nonneg] | ((with_reducible refine BrK_intro (fun hwb => ?_) (fun hwb => ?_)) <;> (try rw [hwb]) <;> simp only [decide_eq_true_eq, decide_eq_false_iff_not, Bool.not_eq_true', Bool.not_eq_false', Bool.not_true, Bool.not_false] at hwb) | ((with_reducible refine gbK_intro (fun hwb => ?_) (fun hwb => ?_)) <;> (try rw [hwb]) <;> simp only [decide_eq_true_eq, decide_eq_false_iff_not, Bool.not_eq_true', Bool.not_eq_false', Bool.not_true, Bool.not_false] at hwb) | ((with_reducible refine qgb_intro (fun hwb => ?_) (fun hwb => ?_)) <;> (try rw [hwb]) <;> simp only [decide_eq_true_eq, decide_eq_false_iff_not, Bool.not_eq_true', Bool.not_eq_false', Bool.not_true, Bool.not_false] at hwb) | (with_reducible intro hl) | (with_reducible refine drawK_q (by kernel_rfl) (by kernel_rfl) ?_) )
    all_goals first
      | (exfalso; omega)
      | skip
    refine conv_bytesStr (l := [digC (r / 16), digC (r % 16)]) (ys := [bV (digC (r / 16)), bV (digC (r % 16))]) rfl (by simp -implicitDefEqProofs only [XL, XM, TL, Option.isSome_some, Option.bind_some, Option.bind_none, Option.map_some, Option.map_none, Option.some.injEq, List.getElem?_cons_zero, List.getElem?_cons_succ, List.getElem?_toArray, List.toList_toArray, Nat.reduceEqDiff, if_true, if_false, ↓reduceIte, reduceCtorEq, Bool.false_eq_true, List.nil_append, List.append_nil, List.cons_append, Bool.or_self, Bool.or_true, Bool.or_false, Bool.true_or, Bool.false_or, Bool.and_true, Bool.true_and, Bool.not_true, Bool.not_false, Nat.reduceAdd, Nat.reduceMul, Nat.reduceSub, Nat.reduceLT, Nat.reduceLeDiff, Int.reduceToNat, List.all_cons, List.all_nil, List.map_cons, List.map_nil, List.set_cons_zero,  true_and, and_true, Int.natCast_nonneg, Int.le_refl, Nat.le_refl, Int.toNat_natCast, Nat.sub_zero,  List.drop_zero, List.drop_succ_cons, List.length_cons, List.length_nil,  List.set_cons_succ, and_self, decide_true, decide_false, Int.reduceLT, Int.reduceLE, Int.reduceEq, Int.reduceSub, Int.reduceAdd, Int.reduceMul, String.reduceEq, stK_eq, stV.eq_1, stR_some, stE_ag, stE_one, stE_whole, e0, e2, e3, e4, e10, e11, e12, e14, e15, e16, h1, h13]; rfl) (by simp -implicitDefEqProofs only [XL, XM, TL, Option.isSome_some, Option.bind_some, Option.bind_none, Option.map_some, Option.map_none, Option.some.injEq, List.getElem?_cons_zero, List.getElem?_cons_succ, List.getElem?_toArray, List.toList_toArray, Nat.reduceEqDiff, if_true, if_false, ↓reduceIte, reduceCtorEq, Bool.false_eq_true, List.nil_append, List.append_nil, List.cons_append, Bool.or_self, Bool.or_true, Bool.or_false, Bool.true_or, Bool.false_or, Bool.and_true, Bool.true_and, Bool.not_true, Bool.not_false, Nat.reduceAdd, Nat.reduceMul, Nat.reduceSub, Nat.reduceLT, Nat.reduceLeDiff, Int.reduceToNat, List.all_cons, List.all_nil, List.map_cons, List.map_nil, List.set_cons_zero,  true_and, and_true, Int.natCast_nonneg, Int.le_refl, Nat.le_refl, Int.toNat_natCast, Nat.sub_zero,  List.drop_zero, List.drop_succ_cons, List.length_cons, List.length_nil,  List.set_cons_succ, and_self, decide_true, decide_false, Int.reduceLT, Int.reduceLE, Int.reduceEq, Int.reduceSub, Int.reduceAdd, Int.reduceMul, String.reduceEq, stK_eq, stV.eq_1, stR_some, stE_ag, stE_one, stE_whole, e0, e2, e3, e4, e10, e11, e12, e14, e15, e16, h1, h13]) (by simp -implicitDefEqProofs only [XL, XM, TL, Option.isSome_some, Option.bind_some, Option.bind_none, Option.map_some, Option.map_none, Option.some.injEq, List.getElem?_cons_zero, List.getElem?_cons_succ, List.getElem?_toArray, List.toList_toArray, Nat.reduceEqDiff, if_true, if_false, ↓reduceIte, reduceCtorEq, Bool.false_eq_true, List.nil_append, List.append_nil, List.cons_append, Bool.or_self, Bool.or_true, Bool.or_false, Bool.true_or, Bool.false_or, Bool.and_true, Bool.true_and, Bool.not_true, Bool.not_false, Nat.reduceAdd, Nat.reduceMul, Nat.reduceSub, Nat.reduceLT, Nat.reduceLeDiff, Int.reduceToNat, List.all_cons, List.all_nil, List.map_cons, List.map_nil, List.set_cons_zero,  true_and, and_true, Int.natCast_nonneg, Int.le_refl, Nat.le_refl, Int.toNat_natCast, Nat.sub_zero,  List.drop_zero, List.drop_succ_cons, List.length_cons, List.length_nil,  List.set_cons_succ, and_self, decide_true, decide_false, Int.reduceLT, Int.reduceLE, Int.reduceEq, Int.reduceSub, Int.reduceAdd, Int.reduceMul, String.reduceEq, stK_eq, stV.eq_1, stR_some, stE_ag, stE_one, stE_whole, e0, e2, e3, e4, e10, e11, e12, e14, e15, e16, h1, h13]) (by simp only [srcV, set_eq, if_true]; rfl) (by simp [bytesOfVs, bV]) ?_
    have chk_ : True ∧ True := by simp only [and_self, e0, e2, e3, e4, e10, e11, e12, e14, e15, e16, h1, h13]
    clear chk_
    repeat' (first | simp -implicitDefEqProofs only [XL, XM, TL, Option.isSome_some, Option.bind_some, Option.bind_none, Option.map_some, Option.map_none, Option.some.injEq, List.getElem?_cons_zero, List.getElem?_cons_succ, List.getElem?_toArray, List.toList_toArray, Nat.reduceEqDiff, if_true, if_false, ↓reduceIte, reduceCtorEq, Bool.false_eq_true, List.nil_append, List.append_nil, List.cons_append, Bool.or_self, Bool.or_true, Bool.or_false, Bool.true_or, Bool.false_or, Bool.and_true, Bool.true_and, Bool.not_true, Bool.not_false, Nat.reduceAdd, Nat.reduceMul, Nat.reduceSub, Nat.reduceLT, Nat.reduceLeDiff, Int.reduceToNat, List.all_cons, List.all_nil, List.map_cons, List.map_nil, List.set_cons_zero,  true_and, and_true, Int.natCast_nonneg, Int.le_refl, Nat.le_refl, Int.toNat_natCast, Nat.sub_zero,  List.drop_zero, List.drop_succ_cons, List.length_cons, List.length_nil,  List.set_cons_succ, and_self, decide_true, decide_false, Int.reduceLT, Int.reduceLE, Int.reduceEq, Int.reduceSub, Int.reduceAdd, Int.reduceMul, String.reduceEq, stK_eq, stV.eq_1, stR_some, stE_ag, stE_one, stE_whole, e0, e2, e3, e4, e10, e11, e12, e14, e15, e16, h1, h13] | simp (disch := omega) only [ifp, ifn, wrap_i64, wrap_u8, wrap_i32, wrap_u64, wrap_u32, Int.tdiv_eq_ediv_of_nonneg, Int.tmod_eq_emod_of_nonneg] | ((with_reducible refine BrK_intro (fun hwb => ?_) (fun hwb => ?_)) <;> (try rw [hwb]) <;> simp only [decide_eq_true_eq, decide_eq_false_iff_not, Bool.not_eq_true', Bool.not_eq_false', Bool.not_true, Bool.not_false] at hwb) | ((with_reducible refine gbK_intro (fun hwb => ?_) (fun hwb => ?_)) <;> (try rw [hwb]) <;> simp only [decide_eq_true_eq, decide_eq_false_iff_not, Bool.not_eq_true', Bool.not_eq_false', Bool.not_true, Bool.not_false] at hwb) | ((with_reducible refine qgb_intro (fun hwb => ?_) (fun hwb => ?_)) <;> (try rw [hwb]) <;> simp only [decide_eq_true_eq, decide_eq_false_iff_not, Bool.not_eq_true', Bool.not_eq_false', Bool.not_true, Bool.not_false] at hwb) | (with_reducible intro hl) | (with_reducible refine drawK_q (by kernel_rfl) (by kernel_rfl) ?_) )
    refine RetK_nil2 (e := 1) ?_ (by simp only [hexD]; rw [if_neg (by omega)])
    rw [set_set]; exact Sub.set_fresh (.refl _) hid _

theorem formatInt16_spec (G : Gl) (hB : TabB G) (h : H) (r : Nat) (hr : r < 256) :
    XCalls Tryz.prog G 19 [.i .i64 r, .i .i64 16] h (fun o h' => o = .ret (.s (hexD r)) ∧ h' = h) := by
  have hi : XCalls Tryz.prog G 34 [.i .i64 r, .i .i64 16] h (fun o h' => o = .ret (.s (hexD r)) ∧ h' = h) := by
    refine enterK (rs := [.tmp 4]) Tryz.func34 (by kernel_rfl) rfl rfl (by kernel_rfl) rfl (Nat.le_of_ble_eq_true rfl) (fun hbd => ?_)
    have hf : decide ((r : Int) < 0) = false := by simp
    have chk_ : True ∧ True := by simp only [and_self, conv_int, convV.eq_1, hf]
    clear chk_
    repeat' (first | simp -implicitDefEqProofs only [XL, XM, TL, Option.isSome_some, Option.bind_some, Option.bind_none, Option.map_some, Option.map_none, Option.some.injEq, List.getElem?_cons_zero, List.getElem?_cons_succ, List.getElem?_toArray, List.toList_toArray, Nat.reduceEqDiff, if_true, if_false, ↓reduceIte, reduceCtorEq, Bool.false_eq_true, List.nil_append, List.append_nil, List.cons_append, Bool.or_self, Bool.or_true, Bool.or_false, Bool.true_or, Bool.false_or, Bool.and_true, Bool.true_and, Bool.not_true, Bool.not_false, Nat.reduceAdd, Nat.reduceMul, Nat.reduceSub, Nat.reduceLT, Nat.reduceLeDiff, Int.reduceToNat, List.all_cons, List.all_nil, List.map_cons, List.map_nil, List.set_cons_zero,  true_and, and_true, Int.natCast_nonneg, Int.le_refl, Nat.le_refl, Int.toNat_natCast, Nat.sub_zero,  List.drop_zero, List.drop_succ_cons, List.length_cons, List.length_nil,  List.set_cons_succ, and_self, decide_true, decide_false, Int.reduceLT, Int.reduceLE, Int.reduceEq, Int.reduceSub, Int.reduceAdd, Int.reduceMul, String.reduceEq, stK_eq, stV.eq_1, stR_some, stE_ag, stE_one, stE_whole, conv_int, convV.eq_1, hf] | simp (disch := omega) only [ifp, ifn, wrap_i64, wrap_u8, wrap_i32, wrap_u64, wrap_u32, Int.tdiv_eq_ediv_of_nonneg, Int.tmod_eq_emod_of_nonneg] | ((with_reducible refine BrK_intro (fun hwb => ?_) (fun hwb => ?_)) <;> (try rw [hwb]) <;> simp only [decide_eq_true_eq, decide_eq_false_iff_not, Bool.not_eq_true', Bool.not_eq_false', Bool.not_true, Bool.not_false] at hwb) | ((with_reducible refine gbK_intro (fun hwb => ?_) (fun hwb => ?_)) <;> (try rw [hwb]) <;> simp only [decide_eq_true_eq, decide_eq_false_iff_not, Bool.not_eq_true', Bool.not_eq_false', Bool.not_true, Bool.not_false] at hwb) | ((with_reducible refine qgb_intro (fun hwb => ?_) (fun hwb => ?_)) <;> (try rw [hwb]) <;> simp only [decide_eq_true_eq, decide_eq_false_iff_not, Bool.not_eq_true', Bool.not_eq_false', Bool.not_true, Bool.not_false] at hwb) | (with_reducible intro hl) | (with_reducible refine drawK_q (by kernel_rfl) (by kernel_rfl) ?_) | (with_reducible refine call_eq (formatBits_spec G hB _ r hr) ?_))
    all_goals first
      | (exfalso; omega)
      | exact RetK_pure (.refl _) rfl
  refine enterK (rs := [.tmp 4]) Tryz.func19 (by kernel_rfl) rfl rfl (by kernel_rfl) rfl (Nat.le_of_ble_eq_true rfl) (fun hbd => ?_)
  repeat' (first | simp -implicitDefEqProofs only [XL, XM, TL, Option.isSome_some, Option.bind_some, Option.bind_none, Option.map_some, Option.map_none, Option.some.injEq, List.getElem?_cons_zero, List.getElem?_cons_succ, List.getElem?_toArray, List.toList_toArray, Nat.reduceEqDiff, if_true, if_false, ↓reduceIte, reduceCtorEq, Bool.false_eq_true, List.nil_append, List.append_nil, List.cons_append, Bool.or_self, Bool.or_true, Bool.or_false, Bool.true_or, Bool.false_or, Bool.and_true, Bool.true_and, Bool.not_true, Bool.not_false, Nat.reduceAdd, Nat.reduceMul, Nat.reduceSub, Nat.reduceLT, Nat.reduceLeDiff, Int.reduceToNat, List.all_cons, List.all_nil, List.map_cons, List.map_nil, List.set_cons_zero,  true_and, and_true, Int.natCast_nonneg, Int.le_refl, Nat.le_refl, Int.toNat_natCast, Nat.sub_zero,  List.drop_zero, List.drop_succ_cons, List.length_cons, List.length_nil,  List.set_cons_succ, and_self, decide_true, decide_false, Int.reduceLT, Int.reduceLE, Int.reduceEq, Int.reduceSub, Int.reduceAdd, Int.reduceMul, String.reduceEq, stK_eq, stV.eq_1, stR_some, stE_ag, stE_one, stE_whole] | simp (disch := omega) only [ifp, ifn, wrap_i64, wrap_u8, wrap_i32, wrap_u64, wrap_u32, Int.tdiv_eq_ediv_of_nonneg, Int.tmod_eq_emod_of_nonneg] | ((with_reducible refine BrK_intro (fun hwb => ?_) (fun hwb => ?_)) <;> (try rw [hwb]) <;> simp only [decide_eq_true_eq, decide_eq_false_iff_not, Bool.not_eq_true', Bool.not_eq_false', Bool.not_true, Bool.not_false] at hwb) | ((with_reducible refine gbK_intro (fun hwb => ?_) (fun hwb => ?_)) <;> (try rw [hwb]) <;> simp only [decide_eq_true_eq, decide_eq_false_iff_not, Bool.not_eq_true', Bool.not_eq_false', Bool.not_true, Bool.not_false] at hwb) | ((with_reducible refine qgb_intro (fun hwb => ?_) (fun hwb => ?_)) <;> (try rw [hwb]) <;> simp only [decide_eq_true_eq, decide_eq_false_iff_not, Bool.not_eq_true', Bool.not_eq_false', Bool.not_true, Bool.not_false] at hwb) | (with_reducible intro hl) | (with_reducible refine drawK_q (by kernel_rfl) (by kernel_rfl) ?_) | (with_reducible refine call_eq (hi) ?_))
  exact RetK_pure (.refl _) rfl
end Go.X
end

section
open Go
namespace Go.X
set_option linter.unusedSimpArgs false
set_option linter.unusedVariables false
set_option maxRecDepth 10000

theorem at0_eq (l : List UInt8) (i : Nat) : (l.getD i 0).toNat = at0 l i := rfl
theorem u8_eq {a : UInt8} {n : Nat} (h : a.toNat = n % 256) : a = UInt8.ofNat n := by
  apply UInt8.toNat_inj.1; rw [h]; simp
theorem take_get (l : List UInt8) (i n : Nat) (h : i + n ≤ l.length) : (l.drop i).take n = (List.range n).map fun k => l.getD (i + k) 0 := by
  apply List.ext_getElem?
  intro k
  rw [List.getElem?_take, List.getElem?_map]
  by_cases hk : k < n
  · rw [if_pos hk, List.getElem?_drop, List.getElem?_range hk]
    simp only [Option.map_some]
    exact at0_get (by omega)
  · rw [if_neg hk, List.getElem?_eq_none (by simpa using hk)]; rfl

/-- What is decoded is encoded back. -/
theorem charF_enc {l : List UInt8} {i : Nat} (hi : i < l.length) (h0 : (charF l i).1 ≠ 0) : isPoint (charF l i).2 = true ∧ (l.drop i).take (charF l i).1 = utf8V (charF l i).2 := by
  have hle := charF_le l i hi
  have b0 := at0_lt l i
  have b1 := at0_lt l (i + 1)
  have b2 := at0_lt l (i + 2)
  have b3 := at0_lt l (i + 3)
  by_cases c0 : at0 l i < 128
  · rw [charF_one c0] at hle ⊢
    refine ⟨by simp only [isPoint, decide_eq_true_eq]; omega, ?_⟩
    rw [take_get _ _ _ hle]
    simp only [utf8V, if_pos c0]
    show [l.getD (i + 0) 0] = _
    congr 1
    apply u8_eq
    rw [Nat.add_zero, at0_eq]; omega
  by_cases c1 : 192 ≤ at0 l i ∧ at0 l i < 224
  · rw [charF_two c1] at hle h0 ⊢
    split at h0
    · rename_i hc
      rw [if_pos hc] at hle ⊢
      simp only at hle ⊢
      refine ⟨by simp only [isPoint, decide_eq_true_eq]; omega, ?_⟩
      rw [take_get _ _ _ hle]
      simp only [utf8V]
      rw [if_neg (by omega), if_pos (by omega)]
      show [l.getD (i + 0) 0, l.getD (i + 1) 0] = _
      rw [Nat.add_zero]
      congr 1
      · apply u8_eq; rw [at0_eq]; omega
      · congr 1; apply u8_eq; rw [at0_eq]; omega
    · exact absurd rfl h0
  by_cases c2 : 224 ≤ at0 l i ∧ at0 l i < 240
  · rw [charF_three c2] at hle h0 ⊢
    split at h0
    · rename_i hc
      rw [if_pos hc] at hle ⊢
      simp only at hle ⊢
      refine ⟨by simp only [isPoint, decide_eq_true_eq]; omega, ?_⟩
      rw [take_get _ _ _ hle]
      simp only [utf8V]
      rw [if_neg (by omega), if_neg (by omega), if_pos (by omega)]
      show [l.getD (i + 0) 0, l.getD (i + 1) 0, l.getD (i + 2) 0] = _
      rw [Nat.add_zero]
      congr 1
      · apply u8_eq; rw [at0_eq]; omega
      · congr 1
        · apply u8_eq; rw [at0_eq]; omega
        · congr 1; apply u8_eq; rw [at0_eq]; omega
    · exact absurd rfl h0
  by_cases c3 : 240 ≤ at0 l i ∧ at0 l i < 248
  · rw [charF_four c3] at hle h0 ⊢
    split at h0
    · rename_i hc
      rw [if_pos hc] at hle ⊢
      simp only at hle ⊢
      refine ⟨by simp only [isPoint, decide_eq_true_eq]; omega, ?_⟩
      rw [take_get _ _ _ hle]
      simp only [utf8V]
      rw [if_neg (by omega), if_neg (by omega), if_neg (by omega)]
      show [l.getD (i + 0) 0, l.getD (i + 1) 0, l.getD (i + 2) 0, l.getD (i + 3) 0] = _
      rw [Nat.add_zero]
      congr 1
      · apply u8_eq; rw [at0_eq]; omega
      · congr 1
        · apply u8_eq; rw [at0_eq]; omega
        · congr 1
          · apply u8_eq; rw [at0_eq]; omega
          · congr 1; apply u8_eq; rw [at0_eq]; omega
    · exact absurd rfl h0
  · rw [charF_none (by omega) (by omega)] at h0; exact absurd rfl h0

theorem at0_app (p q : List UInt8) (k : Nat) : at0 (p ++ q) (p.length + k) = at0 q k := by
  unfold at0
  rw [List.getD_eq_getElem?_getD, List.getElem?_append_right (by omega), Nat.add_sub_cancel_left, List.getD_eq_getElem?_getD]
theorem at0_zero (c : UInt8) (q : List UInt8) : at0 (c :: q) 0 = c.toNat := rfl
theorem at0_succ (c : UInt8) (q : List UInt8) (k : Nat) : at0 (c :: q) (k + 1) = at0 q k := by
  unfold at0; simp [List.getD_eq_getElem?_getD]

/-- What is encoded is decoded. -/
theorem charF_dec (p q : List UInt8) (v : Nat) (hv : isPoint v = true) : charF (p ++ (utf8V v ++ q)) p.length = ((utf8V v).length, v) := by
  simp only [isPoint, decide_eq_true_eq] at hv
  have a0 : at0 (p ++ (utf8V v ++ q)) p.length = at0 (utf8V v ++ q) 0 := at0_app p _ 0
  have a1 := at0_app p (utf8V v ++ q) 1
  have a2 := at0_app p (utf8V v ++ q) 2
  have a3 := at0_app p (utf8V v ++ q) 3
  have hlen : (p ++ (utf8V v ++ q)).length = p.length + ((utf8V v).length + q.length) := by simp
  by_cases c0 : v < 128
  · have hu : utf8V v = [UInt8.ofNat v] := by simp only [utf8V, if_pos c0]
    rw [hu] at a0 ⊢
    have : at0 (p ++ ([UInt8.ofNat v] ++ q)) p.length = v := by rw [a0]; show (UInt8.ofNat v).toNat = v; simp; omega
    rw [charF_one (by omega), this]; rfl
  by_cases c1 : v < 2048
  · have hu : utf8V v = [UInt8.ofNat (192 + v / 64), UInt8.ofNat (128 + v % 64)] := by simp only [utf8V, if_neg c0, if_pos c1]
    rw [hu] at a0 a1 hlen ⊢
    have e0 : at0 (p ++ ([UInt8.ofNat (192 + v / 64), UInt8.ofNat (128 + v % 64)] ++ q)) p.length = 192 + v / 64 := by rw [a0]; show (UInt8.ofNat _).toNat = _; simp only [UInt8.toNat_ofNat']; omega
    have e1 : at0 (p ++ ([UInt8.ofNat (192 + v / 64), UInt8.ofNat (128 + v % 64)] ++ q)) (p.length + 1) = 128 + v % 64 := by rw [a1]; show (UInt8.ofNat _).toNat = _; simp only [UInt8.toNat_ofNat']; omega
    rw [charF_two (by omega)]
    simp only [e0, e1, hlen, List.length_cons, List.length_nil]
    rw [if_pos (by omega)]
    refine Prod.ext_iff.2 ⟨rfl, ?_⟩
    simp only
    omega
  by_cases c2 : v < 65536
  · have hu : utf8V v = [UInt8.ofNat (224 + v / 4096), UInt8.ofNat (128 + v / 64 % 64), UInt8.ofNat (128 + v % 64)] := by simp only [utf8V, if_neg c0, if_neg c1, if_pos c2]
    rw [hu] at a0 a1 a2 hlen ⊢
    have e0 : at0 (p ++ ([UInt8.ofNat (224 + v / 4096), UInt8.ofNat (128 + v / 64 % 64), UInt8.ofNat (128 + v % 64)] ++ q)) p.length = 224 + v / 4096 := by rw [a0]; show (UInt8.ofNat _).toNat = _; simp only [UInt8.toNat_ofNat']; omega
    have e1 : at0 (p ++ ([UInt8.ofNat (224 + v / 4096), UInt8.ofNat (128 + v / 64 % 64), UInt8.ofNat (128 + v % 64)] ++ q)) (p.length + 1) = 128 + v / 64 % 64 := by rw [a1]; show (UInt8.ofNat _).toNat = _; simp only [UInt8.toNat_ofNat']; omega
    have e2 : at0 (p ++ ([UInt8.ofNat (224 + v / 4096), UInt8.ofNat (128 + v / 64 % 64), UInt8.ofNat (128 + v % 64)] ++ q)) (p.length + 2) = 128 + v % 64 := by rw [a2]; show (UInt8.ofNat _).toNat = _; simp only [UInt8.toNat_ofNat']; omega
    rw [charF_three (by omega)]
    simp only [e0, e1, e2, hlen, List.length_cons, List.length_nil]
    rw [if_pos (by omega)]
    refine Prod.ext_iff.2 ⟨rfl, ?_⟩
    simp only
    omega
  · have hu : utf8V v = [UInt8.ofNat (240 + v / 262144), UInt8.ofNat (128 + v / 4096 % 64), UInt8.ofNat (128 + v / 64 % 64), UInt8.ofNat (128 + v % 64)] := by simp only [utf8V, if_neg c0, if_neg c1, if_neg c2]
    rw [hu] at a0 a1 a2 a3 hlen ⊢
    generalize hq : p ++ ([UInt8.ofNat (240 + v / 262144), UInt8.ofNat (128 + v / 4096 % 64), UInt8.ofNat (128 + v / 64 % 64), UInt8.ofNat (128 + v % 64)] ++ q) = w at *
    have e0 : at0 w p.length = 240 + v / 262144 := by rw [a0]; show (UInt8.ofNat _).toNat = _; simp only [UInt8.toNat_ofNat']; omega
    have e1 : at0 w (p.length + 1) = 128 + v / 4096 % 64 := by rw [a1]; show (UInt8.ofNat _).toNat = _; simp only [UInt8.toNat_ofNat']; omega
    have e2 : at0 w (p.length + 2) = 128 + v / 64 % 64 := by rw [a2]; show (UInt8.ofNat _).toNat = _; simp only [UInt8.toNat_ofNat']; omega
    have e3 : at0 w (p.length + 3) = 128 + v % 64 := by rw [a3]; show (UInt8.ofNat _).toNat = _; simp only [UInt8.toNat_ofNat']; omega
    rw [charF_four (by omega)]
    simp only [e0, e1, e2, e3, hlen, List.length_cons, List.length_nil]
    rw [if_pos (by omega)]
    refine Prod.ext_iff.2 ⟨rfl, ?_⟩
    simp only
    omega

/-- Code points of a well-formed text. -/
def Pts (vs : List Nat) : Prop := ∀ v : Nat, v ∈ vs → isPoint (v : Int) = true
theorem Pts.head {v : Nat} {vs : List Nat} (h : Pts (v :: vs)) : isPoint (v : Int) = true := h v (by simp)
theorem Pts.tail {v : Nat} {vs : List Nat} (h : Pts (v :: vs)) : Pts vs := fun x hx => h x (by simp [hx])
/-- The text of some code points. -/
def encL (vs : List Nat) : List UInt8 := vs.flatMap utf8V
theorem encL_cons (v : Nat) (vs : List Nat) : encL (v :: vs) = utf8V v ++ encL vs := rfl
theorem encL_append (a b : List Nat) : encL (a ++ b) = encL a ++ encL b := by simp [encL]
theorem utf8V_pos (v : Nat) : 0 < (utf8V v).length := by rw [utf8V_len]; repeat' split
                                                         all_goals omega
theorem checkF_enc (p : List UInt8) : ∀ (vs : List Nat), Pts vs → checkF (p ++ encL vs) p.length = (0, 0)
  | [], _ => by rw [checkF, dif_neg (by simp [encL])]
  | v :: vs, h => by
    have hd := charF_dec p (encL vs) v h.head
    have hp := utf8V_pos v
    rw [encL_cons, checkF, dif_pos (by simp; omega)]
    rw [hd]
    rw [dif_neg (by simp only; omega)]
    have := checkF_enc (p ++ utf8V v) vs h.tail
    simp only [List.length_append, List.append_assoc] at this
    exact this
theorem checkF_points (l : List UInt8) (n : Nat) : ∀ (i : Nat), i ≤ l.length → l.length - i ≤ n → checkF l i = (0, 0) → ∃ vs, Pts vs ∧ l.drop i = encL vs := by
  induction n with
  | zero => intro i hi hn h; exact ⟨[], fun v hv => by simp at hv, by simp [encL]; omega⟩
  | succ n ih =>
    intro i hi hn h
    by_cases hlt : i < l.length
    · rw [checkF, dif_pos hlt] at h
      split at h
      · simp at h
      · rename_i h0
        have hle := charF_le l i hlt
        obtain ⟨vs, h1, h2⟩ := ih (i + (charF l i).1) hle (by omega) h
        obtain ⟨h3, h4⟩ := charF_enc hlt h0
        refine ⟨(charF l i).2 :: vs, ?_, ?_⟩
        · intro v hv
          rcases List.mem_cons.1 hv with rfl | hv
          · exact h3
          · exact h1 v hv
        · rw [encL_cons, ← h4, ← h2, ← List.drop_drop, List.take_append_drop]
    · exact ⟨[], fun v hv => by simp at hv, by simp [encL]; omega⟩
theorem points_of {l : List UInt8} (h : (checkF l 0).1 = 0) : ∃ vs, Pts vs ∧ l = encL vs := by
  have h2 : checkF l 0 = (0, 0) := by
    have : ∀ n i, l.length - i ≤ n → (checkF l i).1 = 0 → checkF l i = (0, 0) := by
      intro n
      induction n with
      | zero => intro i hn _; rw [checkF, dif_neg (by omega)]
      | succ n ih =>
        intro i hn h
        rw [checkF] at h ⊢
        split
        · rename_i hlt
          rw [dif_pos hlt] at h
          split
          · rename_i h0; rw [dif_pos h0] at h; simp at h
          · rename_i h0; rw [dif_neg h0] at h; exact ih _ (by omega) h
        · rfl
    exact this _ 0 (Nat.le_refl _) h
  obtain ⟨vs, h3, h4⟩ := checkF_points l l.length 0 (Nat.zero_le _) (by omega) h2
  exact ⟨vs, h3, by simpa using h4⟩
end Go.X
end

section
open Go Go.Proofs
namespace Go.X
set_option linter.unusedSimpArgs false
set_option maxRecDepth 10000

/-- How a code point is written in a literal. -/
def qV (v : Nat) : List UInt8 := if v = 34 ∨ v = 92 then [92, UInt8.ofNat v] else if v < 32 ∨ v = 127 then [92, 117, 123] ++ hexD v ++ [125] else utf8V v
def qL (vs : List Nat) : List UInt8 := vs.flatMap qV
def quoteV (vs : List Nat) : List UInt8 := (34 :: qL vs) ++ [34]
theorem qV_len (v : Nat) : (qV v).length ≤ 6 := by
  have := utf8V_len v
  unfold qV hexD
  repeat' split
  all_goals simp <;> (try (rw [this]; (repeat' split) <;> omega))
theorem qL_len : ∀ vs : List Nat, (qL vs).length ≤ 6 * vs.length
  | [] => by simp [qL]
  | v :: vs => by
    have := qL_len vs
    have := qV_len v
    simp only [qL, List.flatMap_cons, List.length_append, List.length_cons] at *
    omega
theorem encL_len : ∀ vs : List Nat, vs.length ≤ (encL vs).length
  | [] => by simp
  | v :: vs => by
    have := encL_len vs
    have := utf8V_pos v
    rw [encL_cons]; simp; omega

theorem quote_spec (G : Gl) (hT : Tabs G) (hB : TabB G) (h : H) (vs : List Nat) (hv : Pts vs) (hlen : (encL vs).length ≤ 100000000) :
    XCalls Tryz.prog G 7 [.im 1 (bytesV (encL vs))] h (fun o h' => o = .ret (.im 1 (bytesV (quoteV vs))) ∧ h' = h) := by
  have hwf := wellFormed_spec G hT h (encL vs) (by omega)
  have hck : (checkF (encL vs) 0).1 = 0 := by have := checkF_enc [] vs hv; simp only [List.nil_append, List.length_nil] at this; rw [this]
  rw [decide_eq_true hck] at hwf
  refine enterK (rs := [.tmp 2]) Tryz.func7 (by kernel_rfl) rfl rfl (by kernel_rfl) rfl (Nat.le_of_ble_eq_true rfl) (fun hbd => ?_)
  repeat' (first | simp -implicitDefEqProofs only [XL, XM, TL, Option.isSome_some, Option.bind_some, Option.bind_none, Option.map_some, Option.map_none, Option.some.injEq, List.getElem?_cons_zero, List.getElem?_cons_succ, List.getElem?_toArray, List.toList_toArray, Nat.reduceEqDiff, if_true, if_false, ↓reduceIte, reduceCtorEq, Bool.false_eq_true, List.nil_append, List.append_nil, List.cons_append, Bool.or_self, Bool.or_true, Bool.or_false, Bool.true_or, Bool.false_or, Bool.and_true, Bool.true_and, Bool.not_true, Bool.not_false, Nat.reduceAdd, Nat.reduceMul, Nat.reduceSub, Nat.reduceLT, Nat.reduceLeDiff, Int.reduceToNat, List.all_cons, List.all_nil, List.map_cons, List.map_nil, List.set_cons_zero,  true_and, and_true, Int.natCast_nonneg, Int.le_refl, Nat.le_refl, Int.toNat_natCast, Nat.sub_zero,  List.drop_zero, List.drop_succ_cons, List.length_cons, List.length_nil,  List.set_cons_succ, and_self, decide_true, decide_false, Int.reduceLT, Int.reduceLE, Int.reduceEq, Int.reduceSub, Int.reduceAdd, Int.reduceMul, String.reduceEq, stK_eq, stV.eq_1, stR_some, stE_ag, stE_one, stE_whole] | simp (disch := omega) only [ifp, ifn, wrap_i64, wrap_u8, wrap_i32, wrap_u64, wrap_u32, Int.tdiv_eq_ediv_of_nonneg, Int.tmod_eq_emod_of_nonneg] | ((with_reducible refine BrK_intro (fun hwb => ?_) (fun hwb => ?_)) <;> (try rw [hwb]) <;> simp only [decide_eq_true_eq, decide_eq_false_iff_not, Bool.not_eq_true', Bool.not_eq_false', Bool.not_true, Bool.not_false] at hwb) | ((with_reducible refine gbK_intro (fun hwb => ?_) (fun hwb => ?_)) <;> (try rw [hwb]) <;> simp only [decide_eq_true_eq, decide_eq_false_iff_not, Bool.not_eq_true', Bool.not_eq_false', Bool.not_true, Bool.not_false] at hwb) | ((with_reducible refine qgb_intro (fun hwb => ?_) (fun hwb => ?_)) <;> (try rw [hwb]) <;> simp only [decide_eq_true_eq, decide_eq_false_iff_not, Bool.not_eq_true', Bool.not_eq_false', Bool.not_true, Bool.not_false] at hwb) | (with_reducible intro hl) | (with_reducible refine drawK_q (by kernel_rfl) (by kernel_rfl) ?_) | (with_reducible refine call_eq (hwf) ?_))
  refine boxK_ty rfl (fun id hid hty => ?_)
  simp -implicitDefEqProofs only [XL, XM, TL, Option.isSome_some, Option.bind_some, Option.bind_none, Option.map_some, Option.map_none, Option.some.injEq, List.getElem?_cons_zero, List.getElem?_cons_succ, List.getElem?_toArray, List.toList_toArray, Nat.reduceEqDiff, if_true, if_false, ↓reduceIte, reduceCtorEq, Bool.false_eq_true, List.nil_append, List.append_nil, List.cons_append, Bool.or_self, Bool.or_true, Bool.or_false, Bool.true_or, Bool.false_or, Bool.and_true, Bool.true_and, Bool.not_true, Bool.not_false, Nat.reduceAdd, Nat.reduceMul, Nat.reduceSub, Nat.reduceLT, Nat.reduceLeDiff, Int.reduceToNat, List.all_cons, List.all_nil, List.map_cons, List.map_nil, List.set_cons_zero,  true_and, and_true, Int.natCast_nonneg, Int.le_refl, Nat.le_refl, Int.toNat_natCast, Nat.sub_zero,  List.drop_zero, List.drop_succ_cons, List.length_cons, List.length_nil,  List.set_cons_succ, and_self, decide_true, decide_false, Int.reduceLT, Int.reduceLE, Int.reduceEq, Int.reduceSub, Int.reduceAdd, Int.reduceMul, String.reduceEq, stK_eq, stV.eq_1, stR_some, stE_ag, stE_one, stE_whole]
  refine call_h (writeByte_spec G h _ id [] 34 (by simp) (Bld.new hid hty)) (fun g1 hb1 => ?_)
  simp -implicitDefEqProofs only [XL, XM, TL, Option.isSome_some, Option.bind_some, Option.bind_none, Option.map_some, Option.map_none, Option.some.injEq, List.getElem?_cons_zero, List.getElem?_cons_succ, List.getElem?_toArray, List.toList_toArray, Nat.reduceEqDiff, if_true, if_false, ↓reduceIte, reduceCtorEq, Bool.false_eq_true, List.nil_append, List.append_nil, List.cons_append, Bool.or_self, Bool.or_true, Bool.or_false, Bool.true_or, Bool.false_or, Bool.and_true, Bool.true_and, Bool.not_true, Bool.not_false, Nat.reduceAdd, Nat.reduceMul, Nat.reduceSub, Nat.reduceLT, Nat.reduceLeDiff, Int.reduceToNat, List.all_cons, List.all_nil, List.map_cons, List.map_nil, List.set_cons_zero,  true_and, and_true, Int.natCast_nonneg, Int.le_refl, Nat.le_refl, Int.toNat_natCast, Nat.sub_zero,  List.drop_zero, List.drop_succ_cons, List.length_cons, List.length_nil,  List.set_cons_succ, and_self, decide_true, decide_false, Int.reduceLT, Int.reduceLE, Int.reduceEq, Int.reduceSub, Int.reduceAdd, Int.reduceMul, String.reduceEq, stK_eq, stV.eq_1, stR_some, stE_ag, stE_one, stE_whole]
  refine conv_bytesStr (l := encL vs) rfl (by simp -implicitDefEqProofs only [XL, XM, TL, Option.isSome_some, Option.bind_some, Option.bind_none, Option.map_some, Option.map_none, Option.some.injEq, List.getElem?_cons_zero, List.getElem?_cons_succ, List.getElem?_toArray, List.toList_toArray, Nat.reduceEqDiff, if_true, if_false, ↓reduceIte, reduceCtorEq, Bool.false_eq_true, List.nil_append, List.append_nil, List.cons_append, Bool.or_self, Bool.or_true, Bool.or_false, Bool.true_or, Bool.false_or, Bool.and_true, Bool.true_and, Bool.not_true, Bool.not_false, Nat.reduceAdd, Nat.reduceMul, Nat.reduceSub, Nat.reduceLT, Nat.reduceLeDiff, Int.reduceToNat, List.all_cons, List.all_nil, List.map_cons, List.map_nil, List.set_cons_zero,  true_and, and_true, Int.natCast_nonneg, Int.le_refl, Nat.le_refl, Int.toNat_natCast, Nat.sub_zero,  List.drop_zero, List.drop_succ_cons, List.length_cons, List.length_nil,  List.set_cons_succ, and_self, decide_true, decide_false, Int.reduceLT, Int.reduceLE, Int.reduceEq, Int.reduceSub, Int.reduceAdd, Int.reduceMul, String.reduceEq, stK_eq, stV.eq_1, stR_some, stE_ag, stE_one, stE_whole]; rfl) (by simp -implicitDefEqProofs only [XL, XM, TL, Option.isSome_some, Option.bind_some, Option.bind_none, Option.map_some, Option.map_none, Option.some.injEq, List.getElem?_cons_zero, List.getElem?_cons_succ, List.getElem?_toArray, List.toList_toArray, Nat.reduceEqDiff, if_true, if_false, ↓reduceIte, reduceCtorEq, Bool.false_eq_true, List.nil_append, List.append_nil, List.cons_append, Bool.or_self, Bool.or_true, Bool.or_false, Bool.true_or, Bool.false_or, Bool.and_true, Bool.true_and, Bool.not_true, Bool.not_false, Nat.reduceAdd, Nat.reduceMul, Nat.reduceSub, Nat.reduceLT, Nat.reduceLeDiff, Int.reduceToNat, List.all_cons, List.all_nil, List.map_cons, List.map_nil, List.set_cons_zero,  true_and, and_true, Int.natCast_nonneg, Int.le_refl, Nat.le_refl, Int.toNat_natCast, Nat.sub_zero,  List.drop_zero, List.drop_succ_cons, List.length_cons, List.length_nil,  List.set_cons_succ, and_self, decide_true, decide_false, Int.reduceLT, Int.reduceLE, Int.reduceEq, Int.reduceSub, Int.reduceAdd, Int.reduceMul, String.reduceEq, stK_eq, stV.eq_1, stR_some, stE_ag, stE_one, stE_whole]) (by simp -implicitDefEqProofs only [XL, XM, TL, Option.isSome_some, Option.bind_some, Option.bind_none, Option.map_some, Option.map_none, Option.some.injEq, List.getElem?_cons_zero, List.getElem?_cons_succ, List.getElem?_toArray, List.toList_toArray, Nat.reduceEqDiff, if_true, if_false, ↓reduceIte, reduceCtorEq, Bool.false_eq_true, List.nil_append, List.append_nil, List.cons_append, Bool.or_self, Bool.or_true, Bool.or_false, Bool.true_or, Bool.false_or, Bool.and_true, Bool.true_and, Bool.not_true, Bool.not_false, Nat.reduceAdd, Nat.reduceMul, Nat.reduceSub, Nat.reduceLT, Nat.reduceLeDiff, Int.reduceToNat, List.all_cons, List.all_nil, List.map_cons, List.map_nil, List.set_cons_zero,  true_and, and_true, Int.natCast_nonneg, Int.le_refl, Nat.le_refl, Int.toNat_natCast, Nat.sub_zero,  List.drop_zero, List.drop_succ_cons, List.length_cons, List.length_nil,  List.set_cons_succ, and_self, decide_true, decide_false, Int.reduceLT, Int.reduceLE, Int.reduceEq, Int.reduceSub, Int.reduceAdd, Int.reduceMul, String.reduceEq, stK_eq, stV.eq_1, stR_some, stE_ag, stE_one, stE_whole]) (by simp only [srcV, if_true]) (bytesOf_bytesV _) ?_
  simp -implicitDefEqProofs only [XL, XM, TL, Option.isSome_some, Option.bind_some, Option.bind_none, Option.map_some, Option.map_none, Option.some.injEq, List.getElem?_cons_zero, List.getElem?_cons_succ, List.getElem?_toArray, List.toList_toArray, Nat.reduceEqDiff, if_true, if_false, ↓reduceIte, reduceCtorEq, Bool.false_eq_true, List.nil_append, List.append_nil, List.cons_append, Bool.or_self, Bool.or_true, Bool.or_false, Bool.true_or, Bool.false_or, Bool.and_true, Bool.true_and, Bool.not_true, Bool.not_false, Nat.reduceAdd, Nat.reduceMul, Nat.reduceSub, Nat.reduceLT, Nat.reduceLeDiff, Int.reduceToNat, List.all_cons, List.all_nil, List.map_cons, List.map_nil, List.set_cons_zero,  true_and, and_true, Int.natCast_nonneg, Int.le_refl, Nat.le_refl, Int.toNat_natCast, Nat.sub_zero,  List.drop_zero, List.drop_succ_cons, List.length_cons, List.length_nil,  List.set_cons_succ, and_self, decide_true, decide_false, Int.reduceLT, Int.reduceLE, Int.reduceEq, Int.reduceSub, Int.reduceAdd, Int.reduceMul, String.reduceEq, stK_eq, stV.eq_1, stR_some, stE_ag, stE_one, stE_whole]
  refine rangeK_intro (by simp -implicitDefEqProofs only [XL, XM, TL, Option.isSome_some, Option.bind_some, Option.bind_none, Option.map_some, Option.map_none, Option.some.injEq, List.getElem?_cons_zero, List.getElem?_cons_succ, List.getElem?_toArray, List.toList_toArray, Nat.reduceEqDiff, if_true, if_false, ↓reduceIte, reduceCtorEq, Bool.false_eq_true, List.nil_append, List.append_nil, List.cons_append, Bool.or_self, Bool.or_true, Bool.or_false, Bool.true_or, Bool.false_or, Bool.and_true, Bool.true_and, Bool.not_true, Bool.not_false, Nat.reduceAdd, Nat.reduceMul, Nat.reduceSub, Nat.reduceLT, Nat.reduceLeDiff, Int.reduceToNat, List.all_cons, List.all_nil, List.map_cons, List.map_nil, List.set_cons_zero,  true_and, and_true, Int.natCast_nonneg, Int.le_refl, Nat.le_refl, Int.toNat_natCast, Nat.sub_zero,  List.drop_zero, List.drop_succ_cons, List.length_cons, List.length_nil,  List.set_cons_succ, and_self, decide_true, decide_false, Int.reduceLT, Int.reduceLE, Int.reduceEq, Int.reduceSub, Int.reduceAdd, Int.reduceMul, String.reduceEq, stK_eq, stV.eq_1, stR_some, stE_ag, stE_one, stE_whole]) (fun it hit => ?_)
  have hb2 := hb1.fresh hit (.iter (encL vs) 0)
  have hith := hb1.sub.no hit
  repeat' (first | simp -implicitDefEqProofs only [XL, XM, TL, Option.isSome_some, Option.bind_some, Option.bind_none, Option.map_some, Option.map_none, Option.some.injEq, List.getElem?_cons_zero, List.getElem?_cons_succ, List.getElem?_toArray, List.toList_toArray, Nat.reduceEqDiff, if_true, if_false, ↓reduceIte, reduceCtorEq, Bool.false_eq_true, List.nil_append, List.append_nil, List.cons_append, Bool.or_self, Bool.or_true, Bool.or_false, Bool.true_or, Bool.false_or, Bool.and_true, Bool.true_and, Bool.not_true, Bool.not_false, Nat.reduceAdd, Nat.reduceMul, Nat.reduceSub, Nat.reduceLT, Nat.reduceLeDiff, Int.reduceToNat, List.all_cons, List.all_nil, List.map_cons, List.map_nil, List.set_cons_zero,  true_and, and_true, Int.natCast_nonneg, Int.le_refl, Nat.le_refl, Int.toNat_natCast, Nat.sub_zero,  List.drop_zero, List.drop_succ_cons, List.length_cons, List.length_nil,  List.set_cons_succ, and_self, decide_true, decide_false, Int.reduceLT, Int.reduceLE, Int.reduceEq, Int.reduceSub, Int.reduceAdd, Int.reduceMul, String.reduceEq, stK_eq, stV.eq_1, stR_some, stE_ag, stE_one, stE_whole] | simp (disch := omega) only [ifp, ifn, wrap_i64, wrap_u8, wrap_i32, wrap_u64, wrap_u32, Int.tdiv_eq_ediv_of_nonneg, Int.tmod_eq_emod_of_nonneg] | ((with_reducible refine BrK_intro (fun hwb => ?_) (fun hwb => ?_)) <;> (try rw [hwb]) <;> simp only [decide_eq_true_eq, decide_eq_false_iff_not, Bool.not_eq_true', Bool.not_eq_false', Bool.not_true, Bool.not_false] at hwb) | ((with_reducible refine gbK_intro (fun hwb => ?_) (fun hwb => ?_)) <;> (try rw [hwb]) <;> simp only [decide_eq_true_eq, decide_eq_false_iff_not, Bool.not_eq_true', Bool.not_eq_false', Bool.not_true, Bool.not_false] at hwb) | ((with_reducible refine qgb_intro (fun hwb => ?_) (fun hwb => ?_)) <;> (try rw [hwb]) <;> simp only [decide_eq_true_eq, decide_eq_false_iff_not, Bool.not_eq_true', Bool.not_eq_false', Bool.not_true, Bool.not_false] at hwb) | (with_reducible intro hl) | (with_reducible refine drawK_q (by kernel_rfl) (by kernel_rfl) ?_) )
  refine loopO [5, 13, 14, 15, 16, 17, 18, 19, 20, 21, 22, 23, 24, 25, 26, 27, 28, 29, 30, 31, 32, 33, 34, 35, 36, 37, 38, 39, 40, 41] (fun (st : List Nat × List Nat) a g => vs = st.1 ++ st.2 ∧ Bld (h.set it (.iter (encL vs) (encL st.1).length)) g id (34 :: qL st.1)) (fun st => st.2.length) ([], vs) (by exact ⟨rfl, hb2⟩) ?_
  rintro ⟨dn, rs⟩ a g hoff ⟨hvs, hb⟩
  simp only at hvs hb
  (have e2' := hoff 2 rfl; have e3' := hoff 3 rfl; have e12' := hoff 12 rfl; simp only [XL, XM, Option.isSome_some, Option.bind_some, Option.bind_none, Option.map_some, Option.map_none, Option.some.injEq, List.getElem?_cons_zero, List.getElem?_cons_succ, List.getElem?_toArray, List.toList_toArray, Nat.reduceEqDiff, if_true, if_false, ↓reduceIte, reduceCtorEq, Bool.false_eq_true, List.nil_append, List.append_nil, List.cons_append, Bool.or_self, Bool.or_true, Bool.or_false, Bool.true_or, Bool.false_or, Bool.and_true, Bool.true_and, Bool.not_true, Bool.not_false, Nat.reduceAdd, Nat.reduceMul, Nat.reduceSub, Nat.reduceLT, Nat.reduceLeDiff, Int.reduceToNat, List.all_cons, List.all_nil, List.map_cons, List.map_nil, List.set_cons_zero,  true_and, and_true, Int.natCast_nonneg, Int.le_refl, Nat.le_refl, Int.toNat_natCast, Nat.sub_zero,  List.drop_zero, List.drop_succ_cons, List.length_cons, List.length_nil,  List.set_cons_succ, and_self, decide_true, decide_false, Int.reduceLT, Int.reduceLE, Int.reduceEq, Int.reduceSub, Int.reduceAdd, Int.reduceMul, String.reduceEq, stK_eq, stV.eq_1, stR_some, stE_ag, stE_one, stE_whole] at e2' e3' e12'; have e2 := e2'; clear e2'; have e3 := e3'; clear e3'; have e12 := e12'; clear e12')
  simp -implicitDefEqProofs only [XL, XM, TL, Option.isSome_some, Option.bind_some, Option.bind_none, Option.map_some, Option.map_none, Option.some.injEq, List.getElem?_cons_zero, List.getElem?_cons_succ, List.getElem?_toArray, List.toList_toArray, Nat.reduceEqDiff, if_true, if_false, ↓reduceIte, reduceCtorEq, Bool.false_eq_true, List.nil_append, List.append_nil, List.cons_append, Bool.or_self, Bool.or_true, Bool.or_false, Bool.true_or, Bool.false_or, Bool.and_true, Bool.true_and, Bool.not_true, Bool.not_false, Nat.reduceAdd, Nat.reduceMul, Nat.reduceSub, Nat.reduceLT, Nat.reduceLeDiff, Int.reduceToNat, List.all_cons, List.all_nil, List.map_cons, List.map_nil, List.set_cons_zero,  true_and, and_true, Int.natCast_nonneg, Int.le_refl, Nat.le_refl, Int.toNat_natCast, Nat.sub_zero,  List.drop_zero, List.drop_succ_cons, List.length_cons, List.length_nil,  List.set_cons_succ, and_self, decide_true, decide_false, Int.reduceLT, Int.reduceLE, Int.reduceEq, Int.reduceSub, Int.reduceAdd, Int.reduceMul, String.reduceEq, stK_eq, stV.eq_1, stR_some, stE_ag, stE_one, stE_whole, e2, e3, e12]
  refine nextK_intro (hb.get (set_hit _ _ _)) (fun hp => ?_) (fun hp => ?_)
  · cases rs with
    | nil => simp at hvs; subst hvs; omega
    | cons v rs =>
      have hd : decV (encL vs) (encL dn).length = (v, (utf8V v).length) := by
        rw [decV_char _ _ hp]
        have hpv : isPoint (v : Int) = true := hv v (by rw [hvs]; simp)
        have := charF_dec (encL dn) (encL rs) v hpv
        rw [← encL_cons, ← encL_append, ← hvs] at this
        rw [this, if_neg (by have := utf8V_pos v; simp only; omega)]
      rw [hd]
      have hpv : isPoint (v : Int) = true := hv v (by rw [hvs]; simp)
      have hb3 := hb.set (set_hit h it _) (.iter (encL vs) ((encL dn).length + (utf8V v).length))
      rw [set_set] at hb3
      have hel : (encL dn).length + (utf8V v).length = (encL (dn ++ [v])).length := by rw [encL_append, encL_cons]; simp [encL]
      rw [hel] at hb3 ⊢
      have hil : (encL (dn ++ [v])).length ≤ (encL vs).length := by rw [hvs, encL_append, encL_append, encL_cons, encL_cons]; simp [encL]
      have hdl := encL_len dn
      have hql := qL_len dn
      have hpt := hpv
      simp only [isPoint, decide_eq_true_eq] at hpt
      generalize g.set it (.iter (encL vs) (encL (dn ++ [v])).length) = g' at *
      have fin : ∀ a' g'', Off [5, 13, 14, 15, 16, 17, 18, 19, 20, 21, 22, 23, 24, 25, 26, 27, 28, 29, 30, 31, 32, 33, 34, 35, 36, 37, 38, 39, 40, 41] a a' → Bld (h.set it (.iter (encL vs) (encL (dn ++ [v])).length)) g'' id (34 :: qL dn ++ qV v) → LO [5, 13, 14, 15, 16, 17, 18, 19, 20, 21, 22, 23, 24, 25, 26, 27, 28, 29, 30, 31, 32, 33, 34, 35, 36, 37, 38, 39, 40, 41] _ (fun (st : List Nat × List Nat) a g => vs = st.1 ++ st.2 ∧ Bld (h.set it (.iter (encL vs) (encL st.1).length)) g id (34 :: qL st.1)) (fun st => st.2.length) (dn, v :: rs) a' g'' := fun a' g'' ho hbb =>
        LO.mk (dn ++ [v], rs) (by simp) (Off.trans hoff ho rfl) ⟨by simp [hvs], by simpa [qL] using hbb⟩
      by_cases hA : v = 34 ∨ v = 92
      · have hqv : qV v = [92, UInt8.ofNat v] := by simp only [qV, if_pos hA]
        have henc : (Utf8.encode (v : Int)).data.toList = [UInt8.ofNat v] := by rcases hA with rfl | rfl <;> rfl
        have chk_ : True ∧ True := by simp only [and_self, e2, e3, e12, conv_int, convV.eq_1, henc]
        clear chk_
        repeat' (first | simp -implicitDefEqProofs only [XL, XM, TL, Option.isSome_some, Option.bind_some, Option.bind_none, Option.map_some, Option.map_none, Option.some.injEq, List.getElem?_cons_zero, List.getElem?_cons_succ, List.getElem?_toArray, List.toList_toArray, Nat.reduceEqDiff, if_true, if_false, ↓reduceIte, reduceCtorEq, Bool.false_eq_true, List.nil_append, List.append_nil, List.cons_append, Bool.or_self, Bool.or_true, Bool.or_false, Bool.true_or, Bool.false_or, Bool.and_true, Bool.true_and, Bool.not_true, Bool.not_false, Nat.reduceAdd, Nat.reduceMul, Nat.reduceSub, Nat.reduceLT, Nat.reduceLeDiff, Int.reduceToNat, List.all_cons, List.all_nil, List.map_cons, List.map_nil, List.set_cons_zero,  true_and, and_true, Int.natCast_nonneg, Int.le_refl, Nat.le_refl, Int.toNat_natCast, Nat.sub_zero,  List.drop_zero, List.drop_succ_cons, List.length_cons, List.length_nil,  List.set_cons_succ, and_self, decide_true, decide_false, Int.reduceLT, Int.reduceLE, Int.reduceEq, Int.reduceSub, Int.reduceAdd, Int.reduceMul, String.reduceEq, stK_eq, stV.eq_1, stR_some, stE_ag, stE_one, stE_whole, e2, e3, e12, conv_int, convV.eq_1, henc] | simp (disch := omega) only [ifp, ifn, wrap_i64, wrap_u8, wrap_i32, wrap_u64, wrap_u32, Int.tdiv_eq_ediv_of_nonneg, Int.tmod_eq_emod_of_nonneg] | ((with_reducible refine BrK_intro (fun hwb => ?_) (fun hwb => ?_)) <;> (try rw [hwb]) <;> simp only [decide_eq_true_eq, decide_eq_false_iff_not, Bool.not_eq_true', Bool.not_eq_false', Bool.not_true, Bool.not_false] at hwb) | ((with_reducible refine gbK_intro (fun hwb => ?_) (fun hwb => ?_)) <;> (try rw [hwb]) <;> simp only [decide_eq_true_eq, decide_eq_false_iff_not, Bool.not_eq_true', Bool.not_eq_false', Bool.not_true, Bool.not_false] at hwb) | ((with_reducible refine qgb_intro (fun hwb => ?_) (fun hwb => ?_)) <;> (try rw [hwb]) <;> simp only [decide_eq_true_eq, decide_eq_false_iff_not, Bool.not_eq_true', Bool.not_eq_false', Bool.not_true, Bool.not_false] at hwb) | (with_reducible intro hl) | (with_reducible refine drawK_q (by kernel_rfl) (by kernel_rfl) ?_) )
        all_goals first
          | (exfalso; omega)
          | skip
        all_goals
          refine call_h (writeString_spec G _ _ id (34 :: qL dn) [92, UInt8.ofNat v] (by simp) (by simp; omega) hb3) (fun g4 hb4 => ?_)
          have chk_ : True ∧ True := by simp only [and_self, e2, e3, e12]
          clear chk_
          repeat' (first | simp -implicitDefEqProofs only [XL, XM, TL, Option.isSome_some, Option.bind_some, Option.bind_none, Option.map_some, Option.map_none, Option.some.injEq, List.getElem?_cons_zero, List.getElem?_cons_succ, List.getElem?_toArray, List.toList_toArray, Nat.reduceEqDiff, if_true, if_false, ↓reduceIte, reduceCtorEq, Bool.false_eq_true, List.nil_append, List.append_nil, List.cons_append, Bool.or_self, Bool.or_true, Bool.or_false, Bool.true_or, Bool.false_or, Bool.and_true, Bool.true_and, Bool.not_true, Bool.not_false, Nat.reduceAdd, Nat.reduceMul, Nat.reduceSub, Nat.reduceLT, Nat.reduceLeDiff, Int.reduceToNat, List.all_cons, List.all_nil, List.map_cons, List.map_nil, List.set_cons_zero,  true_and, and_true, Int.natCast_nonneg, Int.le_refl, Nat.le_refl, Int.toNat_natCast, Nat.sub_zero,  List.drop_zero, List.drop_succ_cons, List.length_cons, List.length_nil,  List.set_cons_succ, and_self, decide_true, decide_false, Int.reduceLT, Int.reduceLE, Int.reduceEq, Int.reduceSub, Int.reduceAdd, Int.reduceMul, String.reduceEq, stK_eq, stV.eq_1, stR_some, stE_ag, stE_one, stE_whole, e2, e3, e12] | simp (disch := omega) only [ifp, ifn, wrap_i64, wrap_u8, wrap_i32, wrap_u64, wrap_u32, Int.tdiv_eq_ediv_of_nonneg, Int.tmod_eq_emod_of_nonneg] | ((with_reducible refine BrK_intro (fun hwb => ?_) (fun hwb => ?_)) <;> (try rw [hwb]) <;> simp only [decide_eq_true_eq, decide_eq_false_iff_not, Bool.not_eq_true', Bool.not_eq_false', Bool.not_true, Bool.not_false] at hwb) | ((with_reducible refine gbK_intro (fun hwb => ?_) (fun hwb => ?_)) <;> (try rw [hwb]) <;> simp only [decide_eq_true_eq, decide_eq_false_iff_not, Bool.not_eq_true', Bool.not_eq_false', Bool.not_true, Bool.not_false] at hwb) | ((with_reducible refine qgb_intro (fun hwb => ?_) (fun hwb => ?_)) <;> (try rw [hwb]) <;> simp only [decide_eq_true_eq, decide_eq_false_iff_not, Bool.not_eq_true', Bool.not_eq_false', Bool.not_true, Bool.not_false] at hwb) | (with_reducible intro hl) | (with_reducible refine drawK_q (by kernel_rfl) (by kernel_rfl) ?_) )
          exact fin _ _ (by repeat (first | with_reducible exact Off.refl _ _ | refine Off.upd ?_ rfl)) (by rw [hqv]; exact hb4)
      · by_cases hC : v < 32 ∨ v = 127
        · have hqv : qV v = [92, 117, 123] ++ hexD v ++ [125] := by simp only [qV, if_neg hA, if_pos hC]
          have hhx : (hexD v).length ≤ 2 := by unfold hexD; split <;> simp
          have chk_ : True ∧ True := by simp only [and_self, e2, e3, e12, conv_int, convV.eq_1]
          clear chk_
          repeat' (first | simp -implicitDefEqProofs only [XL, XM, TL, Option.isSome_some, Option.bind_some, Option.bind_none, Option.map_some, Option.map_none, Option.some.injEq, List.getElem?_cons_zero, List.getElem?_cons_succ, List.getElem?_toArray, List.toList_toArray, Nat.reduceEqDiff, if_true, if_false, ↓reduceIte, reduceCtorEq, Bool.false_eq_true, List.nil_append, List.append_nil, List.cons_append, Bool.or_self, Bool.or_true, Bool.or_false, Bool.true_or, Bool.false_or, Bool.and_true, Bool.true_and, Bool.not_true, Bool.not_false, Nat.reduceAdd, Nat.reduceMul, Nat.reduceSub, Nat.reduceLT, Nat.reduceLeDiff, Int.reduceToNat, List.all_cons, List.all_nil, List.map_cons, List.map_nil, List.set_cons_zero,  true_and, and_true, Int.natCast_nonneg, Int.le_refl, Nat.le_refl, Int.toNat_natCast, Nat.sub_zero,  List.drop_zero, List.drop_succ_cons, List.length_cons, List.length_nil,  List.set_cons_succ, and_self, decide_true, decide_false, Int.reduceLT, Int.reduceLE, Int.reduceEq, Int.reduceSub, Int.reduceAdd, Int.reduceMul, String.reduceEq, stK_eq, stV.eq_1, stR_some, stE_ag, stE_one, stE_whole, e2, e3, e12, conv_int, convV.eq_1] | simp (disch := omega) only [ifp, ifn, wrap_i64, wrap_u8, wrap_i32, wrap_u64, wrap_u32, Int.tdiv_eq_ediv_of_nonneg, Int.tmod_eq_emod_of_nonneg] | ((with_reducible refine BrK_intro (fun hwb => ?_) (fun hwb => ?_)) <;> (try rw [hwb]) <;> simp only [decide_eq_true_eq, decide_eq_false_iff_not, Bool.not_eq_true', Bool.not_eq_false', Bool.not_true, Bool.not_false] at hwb) | ((with_reducible refine gbK_intro (fun hwb => ?_) (fun hwb => ?_)) <;> (try rw [hwb]) <;> simp only [decide_eq_true_eq, decide_eq_false_iff_not, Bool.not_eq_true', Bool.not_eq_false', Bool.not_true, Bool.not_false] at hwb) | ((with_reducible refine qgb_intro (fun hwb => ?_) (fun hwb => ?_)) <;> (try rw [hwb]) <;> simp only [decide_eq_true_eq, decide_eq_false_iff_not, Bool.not_eq_true', Bool.not_eq_false', Bool.not_true, Bool.not_false] at hwb) | (with_reducible intro hl) | (with_reducible refine drawK_q (by kernel_rfl) (by kernel_rfl) ?_) | (with_reducible refine call_eq (formatInt16_spec G hB _ v (by omega)) ?_))
          all_goals first
            | (exfalso; omega)
            | skip
          all_goals
            refine call_h (writeString_spec G _ _ id (34 :: qL dn) (92 :: 117 :: 123 :: (hexD v ++ [125])) (by simp; omega) (by simp; omega) hb3) (fun g4 hb4 => ?_)
            have chk_ : True ∧ True := by simp only [and_self, e2, e3, e12]
            clear chk_
            repeat' (first | simp -implicitDefEqProofs only [XL, XM, TL, Option.isSome_some, Option.bind_some, Option.bind_none, Option.map_some, Option.map_none, Option.some.injEq, List.getElem?_cons_zero, List.getElem?_cons_succ, List.getElem?_toArray, List.toList_toArray, Nat.reduceEqDiff, if_true, if_false, ↓reduceIte, reduceCtorEq, Bool.false_eq_true, List.nil_append, List.append_nil, List.cons_append, Bool.or_self, Bool.or_true, Bool.or_false, Bool.true_or, Bool.false_or, Bool.and_true, Bool.true_and, Bool.not_true, Bool.not_false, Nat.reduceAdd, Nat.reduceMul, Nat.reduceSub, Nat.reduceLT, Nat.reduceLeDiff, Int.reduceToNat, List.all_cons, List.all_nil, List.map_cons, List.map_nil, List.set_cons_zero,  true_and, and_true, Int.natCast_nonneg, Int.le_refl, Nat.le_refl, Int.toNat_natCast, Nat.sub_zero,  List.drop_zero, List.drop_succ_cons, List.length_cons, List.length_nil,  List.set_cons_succ, and_self, decide_true, decide_false, Int.reduceLT, Int.reduceLE, Int.reduceEq, Int.reduceSub, Int.reduceAdd, Int.reduceMul, String.reduceEq, stK_eq, stV.eq_1, stR_some, stE_ag, stE_one, stE_whole, e2, e3, e12] | simp (disch := omega) only [ifp, ifn, wrap_i64, wrap_u8, wrap_i32, wrap_u64, wrap_u32, Int.tdiv_eq_ediv_of_nonneg, Int.tmod_eq_emod_of_nonneg] | ((with_reducible refine BrK_intro (fun hwb => ?_) (fun hwb => ?_)) <;> (try rw [hwb]) <;> simp only [decide_eq_true_eq, decide_eq_false_iff_not, Bool.not_eq_true', Bool.not_eq_false', Bool.not_true, Bool.not_false] at hwb) | ((with_reducible refine gbK_intro (fun hwb => ?_) (fun hwb => ?_)) <;> (try rw [hwb]) <;> simp only [decide_eq_true_eq, decide_eq_false_iff_not, Bool.not_eq_true', Bool.not_eq_false', Bool.not_true, Bool.not_false] at hwb) | ((with_reducible refine qgb_intro (fun hwb => ?_) (fun hwb => ?_)) <;> (try rw [hwb]) <;> simp only [decide_eq_true_eq, decide_eq_false_iff_not, Bool.not_eq_true', Bool.not_eq_false', Bool.not_true, Bool.not_false] at hwb) | (with_reducible intro hl) | (with_reducible refine drawK_q (by kernel_rfl) (by kernel_rfl) ?_) )
            exact fin _ _ (by repeat (first | with_reducible exact Off.refl _ _ | refine Off.upd ?_ rfl)) (by rw [hqv]; exact hb4)
        · have hqv : qV v = utf8V v := by simp only [qV, if_neg hA, if_neg hC]
          have chk_ : True ∧ True := by simp only [and_self, e2, e3, e12]
          clear chk_
          repeat' (first | simp -implicitDefEqProofs only [XL, XM, TL, Option.isSome_some, Option.bind_some, Option.bind_none, Option.map_some, Option.map_none, Option.some.injEq, List.getElem?_cons_zero, List.getElem?_cons_succ, List.getElem?_toArray, List.toList_toArray, Nat.reduceEqDiff, if_true, if_false, ↓reduceIte, reduceCtorEq, Bool.false_eq_true, List.nil_append, List.append_nil, List.cons_append, Bool.or_self, Bool.or_true, Bool.or_false, Bool.true_or, Bool.false_or, Bool.and_true, Bool.true_and, Bool.not_true, Bool.not_false, Nat.reduceAdd, Nat.reduceMul, Nat.reduceSub, Nat.reduceLT, Nat.reduceLeDiff, Int.reduceToNat, List.all_cons, List.all_nil, List.map_cons, List.map_nil, List.set_cons_zero,  true_and, and_true, Int.natCast_nonneg, Int.le_refl, Nat.le_refl, Int.toNat_natCast, Nat.sub_zero,  List.drop_zero, List.drop_succ_cons, List.length_cons, List.length_nil,  List.set_cons_succ, and_self, decide_true, decide_false, Int.reduceLT, Int.reduceLE, Int.reduceEq, Int.reduceSub, Int.reduceAdd, Int.reduceMul, String.reduceEq, stK_eq, stV.eq_1, stR_some, stE_ag, stE_one, stE_whole, e2, e3, e12] | simp (disch := omega) only [ifp, ifn, wrap_i64, wrap_u8, wrap_i32, wrap_u64, wrap_u32, Int.tdiv_eq_ediv_of_nonneg, Int.tmod_eq_emod_of_nonneg] | ((with_reducible refine BrK_intro (fun hwb => ?_) (fun hwb => ?_)) <;> (try rw [hwb]) <;> simp only [decide_eq_true_eq, decide_eq_false_iff_not, Bool.not_eq_true', Bool.not_eq_false', Bool.not_true, Bool.not_false] at hwb) | ((with_reducible refine gbK_intro (fun hwb => ?_) (fun hwb => ?_)) <;> (try rw [hwb]) <;> simp only [decide_eq_true_eq, decide_eq_false_iff_not, Bool.not_eq_true', Bool.not_eq_false', Bool.not_true, Bool.not_false] at hwb) | ((with_reducible refine qgb_intro (fun hwb => ?_) (fun hwb => ?_)) <;> (try rw [hwb]) <;> simp only [decide_eq_true_eq, decide_eq_false_iff_not, Bool.not_eq_true', Bool.not_eq_false', Bool.not_true, Bool.not_false] at hwb) | (with_reducible intro hl) | (with_reducible refine drawK_q (by kernel_rfl) (by kernel_rfl) ?_) )
          all_goals first
            | (exfalso; omega)
            | skip
          all_goals
            refine call_h (writeRune_spec G _ _ id (34 :: qL dn) v hpv (by simp; omega) hb3) (fun g4 hb4 => ?_)
            have chk_ : True ∧ True := by simp only [and_self, e2, e3, e12]
            clear chk_
            repeat' (first | simp -implicitDefEqProofs only [XL, XM, TL, Option.isSome_some, Option.bind_some, Option.bind_none, Option.map_some, Option.map_none, Option.some.injEq, List.getElem?_cons_zero, List.getElem?_cons_succ, List.getElem?_toArray, List.toList_toArray, Nat.reduceEqDiff, if_true, if_false, ↓reduceIte, reduceCtorEq, Bool.false_eq_true, List.nil_append, List.append_nil, List.cons_append, Bool.or_self, Bool.or_true, Bool.or_false, Bool.true_or, Bool.false_or, Bool.and_true, Bool.true_and, Bool.not_true, Bool.not_false, Nat.reduceAdd, Nat.reduceMul, Nat.reduceSub, Nat.reduceLT, Nat.reduceLeDiff, Int.reduceToNat, List.all_cons, List.all_nil, List.map_cons, List.map_nil, List.set_cons_zero,  true_and, and_true, Int.natCast_nonneg, Int.le_refl, Nat.le_refl, Int.toNat_natCast, Nat.sub_zero,  List.drop_zero, List.drop_succ_cons, List.length_cons, List.length_nil,  List.set_cons_succ, and_self, decide_true, decide_false, Int.reduceLT, Int.reduceLE, Int.reduceEq, Int.reduceSub, Int.reduceAdd, Int.reduceMul, String.reduceEq, stK_eq, stV.eq_1, stR_some, stE_ag, stE_one, stE_whole, e2, e3, e12] | simp (disch := omega) only [ifp, ifn, wrap_i64, wrap_u8, wrap_i32, wrap_u64, wrap_u32, Int.tdiv_eq_ediv_of_nonneg, Int.tmod_eq_emod_of_nonneg] | ((with_reducible refine BrK_intro (fun hwb => ?_) (fun hwb => ?_)) <;> (try rw [hwb]) <;> simp only [decide_eq_true_eq, decide_eq_false_iff_not, Bool.not_eq_true', Bool.not_eq_false', Bool.not_true, Bool.not_false] at hwb) | ((with_reducible refine gbK_intro (fun hwb => ?_) (fun hwb => ?_)) <;> (try rw [hwb]) <;> simp only [decide_eq_true_eq, decide_eq_false_iff_not, Bool.not_eq_true', Bool.not_eq_false', Bool.not_true, Bool.not_false] at hwb) | ((with_reducible refine qgb_intro (fun hwb => ?_) (fun hwb => ?_)) <;> (try rw [hwb]) <;> simp only [decide_eq_true_eq, decide_eq_false_iff_not, Bool.not_eq_true', Bool.not_eq_false', Bool.not_true, Bool.not_false] at hwb) | (with_reducible intro hl) | (with_reducible refine drawK_q (by kernel_rfl) (by kernel_rfl) ?_) )
            exact fin _ _ (by repeat (first | with_reducible exact Off.refl _ _ | refine Off.upd ?_ rfl)) (by rw [hqv]; exact hb4)
  · cases rs with
    | cons v rs =>
      exfalso
      rw [hvs, encL_append, encL_cons] at hp
      have := utf8V_pos v
      simp at hp; omega
    | nil =>
      simp at hvs; subst hvs
      simp -implicitDefEqProofs only [XL, XM, TL, Option.isSome_some, Option.bind_some, Option.bind_none, Option.map_some, Option.map_none, Option.some.injEq, List.getElem?_cons_zero, List.getElem?_cons_succ, List.getElem?_toArray, List.toList_toArray, Nat.reduceEqDiff, if_true, if_false, ↓reduceIte, reduceCtorEq, Bool.false_eq_true, List.nil_append, List.append_nil, List.cons_append, Bool.or_self, Bool.or_true, Bool.or_false, Bool.true_or, Bool.false_or, Bool.and_true, Bool.true_and, Bool.not_true, Bool.not_false, Nat.reduceAdd, Nat.reduceMul, Nat.reduceSub, Nat.reduceLT, Nat.reduceLeDiff, Int.reduceToNat, List.all_cons, List.all_nil, List.map_cons, List.map_nil, List.set_cons_zero,  true_and, and_true, Int.natCast_nonneg, Int.le_refl, Nat.le_refl, Int.toNat_natCast, Nat.sub_zero,  List.drop_zero, List.drop_succ_cons, List.length_cons, List.length_nil,  List.set_cons_succ, and_self, decide_true, decide_false, Int.reduceLT, Int.reduceLE, Int.reduceEq, Int.reduceSub, Int.reduceAdd, Int.reduceMul, String.reduceEq, stK_eq, stV.eq_1, stR_some, stE_ag, stE_one, stE_whole, e2, e3, e12]
      have hql := qL_len vs
      have hdl := encL_len vs
      refine call_h (writeByte_spec G _ _ id _ 34 (by simp; omega) hb) (fun g4 hb4 => ?_)
      simp -implicitDefEqProofs only [XL, XM, TL, Option.isSome_some, Option.bind_some, Option.bind_none, Option.map_some, Option.map_none, Option.some.injEq, List.getElem?_cons_zero, List.getElem?_cons_succ, List.getElem?_toArray, List.toList_toArray, Nat.reduceEqDiff, if_true, if_false, ↓reduceIte, reduceCtorEq, Bool.false_eq_true, List.nil_append, List.append_nil, List.cons_append, Bool.or_self, Bool.or_true, Bool.or_false, Bool.true_or, Bool.false_or, Bool.and_true, Bool.true_and, Bool.not_true, Bool.not_false, Nat.reduceAdd, Nat.reduceMul, Nat.reduceSub, Nat.reduceLT, Nat.reduceLeDiff, Int.reduceToNat, List.all_cons, List.all_nil, List.map_cons, List.map_nil, List.set_cons_zero,  true_and, and_true, Int.natCast_nonneg, Int.le_refl, Nat.le_refl, Int.toNat_natCast, Nat.sub_zero,  List.drop_zero, List.drop_succ_cons, List.length_cons, List.length_nil,  List.set_cons_succ, and_self, decide_true, decide_false, Int.reduceLT, Int.reduceLE, Int.reduceEq, Int.reduceSub, Int.reduceAdd, Int.reduceMul, String.reduceEq, stK_eq, stV.eq_1, stR_some, stE_ag, stE_one, stE_whole, e2, e3, e12]
      refine call_eq (bldString_spec G _ _ id _ (by simp) hb4) ?_
      simp -implicitDefEqProofs only [XL, XM, TL, Option.isSome_some, Option.bind_some, Option.bind_none, Option.map_some, Option.map_none, Option.some.injEq, List.getElem?_cons_zero, List.getElem?_cons_succ, List.getElem?_toArray, List.toList_toArray, Nat.reduceEqDiff, if_true, if_false, ↓reduceIte, reduceCtorEq, Bool.false_eq_true, List.nil_append, List.append_nil, List.cons_append, Bool.or_self, Bool.or_true, Bool.or_false, Bool.true_or, Bool.false_or, Bool.and_true, Bool.true_and, Bool.not_true, Bool.not_false, Nat.reduceAdd, Nat.reduceMul, Nat.reduceSub, Nat.reduceLT, Nat.reduceLeDiff, Int.reduceToNat, List.all_cons, List.all_nil, List.map_cons, List.map_nil, List.set_cons_zero,  true_and, and_true, Int.natCast_nonneg, Int.le_refl, Nat.le_refl, Int.toNat_natCast, Nat.sub_zero,  List.drop_zero, List.drop_succ_cons, List.length_cons, List.length_nil,  List.set_cons_succ, and_self, decide_true, decide_false, Int.reduceLT, Int.reduceLE, Int.reduceEq, Int.reduceSub, Int.reduceAdd, Int.reduceMul, String.reduceEq, stK_eq, stV.eq_1, stR_some, stE_ag, stE_one, stE_whole, e2, e3, e12]
      refine conv_strBytes (by simp -implicitDefEqProofs only [XL, XM, TL, Option.isSome_some, Option.bind_some, Option.bind_none, Option.map_some, Option.map_none, Option.some.injEq, List.getElem?_cons_zero, List.getElem?_cons_succ, List.getElem?_toArray, List.toList_toArray, Nat.reduceEqDiff, if_true, if_false, ↓reduceIte, reduceCtorEq, Bool.false_eq_true, List.nil_append, List.append_nil, List.cons_append, Bool.or_self, Bool.or_true, Bool.or_false, Bool.true_or, Bool.false_or, Bool.and_true, Bool.true_and, Bool.not_true, Bool.not_false, Nat.reduceAdd, Nat.reduceMul, Nat.reduceSub, Nat.reduceLT, Nat.reduceLeDiff, Int.reduceToNat, List.all_cons, List.all_nil, List.map_cons, List.map_nil, List.set_cons_zero,  true_and, and_true, Int.natCast_nonneg, Int.le_refl, Nat.le_refl, Int.toNat_natCast, Nat.sub_zero,  List.drop_zero, List.drop_succ_cons, List.length_cons, List.length_nil,  List.set_cons_succ, and_self, decide_true, decide_false, Int.reduceLT, Int.reduceLE, Int.reduceEq, Int.reduceSub, Int.reduceAdd, Int.reduceMul, String.reduceEq, stK_eq, stV.eq_1, stR_some, stE_ag, stE_one, stE_whole, e2, e3, e12]) (by simp -implicitDefEqProofs only [XL, XM, TL, Option.isSome_some, Option.bind_some, Option.bind_none, Option.map_some, Option.map_none, Option.some.injEq, List.getElem?_cons_zero, List.getElem?_cons_succ, List.getElem?_toArray, List.toList_toArray, Nat.reduceEqDiff, if_true, if_false, ↓reduceIte, reduceCtorEq, Bool.false_eq_true, List.nil_append, List.append_nil, List.cons_append, Bool.or_self, Bool.or_true, Bool.or_false, Bool.true_or, Bool.false_or, Bool.and_true, Bool.true_and, Bool.not_true, Bool.not_false, Nat.reduceAdd, Nat.reduceMul, Nat.reduceSub, Nat.reduceLT, Nat.reduceLeDiff, Int.reduceToNat, List.all_cons, List.all_nil, List.map_cons, List.map_nil, List.set_cons_zero,  true_and, and_true, Int.natCast_nonneg, Int.le_refl, Nat.le_refl, Int.toNat_natCast, Nat.sub_zero,  List.drop_zero, List.drop_succ_cons, List.length_cons, List.length_nil,  List.set_cons_succ, and_self, decide_true, decide_false, Int.reduceLT, Int.reduceLE, Int.reduceEq, Int.reduceSub, Int.reduceAdd, Int.reduceMul, String.reduceEq, stK_eq, stV.eq_1, stR_some, stE_ag, stE_one, stE_whole, e2, e3, e12]; rfl) (by simp -implicitDefEqProofs only [XL, XM, TL, Option.isSome_some, Option.bind_some, Option.bind_none, Option.map_some, Option.map_none, Option.some.injEq, List.getElem?_cons_zero, List.getElem?_cons_succ, List.getElem?_toArray, List.toList_toArray, Nat.reduceEqDiff, if_true, if_false, ↓reduceIte, reduceCtorEq, Bool.false_eq_true, List.nil_append, List.append_nil, List.cons_append, Bool.or_self, Bool.or_true, Bool.or_false, Bool.true_or, Bool.false_or, Bool.and_true, Bool.true_and, Bool.not_true, Bool.not_false, Nat.reduceAdd, Nat.reduceMul, Nat.reduceSub, Nat.reduceLT, Nat.reduceLeDiff, Int.reduceToNat, List.all_cons, List.all_nil, List.map_cons, List.map_nil, List.set_cons_zero,  true_and, and_true, Int.natCast_nonneg, Int.le_refl, Nat.le_refl, Int.toNat_natCast, Nat.sub_zero,  List.drop_zero, List.drop_succ_cons, List.length_cons, List.length_nil,  List.set_cons_succ, and_self, decide_true, decide_false, Int.reduceLT, Int.reduceLE, Int.reduceEq, Int.reduceSub, Int.reduceAdd, Int.reduceMul, String.reduceEq, stK_eq, stV.eq_1, stR_some, stE_ag, stE_one, stE_whole, e2, e3, e12]) (by simp -implicitDefEqProofs only [XL, XM, TL, Option.isSome_some, Option.bind_some, Option.bind_none, Option.map_some, Option.map_none, Option.some.injEq, List.getElem?_cons_zero, List.getElem?_cons_succ, List.getElem?_toArray, List.toList_toArray, Nat.reduceEqDiff, if_true, if_false, ↓reduceIte, reduceCtorEq, Bool.false_eq_true, List.nil_append, List.append_nil, List.cons_append, Bool.or_self, Bool.or_true, Bool.or_false, Bool.true_or, Bool.false_or, Bool.and_true, Bool.true_and, Bool.not_true, Bool.not_false, Nat.reduceAdd, Nat.reduceMul, Nat.reduceSub, Nat.reduceLT, Nat.reduceLeDiff, Int.reduceToNat, List.all_cons, List.all_nil, List.map_cons, List.map_nil, List.set_cons_zero,  true_and, and_true, Int.natCast_nonneg, Int.le_refl, Nat.le_refl, Int.toNat_natCast, Nat.sub_zero,  List.drop_zero, List.drop_succ_cons, List.length_cons, List.length_nil,  List.set_cons_succ, and_self, decide_true, decide_false, Int.reduceLT, Int.reduceLE, Int.reduceEq, Int.reduceSub, Int.reduceAdd, Int.reduceMul, String.reduceEq, stK_eq, stV.eq_1, stR_some, stE_ag, stE_one, stE_whole, e2, e3, e12]) (fun id3 hid3 => ?_)
      simp -implicitDefEqProofs only [XL, XM, TL, Option.isSome_some, Option.bind_some, Option.bind_none, Option.map_some, Option.map_none, Option.some.injEq, List.getElem?_cons_zero, List.getElem?_cons_succ, List.getElem?_toArray, List.toList_toArray, Nat.reduceEqDiff, if_true, if_false, ↓reduceIte, reduceCtorEq, Bool.false_eq_true, List.nil_append, List.append_nil, List.cons_append, Bool.or_self, Bool.or_true, Bool.or_false, Bool.true_or, Bool.false_or, Bool.and_true, Bool.true_and, Bool.not_true, Bool.not_false, Nat.reduceAdd, Nat.reduceMul, Nat.reduceSub, Nat.reduceLT, Nat.reduceLeDiff, Int.reduceToNat, List.all_cons, List.all_nil, List.map_cons, List.map_nil, List.set_cons_zero,  true_and, and_true, Int.natCast_nonneg, Int.le_refl, Nat.le_refl, Int.toNat_natCast, Nat.sub_zero,  List.drop_zero, List.drop_succ_cons, List.length_cons, List.length_nil,  List.set_cons_succ, and_self, decide_true, decide_false, Int.reduceLT, Int.reduceLE, Int.reduceEq, Int.reduceSub, Int.reduceAdd, Int.reduceMul, String.reduceEq, stK_eq, stV.eq_1, stR_some, stE_ag, stE_one, stE_whole, e2, e3, e12]
      refine RetK_prow (by simp only [set_eq, if_true]; rfl) (by simp) (Sub.of_set (Sub.of_set (.refl _) hith) (fs hid3)) (fs hid3) ?_
      rw [List.drop_zero, List.take_of_length_le (by simp)]; rfl

theorem quote_bad_spec (G : Gl) (hT : Tabs G) (h : H) (b : List UInt8) (hb : (checkF b 0).1 ≠ 0) (hlen : b.length ≤ 100000000) :
    XCalls Tryz.prog G 7 [.im 1 (bytesV b)] h (fun o h' => o = .ret (.im 1 (bytesV [])) ∧ h' = h) := by
  have hwf := wellFormed_spec G hT h b (by omega)
  rw [decide_eq_false hb] at hwf
  refine enterK (rs := [.tmp 2]) Tryz.func7 (by kernel_rfl) rfl rfl (by kernel_rfl) rfl (Nat.le_of_ble_eq_true rfl) (fun hbd => ?_)
  repeat' (first | simp -implicitDefEqProofs only [XL, XM, TL, Option.isSome_some, Option.bind_some, Option.bind_none, Option.map_some, Option.map_none, Option.some.injEq, List.getElem?_cons_zero, List.getElem?_cons_succ, List.getElem?_toArray, List.toList_toArray, Nat.reduceEqDiff, if_true, if_false, ↓reduceIte, reduceCtorEq, Bool.false_eq_true, List.nil_append, List.append_nil, List.cons_append, Bool.or_self, Bool.or_true, Bool.or_false, Bool.true_or, Bool.false_or, Bool.and_true, Bool.true_and, Bool.not_true, Bool.not_false, Nat.reduceAdd, Nat.reduceMul, Nat.reduceSub, Nat.reduceLT, Nat.reduceLeDiff, Int.reduceToNat, List.all_cons, List.all_nil, List.map_cons, List.map_nil, List.set_cons_zero,  true_and, and_true, Int.natCast_nonneg, Int.le_refl, Nat.le_refl, Int.toNat_natCast, Nat.sub_zero,  List.drop_zero, List.drop_succ_cons, List.length_cons, List.length_nil,  List.set_cons_succ, and_self, decide_true, decide_false, Int.reduceLT, Int.reduceLE, Int.reduceEq, Int.reduceSub, Int.reduceAdd, Int.reduceMul, String.reduceEq, stK_eq, stV.eq_1, stR_some, stE_ag, stE_one, stE_whole] | simp (disch := omega) only [ifp, ifn, wrap_i64, wrap_u8, wrap_i32, wrap_u64, wrap_u32, Int.tdiv_eq_ediv_of_nonneg, Int.tmod_eq_emod_of_nonneg] | ((with_reducible refine BrK_intro (fun hwb => ?_) (fun hwb => ?_)) <;> (try rw [hwb]) <;> simp only [decide_eq_true_eq, decide_eq_false_iff_not, Bool.not_eq_true', Bool.not_eq_false', Bool.not_true, Bool.not_false] at hwb) | ((with_reducible refine gbK_intro (fun hwb => ?_) (fun hwb => ?_)) <;> (try rw [hwb]) <;> simp only [decide_eq_true_eq, decide_eq_false_iff_not, Bool.not_eq_true', Bool.not_eq_false', Bool.not_true, Bool.not_false] at hwb) | ((with_reducible refine qgb_intro (fun hwb => ?_) (fun hwb => ?_)) <;> (try rw [hwb]) <;> simp only [decide_eq_true_eq, decide_eq_false_iff_not, Bool.not_eq_true', Bool.not_eq_false', Bool.not_true, Bool.not_false] at hwb) | (with_reducible intro hl) | (with_reducible refine drawK_q (by kernel_rfl) (by kernel_rfl) ?_) | (with_reducible refine call_eq (hwf) ?_))
  exact RetK_freeze (S := []) (.nil 1) (.refl _) (by simp) ⟨rfl, rfl⟩

end Go.X
end
