/- Walks: ParseUint at base 16, an escape. -/
import Derived.Test.YtlhigokiophckaaGreatDoorWalkB

section
open Go Go.Proofs
namespace Go.X
set_option linter.unusedSimpArgs false
set_option maxRecDepth 10000

theorem lower_spec (G : Gl) (h : H) (c : Nat) (hc : c < 256) :
    XCalls Tryz.prog G 86 [.i .u8 c] h (fun o h' => o = .ret (.i .u8 (c ||| 32 : Nat)) ∧ h' = h) := by
  refine enterK (rs := [.tmp 2]) Tryz.func86 (by kernel_rfl) rfl rfl (by kernel_rfl) rfl (Nat.le_of_ble_eq_true rfl) (fun hbd => ?_)
  simp -implicitDefEqProofs only [XL, XM, TL, Option.isSome_some, Option.bind_some, Option.bind_none, Option.map_some, Option.map_none, Option.some.injEq, List.getElem?_cons_zero, List.getElem?_cons_succ, List.getElem?_toArray, List.toList_toArray, Nat.reduceEqDiff, if_true, if_false, ↓reduceIte, reduceCtorEq, Bool.false_eq_true, List.nil_append, List.append_nil, List.cons_append, Bool.or_self, Bool.or_true, Bool.or_false, Bool.true_or, Bool.false_or, Bool.and_true, Bool.true_and, Bool.not_true, Bool.not_false, Nat.reduceAdd, Nat.reduceMul, Nat.reduceSub, Nat.reduceLT, Nat.reduceLeDiff, Int.reduceToNat, List.all_cons, List.all_nil, List.map_cons, List.map_nil, List.set_cons_zero,  true_and, and_true, Int.natCast_nonneg, Int.le_refl, Nat.le_refl, Int.toNat_natCast, Nat.sub_zero,  List.drop_zero, List.drop_succ_cons, List.length_cons, List.length_nil,  List.set_cons_succ, and_self, decide_true, decide_false, Int.reduceLT, Int.reduceLE, Int.reduceEq, Int.reduceSub, Int.reduceAdd, Int.reduceMul, String.reduceEq, stK_eq, stV.eq_1, stR_some, stE_ag, stE_one, stE_whole]
  refine RetK_pure (.refl _) ?_
  rw [show (32 : Int) = ((32 : Nat) : Int) by rfl, u8_or c 32 hc (by omega)]

def hexval (c : Nat) : Option Nat := if 48 ≤ c ∧ c ≤ 57 then some (c - 48) else if 97 ≤ c ∧ c ≤ 102 then some (c - 87) else if 65 ≤ c ∧ c ≤ 70 then some (c - 55) else none
def hexL : List UInt8 → Nat → Option Nat
  | [], v => some v
  | c :: cs, v => (hexval c.toNat).bind fun d => hexL cs (v * 16 + d)
theorem hexL_le : ∀ (l : List UInt8) (n v : Nat), hexL l n = some v → n ≤ v
  | [], n, v, h => by simp [hexL] at h; omega
  | c :: cs, n, v, h => by
    simp only [hexL, Option.bind_eq_some_iff] at h
    obtain ⟨d, _, h2⟩ := h
    have := hexL_le cs _ _ h2
    omega
theorem low_up : ∀ c < 256, (97 ≤ c → c ≤ 102 → c ||| 32 = c) ∧ (65 ≤ c → c ≤ 70 → c ||| 32 = c + 32) := by decide +kernel
theorem hexval_low {c d : Nat} (h : hexval c = some d) (hc : c < 256) : (48 ≤ c ∧ c ≤ 57 ∧ d = c - 48) ∨ (¬ (48 ≤ c ∧ c ≤ 57) ∧ 97 ≤ (c ||| 32) ∧ (c ||| 32) ≤ 102 ∧ d = (c ||| 32) - 87 ∧ c ≠ 95) := by
  have := low_up c hc
  unfold hexval at h
  split at h
  · simp at h; omega
  · split at h
    · simp at h; have := this.1 (by omega) (by omega); omega
    · split at h
      · simp at h; have := this.2 (by omega) (by omega); omega
      · cases h

theorem puint_spec (G : Gl) (h : H) (s : List UInt8) (v : Nat) (hne : s ≠ []) (hv : hexL s 0 = some v) (hvb : v < 1000000000) (hlen : s.length ≤ 1000) :
    XCalls Tryz.prog G 76 [.s s, .i .i64 16, .i .i64 32] h (fun o h' => o = .ret (.tu [.i .u64 v, .nifc]) ∧ h' = h) := by
  have esh : IntKind.u64.wrap (IntKind.u64.wrap (1 * 2 ^ min 32 IntKind.u64.bits) - 1) = 4294967295 := by decide
  have e16 : IntKind.u64.wrap 16 = 16 := by decide
  have e16b : IntKind.u8.wrap 16 = 16 := by decide
  refine enterK (rs := [.tmp 6, .tmp 7]) Tryz.func76 (by kernel_rfl) rfl rfl (by kernel_rfl) rfl (Nat.le_of_ble_eq_true rfl) (fun hbd => ?_)
  have chk_ : True ∧ True := by simp only [and_self, conv_int, convV.eq_1, hne, esh]
  clear chk_
  repeat (first | simp -implicitDefEqProofs only [XL, XM, TL, Option.isSome_some, Option.bind_some, Option.bind_none, Option.map_some, Option.map_none, Option.some.injEq, List.getElem?_cons_zero, List.getElem?_cons_succ, List.getElem?_toArray, List.toList_toArray, Nat.reduceEqDiff, if_true, if_false, ↓reduceIte, reduceCtorEq, Bool.false_eq_true, List.nil_append, List.append_nil, List.cons_append, Bool.or_self, Bool.or_true, Bool.or_false, Bool.true_or, Bool.false_or, Bool.and_true, Bool.true_and, Bool.not_true, Bool.not_false, Nat.reduceAdd, Nat.reduceMul, Nat.reduceSub, Nat.reduceLT, Nat.reduceLeDiff, Int.reduceToNat, List.all_cons, List.all_nil, List.map_cons, List.map_nil, List.set_cons_zero,  true_and, and_true, Int.natCast_nonneg, Int.le_refl, Nat.le_refl, Int.toNat_natCast, Nat.sub_zero,  List.drop_zero, List.drop_succ_cons, List.length_cons, List.length_nil,  List.set_cons_succ, and_self, decide_true, decide_false, Int.reduceLT, Int.reduceLE, Int.reduceEq, Int.reduceSub, Int.reduceAdd, Int.reduceMul, String.reduceEq, stK_eq, stV.eq_1, stR_some, stE_ag, stE_one, stE_whole, conv_int, convV.eq_1, hne, esh] | simp (disch := omega) only [ifp, ifn, wrap_i64, wrap_u8, wrap_i32, wrap_u64, wrap_u32, Int.tdiv_eq_ediv_of_nonneg, Int.tmod_eq_emod_of_nonneg])
  refine conv_strBytes (by simp -implicitDefEqProofs only [XL, XM, TL, Option.isSome_some, Option.bind_some, Option.bind_none, Option.map_some, Option.map_none, Option.some.injEq, List.getElem?_cons_zero, List.getElem?_cons_succ, List.getElem?_toArray, List.toList_toArray, Nat.reduceEqDiff, if_true, if_false, ↓reduceIte, reduceCtorEq, Bool.false_eq_true, List.nil_append, List.append_nil, List.cons_append, Bool.or_self, Bool.or_true, Bool.or_false, Bool.true_or, Bool.false_or, Bool.and_true, Bool.true_and, Bool.not_true, Bool.not_false, Nat.reduceAdd, Nat.reduceMul, Nat.reduceSub, Nat.reduceLT, Nat.reduceLeDiff, Int.reduceToNat, List.all_cons, List.all_nil, List.map_cons, List.map_nil, List.set_cons_zero,  true_and, and_true, Int.natCast_nonneg, Int.le_refl, Nat.le_refl, Int.toNat_natCast, Nat.sub_zero,  List.drop_zero, List.drop_succ_cons, List.length_cons, List.length_nil,  List.set_cons_succ, and_self, decide_true, decide_false, Int.reduceLT, Int.reduceLE, Int.reduceEq, Int.reduceSub, Int.reduceAdd, Int.reduceMul, String.reduceEq, stK_eq, stV.eq_1, stR_some, stE_ag, stE_one, stE_whole]) (by simp -implicitDefEqProofs only [XL, XM, TL, Option.isSome_some, Option.bind_some, Option.bind_none, Option.map_some, Option.map_none, Option.some.injEq, List.getElem?_cons_zero, List.getElem?_cons_succ, List.getElem?_toArray, List.toList_toArray, Nat.reduceEqDiff, if_true, if_false, ↓reduceIte, reduceCtorEq, Bool.false_eq_true, List.nil_append, List.append_nil, List.cons_append, Bool.or_self, Bool.or_true, Bool.or_false, Bool.true_or, Bool.false_or, Bool.and_true, Bool.true_and, Bool.not_true, Bool.not_false, Nat.reduceAdd, Nat.reduceMul, Nat.reduceSub, Nat.reduceLT, Nat.reduceLeDiff, Int.reduceToNat, List.all_cons, List.all_nil, List.map_cons, List.map_nil, List.set_cons_zero,  true_and, and_true, Int.natCast_nonneg, Int.le_refl, Nat.le_refl, Int.toNat_natCast, Nat.sub_zero,  List.drop_zero, List.drop_succ_cons, List.length_cons, List.length_nil,  List.set_cons_succ, and_self, decide_true, decide_false, Int.reduceLT, Int.reduceLE, Int.reduceEq, Int.reduceSub, Int.reduceAdd, Int.reduceMul, String.reduceEq, stK_eq, stV.eq_1, stR_some, stE_ag, stE_one, stE_whole]; rfl) (by simp -implicitDefEqProofs only [XL, XM, TL, Option.isSome_some, Option.bind_some, Option.bind_none, Option.map_some, Option.map_none, Option.some.injEq, List.getElem?_cons_zero, List.getElem?_cons_succ, List.getElem?_toArray, List.toList_toArray, Nat.reduceEqDiff, if_true, if_false, ↓reduceIte, reduceCtorEq, Bool.false_eq_true, List.nil_append, List.append_nil, List.cons_append, Bool.or_self, Bool.or_true, Bool.or_false, Bool.true_or, Bool.false_or, Bool.and_true, Bool.true_and, Bool.not_true, Bool.not_false, Nat.reduceAdd, Nat.reduceMul, Nat.reduceSub, Nat.reduceLT, Nat.reduceLeDiff, Int.reduceToNat, List.all_cons, List.all_nil, List.map_cons, List.map_nil, List.set_cons_zero,  true_and, and_true, Int.natCast_nonneg, Int.le_refl, Nat.le_refl, Int.toNat_natCast, Nat.sub_zero,  List.drop_zero, List.drop_succ_cons, List.length_cons, List.length_nil,  List.set_cons_succ, and_self, decide_true, decide_false, Int.reduceLT, Int.reduceLE, Int.reduceEq, Int.reduceSub, Int.reduceAdd, Int.reduceMul, String.reduceEq, stK_eq, stV.eq_1, stR_some, stE_ag, stE_one, stE_whole]) (by simp -implicitDefEqProofs only [XL, XM, TL, Option.isSome_some, Option.bind_some, Option.bind_none, Option.map_some, Option.map_none, Option.some.injEq, List.getElem?_cons_zero, List.getElem?_cons_succ, List.getElem?_toArray, List.toList_toArray, Nat.reduceEqDiff, if_true, if_false, ↓reduceIte, reduceCtorEq, Bool.false_eq_true, List.nil_append, List.append_nil, List.cons_append, Bool.or_self, Bool.or_true, Bool.or_false, Bool.true_or, Bool.false_or, Bool.and_true, Bool.true_and, Bool.not_true, Bool.not_false, Nat.reduceAdd, Nat.reduceMul, Nat.reduceSub, Nat.reduceLT, Nat.reduceLeDiff, Int.reduceToNat, List.all_cons, List.all_nil, List.map_cons, List.map_nil, List.set_cons_zero,  true_and, and_true, Int.natCast_nonneg, Int.le_refl, Nat.le_refl, Int.toNat_natCast, Nat.sub_zero,  List.drop_zero, List.drop_succ_cons, List.length_cons, List.length_nil,  List.set_cons_succ, and_self, decide_true, decide_false, Int.reduceLT, Int.reduceLE, Int.reduceEq, Int.reduceSub, Int.reduceAdd, Int.reduceMul, String.reduceEq, stK_eq, stV.eq_1, stR_some, stE_ag, stE_one, stE_whole]) (fun id hid => ?_)
  repeat' (first | simp -implicitDefEqProofs only [XL, XM, TL, Option.isSome_some, Option.bind_some, Option.bind_none, Option.map_some, Option.map_none, Option.some.injEq, List.getElem?_cons_zero, List.getElem?_cons_succ, List.getElem?_toArray, List.toList_toArray, Nat.reduceEqDiff, if_true, if_false, ↓reduceIte, reduceCtorEq, Bool.false_eq_true, List.nil_append, List.append_nil, List.cons_append, Bool.or_self, Bool.or_true, Bool.or_false, Bool.true_or, Bool.false_or, Bool.and_true, Bool.true_and, Bool.not_true, Bool.not_false, Nat.reduceAdd, Nat.reduceMul, Nat.reduceSub, Nat.reduceLT, Nat.reduceLeDiff, Int.reduceToNat, List.all_cons, List.all_nil, List.map_cons, List.map_nil, List.set_cons_zero,  true_and, and_true, Int.natCast_nonneg, Int.le_refl, Nat.le_refl, Int.toNat_natCast, Nat.sub_zero,  List.drop_zero, List.drop_succ_cons, List.length_cons, List.length_nil,  List.set_cons_succ, and_self, decide_true, decide_false, Int.reduceLT, Int.reduceLE, Int.reduceEq, Int.reduceSub, Int.reduceAdd, Int.reduceMul, String.reduceEq, stK_eq, stV.eq_1, stR_some, stE_ag, stE_one, stE_whole] | simp (disch := omega) only [ifp, ifn, wrap_i64, wrap_u8, wrap_i32, wrap_u64, wrap_u32, Int.tdiv_eq_ediv_of_nonneg, Int.tmod_eq_emod_of_nonneg] | ((with_reducible refine BrK_intro (fun hwb => ?_) (fun hwb => ?_)) <;> (try rw [hwb]) <;> simp only [decide_eq_true_eq, decide_eq_false_iff_not, Bool.not_eq_true', Bool.not_eq_false', Bool.not_true, Bool.not_false] at hwb) | ((with_reducible refine gbK_intro (fun hwb => ?_) (fun hwb => ?_)) <;> (try rw [hwb]) <;> simp only [decide_eq_true_eq, decide_eq_false_iff_not, Bool.not_eq_true', Bool.not_eq_false', Bool.not_true, Bool.not_false] at hwb) | ((with_reducible refine qgb_intro (fun hwb => ?_) (fun hwb => ?_)) <;> (try rw [hwb]) <;> simp only [decide_eq_true_eq, decide_eq_false_iff_not, Bool.not_eq_true', Bool.not_eq_false', Bool.not_true, Bool.not_false] at hwb) | (with_reducible intro hl) | (with_reducible refine drawK_q (by kernel_rfl) (by kernel_rfl) ?_) )
  refine loopO [6, 7, 12, 13, 15, 16, 17, 101, 102, 103, 104, 105, 106, 107, 108, 109, 110, 111, 112, 113, 114, 115, 116, 117, 118, 119, 120, 121, 122, 123, 124, 125, 126, 127, 128, 129, 130, 131, 132, 133, 134, 135, 136, 137, 138, 139, 140, 141, 142, 143, 144, 145, 146, 147, 148, 149, 150, 151, 152, 153, 154, 155, 156, 157, 158, 159, 160, 161, 162, 163] (fun (st : Nat × Nat) a g => g = h.set id (.row 1 (bytesV s)) ∧ a 101 = some (.i .i64 st.1) ∧ a 12 = some (.b false) ∧ a 13 = some (.i .u64 st.2) ∧ st.1 ≤ s.length ∧ hexL (s.drop st.1) st.2 = some v) (fun st => s.length - st.1) (0, 0) (by exact ⟨rfl, rfl, rfl, rfl, Nat.zero_le _, by simpa using hv⟩) ?_
  rintro ⟨k, n⟩ a g hoff ⟨rfl, h101, h12, h13, hk, hh⟩
  simp only at h101 h13 hk hh
  (have e1' := hoff 1 rfl; have e8' := hoff 8 rfl; have e9' := hoff 9 rfl; have e10' := hoff 10 rfl; have e11' := hoff 11 rfl; have e99' := hoff 99 rfl; have e100' := hoff 100 rfl; simp only [XL, XM, Option.isSome_some, Option.bind_some, Option.bind_none, Option.map_some, Option.map_none, Option.some.injEq, List.getElem?_cons_zero, List.getElem?_cons_succ, List.getElem?_toArray, List.toList_toArray, Nat.reduceEqDiff, if_true, if_false, ↓reduceIte, reduceCtorEq, Bool.false_eq_true, List.nil_append, List.append_nil, List.cons_append, Bool.or_self, Bool.or_true, Bool.or_false, Bool.true_or, Bool.false_or, Bool.and_true, Bool.true_and, Bool.not_true, Bool.not_false, Nat.reduceAdd, Nat.reduceMul, Nat.reduceSub, Nat.reduceLT, Nat.reduceLeDiff, Int.reduceToNat, List.all_cons, List.all_nil, List.map_cons, List.map_nil, List.set_cons_zero,  true_and, and_true, Int.natCast_nonneg, Int.le_refl, Nat.le_refl, Int.toNat_natCast, Nat.sub_zero,  List.drop_zero, List.drop_succ_cons, List.length_cons, List.length_nil,  List.set_cons_succ, and_self, decide_true, decide_false, Int.reduceLT, Int.reduceLE, Int.reduceEq, Int.reduceSub, Int.reduceAdd, Int.reduceMul, String.reduceEq, stK_eq, stV.eq_1, stR_some, stE_ag, stE_one, stE_whole] at e1' e8' e9' e10' e11' e99' e100'; have e1 := e1'; clear e1'; have e8 := e8'; clear e8'; have e9 := e9'; clear e9'; have e10 := e10'; clear e10'; have e11 := e11'; clear e11'; have e99 := e99'; clear e99'; have e100 := e100'; clear e100')
  skip
  simp -implicitDefEqProofs only [XL, XM, TL, Option.isSome_some, Option.bind_some, Option.bind_none, Option.map_some, Option.map_none, Option.some.injEq, List.getElem?_cons_zero, List.getElem?_cons_succ, List.getElem?_toArray, List.toList_toArray, Nat.reduceEqDiff, if_true, if_false, ↓reduceIte, reduceCtorEq, Bool.false_eq_true, List.nil_append, List.append_nil, List.cons_append, Bool.or_self, Bool.or_true, Bool.or_false, Bool.true_or, Bool.false_or, Bool.and_true, Bool.true_and, Bool.not_true, Bool.not_false, Nat.reduceAdd, Nat.reduceMul, Nat.reduceSub, Nat.reduceLT, Nat.reduceLeDiff, Int.reduceToNat, List.all_cons, List.all_nil, List.map_cons, List.map_nil, List.set_cons_zero,  true_and, and_true, Int.natCast_nonneg, Int.le_refl, Nat.le_refl, Int.toNat_natCast, Nat.sub_zero,  List.drop_zero, List.drop_succ_cons, List.length_cons, List.length_nil,  List.set_cons_succ, and_self, decide_true, decide_false, Int.reduceLT, Int.reduceLE, Int.reduceEq, Int.reduceSub, Int.reduceAdd, Int.reduceMul, String.reduceEq, stK_eq, stV.eq_1, stR_some, stE_ag, stE_one, stE_whole, e1, e8, e9, e10, e11, e99, e100, h101, h12, h13]
  refine BrK_intro (fun hb => ?_) (fun hb => ?_)
  · simp at hb
    have hg : s[k]? = some (s[k]) := List.getElem?_eq_getElem hb
    have hc : s[k].toNat < 256 := UInt8.toNat_lt _
    have hdr : s.drop k = s[k] :: s.drop (k + 1) := List.drop_eq_getElem_cons hb
    rw [hdr] at hh
    simp only [hexL, Option.bind_eq_some_iff] at hh
    obtain ⟨d, hd, hh⟩ := hh
    have hle := hexL_le _ _ _ hh
    have h2 : (0 : Int) ≤ (k : Int) ∧ (k : Int) < (s.length : Int) := by omega
    have hcase := hexval_low hd hc
    skip
    have hor : ((s[k].toNat ||| 32 : Nat)) < 256 := by have := Nat.or_lt_two_pow (n := 8) hc (show 32 < 2 ^ 8 by omega); omega
    generalize s[k] = x at *
    generalize hlow : x.toNat ||| 32 = lw at *
    have chk_ : True ∧ True := by simp only [and_self, e1, e8, e9, e10, e11, e99, e100, h101, h12, h13, h2, bytesV_get, hg, bV_cells, Nat.zero_add, conv_int, convV.eq_1, hlow, e16, e16b]
    clear chk_
    repeat' (first | simp -implicitDefEqProofs only [XL, XM, TL, Option.isSome_some, Option.bind_some, Option.bind_none, Option.map_some, Option.map_none, Option.some.injEq, List.getElem?_cons_zero, List.getElem?_cons_succ, List.getElem?_toArray, List.toList_toArray, Nat.reduceEqDiff, if_true, if_false, ↓reduceIte, reduceCtorEq, Bool.false_eq_true, List.nil_append, List.append_nil, List.cons_append, Bool.or_self, Bool.or_true, Bool.or_false, Bool.true_or, Bool.false_or, Bool.and_true, Bool.true_and, Bool.not_true, Bool.not_false, Nat.reduceAdd, Nat.reduceMul, Nat.reduceSub, Nat.reduceLT, Nat.reduceLeDiff, Int.reduceToNat, List.all_cons, List.all_nil, List.map_cons, List.map_nil, List.set_cons_zero,  true_and, and_true, Int.natCast_nonneg, Int.le_refl, Nat.le_refl, Int.toNat_natCast, Nat.sub_zero,  List.drop_zero, List.drop_succ_cons, List.length_cons, List.length_nil,  List.set_cons_succ, and_self, decide_true, decide_false, Int.reduceLT, Int.reduceLE, Int.reduceEq, Int.reduceSub, Int.reduceAdd, Int.reduceMul, String.reduceEq, stK_eq, stV.eq_1, stR_some, stE_ag, stE_one, stE_whole, e1, e8, e9, e10, e11, e99, e100, h101, h12, h13, h2, bytesV_get, hg, bV_cells, Nat.zero_add, conv_int, convV.eq_1, hlow, e16, e16b] | simp (disch := omega) only [ifp, ifn, wrap_i64, wrap_u8, wrap_i32, wrap_u64, wrap_u32, Int.tdiv_eq_ediv_of_nonneg, Int.tmod_eq_emod_of_nonneg] | ((with_reducible refine BrK_intro (fun hwb => ?_) (fun hwb => ?_)) <;> (try rw [hwb]) <;> simp only [decide_eq_true_eq, decide_eq_false_iff_not, Bool.not_eq_true', Bool.not_eq_false', Bool.not_true, Bool.not_false] at hwb) | ((with_reducible refine gbK_intro (fun hwb => ?_) (fun hwb => ?_)) <;> (try rw [hwb]) <;> simp only [decide_eq_true_eq, decide_eq_false_iff_not, Bool.not_eq_true', Bool.not_eq_false', Bool.not_true, Bool.not_false] at hwb) | ((with_reducible refine qgb_intro (fun hwb => ?_) (fun hwb => ?_)) <;> (try rw [hwb]) <;> simp only [decide_eq_true_eq, decide_eq_false_iff_not, Bool.not_eq_true', Bool.not_eq_false', Bool.not_true, Bool.not_false] at hwb) | (with_reducible intro hl) | (with_reducible refine drawK_q (by kernel_rfl) (by kernel_rfl) ?_) | (with_reducible refine call_eq (lower_spec G _ x.toNat hc) ?_))
    all_goals first
      | (exfalso; omega)
      | (refine LO.mk (k + 1, n * 16 + d) (by simp only; omega) (by repeat (first | with_reducible exact hoff | with_reducible exact Off.refl _ _ | refine Off.upd ?_ rfl | refine Off.trans hoff ?_ rfl)) ?_
         refine ⟨rfl, rfl, h12, ?_, by simp only; omega, hh⟩
         simp only [upd, Nat.reduceEqDiff, if_true, if_false, Option.some.injEq, V.i.injEq, true_and]
         omega)
  · simp at hb
    have : s.drop k = [] := List.drop_eq_nil_of_le (by omega)
    rw [this] at hh
    simp only [hexL, Option.some.injEq] at hh
    subst hh
    have chk_ : True ∧ True := by simp only [and_self, e1, e8, e9, e10, e11, e99, e100, h101, h12, h13]
    clear chk_
    repeat' (first | simp -implicitDefEqProofs only [XL, XM, TL, Option.isSome_some, Option.bind_some, Option.bind_none, Option.map_some, Option.map_none, Option.some.injEq, List.getElem?_cons_zero, List.getElem?_cons_succ, List.getElem?_toArray, List.toList_toArray, Nat.reduceEqDiff, if_true, if_false, ↓reduceIte, reduceCtorEq, Bool.false_eq_true, List.nil_append, List.append_nil, List.cons_append, Bool.or_self, Bool.or_true, Bool.or_false, Bool.true_or, Bool.false_or, Bool.and_true, Bool.true_and, Bool.not_true, Bool.not_false, Nat.reduceAdd, Nat.reduceMul, Nat.reduceSub, Nat.reduceLT, Nat.reduceLeDiff, Int.reduceToNat, List.all_cons, List.all_nil, List.map_cons, List.map_nil, List.set_cons_zero,  true_and, and_true, Int.natCast_nonneg, Int.le_refl, Nat.le_refl, Int.toNat_natCast, Nat.sub_zero,  List.drop_zero, List.drop_succ_cons, List.length_cons, List.length_nil,  List.set_cons_succ, and_self, decide_true, decide_false, Int.reduceLT, Int.reduceLE, Int.reduceEq, Int.reduceSub, Int.reduceAdd, Int.reduceMul, String.reduceEq, stK_eq, stV.eq_1, stR_some, stE_ag, stE_one, stE_whole, e1, e8, e9, e10, e11, e99, e100, h101, h12, h13] | simp (disch := omega) only [ifp, ifn, wrap_i64, wrap_u8, wrap_i32, wrap_u64, wrap_u32, Int.tdiv_eq_ediv_of_nonneg, Int.tmod_eq_emod_of_nonneg] | ((with_reducible refine BrK_intro (fun hwb => ?_) (fun hwb => ?_)) <;> (try rw [hwb]) <;> simp only [decide_eq_true_eq, decide_eq_false_iff_not, Bool.not_eq_true', Bool.not_eq_false', Bool.not_true, Bool.not_false] at hwb) | ((with_reducible refine gbK_intro (fun hwb => ?_) (fun hwb => ?_)) <;> (try rw [hwb]) <;> simp only [decide_eq_true_eq, decide_eq_false_iff_not, Bool.not_eq_true', Bool.not_eq_false', Bool.not_true, Bool.not_false] at hwb) | ((with_reducible refine qgb_intro (fun hwb => ?_) (fun hwb => ?_)) <;> (try rw [hwb]) <;> simp only [decide_eq_true_eq, decide_eq_false_iff_not, Bool.not_eq_true', Bool.not_eq_false', Bool.not_true, Bool.not_false] at hwb) | (with_reducible intro hl) | (with_reducible refine drawK_q (by kernel_rfl) (by kernel_rfl) ?_) )
    refine RetK_pure (Sub.set_fresh (.refl _) hid _) rfl
end Go.X
end

section
open Go Go.Proofs
namespace Go.X
set_option linter.unusedSimpArgs false
set_option maxRecDepth 10000

theorem parseUint_spec (G : Gl) (h : H) (s : List UInt8) (v : Nat) (hne : s ≠ []) (hv : hexL s 0 = some v) (hvb : v < 1000000000) (hlen : s.length ≤ 1000) :
    XCalls Tryz.prog G 55 [.s s, .i .i64 16, .i .i64 32] h (fun o h' => o = .ret (.tu [.i .u64 v, .nifc]) ∧ h' = h) := by
  refine enterK (rs := [.tmp 6, .tmp 7]) Tryz.func55 (by kernel_rfl) rfl rfl (by kernel_rfl) rfl (Nat.le_of_ble_eq_true rfl) (fun hbd => ?_)
  repeat' (first | simp -implicitDefEqProofs only [XL, XM, TL, Option.isSome_some, Option.bind_some, Option.bind_none, Option.map_some, Option.map_none, Option.some.injEq, List.getElem?_cons_zero, List.getElem?_cons_succ, List.getElem?_toArray, List.toList_toArray, Nat.reduceEqDiff, if_true, if_false, ↓reduceIte, reduceCtorEq, Bool.false_eq_true, List.nil_append, List.append_nil, List.cons_append, Bool.or_self, Bool.or_true, Bool.or_false, Bool.true_or, Bool.false_or, Bool.and_true, Bool.true_and, Bool.not_true, Bool.not_false, Nat.reduceAdd, Nat.reduceMul, Nat.reduceSub, Nat.reduceLT, Nat.reduceLeDiff, Int.reduceToNat, List.all_cons, List.all_nil, List.map_cons, List.map_nil, List.set_cons_zero,  true_and, and_true, Int.natCast_nonneg, Int.le_refl, Nat.le_refl, Int.toNat_natCast, Nat.sub_zero,  List.drop_zero, List.drop_succ_cons, List.length_cons, List.length_nil,  List.set_cons_succ, and_self, decide_true, decide_false, Int.reduceLT, Int.reduceLE, Int.reduceEq, Int.reduceSub, Int.reduceAdd, Int.reduceMul, String.reduceEq, stK_eq, stV.eq_1, stR_some, stE_ag, stE_one, stE_whole] | simp (disch := omega) only [ifp, ifn, wrap_i64, wrap_u8, wrap_i32, wrap_u64, wrap_u32, Int.tdiv_eq_ediv_of_nonneg, Int.tmod_eq_emod_of_nonneg] | ((with_reducible refine BrK_intro (fun hwb => ?_) (fun hwb => ?_)) <;> (try rw [hwb]) <;> simp only [decide_eq_true_eq, decide_eq_false_iff_not, Bool.not_eq_true', Bool.not_eq_false', Bool.not_true, Bool.not_false] at hwb) | ((with_reducible refine gbK_intro (fun hwb => ?_) (fun hwb => ?_)) <;> (try rw [hwb]) <;> simp only [decide_eq_true_eq, decide_eq_false_iff_not, Bool.not_eq_true', Bool.not_eq_false', Bool.not_true, Bool.not_false] at hwb) | ((with_reducible refine qgb_intro (fun hwb => ?_) (fun hwb => ?_)) <;> (try rw [hwb]) <;> simp only [decide_eq_true_eq, decide_eq_false_iff_not, Bool.not_eq_true', Bool.not_eq_false', Bool.not_true, Bool.not_false] at hwb) | (with_reducible intro hl) | (with_reducible refine drawK_q (by kernel_rfl) (by kernel_rfl) ?_) | (with_reducible refine call_eq (puint_spec G _ _ v hne hv hvb hlen) ?_))
  exact RetK_pure (.refl _) rfl

/-- The digits of a run of characters, if all are hexadecimal. -/
def isHex (r : Nat) : Bool := decide ((48 ≤ r ∧ r ≤ 57) ∨ (97 ≤ r ∧ r ≤ 102) ∨ (65 ≤ r ∧ r ≤ 70))
theorem isHex_val (c : Nat) : (hexval c).isSome = isHex c := by
  unfold hexval isHex
  (repeat' split) <;> simp <;> omega

/-- What a backslash begins: the code point and the length. -/
def escF (s : List UInt8) : Option (Nat × Nat) :=
  if 1 < s.length ∧ (at0 s 1 = 34 ∨ at0 s 1 = 92) then some (at0 s 1, 2) else
  if Lib.hasPrefix s [92, 117, 123] = false then none else
  if Lib.indexByte s 125 < 4 ∨ 9 < Lib.indexByte s 125 then none else
  match hexL ((s.drop 3).take ((Lib.indexByte s 125).toNat - 3)) 0 with
  | none => none
  | some v => if isPoint v = true then some (v, (Lib.indexByte s 125).toNat + 1) else none

theorem decV_hex {l : List UInt8} {p : Nat} (hp : p < l.length) : (isHex (decV l p).1 = true → (decV l p) = (at0 l p, 1)) ∧ (isHex (decV l p).1 = isHex (at0 l p)) := by
  rw [decV_char l p hp]
  by_cases h : at0 l p < 128
  · rw [charF_one h]; simp
  · have hn : isHex (at0 l p) = false := by unfold isHex; simp; omega
    rw [hn]
    split
    · simp [isHex]
    · rename_i h0
      have : 128 ≤ (charF l p).2 := by
        by_cases c1 : 192 ≤ at0 l p ∧ at0 l p < 224
        · rw [charF_two c1] at h0 ⊢; split <;> simp_all
        by_cases c2 : 224 ≤ at0 l p ∧ at0 l p < 240
        · rw [charF_three c2] at h0 ⊢; split <;> simp_all; omega
        by_cases c3 : 240 ≤ at0 l p ∧ at0 l p < 248
        · rw [charF_four c3] at h0 ⊢; split <;> simp_all; omega
        · rw [charF_none (by omega) (by omega)] at h0; simp at h0
      have : isHex (charF l p).2 = false := by unfold isHex; simp; omega
      simp [this]
theorem hexL_all : ∀ (l : List UInt8) (n : Nat), (∀ c ∈ l, isHex c.toNat = true) → (hexL l n).isSome = true
  | [], n, _ => rfl
  | c :: cs, n, h => by
    have h1 := isHex_val c.toNat
    rw [h c (by simp)] at h1
    obtain ⟨d, hd⟩ := Option.isSome_iff_exists.1 h1
    simp only [hexL, hd, Option.bind_some]
    exact hexL_all cs _ (fun x hx => h x (by simp [hx]))
theorem hexL_bad : ∀ (l : List UInt8) (n : Nat) (c : UInt8), c ∈ l → isHex c.toNat = false → hexL l n = none
  | [], _, _, h, _ => by simp at h
  | x :: cs, n, c, h, hb => by
    rcases List.mem_cons.1 h with rfl | h
    · have h1 := isHex_val c.toNat
      rw [hb] at h1
      simp only [Option.isSome_eq_false_iff, Option.isNone_iff_eq_none] at h1
      simp [hexL, h1]
    · simp only [hexL, Option.bind_eq_none_iff]
      intro d _; exact hexL_bad cs _ c h hb
theorem hexL_bound : ∀ (l : List UInt8) (n v : Nat), hexL l n = some v → v < (n + 1) * 16 ^ l.length
  | [], n, v, h => by simp [hexL] at h; simp; omega
  | c :: cs, n, v, h => by
    simp only [hexL, Option.bind_eq_some_iff] at h
    obtain ⟨d, h1, h2⟩ := h
    have := hexL_bound cs _ _ h2
    have hd : d < 16 := by unfold hexval at h1; (repeat' split at h1) <;> simp at h1 <;> omega
    have hm : (n * 16 + d + 1) * 16 ^ cs.length ≤ ((n + 1) * 16) * 16 ^ cs.length := Nat.mul_le_mul_right _ (by omega)
    rw [List.length_cons, Nat.pow_succ, Nat.mul_comm (16 ^ cs.length) 16, ← Nat.mul_assoc]
    omega
theorem validRune_point (r : Nat) : Lib.validRune r = isPoint r := by
  unfold Lib.validRune isPoint
  rw [Bool.eq_iff_iff]; simp; omega

theorem indexByte_lt : ∀ (l : List UInt8) (c : UInt8), Lib.indexByte l c < l.length
  | [], c => by simp [Lib.indexByte]
  | b :: l, c => by
    have := indexByte_lt l c
    simp only [Lib.indexByte, List.length_cons]
    split
    · omega
    · split <;> omega

theorem escape_spec (G : Gl) (h : H) (s : List UInt8) (hlen : s.length ≤ 1000000000) :
    XCalls Tryz.prog G 37 [.s s] h (fun o h' => o = .ret (match escF s with | some (v, n) => .tu [.i .i32 v, .i .i64 n] | none => .tu [.i .i32 0, .i .i64 (-1)]) ∧ h' = h) := by
  unfold escF
  refine enterK (rs := [.tmp 2, .tmp 3]) Tryz.func37 (by kernel_rfl) rfl rfl (by kernel_rfl) rfl (Nat.le_of_ble_eq_true rfl) (fun hbd => ?_)
  simp -implicitDefEqProofs only [XL, XM, TL, Option.isSome_some, Option.bind_some, Option.bind_none, Option.map_some, Option.map_none, Option.some.injEq, List.getElem?_cons_zero, List.getElem?_cons_succ, List.getElem?_toArray, List.toList_toArray, Nat.reduceEqDiff, if_true, if_false, ↓reduceIte, reduceCtorEq, Bool.false_eq_true, List.nil_append, List.append_nil, List.cons_append, Bool.or_self, Bool.or_true, Bool.or_false, Bool.true_or, Bool.false_or, Bool.and_true, Bool.true_and, Bool.not_true, Bool.not_false, Nat.reduceAdd, Nat.reduceMul, Nat.reduceSub, Nat.reduceLT, Nat.reduceLeDiff, Int.reduceToNat, List.all_cons, List.all_nil, List.map_cons, List.map_nil, List.set_cons_zero,  true_and, and_true, Int.natCast_nonneg, Int.le_refl, Nat.le_refl, Int.toNat_natCast, Nat.sub_zero,  List.drop_zero, List.drop_succ_cons, List.length_cons, List.length_nil,  List.set_cons_succ, and_self, decide_true, decide_false, Int.reduceLT, Int.reduceLE, Int.reduceEq, Int.reduceSub, Int.reduceAdd, Int.reduceMul, String.reduceEq, stK_eq, stV.eq_1, stR_some, stE_ag, stE_one, stE_whole]
  intro hl
  refine gbK_cutO [12, 13, 14, 15, 16, 17, 18, 19, 20, 21, 22, 23, 24] (fun _ g => g = h ∧ ¬ (1 < s.length ∧ (at0 s 1 = 34 ∨ at0 s 1 = 92))) ?_ ?_
  · by_cases h1 : 1 < s.length
    · have hg1 := at0_get h1
      have hc := at0_lt s 1
      have q1 : ((s.getD 1 0).toNat : Int) = (at0 s 1 : Int) := rfl
      skip
      have chk_ : True ∧ True := by simp only [and_self, hg1, q1, conv_int, convV.eq_1]
      clear chk_
      repeat' (first | simp -implicitDefEqProofs only [XL, XM, TL, Option.isSome_some, Option.bind_some, Option.bind_none, Option.map_some, Option.map_none, Option.some.injEq, List.getElem?_cons_zero, List.getElem?_cons_succ, List.getElem?_toArray, List.toList_toArray, Nat.reduceEqDiff, if_true, if_false, ↓reduceIte, reduceCtorEq, Bool.false_eq_true, List.nil_append, List.append_nil, List.cons_append, Bool.or_self, Bool.or_true, Bool.or_false, Bool.true_or, Bool.false_or, Bool.and_true, Bool.true_and, Bool.not_true, Bool.not_false, Nat.reduceAdd, Nat.reduceMul, Nat.reduceSub, Nat.reduceLT, Nat.reduceLeDiff, Int.reduceToNat, List.all_cons, List.all_nil, List.map_cons, List.map_nil, List.set_cons_zero,  true_and, and_true, Int.natCast_nonneg, Int.le_refl, Nat.le_refl, Int.toNat_natCast, Nat.sub_zero,  List.drop_zero, List.drop_succ_cons, List.length_cons, List.length_nil,  List.set_cons_succ, and_self, decide_true, decide_false, Int.reduceLT, Int.reduceLE, Int.reduceEq, Int.reduceSub, Int.reduceAdd, Int.reduceMul, String.reduceEq, stK_eq, stV.eq_1, stR_some, stE_ag, stE_one, stE_whole, hg1, q1, conv_int, convV.eq_1] | simp (disch := omega) only [ifp, ifn, wrap_i64, wrap_u8, wrap_i32, wrap_u64, wrap_u32, Int.tdiv_eq_ediv_of_nonneg, Int.tmod_eq_emod_of_nonneg] | ((with_reducible refine BrK_intro (fun hwb => ?_) (fun hwb => ?_)) <;> (try rw [hwb]) <;> simp only [decide_eq_true_eq, decide_eq_false_iff_not, Bool.not_eq_true', Bool.not_eq_false', Bool.not_true, Bool.not_false] at hwb) | ((with_reducible refine gbK_intro (fun hwb => ?_) (fun hwb => ?_)) <;> (try rw [hwb]) <;> simp only [decide_eq_true_eq, decide_eq_false_iff_not, Bool.not_eq_true', Bool.not_eq_false', Bool.not_true, Bool.not_false] at hwb) | ((with_reducible refine qgb_intro (fun hwb => ?_) (fun hwb => ?_)) <;> (try rw [hwb]) <;> simp only [decide_eq_true_eq, decide_eq_false_iff_not, Bool.not_eq_true', Bool.not_eq_false', Bool.not_true, Bool.not_false] at hwb) | (with_reducible intro hl) | (with_reducible refine drawK_q (by kernel_rfl) (by kernel_rfl) ?_) )
      all_goals first
        | (exfalso; omega)
        | (refine ⟨(by repeat (first | with_reducible exact hbd | with_reducible exact Off.refl _ _ | refine Off.upd ?_ rfl | refine Off.trans hbd ?_ rfl)), ?_⟩; omega)
        | (refine RetK_pure (.refl _) ?_
           rfl)
    · repeat' (first | simp -implicitDefEqProofs only [XL, XM, TL, Option.isSome_some, Option.bind_some, Option.bind_none, Option.map_some, Option.map_none, Option.some.injEq, List.getElem?_cons_zero, List.getElem?_cons_succ, List.getElem?_toArray, List.toList_toArray, Nat.reduceEqDiff, if_true, if_false, ↓reduceIte, reduceCtorEq, Bool.false_eq_true, List.nil_append, List.append_nil, List.cons_append, Bool.or_self, Bool.or_true, Bool.or_false, Bool.true_or, Bool.false_or, Bool.and_true, Bool.true_and, Bool.not_true, Bool.not_false, Nat.reduceAdd, Nat.reduceMul, Nat.reduceSub, Nat.reduceLT, Nat.reduceLeDiff, Int.reduceToNat, List.all_cons, List.all_nil, List.map_cons, List.map_nil, List.set_cons_zero,  true_and, and_true, Int.natCast_nonneg, Int.le_refl, Nat.le_refl, Int.toNat_natCast, Nat.sub_zero,  List.drop_zero, List.drop_succ_cons, List.length_cons, List.length_nil,  List.set_cons_succ, and_self, decide_true, decide_false, Int.reduceLT, Int.reduceLE, Int.reduceEq, Int.reduceSub, Int.reduceAdd, Int.reduceMul, String.reduceEq, stK_eq, stV.eq_1, stR_some, stE_ag, stE_one, stE_whole] | simp (disch := omega) only [ifp, ifn, wrap_i64, wrap_u8, wrap_i32, wrap_u64, wrap_u32, Int.tdiv_eq_ediv_of_nonneg, Int.tmod_eq_emod_of_nonneg] | ((with_reducible refine BrK_intro (fun hwb => ?_) (fun hwb => ?_)) <;> (try rw [hwb]) <;> simp only [decide_eq_true_eq, decide_eq_false_iff_not, Bool.not_eq_true', Bool.not_eq_false', Bool.not_true, Bool.not_false] at hwb) | ((with_reducible refine gbK_intro (fun hwb => ?_) (fun hwb => ?_)) <;> (try rw [hwb]) <;> simp only [decide_eq_true_eq, decide_eq_false_iff_not, Bool.not_eq_true', Bool.not_eq_false', Bool.not_true, Bool.not_false] at hwb) | ((with_reducible refine qgb_intro (fun hwb => ?_) (fun hwb => ?_)) <;> (try rw [hwb]) <;> simp only [decide_eq_true_eq, decide_eq_false_iff_not, Bool.not_eq_true', Bool.not_eq_false', Bool.not_true, Bool.not_false] at hwb) | (with_reducible intro hl) | (with_reducible refine drawK_q (by kernel_rfl) (by kernel_rfl) ?_) )
      all_goals first
        | (exfalso; omega)
        | (refine ⟨(by repeat (first | with_reducible exact hbd | with_reducible exact Off.refl _ _ | refine Off.upd ?_ rfl | refine Off.trans hbd ?_ rfl)), ?_⟩; omega)
  rintro a g hoff ⟨rfl, hn⟩
  (have e0' := hoff 0 rfl; simp only [XL, XM, Option.isSome_some, Option.bind_some, Option.bind_none, Option.map_some, Option.map_none, Option.some.injEq, List.getElem?_cons_zero, List.getElem?_cons_succ, List.getElem?_toArray, List.toList_toArray, Nat.reduceEqDiff, if_true, if_false, ↓reduceIte, reduceCtorEq, Bool.false_eq_true, List.nil_append, List.append_nil, List.cons_append, Bool.or_self, Bool.or_true, Bool.or_false, Bool.true_or, Bool.false_or, Bool.and_true, Bool.true_and, Bool.not_true, Bool.not_false, Nat.reduceAdd, Nat.reduceMul, Nat.reduceSub, Nat.reduceLT, Nat.reduceLeDiff, Int.reduceToNat, List.all_cons, List.all_nil, List.map_cons, List.map_nil, List.set_cons_zero,  true_and, and_true, Int.natCast_nonneg, Int.le_refl, Nat.le_refl, Int.toNat_natCast, Nat.sub_zero,  List.drop_zero, List.drop_succ_cons, List.length_cons, List.length_nil,  List.set_cons_succ, and_self, decide_true, decide_false, Int.reduceLT, Int.reduceLE, Int.reduceEq, Int.reduceSub, Int.reduceAdd, Int.reduceMul, String.reduceEq, stK_eq, stV.eq_1, stR_some, stE_ag, stE_one, stE_whole] at e0'; have e0 := e0'; clear e0')
  rw [if_neg hn]
  simp -implicitDefEqProofs only [XL, XM, TL, Option.isSome_some, Option.bind_some, Option.bind_none, Option.map_some, Option.map_none, Option.some.injEq, List.getElem?_cons_zero, List.getElem?_cons_succ, List.getElem?_toArray, List.toList_toArray, Nat.reduceEqDiff, if_true, if_false, ↓reduceIte, reduceCtorEq, Bool.false_eq_true, List.nil_append, List.append_nil, List.cons_append, Bool.or_self, Bool.or_true, Bool.or_false, Bool.true_or, Bool.false_or, Bool.and_true, Bool.true_and, Bool.not_true, Bool.not_false, Nat.reduceAdd, Nat.reduceMul, Nat.reduceSub, Nat.reduceLT, Nat.reduceLeDiff, Int.reduceToNat, List.all_cons, List.all_nil, List.map_cons, List.map_nil, List.set_cons_zero,  true_and, and_true, Int.natCast_nonneg, Int.le_refl, Nat.le_refl, Int.toNat_natCast, Nat.sub_zero,  List.drop_zero, List.drop_succ_cons, List.length_cons, List.length_nil,  List.set_cons_succ, and_self, decide_true, decide_false, Int.reduceLT, Int.reduceLE, Int.reduceEq, Int.reduceSub, Int.reduceAdd, Int.reduceMul, String.reduceEq, stK_eq, stV.eq_1, stR_some, stE_ag, stE_one, stE_whole, e0]
  refine call_eq (hasPrefix_spec G _ _ _) ?_
  simp -implicitDefEqProofs only [XL, XM, TL, Option.isSome_some, Option.bind_some, Option.bind_none, Option.map_some, Option.map_none, Option.some.injEq, List.getElem?_cons_zero, List.getElem?_cons_succ, List.getElem?_toArray, List.toList_toArray, Nat.reduceEqDiff, if_true, if_false, ↓reduceIte, reduceCtorEq, Bool.false_eq_true, List.nil_append, List.append_nil, List.cons_append, Bool.or_self, Bool.or_true, Bool.or_false, Bool.true_or, Bool.false_or, Bool.and_true, Bool.true_and, Bool.not_true, Bool.not_false, Nat.reduceAdd, Nat.reduceMul, Nat.reduceSub, Nat.reduceLT, Nat.reduceLeDiff, Int.reduceToNat, List.all_cons, List.all_nil, List.map_cons, List.map_nil, List.set_cons_zero,  true_and, and_true, Int.natCast_nonneg, Int.le_refl, Nat.le_refl, Int.toNat_natCast, Nat.sub_zero,  List.drop_zero, List.drop_succ_cons, List.length_cons, List.length_nil,  List.set_cons_succ, and_self, decide_true, decide_false, Int.reduceLT, Int.reduceLE, Int.reduceEq, Int.reduceSub, Int.reduceAdd, Int.reduceMul, String.reduceEq, stK_eq, stV.eq_1, stR_some, stE_ag, stE_one, stE_whole, e0]
  refine BrK_intro (fun hb => ?_) (fun hb => ?_)
  · simp at hb
    simp -implicitDefEqProofs only [XL, XM, TL, Option.isSome_some, Option.bind_some, Option.bind_none, Option.map_some, Option.map_none, Option.some.injEq, List.getElem?_cons_zero, List.getElem?_cons_succ, List.getElem?_toArray, List.toList_toArray, Nat.reduceEqDiff, if_true, if_false, ↓reduceIte, reduceCtorEq, Bool.false_eq_true, List.nil_append, List.append_nil, List.cons_append, Bool.or_self, Bool.or_true, Bool.or_false, Bool.true_or, Bool.false_or, Bool.and_true, Bool.true_and, Bool.not_true, Bool.not_false, Nat.reduceAdd, Nat.reduceMul, Nat.reduceSub, Nat.reduceLT, Nat.reduceLeDiff, Int.reduceToNat, List.all_cons, List.all_nil, List.map_cons, List.map_nil, List.set_cons_zero,  true_and, and_true, Int.natCast_nonneg, Int.le_refl, Nat.le_refl, Int.toNat_natCast, Nat.sub_zero,  List.drop_zero, List.drop_succ_cons, List.length_cons, List.length_nil,  List.set_cons_succ, and_self, decide_true, decide_false, Int.reduceLT, Int.reduceLE, Int.reduceEq, Int.reduceSub, Int.reduceAdd, Int.reduceMul, String.reduceEq, stK_eq, stV.eq_1, stR_some, stE_ag, stE_one, stE_whole, e0]
    refine RetK_pure (.refl _) ?_
    rw [if_pos hb]
  simp at hb
  rw [if_neg (by simp [hb])]
  simp -implicitDefEqProofs only [XL, XM, TL, Option.isSome_some, Option.bind_some, Option.bind_none, Option.map_some, Option.map_none, Option.some.injEq, List.getElem?_cons_zero, List.getElem?_cons_succ, List.getElem?_toArray, List.toList_toArray, Nat.reduceEqDiff, if_true, if_false, ↓reduceIte, reduceCtorEq, Bool.false_eq_true, List.nil_append, List.append_nil, List.cons_append, Bool.or_self, Bool.or_true, Bool.or_false, Bool.true_or, Bool.false_or, Bool.and_true, Bool.true_and, Bool.not_true, Bool.not_false, Nat.reduceAdd, Nat.reduceMul, Nat.reduceSub, Nat.reduceLT, Nat.reduceLeDiff, Int.reduceToNat, List.all_cons, List.all_nil, List.map_cons, List.map_nil, List.set_cons_zero,  true_and, and_true, Int.natCast_nonneg, Int.le_refl, Nat.le_refl, Int.toNat_natCast, Nat.sub_zero,  List.drop_zero, List.drop_succ_cons, List.length_cons, List.length_nil,  List.set_cons_succ, and_self, decide_true, decide_false, Int.reduceLT, Int.reduceLE, Int.reduceEq, Int.reduceSub, Int.reduceAdd, Int.reduceMul, String.reduceEq, stK_eq, stV.eq_1, stR_some, stE_ag, stE_one, stE_whole, e0]
  refine call_eq (indexByte_spec G _ s 125) ?_
  have q2 : (UInt8.ofNat 125) = 125 := rfl
  rw [q2]
  generalize hend : Lib.indexByte s 125 = en at *
  by_cases hen : en < 4 ∨ 9 < en
  · rw [if_pos hen]
    have chk_ : True ∧ True := by simp only [and_self, e0]
    clear chk_
    repeat' (first | simp -implicitDefEqProofs only [XL, XM, TL, Option.isSome_some, Option.bind_some, Option.bind_none, Option.map_some, Option.map_none, Option.some.injEq, List.getElem?_cons_zero, List.getElem?_cons_succ, List.getElem?_toArray, List.toList_toArray, Nat.reduceEqDiff, if_true, if_false, ↓reduceIte, reduceCtorEq, Bool.false_eq_true, List.nil_append, List.append_nil, List.cons_append, Bool.or_self, Bool.or_true, Bool.or_false, Bool.true_or, Bool.false_or, Bool.and_true, Bool.true_and, Bool.not_true, Bool.not_false, Nat.reduceAdd, Nat.reduceMul, Nat.reduceSub, Nat.reduceLT, Nat.reduceLeDiff, Int.reduceToNat, List.all_cons, List.all_nil, List.map_cons, List.map_nil, List.set_cons_zero,  true_and, and_true, Int.natCast_nonneg, Int.le_refl, Nat.le_refl, Int.toNat_natCast, Nat.sub_zero,  List.drop_zero, List.drop_succ_cons, List.length_cons, List.length_nil,  List.set_cons_succ, and_self, decide_true, decide_false, Int.reduceLT, Int.reduceLE, Int.reduceEq, Int.reduceSub, Int.reduceAdd, Int.reduceMul, String.reduceEq, stK_eq, stV.eq_1, stR_some, stE_ag, stE_one, stE_whole, e0] | simp (disch := omega) only [ifp, ifn, wrap_i64, wrap_u8, wrap_i32, wrap_u64, wrap_u32, Int.tdiv_eq_ediv_of_nonneg, Int.tmod_eq_emod_of_nonneg] | ((with_reducible refine BrK_intro (fun hwb => ?_) (fun hwb => ?_)) <;> (try rw [hwb]) <;> simp only [decide_eq_true_eq, decide_eq_false_iff_not, Bool.not_eq_true', Bool.not_eq_false', Bool.not_true, Bool.not_false] at hwb) | ((with_reducible refine gbK_intro (fun hwb => ?_) (fun hwb => ?_)) <;> (try rw [hwb]) <;> simp only [decide_eq_true_eq, decide_eq_false_iff_not, Bool.not_eq_true', Bool.not_eq_false', Bool.not_true, Bool.not_false] at hwb) | ((with_reducible refine qgb_intro (fun hwb => ?_) (fun hwb => ?_)) <;> (try rw [hwb]) <;> simp only [decide_eq_true_eq, decide_eq_false_iff_not, Bool.not_eq_true', Bool.not_eq_false', Bool.not_true, Bool.not_false] at hwb) | (with_reducible intro hl) | (with_reducible refine drawK_q (by kernel_rfl) (by kernel_rfl) ?_) )
    all_goals first
      | (exfalso; omega)
      | exact RetK_pure (.refl _) rfl
  rw [if_neg hen]
  have hln : en ≤ s.length - 1 ∧ 4 ≤ en := by
    have := indexByte_lt s 125
    omega
  obtain ⟨ee, rfl⟩ : ∃ ee : Nat, en = ee := ⟨en.toNat, by omega⟩
  have q3 : (0 : Int) ≤ 3 ∧ (3 : Int) ≤ (ee : Int) ∧ (ee : Int) ≤ (s.length : Int) := by omega
  have chk_ : True ∧ True := by simp only [and_self, e0, q3]
  clear chk_
  repeat' (first | simp -implicitDefEqProofs only [XL, XM, TL, Option.isSome_some, Option.bind_some, Option.bind_none, Option.map_some, Option.map_none, Option.some.injEq, List.getElem?_cons_zero, List.getElem?_cons_succ, List.getElem?_toArray, List.toList_toArray, Nat.reduceEqDiff, if_true, if_false, ↓reduceIte, reduceCtorEq, Bool.false_eq_true, List.nil_append, List.append_nil, List.cons_append, Bool.or_self, Bool.or_true, Bool.or_false, Bool.true_or, Bool.false_or, Bool.and_true, Bool.true_and, Bool.not_true, Bool.not_false, Nat.reduceAdd, Nat.reduceMul, Nat.reduceSub, Nat.reduceLT, Nat.reduceLeDiff, Int.reduceToNat, List.all_cons, List.all_nil, List.map_cons, List.map_nil, List.set_cons_zero,  true_and, and_true, Int.natCast_nonneg, Int.le_refl, Nat.le_refl, Int.toNat_natCast, Nat.sub_zero,  List.drop_zero, List.drop_succ_cons, List.length_cons, List.length_nil,  List.set_cons_succ, and_self, decide_true, decide_false, Int.reduceLT, Int.reduceLE, Int.reduceEq, Int.reduceSub, Int.reduceAdd, Int.reduceMul, String.reduceEq, stK_eq, stV.eq_1, stR_some, stE_ag, stE_one, stE_whole, e0, q3] | simp (disch := omega) only [ifp, ifn, wrap_i64, wrap_u8, wrap_i32, wrap_u64, wrap_u32, Int.tdiv_eq_ediv_of_nonneg, Int.tmod_eq_emod_of_nonneg] | ((with_reducible refine BrK_intro (fun hwb => ?_) (fun hwb => ?_)) <;> (try rw [hwb]) <;> simp only [decide_eq_true_eq, decide_eq_false_iff_not, Bool.not_eq_true', Bool.not_eq_false', Bool.not_true, Bool.not_false] at hwb) | ((with_reducible refine gbK_intro (fun hwb => ?_) (fun hwb => ?_)) <;> (try rw [hwb]) <;> simp only [decide_eq_true_eq, decide_eq_false_iff_not, Bool.not_eq_true', Bool.not_eq_false', Bool.not_true, Bool.not_false] at hwb) | ((with_reducible refine qgb_intro (fun hwb => ?_) (fun hwb => ?_)) <;> (try rw [hwb]) <;> simp only [decide_eq_true_eq, decide_eq_false_iff_not, Bool.not_eq_true', Bool.not_eq_false', Bool.not_true, Bool.not_false] at hwb) | (with_reducible intro hl) | (with_reducible refine drawK_q (by kernel_rfl) (by kernel_rfl) ?_) )
  all_goals first | (exfalso; omega) | skip
  have hll : (List.take (ee - 3) (List.drop 3 s)).length = ee - 3 := by simp; omega
  generalize hdg : List.take (ee - 3) (List.drop 3 s) = l at *
  generalize hr : (match hexL l 0 with | none => none | some v => if isPoint v = true then some (v, ee + 1) else none) = r
  refine rangeK_intro (by simp -implicitDefEqProofs only [XL, XM, TL, Option.isSome_some, Option.bind_some, Option.bind_none, Option.map_some, Option.map_none, Option.some.injEq, List.getElem?_cons_zero, List.getElem?_cons_succ, List.getElem?_toArray, List.toList_toArray, Nat.reduceEqDiff, if_true, if_false, ↓reduceIte, reduceCtorEq, Bool.false_eq_true, List.nil_append, List.append_nil, List.cons_append, Bool.or_self, Bool.or_true, Bool.or_false, Bool.true_or, Bool.false_or, Bool.and_true, Bool.true_and, Bool.not_true, Bool.not_false, Nat.reduceAdd, Nat.reduceMul, Nat.reduceSub, Nat.reduceLT, Nat.reduceLeDiff, Int.reduceToNat, List.all_cons, List.all_nil, List.map_cons, List.map_nil, List.set_cons_zero,  true_and, and_true, Int.natCast_nonneg, Int.le_refl, Nat.le_refl, Int.toNat_natCast, Nat.sub_zero,  List.drop_zero, List.drop_succ_cons, List.length_cons, List.length_nil,  List.set_cons_succ, and_self, decide_true, decide_false, Int.reduceLT, Int.reduceLE, Int.reduceEq, Int.reduceSub, Int.reduceAdd, Int.reduceMul, String.reduceEq, stK_eq, stV.eq_1, stR_some, stE_ag, stE_one, stE_whole, e0]) (fun id hid => ?_)
  have chk_ : True ∧ True := by simp only [and_self, e0]
  clear chk_
  repeat' (first | simp -implicitDefEqProofs only [XL, XM, TL, Option.isSome_some, Option.bind_some, Option.bind_none, Option.map_some, Option.map_none, Option.some.injEq, List.getElem?_cons_zero, List.getElem?_cons_succ, List.getElem?_toArray, List.toList_toArray, Nat.reduceEqDiff, if_true, if_false, ↓reduceIte, reduceCtorEq, Bool.false_eq_true, List.nil_append, List.append_nil, List.cons_append, Bool.or_self, Bool.or_true, Bool.or_false, Bool.true_or, Bool.false_or, Bool.and_true, Bool.true_and, Bool.not_true, Bool.not_false, Nat.reduceAdd, Nat.reduceMul, Nat.reduceSub, Nat.reduceLT, Nat.reduceLeDiff, Int.reduceToNat, List.all_cons, List.all_nil, List.map_cons, List.map_nil, List.set_cons_zero,  true_and, and_true, Int.natCast_nonneg, Int.le_refl, Nat.le_refl, Int.toNat_natCast, Nat.sub_zero,  List.drop_zero, List.drop_succ_cons, List.length_cons, List.length_nil,  List.set_cons_succ, and_self, decide_true, decide_false, Int.reduceLT, Int.reduceLE, Int.reduceEq, Int.reduceSub, Int.reduceAdd, Int.reduceMul, String.reduceEq, stK_eq, stV.eq_1, stR_some, stE_ag, stE_one, stE_whole, e0] | simp (disch := omega) only [ifp, ifn, wrap_i64, wrap_u8, wrap_i32, wrap_u64, wrap_u32, Int.tdiv_eq_ediv_of_nonneg, Int.tmod_eq_emod_of_nonneg] | ((with_reducible refine BrK_intro (fun hwb => ?_) (fun hwb => ?_)) <;> (try rw [hwb]) <;> simp only [decide_eq_true_eq, decide_eq_false_iff_not, Bool.not_eq_true', Bool.not_eq_false', Bool.not_true, Bool.not_false] at hwb) | ((with_reducible refine gbK_intro (fun hwb => ?_) (fun hwb => ?_)) <;> (try rw [hwb]) <;> simp only [decide_eq_true_eq, decide_eq_false_iff_not, Bool.not_eq_true', Bool.not_eq_false', Bool.not_true, Bool.not_false] at hwb) | ((with_reducible refine qgb_intro (fun hwb => ?_) (fun hwb => ?_)) <;> (try rw [hwb]) <;> simp only [decide_eq_true_eq, decide_eq_false_iff_not, Bool.not_eq_true', Bool.not_eq_false', Bool.not_true, Bool.not_false] at hwb) | (with_reducible intro hl) | (with_reducible refine drawK_q (by kernel_rfl) (by kernel_rfl) ?_) )
  refine loopO [2, 3, 6, 40, 41, 42, 43, 44, 45, 46, 47, 48, 49, 50, 51, 52, 53, 54, 55, 56, 57, 58, 59, 60, 61, 62, 63, 64, 65] (fun (p : Nat) a' g' => g' = g.set id (.iter l p) ∧ p ≤ l.length ∧ ∀ i, i < p → isHex (at0 l i) = true) (fun p => l.length - p) 0 (by exact ⟨rfl, Nat.zero_le _, fun i hi => by omega⟩) ?_
  rintro p a' g' hoff2 ⟨rfl, hp, hall⟩
  (have e0' := hoff2 0 rfl; have e4' := hoff2 4 rfl; have e39' := hoff2 39 rfl; simp only [XL, XM, Option.isSome_some, Option.bind_some, Option.bind_none, Option.map_some, Option.map_none, Option.some.injEq, List.getElem?_cons_zero, List.getElem?_cons_succ, List.getElem?_toArray, List.toList_toArray, Nat.reduceEqDiff, if_true, if_false, ↓reduceIte, reduceCtorEq, Bool.false_eq_true, List.nil_append, List.append_nil, List.cons_append, Bool.or_self, Bool.or_true, Bool.or_false, Bool.true_or, Bool.false_or, Bool.and_true, Bool.true_and, Bool.not_true, Bool.not_false, Nat.reduceAdd, Nat.reduceMul, Nat.reduceSub, Nat.reduceLT, Nat.reduceLeDiff, Int.reduceToNat, List.all_cons, List.all_nil, List.map_cons, List.map_nil, List.set_cons_zero,  true_and, and_true, Int.natCast_nonneg, Int.le_refl, Nat.le_refl, Int.toNat_natCast, Nat.sub_zero,  List.drop_zero, List.drop_succ_cons, List.length_cons, List.length_nil,  List.set_cons_succ, and_self, decide_true, decide_false, Int.reduceLT, Int.reduceLE, Int.reduceEq, Int.reduceSub, Int.reduceAdd, Int.reduceMul, String.reduceEq, stK_eq, stV.eq_1, stR_some, stE_ag, stE_one, stE_whole, e0] at e0' e4' e39'; clear e0; have e0 := e0'; clear e0'; have e4 := e4'; clear e4'; have e39 := e39'; clear e39')
  simp -implicitDefEqProofs only [XL, XM, TL, Option.isSome_some, Option.bind_some, Option.bind_none, Option.map_some, Option.map_none, Option.some.injEq, List.getElem?_cons_zero, List.getElem?_cons_succ, List.getElem?_toArray, List.toList_toArray, Nat.reduceEqDiff, if_true, if_false, ↓reduceIte, reduceCtorEq, Bool.false_eq_true, List.nil_append, List.append_nil, List.cons_append, Bool.or_self, Bool.or_true, Bool.or_false, Bool.true_or, Bool.false_or, Bool.and_true, Bool.true_and, Bool.not_true, Bool.not_false, Nat.reduceAdd, Nat.reduceMul, Nat.reduceSub, Nat.reduceLT, Nat.reduceLeDiff, Int.reduceToNat, List.all_cons, List.all_nil, List.map_cons, List.map_nil, List.set_cons_zero,  true_and, and_true, Int.natCast_nonneg, Int.le_refl, Nat.le_refl, Int.toNat_natCast, Nat.sub_zero,  List.drop_zero, List.drop_succ_cons, List.length_cons, List.length_nil,  List.set_cons_succ, and_self, decide_true, decide_false, Int.reduceLT, Int.reduceLE, Int.reduceEq, Int.reduceSub, Int.reduceAdd, Int.reduceMul, String.reduceEq, stK_eq, stV.eq_1, stR_some, stE_ag, stE_one, stE_whole, e0, e4, e39]
  refine nextK_intro (set_hit _ _ _) (fun hp1 => ?_) (fun hp1 => ?_)
  · obtain ⟨d1, d2⟩ := decV_hex hp1
    rw [set_set]
    simp -implicitDefEqProofs only [XL, XM, TL, Option.isSome_some, Option.bind_some, Option.bind_none, Option.map_some, Option.map_none, Option.some.injEq, List.getElem?_cons_zero, List.getElem?_cons_succ, List.getElem?_toArray, List.toList_toArray, Nat.reduceEqDiff, if_true, if_false, ↓reduceIte, reduceCtorEq, Bool.false_eq_true, List.nil_append, List.append_nil, List.cons_append, Bool.or_self, Bool.or_true, Bool.or_false, Bool.true_or, Bool.false_or, Bool.and_true, Bool.true_and, Bool.not_true, Bool.not_false, Nat.reduceAdd, Nat.reduceMul, Nat.reduceSub, Nat.reduceLT, Nat.reduceLeDiff, Int.reduceToNat, List.all_cons, List.all_nil, List.map_cons, List.map_nil, List.set_cons_zero,  true_and, and_true, Int.natCast_nonneg, Int.le_refl, Nat.le_refl, Int.toNat_natCast, Nat.sub_zero,  List.drop_zero, List.drop_succ_cons, List.length_cons, List.length_nil,  List.set_cons_succ, and_self, decide_true, decide_false, Int.reduceLT, Int.reduceLE, Int.reduceEq, Int.reduceSub, Int.reduceAdd, Int.reduceMul, String.reduceEq, stK_eq, stV.eq_1, stR_some, stE_ag, stE_one, stE_whole, e0, e4, e39]
    by_cases hx : isHex (decV l p).1 = true
    · have hx2 := d1 hx
      rw [d2] at hx
      rw [hx2]
      have hx3 := hx
      simp only [isHex, decide_eq_true_eq] at hx3
      have chk_ : True ∧ True := by simp only [and_self, e0, e4, e39]
      clear chk_
      repeat' (first | simp -implicitDefEqProofs only [XL, XM, TL, Option.isSome_some, Option.bind_some, Option.bind_none, Option.map_some, Option.map_none, Option.some.injEq, List.getElem?_cons_zero, List.getElem?_cons_succ, List.getElem?_toArray, List.toList_toArray, Nat.reduceEqDiff, if_true, if_false, ↓reduceIte, reduceCtorEq, Bool.false_eq_true, List.nil_append, List.append_nil, List.cons_append, Bool.or_self, Bool.or_true, Bool.or_false, Bool.true_or, Bool.false_or, Bool.and_true, Bool.true_and, Bool.not_true, Bool.not_false, Nat.reduceAdd, Nat.reduceMul, Nat.reduceSub, Nat.reduceLT, Nat.reduceLeDiff, Int.reduceToNat, List.all_cons, List.all_nil, List.map_cons, List.map_nil, List.set_cons_zero,  true_and, and_true, Int.natCast_nonneg, Int.le_refl, Nat.le_refl, Int.toNat_natCast, Nat.sub_zero,  List.drop_zero, List.drop_succ_cons, List.length_cons, List.length_nil,  List.set_cons_succ, and_self, decide_true, decide_false, Int.reduceLT, Int.reduceLE, Int.reduceEq, Int.reduceSub, Int.reduceAdd, Int.reduceMul, String.reduceEq, stK_eq, stV.eq_1, stR_some, stE_ag, stE_one, stE_whole, e0, e4, e39] | simp (disch := omega) only [ifp, ifn, wrap_i64, wrap_u8, wrap_i32, wrap_u64, wrap_u32, Int.tdiv_eq_ediv_of_nonneg, Int.tmod_eq_emod_of_nonneg] | ((with_reducible refine BrK_intro (fun hwb => ?_) (fun hwb => ?_)) <;> (try rw [hwb]) <;> simp only [decide_eq_true_eq, decide_eq_false_iff_not, Bool.not_eq_true', Bool.not_eq_false', Bool.not_true, Bool.not_false] at hwb) | ((with_reducible refine gbK_intro (fun hwb => ?_) (fun hwb => ?_)) <;> (try rw [hwb]) <;> simp only [decide_eq_true_eq, decide_eq_false_iff_not, Bool.not_eq_true', Bool.not_eq_false', Bool.not_true, Bool.not_false] at hwb) | ((with_reducible refine qgb_intro (fun hwb => ?_) (fun hwb => ?_)) <;> (try rw [hwb]) <;> simp only [decide_eq_true_eq, decide_eq_false_iff_not, Bool.not_eq_true', Bool.not_eq_false', Bool.not_true, Bool.not_false] at hwb) | (with_reducible intro hl) | (with_reducible refine drawK_q (by kernel_rfl) (by kernel_rfl) ?_) )
      all_goals first
        | (exfalso; omega)
        | (refine LO.mk (p + 1) (by omega) (by repeat (first | with_reducible exact hoff2 | with_reducible exact Off.refl _ _ | refine Off.upd ?_ rfl | refine Off.trans hoff2 ?_ rfl)) ?_
           refine ⟨rfl, by omega, fun i hi => ?_⟩
           rcases Nat.lt_or_ge i p with h | h
           · exact hall i h
           · have : i = p := by omega
             rw [this]; exact hx)
    · rw [d2] at hx
      have hx1 := d2 ▸ hx
      simp only [Bool.not_eq_true] at hx
      have hnone : hexL l 0 = none := hexL_bad l 0 (l.getD p 0) (List.mem_of_getElem? (at0_get hp1)) hx
      have hx3 : isHex (decV l p).1 = false := by rw [d2]; exact hx
      simp only [isHex, decide_eq_false_iff_not] at hx3
      rw [hnone] at hr
      subst hr
      generalize (decV l p).1 = rr at *
      have chk_ : True ∧ True := by simp only [and_self, e0, e4, e39]
      clear chk_
      repeat' (first | simp -implicitDefEqProofs only [XL, XM, TL, Option.isSome_some, Option.bind_some, Option.bind_none, Option.map_some, Option.map_none, Option.some.injEq, List.getElem?_cons_zero, List.getElem?_cons_succ, List.getElem?_toArray, List.toList_toArray, Nat.reduceEqDiff, if_true, if_false, ↓reduceIte, reduceCtorEq, Bool.false_eq_true, List.nil_append, List.append_nil, List.cons_append, Bool.or_self, Bool.or_true, Bool.or_false, Bool.true_or, Bool.false_or, Bool.and_true, Bool.true_and, Bool.not_true, Bool.not_false, Nat.reduceAdd, Nat.reduceMul, Nat.reduceSub, Nat.reduceLT, Nat.reduceLeDiff, Int.reduceToNat, List.all_cons, List.all_nil, List.map_cons, List.map_nil, List.set_cons_zero,  true_and, and_true, Int.natCast_nonneg, Int.le_refl, Nat.le_refl, Int.toNat_natCast, Nat.sub_zero,  List.drop_zero, List.drop_succ_cons, List.length_cons, List.length_nil,  List.set_cons_succ, and_self, decide_true, decide_false, Int.reduceLT, Int.reduceLE, Int.reduceEq, Int.reduceSub, Int.reduceAdd, Int.reduceMul, String.reduceEq, stK_eq, stV.eq_1, stR_some, stE_ag, stE_one, stE_whole, e0, e4, e39] | simp (disch := omega) only [ifp, ifn, wrap_i64, wrap_u8, wrap_i32, wrap_u64, wrap_u32, Int.tdiv_eq_ediv_of_nonneg, Int.tmod_eq_emod_of_nonneg] | ((with_reducible refine BrK_intro (fun hwb => ?_) (fun hwb => ?_)) <;> (try rw [hwb]) <;> simp only [decide_eq_true_eq, decide_eq_false_iff_not, Bool.not_eq_true', Bool.not_eq_false', Bool.not_true, Bool.not_false] at hwb) | ((with_reducible refine gbK_intro (fun hwb => ?_) (fun hwb => ?_)) <;> (try rw [hwb]) <;> simp only [decide_eq_true_eq, decide_eq_false_iff_not, Bool.not_eq_true', Bool.not_eq_false', Bool.not_true, Bool.not_false] at hwb) | ((with_reducible refine qgb_intro (fun hwb => ?_) (fun hwb => ?_)) <;> (try rw [hwb]) <;> simp only [decide_eq_true_eq, decide_eq_false_iff_not, Bool.not_eq_true', Bool.not_eq_false', Bool.not_true, Bool.not_false] at hwb) | (with_reducible intro hl) | (with_reducible refine drawK_q (by kernel_rfl) (by kernel_rfl) ?_) )
      all_goals first
        | (exfalso; omega)
        | exact RetK_pure (Sub.set_fresh (.refl _) hid _) rfl
  · have hpl : p = l.length := by omega
    subst hpl
    have hsome := hexL_all l 0 (fun c hc => by
      obtain ⟨i, hi⟩ := List.getElem?_of_mem hc
      have hil := (List.getElem?_eq_some_iff.1 hi).1
      have := hall i hil
      rw [at0_get hil] at hi
      simp only [Option.some.injEq] at hi
      rw [← hi]; exact this)
    obtain ⟨v, hv⟩ := Option.isSome_iff_exists.1 hsome
    have hvb := hexL_bound l 0 v hv
    have hvb2 : v < 16777216 := by
      have : 16 ^ l.length ≤ 16 ^ 6 := Nat.pow_le_pow_right (by omega) (by omega)
      omega
    rw [hv] at hr
    have hne : l ≠ [] := by intro h; rw [h] at hll; simp at hll; omega
    have hvr := validRune_spec G (g.set id (.iter l l.length)) v
    rw [validRune_point] at hvr
    cases hpt : isPoint v with
    | true =>
      rw [hpt] at hvr
      simp only [hpt, if_true] at hr
      subst hr
      simp only [isPoint, decide_eq_true_eq] at hpt
      have chk_ : True ∧ True := by simp only [and_self, e0, e4, e39, q3, hdg, conv_int, convV.eq_1]
      clear chk_
      repeat' (first | simp -implicitDefEqProofs only [XL, XM, TL, Option.isSome_some, Option.bind_some, Option.bind_none, Option.map_some, Option.map_none, Option.some.injEq, List.getElem?_cons_zero, List.getElem?_cons_succ, List.getElem?_toArray, List.toList_toArray, Nat.reduceEqDiff, if_true, if_false, ↓reduceIte, reduceCtorEq, Bool.false_eq_true, List.nil_append, List.append_nil, List.cons_append, Bool.or_self, Bool.or_true, Bool.or_false, Bool.true_or, Bool.false_or, Bool.and_true, Bool.true_and, Bool.not_true, Bool.not_false, Nat.reduceAdd, Nat.reduceMul, Nat.reduceSub, Nat.reduceLT, Nat.reduceLeDiff, Int.reduceToNat, List.all_cons, List.all_nil, List.map_cons, List.map_nil, List.set_cons_zero,  true_and, and_true, Int.natCast_nonneg, Int.le_refl, Nat.le_refl, Int.toNat_natCast, Nat.sub_zero,  List.drop_zero, List.drop_succ_cons, List.length_cons, List.length_nil,  List.set_cons_succ, and_self, decide_true, decide_false, Int.reduceLT, Int.reduceLE, Int.reduceEq, Int.reduceSub, Int.reduceAdd, Int.reduceMul, String.reduceEq, stK_eq, stV.eq_1, stR_some, stE_ag, stE_one, stE_whole, e0, e4, e39, q3, hdg, conv_int, convV.eq_1] | simp (disch := omega) only [ifp, ifn, wrap_i64, wrap_u8, wrap_i32, wrap_u64, wrap_u32, Int.tdiv_eq_ediv_of_nonneg, Int.tmod_eq_emod_of_nonneg] | ((with_reducible refine BrK_intro (fun hwb => ?_) (fun hwb => ?_)) <;> (try rw [hwb]) <;> simp only [decide_eq_true_eq, decide_eq_false_iff_not, Bool.not_eq_true', Bool.not_eq_false', Bool.not_true, Bool.not_false] at hwb) | ((with_reducible refine gbK_intro (fun hwb => ?_) (fun hwb => ?_)) <;> (try rw [hwb]) <;> simp only [decide_eq_true_eq, decide_eq_false_iff_not, Bool.not_eq_true', Bool.not_eq_false', Bool.not_true, Bool.not_false] at hwb) | ((with_reducible refine qgb_intro (fun hwb => ?_) (fun hwb => ?_)) <;> (try rw [hwb]) <;> simp only [decide_eq_true_eq, decide_eq_false_iff_not, Bool.not_eq_true', Bool.not_eq_false', Bool.not_true, Bool.not_false] at hwb) | (with_reducible intro hl) | (with_reducible refine drawK_q (by kernel_rfl) (by kernel_rfl) ?_) | (with_reducible refine call_eq (parseUint_spec G _ l v hne hv (by omega) (by omega)) ?_) | (with_reducible refine call_eq (hvr) ?_))
      all_goals first
        | (exfalso; omega)
        | (refine RetK_pure (Sub.set_fresh (.refl _) hid _) ?_; rfl)
    | false =>
      rw [hpt] at hvr
      simp only [hpt, Bool.false_eq_true, if_false] at hr
      subst hr
      clear hpt
      have chk_ : True ∧ True := by simp only [and_self, e0, e4, e39, q3, hdg, conv_int, convV.eq_1]
      clear chk_
      repeat' (first | simp -implicitDefEqProofs only [XL, XM, TL, Option.isSome_some, Option.bind_some, Option.bind_none, Option.map_some, Option.map_none, Option.some.injEq, List.getElem?_cons_zero, List.getElem?_cons_succ, List.getElem?_toArray, List.toList_toArray, Nat.reduceEqDiff, if_true, if_false, ↓reduceIte, reduceCtorEq, Bool.false_eq_true, List.nil_append, List.append_nil, List.cons_append, Bool.or_self, Bool.or_true, Bool.or_false, Bool.true_or, Bool.false_or, Bool.and_true, Bool.true_and, Bool.not_true, Bool.not_false, Nat.reduceAdd, Nat.reduceMul, Nat.reduceSub, Nat.reduceLT, Nat.reduceLeDiff, Int.reduceToNat, List.all_cons, List.all_nil, List.map_cons, List.map_nil, List.set_cons_zero,  true_and, and_true, Int.natCast_nonneg, Int.le_refl, Nat.le_refl, Int.toNat_natCast, Nat.sub_zero,  List.drop_zero, List.drop_succ_cons, List.length_cons, List.length_nil,  List.set_cons_succ, and_self, decide_true, decide_false, Int.reduceLT, Int.reduceLE, Int.reduceEq, Int.reduceSub, Int.reduceAdd, Int.reduceMul, String.reduceEq, stK_eq, stV.eq_1, stR_some, stE_ag, stE_one, stE_whole, e0, e4, e39, q3, hdg, conv_int, convV.eq_1] | simp (disch := omega) only [ifp, ifn, wrap_i64, wrap_u8, wrap_i32, wrap_u64, wrap_u32, Int.tdiv_eq_ediv_of_nonneg, Int.tmod_eq_emod_of_nonneg] | ((with_reducible refine BrK_intro (fun hwb => ?_) (fun hwb => ?_)) <;> (try rw [hwb]) <;> simp only [decide_eq_true_eq, decide_eq_false_iff_not, Bool.not_eq_true', Bool.not_eq_false', Bool.not_true, Bool.not_false] at hwb) | ((with_reducible refine gbK_intro (fun hwb => ?_) (fun hwb => ?_)) <;> (try rw [hwb]) <;> simp only [decide_eq_true_eq, decide_eq_false_iff_not, Bool.not_eq_true', Bool.not_eq_false', Bool.not_true, Bool.not_false] at hwb) | ((with_reducible refine qgb_intro (fun hwb => ?_) (fun hwb => ?_)) <;> (try rw [hwb]) <;> simp only [decide_eq_true_eq, decide_eq_false_iff_not, Bool.not_eq_true', Bool.not_eq_false', Bool.not_true, Bool.not_false] at hwb) | (with_reducible intro hl) | (with_reducible refine drawK_q (by kernel_rfl) (by kernel_rfl) ?_) | (with_reducible refine call_eq (parseUint_spec G _ l v hne hv (by omega) (by omega)) ?_) | (with_reducible refine call_eq (hvr) ?_))
      all_goals first
        | (exfalso; omega)
        | (refine RetK_pure (Sub.set_fresh (.refl _) hid _) ?_; rfl)

end Go.X
end
