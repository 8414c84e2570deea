/- Walks: the library's decoder, CheckText, AppendRune, strings.Builder. -/
import Derived.Test.YtlhigokiophckaaGreatDoorWalkA
import Derived.Test.YtlhigokiophckaaGreatDoorKitD
import Derived.Shelf.Spec.NilArms
import Derived.Test.YtlhigokiophckaaGreatDoorShelf
import Derived.Shelf.RegionOpenPlain
import Derived.Lib.Strings
import Derived.Lib.Slices
import Derived.Lib.Walk
import Derived.Lib.Builder
import Derived.Lib.AppendStr
import Derived.Lib.UnsafeStr
import Derived.WalkKit
import Derived.Laws.Externs

section
open Go Go.Proofs
namespace Go.X
set_option linter.unusedSimpArgs false
set_option maxRecDepth 10000

theorem hasPrefix_spec (G : Gl) (h : H) (s p : List UInt8) :
    XCalls Tryz.prog G 53 [.s s, .s p] h (fun o h' => o = .ret (.b (Lib.hasPrefix s p)) ∧ h' = h) := by
  refine lift_pure (fun ar w => MuLone.run_callFunc_enter Tryz.func53 (by kernel_rfl) rfl ar w) ?_
  intro μ I w rargs r hv
  cases hv with
  | cons _ _ _ _ h1 hv =>
    cases hv with
    | cons _ _ _ _ h2 hv =>
      cases hv; cases h1; cases h2
      exact ⟨_, fun _ _ _ => .b _, (Tryz.strings_HasPrefix ⟨⟨s⟩⟩ ⟨⟨p⟩⟩ w).mono fun e w' he => by obtain ⟨rfl, rfl⟩ := he; exact ⟨rfl, RowKit.Below.refl _ _⟩⟩

/-- The tables of unicode/utf8, as the globals hold them. -/
def Tabs (G : Gl) : Prop := ∀ (μ : Mu) (I : Nat → Prop) (h : H) (w : World), R G μ I h w → Lib.Utf8Tabs 0 1 w
/-- What the library's decoder answers. -/
def decG (l : List UInt8) : Nat × Nat := if l.length = 0 then (65533, 0) else decV l 0
theorem decG_eq (l : List UInt8) : Lib.decodeGo ⟨⟨l⟩⟩ = decG l := rfl

theorem decodeStr_spec (G : Gl) (hT : Tabs G) (h : H) (s : List UInt8) :
    XCalls Tryz.prog G 36 [.s s] h (fun o h' => o = .ret (.tu [.i .i32 (decG s).1, .i .i64 (decG s).2]) ∧ h' = h) := by
  refine lift_pure (fun ar w => MuLone.run_callFunc_enter Tryz.func36 (by kernel_rfl) rfl ar w) ?_
  intro μ I w rargs r hv
  cases hv with
  | cons _ _ _ _ h1 hv =>
    cases hv; cases h1
    exact ⟨_, fun _ _ _ => .tu _ _ (.cons _ _ _ _ (.i _ _) (.cons _ _ _ _ (.i _ _) .nil)), Tryz.utf8_DecodeRuneInString ⟨⟨s⟩⟩ w (hT μ I h w r)⟩

theorem decode_spec (G : Gl) (hT : Tabs G) (h : H) (l : List UInt8) :
    XCalls Tryz.prog G 15 [.im 1 (bytesV l)] h (fun o h' => o = .ret (.tu [.i .i32 (decG l).1, .i .i64 (decG l).2]) ∧ h' = h) := by
  refine lift_pure (fun ar w => MuLone.run_callFunc_enter Tryz.func15 (by kernel_rfl) rfl ar w) ?_
  intro μ I w rargs r hv
  cases hv with
  | cons _ _ _ _ h1 hv =>
    cases hv
    rcases im_bytes h1 with ⟨a, cap, rfl, rfl, hpa, hpc⟩ | ⟨b, o, cap, rfl, _, _, _, hc⟩
    · cases a with
      | none =>
        obtain rfl := hpc rfl
        refine ⟨_, fun _ _ _ => .tu _ _ (.cons _ _ _ _ (.i _ _) (.cons _ _ _ _ (.i _ _) .nil)), (Any7.utf8_DecodeRune_nil Tryz.lays7_32 w).mono fun e w' he => ?_⟩
        obtain ⟨rfl, rfl⟩ := he
        exact ⟨rfl, RowKit.Below.refl _ _⟩
      | some x =>
        obtain ⟨b, o, sp⟩ := x
        have hsp := hpa _ rfl
        simp only at hsp
        subst hsp
        exact ⟨_, fun _ _ _ => .tu _ _ (.cons _ _ _ _ (.i _ _) (.cons _ _ _ _ (.i _ _) .nil)), Any7.utf8_DecodeRune Tryz.lays7_32 ⟨⟨[]⟩⟩ b o cap w (hT μ I h w r) (fun j hj => absurd hj (Nat.not_lt_zero j))⟩
    · exact ⟨_, fun _ _ _ => .tu _ _ (.cons _ _ _ _ (.i _ _) (.cons _ _ _ _ (.i _ _) .nil)), Any7.utf8_DecodeRune Tryz.lays7_32 ⟨⟨l⟩⟩ b o cap w (hT μ I h w r) (fun j hj => by
        have hj' : j < l.length := hj
        rw [hc j l[j] (List.getElem?_eq_getElem hj')]
        have := get!_at0 l j
        rw [this]; unfold at0; rw [List.getD_eq_getElem?_getD, List.getElem?_eq_getElem hj']; rfl)⟩

theorem indexByte_spec (G : Gl) (h : H) (s : List UInt8) (c : Nat) :
    XCalls Tryz.prog G 54 [.s s, .i .u8 c] h (fun o h' => o = .ret (.i .i64 (Lib.indexByte s (UInt8.ofNat c))) ∧ h' = h) := by
  refine lift_pure (fun ar w => MuLone.run_callFunc_enter Tryz.func54 (by kernel_rfl) rfl ar w) ?_
  intro μ I w rargs r hv
  cases hv with
  | cons _ _ _ _ h1 hv =>
    cases hv with
    | cons _ _ _ _ h2 hv =>
      cases hv; cases h1; cases h2
      exact ⟨_, fun _ _ _ => .i _ _, (Tryz.strings_IndexByte ⟨⟨s⟩⟩ c w).mono fun e w' he => by obtain ⟨rfl, rfl⟩ := he; exact ⟨rfl, RowKit.Below.refl _ _⟩⟩
theorem validRune_spec (G : Gl) (h : H) (r : Int) :
    XCalls Tryz.prog G 56 [.i .i32 r] h (fun o h' => o = .ret (.b (Lib.validRune r)) ∧ h' = h) := by
  refine lift_pure (fun ar w => MuLone.run_callFunc_enter Tryz.func56 (by kernel_rfl) rfl ar w) ?_
  intro μ I w rargs r hv
  cases hv with
  | cons _ _ _ _ h1 hv =>
      cases hv; cases h1
      exact ⟨_, fun _ _ _ => .b _, (Tryz.utf8_ValidRune _ w).mono fun e w' he => by obtain ⟨rfl, rfl⟩ := he; exact ⟨rfl, RowKit.Below.refl _ _⟩⟩

/-- bytes.Count(b, {c}) -/
theorem count_spec (G : Gl) (h : H) (l : List UInt8) (c : UInt8) :
    XCalls Tryz.prog G 24 [.im 1 (bytesV l), .im 1 (bytesV [c])] h (fun o h' => o = .ret (.i .i64 (Lib.countByte l c)) ∧ h' = h) := by
  refine lift_pure (fun ar w => MuLone.run_callFunc_enter Tryz.func24 (by kernel_rfl) rfl ar w) ?_
  intro μ I w rargs r hv
  cases hv with
  | cons _ _ _ _ h1 hv =>
    cases hv with
    | cons _ _ _ _ h2 hv =>
      cases hv
      rcases im_bytes h2 with ⟨_, _, h, _, _⟩ | ⟨b2, o2, cap2, rfl, _, _, _, hc2⟩
      · cases h
      · rcases im_bytes h1 with ⟨a, cap, rfl, rfl, hpa, hpc⟩ | ⟨b, o, cap, rfl, _, _, _, hc⟩
        · have hc3 : w.cell? ⟨b2, o2, none⟩ = some (.int .u8 (c.toNat : Int)) := by have := hc2 0 c rfl; simpa using this
          cases a with
          | none =>
            obtain rfl := hpc rfl
            refine ⟨_, fun _ _ _ => .i _ _, (Tryz.bytes_Count_one_nil b2 o2 cap2 (c.toNat : Int) w hc3).mono fun e w' he => ?_⟩
            obtain ⟨rfl, rfl⟩ := he
            exact ⟨rfl, RowKit.Below.refl _ _⟩
          | some x =>
            obtain ⟨b, o, sp⟩ := x
            have hsp := hpa _ rfl
            simp only at hsp
            subst hsp
            refine ⟨_, fun _ _ _ => .i _ _, (Tryz.bytes_Count_one b o 0 cap b2 o2 cap2 [] (c.toNat : Int) w rfl (fun i hi => by omega) hc3).mono fun e w' he => ?_⟩
            obtain ⟨rfl, rfl⟩ := he
            exact ⟨rfl, RowKit.Below.refl _ _⟩
        · have hb : Lib.bytesOf (l.map fun c => (c.toNat : Int)) = l := by
            simp only [Lib.bytesOf, List.map_map]
            refine (List.map_congr_left (g := fun c => c) fun c _ => ?_).trans (List.map_id' l)
            simp
          have := Tryz.bytes_Count_one b o l.length cap b2 o2 cap2 (l.map fun c => (c.toNat : Int)) (c.toNat : Int) w (by simp) (fun i hi => by
            rw [hc i l[i] (List.getElem?_eq_getElem hi)]
            simp [List.getD, hi]) (by have := hc2 0 c rfl; simpa using this)
          rw [hb] at this
          refine ⟨_, fun _ _ _ => .i _ _, this.mono fun e w' he => ?_⟩
          obtain ⟨rfl, rfl⟩ := he
          refine ⟨?_, RowKit.Below.refl _ _⟩
          simp
end Go.X
end

section
open Go Go.Proofs
namespace Go.X
set_option linter.unusedSimpArgs false
set_option linter.unusedVariables false
set_option maxRecDepth 10000

/-- One character of a text: its width and code point, a byte that begins none by itself. -/
theorem decG_drop (b : List UInt8) (i : Nat) (hi : i < b.length) : decG (b.drop i) = if (charF b i).1 = 0 then (65533, 1) else ((charF b i).2, (charF b i).1) := by
  unfold decG
  rw [if_neg (by simp; omega), decV_drop, Nat.add_zero, decV_char b i hi]

theorem charF_bad {b : List UInt8} {i : Nat} (hi : i < b.length) (h : (charF b i).1 ≠ 0) : ¬ ((charF b i).2 = 65533 ∧ (charF b i).1 ≤ 1) := by
  rintro ⟨h1, h2⟩
  have h0 := at0_lt b i
  by_cases c0 : at0 b i < 128
  · rw [charF_one c0] at h1; simp at h1; omega
  by_cases c1 : 192 ≤ at0 b i ∧ at0 b i < 224
  · rw [charF_two c1] at h h1 h2; split at h2 <;> simp_all
  by_cases c2 : 224 ≤ at0 b i ∧ at0 b i < 240
  · rw [charF_three c2] at h h1 h2; split at h2 <;> simp_all
  by_cases c3 : 240 ≤ at0 b i ∧ at0 b i < 248
  · rw [charF_four c3] at h h1 h2; split at h2 <;> simp_all
  · rw [charF_none (by omega) (by omega)] at h; simp at h

theorem drop_bytes (b : List UInt8) (i : Nat) : List.take (b.length - i) (bytesV (b.drop i)) = bytesV (b.drop i) := by rw [bytesV_take, List.take_of_length_le (by simp)]

theorem implCheck_spec (G : Gl) (hT : Tabs G) (h : H) (b : List UInt8) (hlen : b.length ≤ 1000000000) :
    XCalls Tryz.prog G 6 [.im 1 (bytesV b)] h (fun o h' => o = .ret (.tu [.i .i64 (checkF b 0).1, .i .i64 (checkF b 0).2]) ∧ h' = h) := by
  refine enterK (rs := [.tmp 2, .tmp 3]) Tryz.func6 (by kernel_rfl) rfl rfl (by kernel_rfl) rfl (Nat.le_of_ble_eq_true rfl) (fun hbd => ?_)
  simp -implicitDefEqProofs only [XL, XM, TL, Option.isSome_some, Option.bind_some, Option.bind_none, Option.map_some, Option.map_none, Option.some.injEq, List.getElem?_cons_zero, List.getElem?_cons_succ, List.getElem?_toArray, List.toList_toArray, Nat.reduceEqDiff, if_true, if_false, ↓reduceIte, reduceCtorEq, Bool.false_eq_true, List.nil_append, List.append_nil, List.cons_append, Bool.or_self, Bool.or_true, Bool.or_false, Bool.true_or, Bool.false_or, Bool.and_true, Bool.true_and, Bool.not_true, Bool.not_false, Nat.reduceAdd, Nat.reduceMul, Nat.reduceSub, Nat.reduceLT, Nat.reduceLeDiff, Int.reduceToNat, List.all_cons, List.all_nil, List.map_cons, List.map_nil, List.set_cons_zero,  true_and, and_true, Int.natCast_nonneg, Int.le_refl, Nat.le_refl, Int.toNat_natCast, Nat.sub_zero,  List.drop_zero, List.drop_succ_cons, List.length_cons, List.length_nil,  List.set_cons_succ, and_self, decide_true, decide_false, Int.reduceLT, Int.reduceLE, Int.reduceEq, Int.reduceSub, Int.reduceAdd, Int.reduceMul, String.reduceEq, stK_eq, stV.eq_1, stR_some, stE_ag, stE_one, stE_whole]
  refine loopO [2, 3, 4, 5, 6, 7, 8, 9, 10, 11, 12, 13, 14, 15, 16, 17, 18, 19, 20, 21, 22, 23, 24, 25, 26, 27] (fun (i : Nat) a g => g = h ∧ a 4 = some (.i .i64 i) ∧ i ≤ b.length ∧ checkF b i = checkF b 0) (fun i => b.length - i) 0 ⟨rfl, rfl, Nat.zero_le _, rfl⟩ ?_
  rintro i a g hoff ⟨rfl, h4, hi, heq⟩
  (have e0' := hoff 0 rfl; simp only [XL, XM, Option.isSome_some, Option.bind_some, Option.bind_none, Option.map_some, Option.map_none, Option.some.injEq, List.getElem?_cons_zero, List.getElem?_cons_succ, List.getElem?_toArray, List.toList_toArray, Nat.reduceEqDiff, if_true, if_false, ↓reduceIte, reduceCtorEq, Bool.false_eq_true, List.nil_append, List.append_nil, List.cons_append, Bool.or_self, Bool.or_true, Bool.or_false, Bool.true_or, Bool.false_or, Bool.and_true, Bool.true_and, Bool.not_true, Bool.not_false, Nat.reduceAdd, Nat.reduceMul, Nat.reduceSub, Nat.reduceLT, Nat.reduceLeDiff, Int.reduceToNat, List.all_cons, List.all_nil, List.map_cons, List.map_nil, List.set_cons_zero,  true_and, and_true, Int.natCast_nonneg, Int.le_refl, Nat.le_refl, Int.toNat_natCast, Nat.sub_zero,  List.drop_zero, List.drop_succ_cons, List.length_cons, List.length_nil,  List.set_cons_succ, and_self, decide_true, decide_false, Int.reduceLT, Int.reduceLE, Int.reduceEq, Int.reduceSub, Int.reduceAdd, Int.reduceMul, String.reduceEq, stK_eq, stV.eq_1, stR_some, stE_ag, stE_one, stE_whole] at e0'; have e0 := e0'; clear e0')
  skip
  rw [← heq]
  simp -implicitDefEqProofs only [XL, XM, TL, Option.isSome_some, Option.bind_some, Option.bind_none, Option.map_some, Option.map_none, Option.some.injEq, List.getElem?_cons_zero, List.getElem?_cons_succ, List.getElem?_toArray, List.toList_toArray, Nat.reduceEqDiff, if_true, if_false, ↓reduceIte, reduceCtorEq, Bool.false_eq_true, List.nil_append, List.append_nil, List.cons_append, Bool.or_self, Bool.or_true, Bool.or_false, Bool.true_or, Bool.false_or, Bool.and_true, Bool.true_and, Bool.not_true, Bool.not_false, Nat.reduceAdd, Nat.reduceMul, Nat.reduceSub, Nat.reduceLT, Nat.reduceLeDiff, Int.reduceToNat, List.all_cons, List.all_nil, List.map_cons, List.map_nil, List.set_cons_zero,  true_and, and_true, Int.natCast_nonneg, Int.le_refl, Nat.le_refl, Int.toNat_natCast, Nat.sub_zero,  List.drop_zero, List.drop_succ_cons, List.length_cons, List.length_nil,  List.set_cons_succ, and_self, decide_true, decide_false, Int.reduceLT, Int.reduceLE, Int.reduceEq, Int.reduceSub, Int.reduceAdd, Int.reduceMul, String.reduceEq, stK_eq, stV.eq_1, stR_some, stE_ag, stE_one, stE_whole, e0, h4, bytesV_length]
  intro _
  refine BrK_intro (fun hb => ?_) (fun hb => ?_)
  · simp at hb
    have h2 : (0 : Int) ≤ (i : Int) ∧ (i : Int) ≤ (b.length : Int) := by omega
    simp -implicitDefEqProofs only [XL, XM, TL, Option.isSome_some, Option.bind_some, Option.bind_none, Option.map_some, Option.map_none, Option.some.injEq, List.getElem?_cons_zero, List.getElem?_cons_succ, List.getElem?_toArray, List.toList_toArray, Nat.reduceEqDiff, if_true, if_false, ↓reduceIte, reduceCtorEq, Bool.false_eq_true, List.nil_append, List.append_nil, List.cons_append, Bool.or_self, Bool.or_true, Bool.or_false, Bool.true_or, Bool.false_or, Bool.and_true, Bool.true_and, Bool.not_true, Bool.not_false, Nat.reduceAdd, Nat.reduceMul, Nat.reduceSub, Nat.reduceLT, Nat.reduceLeDiff, Int.reduceToNat, List.all_cons, List.all_nil, List.map_cons, List.map_nil, List.set_cons_zero,  true_and, and_true, Int.natCast_nonneg, Int.le_refl, Nat.le_refl, Int.toNat_natCast, Nat.sub_zero,  List.drop_zero, List.drop_succ_cons, List.length_cons, List.length_nil,  List.set_cons_succ, and_self, decide_true, decide_false, Int.reduceLT, Int.reduceLE, Int.reduceEq, Int.reduceSub, Int.reduceAdd, Int.reduceMul, String.reduceEq, stK_eq, stV.eq_1, stR_some, stE_ag, stE_one, stE_whole, e0, h4, bytesV_length, h2, bytesV_drop, drop_bytes]
    refine call_eq (decode_spec G hT g (b.drop i)) ?_
    rw [decG_drop b i hb]
    have hle := charF_le b i hb
    have hbad := charF_bad hb
    have hun : checkF b i = if h2 : (charF b i).1 = 0 then (2, i) else checkF b (i + (charF b i).1) := by rw [checkF, dif_pos hb]
    generalize charF b i = nv at *
    by_cases h0 : nv.1 = 0
    · rw [if_pos h0]; rw [dif_pos h0] at hun
      have chk_ : True ∧ True := by simp only [and_self, e0, h4]
      clear chk_
      repeat' (first | simp -implicitDefEqProofs only [XL, XM, TL, Option.isSome_some, Option.bind_some, Option.bind_none, Option.map_some, Option.map_none, Option.some.injEq, List.getElem?_cons_zero, List.getElem?_cons_succ, List.getElem?_toArray, List.toList_toArray, Nat.reduceEqDiff, if_true, if_false, ↓reduceIte, reduceCtorEq, Bool.false_eq_true, List.nil_append, List.append_nil, List.cons_append, Bool.or_self, Bool.or_true, Bool.or_false, Bool.true_or, Bool.false_or, Bool.and_true, Bool.true_and, Bool.not_true, Bool.not_false, Nat.reduceAdd, Nat.reduceMul, Nat.reduceSub, Nat.reduceLT, Nat.reduceLeDiff, Int.reduceToNat, List.all_cons, List.all_nil, List.map_cons, List.map_nil, List.set_cons_zero,  true_and, and_true, Int.natCast_nonneg, Int.le_refl, Nat.le_refl, Int.toNat_natCast, Nat.sub_zero,  List.drop_zero, List.drop_succ_cons, List.length_cons, List.length_nil,  List.set_cons_succ, and_self, decide_true, decide_false, Int.reduceLT, Int.reduceLE, Int.reduceEq, Int.reduceSub, Int.reduceAdd, Int.reduceMul, String.reduceEq, stK_eq, stV.eq_1, stR_some, stE_ag, stE_one, stE_whole, e0, h4] | simp (disch := omega) only [ifp, ifn, wrap_i64, wrap_u8, wrap_i32, wrap_u64, wrap_u32, Int.tdiv_eq_ediv_of_nonneg, Int.tmod_eq_emod_of_nonneg] | ((with_reducible refine BrK_intro (fun hwb => ?_) (fun hwb => ?_)) <;> (try rw [hwb]) <;> simp only [decide_eq_true_eq, decide_eq_false_iff_not, Bool.not_eq_true', Bool.not_eq_false', Bool.not_true, Bool.not_false] at hwb) | ((with_reducible refine gbK_intro (fun hwb => ?_) (fun hwb => ?_)) <;> (try rw [hwb]) <;> simp only [decide_eq_true_eq, decide_eq_false_iff_not, Bool.not_eq_true', Bool.not_eq_false', Bool.not_true, Bool.not_false] at hwb) | ((with_reducible refine qgb_intro (fun hwb => ?_) (fun hwb => ?_)) <;> (try rw [hwb]) <;> simp only [decide_eq_true_eq, decide_eq_false_iff_not, Bool.not_eq_true', Bool.not_eq_false', Bool.not_true, Bool.not_false] at hwb) | (with_reducible intro hl) | (with_reducible refine drawK_q (by kernel_rfl) (by kernel_rfl) ?_) )
      all_goals first
        | (exfalso; omega)
        | (refine RetK_pure (.refl _) ?_
           rw [hun]; rfl)
    · rw [if_neg h0]; rw [dif_neg h0] at hun
      have chk_ : True ∧ True := by simp only [and_self, e0, h4]
      clear chk_
      repeat' (first | simp -implicitDefEqProofs only [XL, XM, TL, Option.isSome_some, Option.bind_some, Option.bind_none, Option.map_some, Option.map_none, Option.some.injEq, List.getElem?_cons_zero, List.getElem?_cons_succ, List.getElem?_toArray, List.toList_toArray, Nat.reduceEqDiff, if_true, if_false, ↓reduceIte, reduceCtorEq, Bool.false_eq_true, List.nil_append, List.append_nil, List.cons_append, Bool.or_self, Bool.or_true, Bool.or_false, Bool.true_or, Bool.false_or, Bool.and_true, Bool.true_and, Bool.not_true, Bool.not_false, Nat.reduceAdd, Nat.reduceMul, Nat.reduceSub, Nat.reduceLT, Nat.reduceLeDiff, Int.reduceToNat, List.all_cons, List.all_nil, List.map_cons, List.map_nil, List.set_cons_zero,  true_and, and_true, Int.natCast_nonneg, Int.le_refl, Nat.le_refl, Int.toNat_natCast, Nat.sub_zero,  List.drop_zero, List.drop_succ_cons, List.length_cons, List.length_nil,  List.set_cons_succ, and_self, decide_true, decide_false, Int.reduceLT, Int.reduceLE, Int.reduceEq, Int.reduceSub, Int.reduceAdd, Int.reduceMul, String.reduceEq, stK_eq, stV.eq_1, stR_some, stE_ag, stE_one, stE_whole, e0, h4] | simp (disch := omega) only [ifp, ifn, wrap_i64, wrap_u8, wrap_i32, wrap_u64, wrap_u32, Int.tdiv_eq_ediv_of_nonneg, Int.tmod_eq_emod_of_nonneg] | ((with_reducible refine BrK_intro (fun hwb => ?_) (fun hwb => ?_)) <;> (try rw [hwb]) <;> simp only [decide_eq_true_eq, decide_eq_false_iff_not, Bool.not_eq_true', Bool.not_eq_false', Bool.not_true, Bool.not_false] at hwb) | ((with_reducible refine gbK_intro (fun hwb => ?_) (fun hwb => ?_)) <;> (try rw [hwb]) <;> simp only [decide_eq_true_eq, decide_eq_false_iff_not, Bool.not_eq_true', Bool.not_eq_false', Bool.not_true, Bool.not_false] at hwb) | ((with_reducible refine qgb_intro (fun hwb => ?_) (fun hwb => ?_)) <;> (try rw [hwb]) <;> simp only [decide_eq_true_eq, decide_eq_false_iff_not, Bool.not_eq_true', Bool.not_eq_false', Bool.not_true, Bool.not_false] at hwb) | (with_reducible intro hl) | (with_reducible refine drawK_q (by kernel_rfl) (by kernel_rfl) ?_) )
      all_goals first
        | (exfalso; have := hbad h0; omega)
        | (refine LO.mk (i + nv.1) (by omega) (by repeat (first | with_reducible exact hoff | with_reducible exact Off.refl _ _ | refine Off.upd ?_ rfl | refine Off.trans hoff ?_ rfl)) ⟨rfl, rfl, hle, hun.symm⟩)
  · simp at hb
    simp -implicitDefEqProofs only [XL, XM, TL, Option.isSome_some, Option.bind_some, Option.bind_none, Option.map_some, Option.map_none, Option.some.injEq, List.getElem?_cons_zero, List.getElem?_cons_succ, List.getElem?_toArray, List.toList_toArray, Nat.reduceEqDiff, if_true, if_false, ↓reduceIte, reduceCtorEq, Bool.false_eq_true, List.nil_append, List.append_nil, List.cons_append, Bool.or_self, Bool.or_true, Bool.or_false, Bool.true_or, Bool.false_or, Bool.and_true, Bool.true_and, Bool.not_true, Bool.not_false, Nat.reduceAdd, Nat.reduceMul, Nat.reduceSub, Nat.reduceLT, Nat.reduceLeDiff, Int.reduceToNat, List.all_cons, List.all_nil, List.map_cons, List.map_nil, List.set_cons_zero,  true_and, and_true, Int.natCast_nonneg, Int.le_refl, Nat.le_refl, Int.toNat_natCast, Nat.sub_zero,  List.drop_zero, List.drop_succ_cons, List.length_cons, List.length_nil,  List.set_cons_succ, and_self, decide_true, decide_false, Int.reduceLT, Int.reduceLE, Int.reduceEq, Int.reduceSub, Int.reduceAdd, Int.reduceMul, String.reduceEq, stK_eq, stV.eq_1, stR_some, stE_ag, stE_one, stE_whole, e0, h4]
    refine RetK_pure (.refl _) ?_
    rw [checkF, dif_neg (by omega)]; rfl

theorem wellFormed_spec (G : Gl) (hT : Tabs G) (h : H) (b : List UInt8) (hlen : b.length ≤ 1000000000) :
    XCalls Tryz.prog G 16 [.im 1 (bytesV b)] h (fun o h' => o = .ret (.b (decide ((checkF b 0).1 = 0))) ∧ h' = h) := by
  refine enterK (rs := [.tmp 2]) Tryz.func16 (by kernel_rfl) rfl rfl (by kernel_rfl) rfl (Nat.le_of_ble_eq_true rfl) (fun hbd => ?_)
  repeat' (first | simp -implicitDefEqProofs only [XL, XM, TL, Option.isSome_some, Option.bind_some, Option.bind_none, Option.map_some, Option.map_none, Option.some.injEq, List.getElem?_cons_zero, List.getElem?_cons_succ, List.getElem?_toArray, List.toList_toArray, Nat.reduceEqDiff, if_true, if_false, ↓reduceIte, reduceCtorEq, Bool.false_eq_true, List.nil_append, List.append_nil, List.cons_append, Bool.or_self, Bool.or_true, Bool.or_false, Bool.true_or, Bool.false_or, Bool.and_true, Bool.true_and, Bool.not_true, Bool.not_false, Nat.reduceAdd, Nat.reduceMul, Nat.reduceSub, Nat.reduceLT, Nat.reduceLeDiff, Int.reduceToNat, List.all_cons, List.all_nil, List.map_cons, List.map_nil, List.set_cons_zero,  true_and, and_true, Int.natCast_nonneg, Int.le_refl, Nat.le_refl, Int.toNat_natCast, Nat.sub_zero,  List.drop_zero, List.drop_succ_cons, List.length_cons, List.length_nil,  List.set_cons_succ, and_self, decide_true, decide_false, Int.reduceLT, Int.reduceLE, Int.reduceEq, Int.reduceSub, Int.reduceAdd, Int.reduceMul, String.reduceEq, stK_eq, stV.eq_1, stR_some, stE_ag, stE_one, stE_whole] | simp (disch := omega) only [ifp, ifn, wrap_i64, wrap_u8, wrap_i32, wrap_u64, wrap_u32, Int.tdiv_eq_ediv_of_nonneg, Int.tmod_eq_emod_of_nonneg] | ((with_reducible refine BrK_intro (fun hwb => ?_) (fun hwb => ?_)) <;> (try rw [hwb]) <;> simp only [decide_eq_true_eq, decide_eq_false_iff_not, Bool.not_eq_true', Bool.not_eq_false', Bool.not_true, Bool.not_false] at hwb) | ((with_reducible refine gbK_intro (fun hwb => ?_) (fun hwb => ?_)) <;> (try rw [hwb]) <;> simp only [decide_eq_true_eq, decide_eq_false_iff_not, Bool.not_eq_true', Bool.not_eq_false', Bool.not_true, Bool.not_false] at hwb) | ((with_reducible refine qgb_intro (fun hwb => ?_) (fun hwb => ?_)) <;> (try rw [hwb]) <;> simp only [decide_eq_true_eq, decide_eq_false_iff_not, Bool.not_eq_true', Bool.not_eq_false', Bool.not_true, Bool.not_false] at hwb) | (with_reducible intro hl) | (with_reducible refine drawK_q (by kernel_rfl) (by kernel_rfl) ?_) | (with_reducible refine call_eq (implCheck_spec G hT _ _ hlen) ?_))
  refine RetK_pure (.refl _) ?_
  congr 1
  rw [decide_eq_decide]; omega

def clsF (c : Nat) : Nat := if c = 32 ∨ c = 9 ∨ c = 13 ∨ c = 10 then 0 else if (65 ≤ c ∧ c ≤ 90) ∨ (97 ≤ c ∧ c ≤ 122) ∨ c = 95 then 1 else if 48 ≤ c ∧ c ≤ 57 then 2 else if c = 34 then 3 else 4
theorem classOf_spec (G : Gl) (h : H) (c : Nat) :
    XCalls Tryz.prog G 57 [.i .u8 c] h (fun o h' => o = .ret (.i .i64 (clsF c)) ∧ h' = h) := by
  refine enterK (rs := [.tmp 2]) Tryz.func57 (by kernel_rfl) rfl rfl (by kernel_rfl) rfl (Nat.le_of_ble_eq_true rfl) (fun hbd => ?_)
  repeat' (first | simp -implicitDefEqProofs only [XL, XM, TL, Option.isSome_some, Option.bind_some, Option.bind_none, Option.map_some, Option.map_none, Option.some.injEq, List.getElem?_cons_zero, List.getElem?_cons_succ, List.getElem?_toArray, List.toList_toArray, Nat.reduceEqDiff, if_true, if_false, ↓reduceIte, reduceCtorEq, Bool.false_eq_true, List.nil_append, List.append_nil, List.cons_append, Bool.or_self, Bool.or_true, Bool.or_false, Bool.true_or, Bool.false_or, Bool.and_true, Bool.true_and, Bool.not_true, Bool.not_false, Nat.reduceAdd, Nat.reduceMul, Nat.reduceSub, Nat.reduceLT, Nat.reduceLeDiff, Int.reduceToNat, List.all_cons, List.all_nil, List.map_cons, List.map_nil, List.set_cons_zero,  true_and, and_true, Int.natCast_nonneg, Int.le_refl, Nat.le_refl, Int.toNat_natCast, Nat.sub_zero,  List.drop_zero, List.drop_succ_cons, List.length_cons, List.length_nil,  List.set_cons_succ, and_self, decide_true, decide_false, Int.reduceLT, Int.reduceLE, Int.reduceEq, Int.reduceSub, Int.reduceAdd, Int.reduceMul, String.reduceEq, stK_eq, stV.eq_1, stR_some, stE_ag, stE_one, stE_whole] | simp (disch := omega) only [ifp, ifn, wrap_i64, wrap_u8, wrap_i32, wrap_u64, wrap_u32, Int.tdiv_eq_ediv_of_nonneg, Int.tmod_eq_emod_of_nonneg] | ((with_reducible refine BrK_intro (fun hwb => ?_) (fun hwb => ?_)) <;> (try rw [hwb]) <;> simp only [decide_eq_true_eq, decide_eq_false_iff_not, Bool.not_eq_true', Bool.not_eq_false', Bool.not_true, Bool.not_false] at hwb) | ((with_reducible refine gbK_intro (fun hwb => ?_) (fun hwb => ?_)) <;> (try rw [hwb]) <;> simp only [decide_eq_true_eq, decide_eq_false_iff_not, Bool.not_eq_true', Bool.not_eq_false', Bool.not_true, Bool.not_false] at hwb) | ((with_reducible refine qgb_intro (fun hwb => ?_) (fun hwb => ?_)) <;> (try rw [hwb]) <;> simp only [decide_eq_true_eq, decide_eq_false_iff_not, Bool.not_eq_true', Bool.not_eq_false', Bool.not_true, Bool.not_false] at hwb) | (with_reducible intro hl) | (with_reducible refine drawK_q (by kernel_rfl) (by kernel_rfl) ?_) )
  all_goals
    refine RetK_pure (.refl _) ?_
    unfold clsF
    (repeat' split) <;> first | rfl | (exfalso; omega)
end Go.X
end

section
open Go Go.Proofs
namespace Go.X
set_option linter.unusedSimpArgs false
set_option maxRecDepth 10000

theorem appendRuneNA_spec (G : Gl) (h2 h : H) (v : V) (l : List UInt8) (r : Nat) (hr : 0 ≤ (r : Int) ∧ (r : Int) ≤ 1114111 ∧ ((r : Int) < 55296 ∨ (r : Int) > 57343)) (h1 : 127 < r) (hll : l.length ≤ 4000000000) (hb : BufT 5 1 h2 h v (bytesV l)) :
    XCalls Tryz.prog G 51 [v, .i .i32 r] h (fun o h' => ∃ v', o = .ret v' ∧ BufT 5 1 h2 h' v' (bytesV (l ++ utf8V r))) := by
  have fin : ∀ (ys zs : List V) (id : Nat) (h' : H) (v' : V), h id = none → BufT 5 1 (h2.set id (.row 1 zs)) h' v' (bytesV l ++ ys) → ys = bytesV (utf8V r) →
      RetK (fun o h' => ∃ v', o = .ret v' ∧ BufT 5 1 h2 h' v' (bytesV (l ++ utf8V r))) v' h' := fun ys zs id h' v' hid hb1 he =>
    RetK_bufT hb1 (Sub.set_fresh (.refl _) (hb.toBuf.sub.no hid) _) (by rw [he]; simp [bytesV])
  have en : ∀ n : Nat, IntKind.u8.wrap (n : Int) = ((UInt8.ofNat n).toNat : Int) := by intro n; rw [u8mod]; simp
  have e6 : (r : Int).fdiv (2 ^ min 6 IntKind.i32.bits) = ((r / 64 : Nat) : Int) := by rw [shr_i32 6 (by omega)]; rfl
  have e12 : (r : Int).fdiv (2 ^ min 12 IntKind.i32.bits) = ((r / 4096 : Nat) : Int) := by rw [shr_i32 12 (by omega)]; rfl
  have e18 : (r : Int).fdiv (2 ^ min 18 IntKind.i32.bits) = ((r / 262144 : Nat) : Int) := by rw [shr_i32 18 (by omega)]; rfl
  refine enterK (rs := [.tmp 4]) Tryz.func51 (by kernel_rfl) rfl rfl (by kernel_rfl) rfl (Nat.le_of_ble_eq_true rfl) (fun hbd => ?_)
  have chk_ : True ∧ True := by simp only [and_self, conv_int, convV.eq_1]
  clear chk_
  repeat (first | simp -implicitDefEqProofs only [XL, XM, TL, Option.isSome_some, Option.bind_some, Option.bind_none, Option.map_some, Option.map_none, Option.some.injEq, List.getElem?_cons_zero, List.getElem?_cons_succ, List.getElem?_toArray, List.toList_toArray, Nat.reduceEqDiff, if_true, if_false, ↓reduceIte, reduceCtorEq, Bool.false_eq_true, List.nil_append, List.append_nil, List.cons_append, Bool.or_self, Bool.or_true, Bool.or_false, Bool.true_or, Bool.false_or, Bool.and_true, Bool.true_and, Bool.not_true, Bool.not_false, Nat.reduceAdd, Nat.reduceMul, Nat.reduceSub, Nat.reduceLT, Nat.reduceLeDiff, Int.reduceToNat, List.all_cons, List.all_nil, List.map_cons, List.map_nil, List.set_cons_zero,  true_and, and_true, Int.natCast_nonneg, Int.le_refl, Nat.le_refl, Int.toNat_natCast, Nat.sub_zero,  List.drop_zero, List.drop_succ_cons, List.length_cons, List.length_nil,  List.set_cons_succ, and_self, decide_true, decide_false, Int.reduceLT, Int.reduceLE, Int.reduceEq, Int.reduceSub, Int.reduceAdd, Int.reduceMul, String.reduceEq, stK_eq, stV.eq_1, stR_some, stE_ag, stE_one, stE_whole, conv_int, convV.eq_1] | simp (disch := omega) only [ifp, ifn, wrap_i64, wrap_u8, wrap_i32, wrap_u64, wrap_u32, Int.tdiv_eq_ediv_of_nonneg, Int.tmod_eq_emod_of_nonneg])
  skip
  have chk_ : True ∧ True := by simp only [and_self, e6, e12, e18, conv_int, convV.eq_1]
  clear chk_
  repeat' (first | simp -implicitDefEqProofs only [XL, XM, TL, Option.isSome_some, Option.bind_some, Option.bind_none, Option.map_some, Option.map_none, Option.some.injEq, List.getElem?_cons_zero, List.getElem?_cons_succ, List.getElem?_toArray, List.toList_toArray, Nat.reduceEqDiff, if_true, if_false, ↓reduceIte, reduceCtorEq, Bool.false_eq_true, List.nil_append, List.append_nil, List.cons_append, Bool.or_self, Bool.or_true, Bool.or_false, Bool.true_or, Bool.false_or, Bool.and_true, Bool.true_and, Bool.not_true, Bool.not_false, Nat.reduceAdd, Nat.reduceMul, Nat.reduceSub, Nat.reduceLT, Nat.reduceLeDiff, Int.reduceToNat, List.all_cons, List.all_nil, List.map_cons, List.map_nil, List.set_cons_zero,  true_and, and_true, Int.natCast_nonneg, Int.le_refl, Nat.le_refl, Int.toNat_natCast, Nat.sub_zero,  List.drop_zero, List.drop_succ_cons, List.length_cons, List.length_nil,  List.set_cons_succ, and_self, decide_true, decide_false, Int.reduceLT, Int.reduceLE, Int.reduceEq, Int.reduceSub, Int.reduceAdd, Int.reduceMul, String.reduceEq, stK_eq, stV.eq_1, stR_some, stE_ag, stE_one, stE_whole, e6, e12, e18, conv_int, convV.eq_1] | simp (disch := omega) only [ifp, ifn, wrap_i64, wrap_u8, wrap_i32, wrap_u64, wrap_u32, Int.tdiv_eq_ediv_of_nonneg, Int.tmod_eq_emod_of_nonneg] | ((with_reducible refine BrK_intro (fun hwb => ?_) (fun hwb => ?_)) <;> (try rw [hwb]) <;> simp only [decide_eq_true_eq, decide_eq_false_iff_not, Bool.not_eq_true', Bool.not_eq_false', Bool.not_true, Bool.not_false] at hwb) | ((with_reducible refine gbK_intro (fun hwb => ?_) (fun hwb => ?_)) <;> (try rw [hwb]) <;> simp only [decide_eq_true_eq, decide_eq_false_iff_not, Bool.not_eq_true', Bool.not_eq_false', Bool.not_true, Bool.not_false] at hwb) | ((with_reducible refine qgb_intro (fun hwb => ?_) (fun hwb => ?_)) <;> (try rw [hwb]) <;> simp only [decide_eq_true_eq, decide_eq_false_iff_not, Bool.not_eq_true', Bool.not_eq_false', Bool.not_true, Bool.not_false] at hwb) | (with_reducible intro hl) | (with_reducible refine drawK_q (by kernel_rfl) (by kernel_rfl) ?_) )
  all_goals first | (exfalso; omega) | skip
  all_goals
    refine bslK_intro (by simp -implicitDefEqProofs only [XL, XM, TL, Option.isSome_some, Option.bind_some, Option.bind_none, Option.map_some, Option.map_none, Option.some.injEq, List.getElem?_cons_zero, List.getElem?_cons_succ, List.getElem?_toArray, List.toList_toArray, Nat.reduceEqDiff, if_true, if_false, ↓reduceIte, reduceCtorEq, Bool.false_eq_true, List.nil_append, List.append_nil, List.cons_append, Bool.or_self, Bool.or_true, Bool.or_false, Bool.true_or, Bool.false_or, Bool.and_true, Bool.true_and, Bool.not_true, Bool.not_false, Nat.reduceAdd, Nat.reduceMul, Nat.reduceSub, Nat.reduceLT, Nat.reduceLeDiff, Int.reduceToNat, List.all_cons, List.all_nil, List.map_cons, List.map_nil, List.set_cons_zero,  true_and, and_true, Int.natCast_nonneg, Int.le_refl, Nat.le_refl, Int.toNat_natCast, Nat.sub_zero,  List.drop_zero, List.drop_succ_cons, List.length_cons, List.length_nil,  List.set_cons_succ, and_self, decide_true, decide_false, Int.reduceLT, Int.reduceLE, Int.reduceEq, Int.reduceSub, Int.reduceAdd, Int.reduceMul, String.reduceEq, stK_eq, stV.eq_1, stR_some, stE_ag, stE_one, stE_whole, e6, e12, e18]; rfl) rfl (by simp [V.fits, V.cells]) (by simp) (fun id hid => ?_)
    simp -implicitDefEqProofs only [XL, XM, TL, Option.isSome_some, Option.bind_some, Option.bind_none, Option.map_some, Option.map_none, Option.some.injEq, List.getElem?_cons_zero, List.getElem?_cons_succ, List.getElem?_toArray, List.toList_toArray, Nat.reduceEqDiff, if_true, if_false, ↓reduceIte, reduceCtorEq, Bool.false_eq_true, List.nil_append, List.append_nil, List.cons_append, Bool.or_self, Bool.or_true, Bool.or_false, Bool.true_or, Bool.false_or, Bool.and_true, Bool.true_and, Bool.not_true, Bool.not_false, Nat.reduceAdd, Nat.reduceMul, Nat.reduceSub, Nat.reduceLT, Nat.reduceLeDiff, Int.reduceToNat, List.all_cons, List.all_nil, List.map_cons, List.map_nil, List.set_cons_zero,  true_and, and_true, Int.natCast_nonneg, Int.le_refl, Nat.le_refl, Int.toNat_natCast, Nat.sub_zero,  List.drop_zero, List.drop_succ_cons, List.length_cons, List.length_nil,  List.set_cons_succ, and_self, decide_true, decide_false, Int.reduceLT, Int.reduceLE, Int.reduceEq, Int.reduceSub, Int.reduceAdd, Int.reduceMul, String.reduceEq, stK_eq, stV.eq_1, stR_some, stE_ag, stE_one, stE_whole, e6, e12, e18]
    refine appK_bufT (ys := bytesV (utf8V r)) (hb.fresh hid _) (by simp -implicitDefEqProofs only [XL, XM, TL, Option.isSome_some, Option.bind_some, Option.bind_none, Option.map_some, Option.map_none, Option.some.injEq, List.getElem?_cons_zero, List.getElem?_cons_succ, List.getElem?_toArray, List.toList_toArray, Nat.reduceEqDiff, if_true, if_false, ↓reduceIte, reduceCtorEq, Bool.false_eq_true, List.nil_append, List.append_nil, List.cons_append, Bool.or_self, Bool.or_true, Bool.or_false, Bool.true_or, Bool.false_or, Bool.and_true, Bool.true_and, Bool.not_true, Bool.not_false, Nat.reduceAdd, Nat.reduceMul, Nat.reduceSub, Nat.reduceLT, Nat.reduceLeDiff, Int.reduceToNat, List.all_cons, List.all_nil, List.map_cons, List.map_nil, List.set_cons_zero,  true_and, and_true, Int.natCast_nonneg, Int.le_refl, Nat.le_refl, Int.toNat_natCast, Nat.sub_zero,  List.drop_zero, List.drop_succ_cons, List.length_cons, List.length_nil,  List.set_cons_succ, and_self, decide_true, decide_false, Int.reduceLT, Int.reduceLE, Int.reduceEq, Int.reduceSub, Int.reduceAdd, Int.reduceMul, String.reduceEq, stK_eq, stV.eq_1, stR_some, stE_ag, stE_one, stE_whole, e6, e12, e18]; rfl) ?_ (by simp -implicitDefEqProofs only [XL, XM, TL, Option.isSome_some, Option.bind_some, Option.bind_none, Option.map_some, Option.map_none, Option.some.injEq, List.getElem?_cons_zero, List.getElem?_cons_succ, List.getElem?_toArray, List.toList_toArray, Nat.reduceEqDiff, if_true, if_false, ↓reduceIte, reduceCtorEq, Bool.false_eq_true, List.nil_append, List.append_nil, List.cons_append, Bool.or_self, Bool.or_true, Bool.or_false, Bool.true_or, Bool.false_or, Bool.and_true, Bool.true_and, Bool.not_true, Bool.not_false, Nat.reduceAdd, Nat.reduceMul, Nat.reduceSub, Nat.reduceLT, Nat.reduceLeDiff, Int.reduceToNat, List.all_cons, List.all_nil, List.map_cons, List.map_nil, List.set_cons_zero,  true_and, and_true, Int.natCast_nonneg, Int.le_refl, Nat.le_refl, Int.toNat_natCast, Nat.sub_zero,  List.drop_zero, List.drop_succ_cons, List.length_cons, List.length_nil,  List.set_cons_succ, and_self, decide_true, decide_false, Int.reduceLT, Int.reduceLE, Int.reduceEq, Int.reduceSub, Int.reduceAdd, Int.reduceMul, String.reduceEq, stK_eq, stV.eq_1, stR_some, stE_ag, stE_one, stE_whole, e6, e12, e18]) (by decide) (by rw [bytesV_length, bytesV_length]; unfold utf8V; split <;> (try split) <;> (try split) <;> simp <;> omega) (fun v1 h1 hb1 => ?_)
    rotate_left
    simp -implicitDefEqProofs only [XL, XM, TL, Option.isSome_some, Option.bind_some, Option.bind_none, Option.map_some, Option.map_none, Option.some.injEq, List.getElem?_cons_zero, List.getElem?_cons_succ, List.getElem?_toArray, List.toList_toArray, Nat.reduceEqDiff, if_true, if_false, ↓reduceIte, reduceCtorEq, Bool.false_eq_true, List.nil_append, List.append_nil, List.cons_append, Bool.or_self, Bool.or_true, Bool.or_false, Bool.true_or, Bool.false_or, Bool.and_true, Bool.true_and, Bool.not_true, Bool.not_false, Nat.reduceAdd, Nat.reduceMul, Nat.reduceSub, Nat.reduceLT, Nat.reduceLeDiff, Int.reduceToNat, List.all_cons, List.all_nil, List.map_cons, List.map_nil, List.set_cons_zero,  true_and, and_true, Int.natCast_nonneg, Int.le_refl, Nat.le_refl, Int.toNat_natCast, Nat.sub_zero,  List.drop_zero, List.drop_succ_cons, List.length_cons, List.length_nil,  List.set_cons_succ, and_self, decide_true, decide_false, Int.reduceLT, Int.reduceLE, Int.reduceEq, Int.reduceSub, Int.reduceAdd, Int.reduceMul, String.reduceEq, stK_eq, stV.eq_1, stR_some, stE_ag, stE_one, stE_whole, e6, e12, e18]
    exact fin _ _ id _ _ hid hb1 rfl
    simp only [srcV, set_eq, if_true, List.map_cons, List.map_nil, List.length_cons, List.length_nil, Nat.reduceAdd, Nat.le_refl, and_self, List.drop_zero, List.take_succ_cons, List.take_zero]
    unfold utf8V
    repeat' (first | rw [if_pos (by omega)] | rw [if_neg (by omega)])
    simp (disch := omega) only [u8mod, and63, or128, or192, or224, or240]
    simp [bytesV, bV]
    try omega

theorem appendRune_spec (G : Gl) (h2 h : H) (v : V) (l : List UInt8) (r : Nat) (hr : isPoint r = true) (hll : l.length ≤ 4000000000) (hb : BufT 5 1 h2 h v (bytesV l)) :
    XCalls Tryz.prog G 35 [v, .i .i32 r] h (fun o h' => ∃ v', o = .ret v' ∧ BufT 5 1 h2 h' v' (bytesV (l ++ utf8V r))) := by
  simp only [isPoint, decide_eq_true_eq] at hr
  refine enterK (rs := [.tmp 4]) Tryz.func35 (by kernel_rfl) rfl rfl (by kernel_rfl) rfl (Nat.le_of_ble_eq_true rfl) (fun hbd => ?_)
  have chk_ : True ∧ True := by simp only [and_self, conv_int, convV.eq_1]
  clear chk_
  repeat (first | simp -implicitDefEqProofs only [XL, XM, TL, Option.isSome_some, Option.bind_some, Option.bind_none, Option.map_some, Option.map_none, Option.some.injEq, List.getElem?_cons_zero, List.getElem?_cons_succ, List.getElem?_toArray, List.toList_toArray, Nat.reduceEqDiff, if_true, if_false, ↓reduceIte, reduceCtorEq, Bool.false_eq_true, List.nil_append, List.append_nil, List.cons_append, Bool.or_self, Bool.or_true, Bool.or_false, Bool.true_or, Bool.false_or, Bool.and_true, Bool.true_and, Bool.not_true, Bool.not_false, Nat.reduceAdd, Nat.reduceMul, Nat.reduceSub, Nat.reduceLT, Nat.reduceLeDiff, Int.reduceToNat, List.all_cons, List.all_nil, List.map_cons, List.map_nil, List.set_cons_zero,  true_and, and_true, Int.natCast_nonneg, Int.le_refl, Nat.le_refl, Int.toNat_natCast, Nat.sub_zero,  List.drop_zero, List.drop_succ_cons, List.length_cons, List.length_nil,  List.set_cons_succ, and_self, decide_true, decide_false, Int.reduceLT, Int.reduceLE, Int.reduceEq, Int.reduceSub, Int.reduceAdd, Int.reduceMul, String.reduceEq, stK_eq, stV.eq_1, stR_some, stE_ag, stE_one, stE_whole, conv_int, convV.eq_1] | simp (disch := omega) only [ifp, ifn, wrap_i64, wrap_u8, wrap_i32, wrap_u64, wrap_u32, Int.tdiv_eq_ediv_of_nonneg, Int.tmod_eq_emod_of_nonneg])
  refine BrK_intro (fun hc => ?_) (fun hc => ?_)
  · simp at hc
    have chk_ : True ∧ True := by simp only [and_self, conv_int, convV.eq_1]
    clear chk_
    repeat (first | simp -implicitDefEqProofs only [XL, XM, TL, Option.isSome_some, Option.bind_some, Option.bind_none, Option.map_some, Option.map_none, Option.some.injEq, List.getElem?_cons_zero, List.getElem?_cons_succ, List.getElem?_toArray, List.toList_toArray, Nat.reduceEqDiff, if_true, if_false, ↓reduceIte, reduceCtorEq, Bool.false_eq_true, List.nil_append, List.append_nil, List.cons_append, Bool.or_self, Bool.or_true, Bool.or_false, Bool.true_or, Bool.false_or, Bool.and_true, Bool.true_and, Bool.not_true, Bool.not_false, Nat.reduceAdd, Nat.reduceMul, Nat.reduceSub, Nat.reduceLT, Nat.reduceLeDiff, Int.reduceToNat, List.all_cons, List.all_nil, List.map_cons, List.map_nil, List.set_cons_zero,  true_and, and_true, Int.natCast_nonneg, Int.le_refl, Nat.le_refl, Int.toNat_natCast, Nat.sub_zero,  List.drop_zero, List.drop_succ_cons, List.length_cons, List.length_nil,  List.set_cons_succ, and_self, decide_true, decide_false, Int.reduceLT, Int.reduceLE, Int.reduceEq, Int.reduceSub, Int.reduceAdd, Int.reduceMul, String.reduceEq, stK_eq, stV.eq_1, stR_some, stE_ag, stE_one, stE_whole, conv_int, convV.eq_1] | simp (disch := omega) only [ifp, ifn, wrap_i64, wrap_u8, wrap_i32, wrap_u64, wrap_u32, Int.tdiv_eq_ediv_of_nonneg, Int.tmod_eq_emod_of_nonneg])
    refine bslK_intro (by simp -implicitDefEqProofs only [XL, XM, TL, Option.isSome_some, Option.bind_some, Option.bind_none, Option.map_some, Option.map_none, Option.some.injEq, List.getElem?_cons_zero, List.getElem?_cons_succ, List.getElem?_toArray, List.toList_toArray, Nat.reduceEqDiff, if_true, if_false, ↓reduceIte, reduceCtorEq, Bool.false_eq_true, List.nil_append, List.append_nil, List.cons_append, Bool.or_self, Bool.or_true, Bool.or_false, Bool.true_or, Bool.false_or, Bool.and_true, Bool.true_and, Bool.not_true, Bool.not_false, Nat.reduceAdd, Nat.reduceMul, Nat.reduceSub, Nat.reduceLT, Nat.reduceLeDiff, Int.reduceToNat, List.all_cons, List.all_nil, List.map_cons, List.map_nil, List.set_cons_zero,  true_and, and_true, Int.natCast_nonneg, Int.le_refl, Nat.le_refl, Int.toNat_natCast, Nat.sub_zero,  List.drop_zero, List.drop_succ_cons, List.length_cons, List.length_nil,  List.set_cons_succ, and_self, decide_true, decide_false, Int.reduceLT, Int.reduceLE, Int.reduceEq, Int.reduceSub, Int.reduceAdd, Int.reduceMul, String.reduceEq, stK_eq, stV.eq_1, stR_some, stE_ag, stE_one, stE_whole]; rfl) rfl (by simp [V.fits, V.cells]) (by simp) (fun id hid => ?_)
    repeat (first | simp -implicitDefEqProofs only [XL, XM, TL, Option.isSome_some, Option.bind_some, Option.bind_none, Option.map_some, Option.map_none, Option.some.injEq, List.getElem?_cons_zero, List.getElem?_cons_succ, List.getElem?_toArray, List.toList_toArray, Nat.reduceEqDiff, if_true, if_false, ↓reduceIte, reduceCtorEq, Bool.false_eq_true, List.nil_append, List.append_nil, List.cons_append, Bool.or_self, Bool.or_true, Bool.or_false, Bool.true_or, Bool.false_or, Bool.and_true, Bool.true_and, Bool.not_true, Bool.not_false, Nat.reduceAdd, Nat.reduceMul, Nat.reduceSub, Nat.reduceLT, Nat.reduceLeDiff, Int.reduceToNat, List.all_cons, List.all_nil, List.map_cons, List.map_nil, List.set_cons_zero,  true_and, and_true, Int.natCast_nonneg, Int.le_refl, Nat.le_refl, Int.toNat_natCast, Nat.sub_zero,  List.drop_zero, List.drop_succ_cons, List.length_cons, List.length_nil,  List.set_cons_succ, and_self, decide_true, decide_false, Int.reduceLT, Int.reduceLE, Int.reduceEq, Int.reduceSub, Int.reduceAdd, Int.reduceMul, String.reduceEq, stK_eq, stV.eq_1, stR_some, stE_ag, stE_one, stE_whole] | simp (disch := omega) only [ifp, ifn, wrap_i64, wrap_u8, wrap_i32, wrap_u64, wrap_u32, Int.tdiv_eq_ediv_of_nonneg, Int.tmod_eq_emod_of_nonneg])
    refine appK_bufT (ys := [.i .u8 r]) (hb.fresh hid _) (by simp -implicitDefEqProofs only [XL, XM, TL, Option.isSome_some, Option.bind_some, Option.bind_none, Option.map_some, Option.map_none, Option.some.injEq, List.getElem?_cons_zero, List.getElem?_cons_succ, List.getElem?_toArray, List.toList_toArray, Nat.reduceEqDiff, if_true, if_false, ↓reduceIte, reduceCtorEq, Bool.false_eq_true, List.nil_append, List.append_nil, List.cons_append, Bool.or_self, Bool.or_true, Bool.or_false, Bool.true_or, Bool.false_or, Bool.and_true, Bool.true_and, Bool.not_true, Bool.not_false, Nat.reduceAdd, Nat.reduceMul, Nat.reduceSub, Nat.reduceLT, Nat.reduceLeDiff, Int.reduceToNat, List.all_cons, List.all_nil, List.map_cons, List.map_nil, List.set_cons_zero,  true_and, and_true, Int.natCast_nonneg, Int.le_refl, Nat.le_refl, Int.toNat_natCast, Nat.sub_zero,  List.drop_zero, List.drop_succ_cons, List.length_cons, List.length_nil,  List.set_cons_succ, and_self, decide_true, decide_false, Int.reduceLT, Int.reduceLE, Int.reduceEq, Int.reduceSub, Int.reduceAdd, Int.reduceMul, String.reduceEq, stK_eq, stV.eq_1, stR_some, stE_ag, stE_one, stE_whole]; rfl) (by simp [srcV, set_eq]) (by simp -implicitDefEqProofs only [XL, XM, TL, Option.isSome_some, Option.bind_some, Option.bind_none, Option.map_some, Option.map_none, Option.some.injEq, List.getElem?_cons_zero, List.getElem?_cons_succ, List.getElem?_toArray, List.toList_toArray, Nat.reduceEqDiff, if_true, if_false, ↓reduceIte, reduceCtorEq, Bool.false_eq_true, List.nil_append, List.append_nil, List.cons_append, Bool.or_self, Bool.or_true, Bool.or_false, Bool.true_or, Bool.false_or, Bool.and_true, Bool.true_and, Bool.not_true, Bool.not_false, Nat.reduceAdd, Nat.reduceMul, Nat.reduceSub, Nat.reduceLT, Nat.reduceLeDiff, Int.reduceToNat, List.all_cons, List.all_nil, List.map_cons, List.map_nil, List.set_cons_zero,  true_and, and_true, Int.natCast_nonneg, Int.le_refl, Nat.le_refl, Int.toNat_natCast, Nat.sub_zero,  List.drop_zero, List.drop_succ_cons, List.length_cons, List.length_nil,  List.set_cons_succ, and_self, decide_true, decide_false, Int.reduceLT, Int.reduceLE, Int.reduceEq, Int.reduceSub, Int.reduceAdd, Int.reduceMul, String.reduceEq, stK_eq, stV.eq_1, stR_some, stE_ag, stE_one, stE_whole]) (by decide) (by rw [bytesV_length]; simp; omega) (fun v1 h1 hb1 => ?_)
    simp -implicitDefEqProofs only [XL, XM, TL, Option.isSome_some, Option.bind_some, Option.bind_none, Option.map_some, Option.map_none, Option.some.injEq, List.getElem?_cons_zero, List.getElem?_cons_succ, List.getElem?_toArray, List.toList_toArray, Nat.reduceEqDiff, if_true, if_false, ↓reduceIte, reduceCtorEq, Bool.false_eq_true, List.nil_append, List.append_nil, List.cons_append, Bool.or_self, Bool.or_true, Bool.or_false, Bool.true_or, Bool.false_or, Bool.and_true, Bool.true_and, Bool.not_true, Bool.not_false, Nat.reduceAdd, Nat.reduceMul, Nat.reduceSub, Nat.reduceLT, Nat.reduceLeDiff, Int.reduceToNat, List.all_cons, List.all_nil, List.map_cons, List.map_nil, List.set_cons_zero,  true_and, and_true, Int.natCast_nonneg, Int.le_refl, Nat.le_refl, Int.toNat_natCast, Nat.sub_zero,  List.drop_zero, List.drop_succ_cons, List.length_cons, List.length_nil,  List.set_cons_succ, and_self, decide_true, decide_false, Int.reduceLT, Int.reduceLE, Int.reduceEq, Int.reduceSub, Int.reduceAdd, Int.reduceMul, String.reduceEq, stK_eq, stV.eq_1, stR_some, stE_ag, stE_one, stE_whole]
    refine RetK_bufT hb1 (Sub.set_fresh (.refl _) (hb.toBuf.sub.no hid) _) ?_
    simp only [utf8V, if_pos (show r < 128 by omega)]
    simp [bytesV, bV]; omega
  · simp at hc
    repeat (first | simp -implicitDefEqProofs only [XL, XM, TL, Option.isSome_some, Option.bind_some, Option.bind_none, Option.map_some, Option.map_none, Option.some.injEq, List.getElem?_cons_zero, List.getElem?_cons_succ, List.getElem?_toArray, List.toList_toArray, Nat.reduceEqDiff, if_true, if_false, ↓reduceIte, reduceCtorEq, Bool.false_eq_true, List.nil_append, List.append_nil, List.cons_append, Bool.or_self, Bool.or_true, Bool.or_false, Bool.true_or, Bool.false_or, Bool.and_true, Bool.true_and, Bool.not_true, Bool.not_false, Nat.reduceAdd, Nat.reduceMul, Nat.reduceSub, Nat.reduceLT, Nat.reduceLeDiff, Int.reduceToNat, List.all_cons, List.all_nil, List.map_cons, List.map_nil, List.set_cons_zero,  true_and, and_true, Int.natCast_nonneg, Int.le_refl, Nat.le_refl, Int.toNat_natCast, Nat.sub_zero,  List.drop_zero, List.drop_succ_cons, List.length_cons, List.length_nil,  List.set_cons_succ, and_self, decide_true, decide_false, Int.reduceLT, Int.reduceLE, Int.reduceEq, Int.reduceSub, Int.reduceAdd, Int.reduceMul, String.reduceEq, stK_eq, stV.eq_1, stR_some, stE_ag, stE_one, stE_whole] | simp (disch := omega) only [ifp, ifn, wrap_i64, wrap_u8, wrap_i32, wrap_u64, wrap_u32, Int.tdiv_eq_ediv_of_nonneg, Int.tmod_eq_emod_of_nonneg])
    refine call_q (appendRuneNA_spec G h2 h v l r hr (by omega) hll hb) (fun v' h' hb' => ?_)
    simp -implicitDefEqProofs only [XL, XM, TL, Option.isSome_some, Option.bind_some, Option.bind_none, Option.map_some, Option.map_none, Option.some.injEq, List.getElem?_cons_zero, List.getElem?_cons_succ, List.getElem?_toArray, List.toList_toArray, Nat.reduceEqDiff, if_true, if_false, ↓reduceIte, reduceCtorEq, Bool.false_eq_true, List.nil_append, List.append_nil, List.cons_append, Bool.or_self, Bool.or_true, Bool.or_false, Bool.true_or, Bool.false_or, Bool.and_true, Bool.true_and, Bool.not_true, Bool.not_false, Nat.reduceAdd, Nat.reduceMul, Nat.reduceSub, Nat.reduceLT, Nat.reduceLeDiff, Int.reduceToNat, List.all_cons, List.all_nil, List.map_cons, List.map_nil, List.set_cons_zero,  true_and, and_true, Int.natCast_nonneg, Int.le_refl, Nat.le_refl, Int.toNat_natCast, Nat.sub_zero,  List.drop_zero, List.drop_succ_cons, List.length_cons, List.length_nil,  List.set_cons_succ, and_self, decide_true, decide_false, Int.reduceLT, Int.reduceLE, Int.reduceEq, Int.reduceSub, Int.reduceAdd, Int.reduceMul, String.reduceEq, stK_eq, stV.eq_1, stR_some, stE_ag, stE_one, stE_whole]
    exact RetK_q hb'
end Go.X
end

section
open Go Go.Proofs
namespace Go.X
set_option linter.unusedSimpArgs false
set_option maxRecDepth 10000

theorem noEscape_spec (G : Gl) (h : H) (v : V) : XCalls Tryz.prog G 46 [v] h (fun o h' => o = .ret v ∧ h' = h) := by
  intro μ I w rargs r hv
  cases hv with
  | cons _ rv _ _ hv0 hv =>
    cases hv
    refine .inr ⟨rv, w, ?_, ⟨_, h, μ, I, ⟨rfl, rfl⟩, .refl _ _ _, r, hv0⟩⟩
    rw [run_callFunc_extern Tryz.func46 (by kernel_rfl) (by kernel_rfl) (by kernel_rfl) (e := Extern.AbiNoEscape.same) (by kernel_rfl)]
    rw [Lib.run_noEscape]
    rfl

theorem copyCheck_spec (G : Gl) (h : H) (id : Nat) (p v : V) (hid : h id = some (.row 2 [.ag [p, v]])) (hty : tyOf id = 41) (hp : p = .pnil ∨ p = .ptr id 0 0) :
    XCalls Tryz.prog G 33 [.ptr id 0 0] h (fun o h' => o = .ret (.tu []) ∧ h' = h.set id (.row 2 [.ag [.ptr id 0 0, v]])) := by
  have hi : (Tryz.prog.info? 41).isSome = true := by kernel_rfl
  rcases hp with rfl | rfl
  · refine enterK (rs := []) Tryz.func33 (by kernel_rfl) rfl rfl (by kernel_rfl) rfl (Nat.le_of_ble_eq_true rfl) (fun hbd => ?_)
    simp -implicitDefEqProofs only [XL, XM, TL, Option.isSome_some, Option.bind_some, Option.bind_none, Option.map_some, Option.map_none, Option.some.injEq, List.getElem?_cons_zero, List.getElem?_cons_succ, List.getElem?_toArray, List.toList_toArray, Nat.reduceEqDiff, if_true, if_false, ↓reduceIte, reduceCtorEq, Bool.false_eq_true, List.nil_append, List.append_nil, List.cons_append, Bool.or_self, Bool.or_true, Bool.or_false, Bool.true_or, Bool.false_or, Bool.and_true, Bool.true_and, Bool.not_true, Bool.not_false, Nat.reduceAdd, Nat.reduceMul, Nat.reduceSub, Nat.reduceLT, Nat.reduceLeDiff, Int.reduceToNat, List.all_cons, List.all_nil, List.map_cons, List.map_nil, List.set_cons_zero,  true_and, and_true, Int.natCast_nonneg, Int.le_refl, Nat.le_refl, Int.toNat_natCast, Nat.sub_zero,  List.drop_zero, List.drop_succ_cons, List.length_cons, List.length_nil,  List.set_cons_succ, and_self, decide_true, decide_false, Int.reduceLT, Int.reduceLE, Int.reduceEq, Int.reduceSub, Int.reduceAdd, Int.reduceMul, String.reduceEq, stK_eq, stV.eq_1, stR_some, stE_ag, stE_one, stE_whole, hid]
    refine conv_ptr hid (by simp) (by simp) (by rw [hty]; kernel_rfl) ?_
    simp -implicitDefEqProofs only [XL, XM, TL, Option.isSome_some, Option.bind_some, Option.bind_none, Option.map_some, Option.map_none, Option.some.injEq, List.getElem?_cons_zero, List.getElem?_cons_succ, List.getElem?_toArray, List.toList_toArray, Nat.reduceEqDiff, if_true, if_false, ↓reduceIte, reduceCtorEq, Bool.false_eq_true, List.nil_append, List.append_nil, List.cons_append, Bool.or_self, Bool.or_true, Bool.or_false, Bool.true_or, Bool.false_or, Bool.and_true, Bool.true_and, Bool.not_true, Bool.not_false, Nat.reduceAdd, Nat.reduceMul, Nat.reduceSub, Nat.reduceLT, Nat.reduceLeDiff, Int.reduceToNat, List.all_cons, List.all_nil, List.map_cons, List.map_nil, List.set_cons_zero,  true_and, and_true, Int.natCast_nonneg, Int.le_refl, Nat.le_refl, Int.toNat_natCast, Nat.sub_zero,  List.drop_zero, List.drop_succ_cons, List.length_cons, List.length_nil,  List.set_cons_succ, and_self, decide_true, decide_false, Int.reduceLT, Int.reduceLE, Int.reduceEq, Int.reduceSub, Int.reduceAdd, Int.reduceMul, String.reduceEq, stK_eq, stV.eq_1, stR_some, stE_ag, stE_one, stE_whole, hid]
    refine call_eq (noEscape_spec G h _) ?_
    simp -implicitDefEqProofs only [XL, XM, TL, Option.isSome_some, Option.bind_some, Option.bind_none, Option.map_some, Option.map_none, Option.some.injEq, List.getElem?_cons_zero, List.getElem?_cons_succ, List.getElem?_toArray, List.toList_toArray, Nat.reduceEqDiff, if_true, if_false, ↓reduceIte, reduceCtorEq, Bool.false_eq_true, List.nil_append, List.append_nil, List.cons_append, Bool.or_self, Bool.or_true, Bool.or_false, Bool.true_or, Bool.false_or, Bool.and_true, Bool.true_and, Bool.not_true, Bool.not_false, Nat.reduceAdd, Nat.reduceMul, Nat.reduceSub, Nat.reduceLT, Nat.reduceLeDiff, Int.reduceToNat, List.all_cons, List.all_nil, List.map_cons, List.map_nil, List.set_cons_zero,  true_and, and_true, Int.natCast_nonneg, Int.le_refl, Nat.le_refl, Int.toNat_natCast, Nat.sub_zero,  List.drop_zero, List.drop_succ_cons, List.length_cons, List.length_nil,  List.set_cons_succ, and_self, decide_true, decide_false, Int.reduceLT, Int.reduceLE, Int.reduceEq, Int.reduceSub, Int.reduceAdd, Int.reduceMul, String.reduceEq, stK_eq, stV.eq_1, stR_some, stE_ag, stE_one, stE_whole, hid]
    refine conv_ptr hid (by simp) (by simp) (by rw [hty]; kernel_rfl) ?_
    simp -implicitDefEqProofs only [XL, XM, TL, Option.isSome_some, Option.bind_some, Option.bind_none, Option.map_some, Option.map_none, Option.some.injEq, List.getElem?_cons_zero, List.getElem?_cons_succ, List.getElem?_toArray, List.toList_toArray, Nat.reduceEqDiff, if_true, if_false, ↓reduceIte, reduceCtorEq, Bool.false_eq_true, List.nil_append, List.append_nil, List.cons_append, Bool.or_self, Bool.or_true, Bool.or_false, Bool.true_or, Bool.false_or, Bool.and_true, Bool.true_and, Bool.not_true, Bool.not_false, Nat.reduceAdd, Nat.reduceMul, Nat.reduceSub, Nat.reduceLT, Nat.reduceLeDiff, Int.reduceToNat, List.all_cons, List.all_nil, List.map_cons, List.map_nil, List.set_cons_zero,  true_and, and_true, Int.natCast_nonneg, Int.le_refl, Nat.le_refl, Int.toNat_natCast, Nat.sub_zero,  List.drop_zero, List.drop_succ_cons, List.length_cons, List.length_nil,  List.set_cons_succ, and_self, decide_true, decide_false, Int.reduceLT, Int.reduceLE, Int.reduceEq, Int.reduceSub, Int.reduceAdd, Int.reduceMul, String.reduceEq, stK_eq, stV.eq_1, stR_some, stE_ag, stE_one, stE_whole, hid]
    exact RetK_pure (.refl _) rfl
  · refine enterK (rs := []) Tryz.func33 (by kernel_rfl) rfl rfl (by kernel_rfl) rfl (Nat.le_of_ble_eq_true rfl) (fun hbd => ?_)
    simp -implicitDefEqProofs only [XL, XM, TL, Option.isSome_some, Option.bind_some, Option.bind_none, Option.map_some, Option.map_none, Option.some.injEq, List.getElem?_cons_zero, List.getElem?_cons_succ, List.getElem?_toArray, List.toList_toArray, Nat.reduceEqDiff, if_true, if_false, ↓reduceIte, reduceCtorEq, Bool.false_eq_true, List.nil_append, List.append_nil, List.cons_append, Bool.or_self, Bool.or_true, Bool.or_false, Bool.true_or, Bool.false_or, Bool.and_true, Bool.true_and, Bool.not_true, Bool.not_false, Nat.reduceAdd, Nat.reduceMul, Nat.reduceSub, Nat.reduceLT, Nat.reduceLeDiff, Int.reduceToNat, List.all_cons, List.all_nil, List.map_cons, List.map_nil, List.set_cons_zero,  true_and, and_true, Int.natCast_nonneg, Int.le_refl, Nat.le_refl, Int.toNat_natCast, Nat.sub_zero,  List.drop_zero, List.drop_succ_cons, List.length_cons, List.length_nil,  List.set_cons_succ, and_self, decide_true, decide_false, Int.reduceLT, Int.reduceLE, Int.reduceEq, Int.reduceSub, Int.reduceAdd, Int.reduceMul, String.reduceEq, stK_eq, stV.eq_1, stR_some, stE_ag, stE_one, stE_whole, hid, hi]
    rw [set_self hid]
    exact RetK_pure (.refl _) rfl

/-- A builder of the function's own. -/
def Bld (h0 h : H) (id : Nat) (l : List UInt8) : Prop := h0 id = none ∧ tyOf id = 41 ∧ ∃ p v, (p = .pnil ∨ p = .ptr id 0 0) ∧ BufT 5 1 (h0.set id (.row 2 [.ag [p, v]])) h v (bytesV l)
theorem Bld.new {h0 : H} {id : Nat} (h1 : h0 id = none) (h2 : tyOf id = 41) : Bld h0 (h0.set id (.row 2 [.ag [.pnil, .nil]])) id [] := ⟨h1, h2, _, _, .inl rfl, BufT.nil _ _ _⟩
theorem set_hit (h : H) (id : Nat) (o : O) : (h.set id o) id = some o := by simp [H.set]
theorem Bld.get {h0 h : H} {id : Nat} {l : List UInt8} (hb : Bld h0 h id l) {j : Nat} {o : O} (ho : h0 j = some o) : h j = some o := by
  obtain ⟨h1, h2, p, v, h3, h4⟩ := hb
  refine h4.get ?_
  unfold H.set; rw [if_neg]
  · exact ho
  · rintro rfl; rw [h1] at ho; cases ho
theorem Bld.fresh {h0 h : H} {id : Nat} {l : List UInt8} (hb : Bld h0 h id l) {j : Nat} (hj : h j = none) (o : O) : Bld (h0.set j o) (h.set j o) id l := by
  obtain ⟨h1, h2, p, v, h3, h4⟩ := hb
  have hn : j ≠ id := by rintro rfl; have := h4.get (set_hit h0 j _); rw [this] at hj; cases hj
  refine ⟨by unfold H.set; rw [if_neg (Ne.symm hn)]; exact h1, h2, p, v, h3, ?_⟩
  rw [set_comm (Ne.symm hn) |>.symm] 
  exact h4.fresh hj o
theorem Bld.set {h0 h : H} {id : Nat} {l : List UInt8} (hb : Bld h0 h id l) {j : Nat} {o : O} (hj : h0 j = some o) (o' : O) : Bld (h0.set j o') (h.set j o') id l := by
  obtain ⟨h1, h2, p, v, h3, h4⟩ := hb
  have hn : j ≠ id := by rintro rfl; rw [h1] at hj; cases hj
  refine ⟨by unfold H.set; rw [if_neg (Ne.symm hn)]; exact h1, h2, p, v, h3, ?_⟩
  rw [set_comm (Ne.symm hn) |>.symm]
  exact h4.set (id := j) (o := o) (by unfold H.set; rw [if_neg hn]; exact hj) o'
theorem Bld.sub {h0 h : H} {id : Nat} {l : List UInt8} (hb : Bld h0 h id l) : Sub h0 h := by
  obtain ⟨h1, h2, p, v, h3, h4⟩ := hb
  exact (Sub.set_fresh (.refl _) h1 _).trans h4.toBuf.sub
theorem Bld.drop {h0 h0' h : H} {id : Nat} {l : List UInt8} (hb : Bld h0' h id l) (hs : Sub h0 h0') : ∃ h', Sub h' h ∧ Bld h0 h' id l := by
  obtain ⟨h1, h2, p, v, h3, h4⟩ := hb
  obtain ⟨h', h5, h6⟩ := h4.drop (Sub.set hs id _)
  exact ⟨h', h5, hs.no h1, h2, p, v, h3, h6⟩

theorem writeByte_spec (G : Gl) (h0 h : H) (id : Nat) (l : List UInt8) (c : UInt8) (hll : l.length ≤ 4000000000) (hB : Bld h0 h id l) :
    XCalls Tryz.prog G 17 [.ptr id 0 0, .i .u8 (c.toNat : Int)] h (fun o h' => o = .ret .nifc ∧ Bld h0 h' id (l ++ [c])) := by
  obtain ⟨h1, h2, p, v, h3, h4⟩ := hB
  refine enterK (rs := [.tmp 4]) Tryz.func17 (by kernel_rfl) rfl rfl (by kernel_rfl) rfl (Nat.le_of_ble_eq_true rfl) (fun hbd => ?_)
  simp -implicitDefEqProofs only [XL, XM, TL, Option.isSome_some, Option.bind_some, Option.bind_none, Option.map_some, Option.map_none, Option.some.injEq, List.getElem?_cons_zero, List.getElem?_cons_succ, List.getElem?_toArray, List.toList_toArray, Nat.reduceEqDiff, if_true, if_false, ↓reduceIte, reduceCtorEq, Bool.false_eq_true, List.nil_append, List.append_nil, List.cons_append, Bool.or_self, Bool.or_true, Bool.or_false, Bool.true_or, Bool.false_or, Bool.and_true, Bool.true_and, Bool.not_true, Bool.not_false, Nat.reduceAdd, Nat.reduceMul, Nat.reduceSub, Nat.reduceLT, Nat.reduceLeDiff, Int.reduceToNat, List.all_cons, List.all_nil, List.map_cons, List.map_nil, List.set_cons_zero,  true_and, and_true, Int.natCast_nonneg, Int.le_refl, Nat.le_refl, Int.toNat_natCast, Nat.sub_zero,  List.drop_zero, List.drop_succ_cons, List.length_cons, List.length_nil,  List.set_cons_succ, and_self, decide_true, decide_false, Int.reduceLT, Int.reduceLE, Int.reduceEq, Int.reduceSub, Int.reduceAdd, Int.reduceMul, String.reduceEq, stK_eq, stV.eq_1, stR_some, stE_ag, stE_one, stE_whole]
  refine call_eq (copyCheck_spec G h id p v (h4.get (set_hit _ _ _)) h2 h3) ?_
  have h5 := h4.set (set_hit h0 id _) (.row 2 [.ag [.ptr id 0 0, v]])
  rw [set_set] at h5
  generalize h.set id (.row 2 [.ag [.ptr id 0 0, v]]) = h' at *
  have hid := h5.get (set_hit h0 id _)
  simp -implicitDefEqProofs only [XL, XM, TL, Option.isSome_some, Option.bind_some, Option.bind_none, Option.map_some, Option.map_none, Option.some.injEq, List.getElem?_cons_zero, List.getElem?_cons_succ, List.getElem?_toArray, List.toList_toArray, Nat.reduceEqDiff, if_true, if_false, ↓reduceIte, reduceCtorEq, Bool.false_eq_true, List.nil_append, List.append_nil, List.cons_append, Bool.or_self, Bool.or_true, Bool.or_false, Bool.true_or, Bool.false_or, Bool.and_true, Bool.true_and, Bool.not_true, Bool.not_false, Nat.reduceAdd, Nat.reduceMul, Nat.reduceSub, Nat.reduceLT, Nat.reduceLeDiff, Int.reduceToNat, List.all_cons, List.all_nil, List.map_cons, List.map_nil, List.set_cons_zero,  true_and, and_true, Int.natCast_nonneg, Int.le_refl, Nat.le_refl, Int.toNat_natCast, Nat.sub_zero,  List.drop_zero, List.drop_succ_cons, List.length_cons, List.length_nil,  List.set_cons_succ, and_self, decide_true, decide_false, Int.reduceLT, Int.reduceLE, Int.reduceEq, Int.reduceSub, Int.reduceAdd, Int.reduceMul, String.reduceEq, stK_eq, stV.eq_1, stR_some, stE_ag, stE_one, stE_whole, hid]
  refine bslK_intro (by simp -implicitDefEqProofs only [XL, XM, TL, Option.isSome_some, Option.bind_some, Option.bind_none, Option.map_some, Option.map_none, Option.some.injEq, List.getElem?_cons_zero, List.getElem?_cons_succ, List.getElem?_toArray, List.toList_toArray, Nat.reduceEqDiff, if_true, if_false, ↓reduceIte, reduceCtorEq, Bool.false_eq_true, List.nil_append, List.append_nil, List.cons_append, Bool.or_self, Bool.or_true, Bool.or_false, Bool.true_or, Bool.false_or, Bool.and_true, Bool.true_and, Bool.not_true, Bool.not_false, Nat.reduceAdd, Nat.reduceMul, Nat.reduceSub, Nat.reduceLT, Nat.reduceLeDiff, Int.reduceToNat, List.all_cons, List.all_nil, List.map_cons, List.map_nil, List.set_cons_zero,  true_and, and_true, Int.natCast_nonneg, Int.le_refl, Nat.le_refl, Int.toNat_natCast, Nat.sub_zero,  List.drop_zero, List.drop_succ_cons, List.length_cons, List.length_nil,  List.set_cons_succ, and_self, decide_true, decide_false, Int.reduceLT, Int.reduceLE, Int.reduceEq, Int.reduceSub, Int.reduceAdd, Int.reduceMul, String.reduceEq, stK_eq, stV.eq_1, stR_some, stE_ag, stE_one, stE_whole]; rfl) rfl (by simp [V.fits, V.cells]) (by simp) (fun id2 hid2 => ?_)
  simp -implicitDefEqProofs only [XL, XM, TL, Option.isSome_some, Option.bind_some, Option.bind_none, Option.map_some, Option.map_none, Option.some.injEq, List.getElem?_cons_zero, List.getElem?_cons_succ, List.getElem?_toArray, List.toList_toArray, Nat.reduceEqDiff, if_true, if_false, ↓reduceIte, reduceCtorEq, Bool.false_eq_true, List.nil_append, List.append_nil, List.cons_append, Bool.or_self, Bool.or_true, Bool.or_false, Bool.true_or, Bool.false_or, Bool.and_true, Bool.true_and, Bool.not_true, Bool.not_false, Nat.reduceAdd, Nat.reduceMul, Nat.reduceSub, Nat.reduceLT, Nat.reduceLeDiff, Int.reduceToNat, List.all_cons, List.all_nil, List.map_cons, List.map_nil, List.set_cons_zero,  true_and, and_true, Int.natCast_nonneg, Int.le_refl, Nat.le_refl, Int.toNat_natCast, Nat.sub_zero,  List.drop_zero, List.drop_succ_cons, List.length_cons, List.length_nil,  List.set_cons_succ, and_self, decide_true, decide_false, Int.reduceLT, Int.reduceLE, Int.reduceEq, Int.reduceSub, Int.reduceAdd, Int.reduceMul, String.reduceEq, stK_eq, stV.eq_1, stR_some, stE_ag, stE_one, stE_whole, hid]
  refine appK_bufT (ys := [.i .u8 (c.toNat : Int)]) (h5.fresh hid2 _) (by simp -implicitDefEqProofs only [XL, XM, TL, Option.isSome_some, Option.bind_some, Option.bind_none, Option.map_some, Option.map_none, Option.some.injEq, List.getElem?_cons_zero, List.getElem?_cons_succ, List.getElem?_toArray, List.toList_toArray, Nat.reduceEqDiff, if_true, if_false, ↓reduceIte, reduceCtorEq, Bool.false_eq_true, List.nil_append, List.append_nil, List.cons_append, Bool.or_self, Bool.or_true, Bool.or_false, Bool.true_or, Bool.false_or, Bool.and_true, Bool.true_and, Bool.not_true, Bool.not_false, Nat.reduceAdd, Nat.reduceMul, Nat.reduceSub, Nat.reduceLT, Nat.reduceLeDiff, Int.reduceToNat, List.all_cons, List.all_nil, List.map_cons, List.map_nil, List.set_cons_zero,  true_and, and_true, Int.natCast_nonneg, Int.le_refl, Nat.le_refl, Int.toNat_natCast, Nat.sub_zero,  List.drop_zero, List.drop_succ_cons, List.length_cons, List.length_nil,  List.set_cons_succ, and_self, decide_true, decide_false, Int.reduceLT, Int.reduceLE, Int.reduceEq, Int.reduceSub, Int.reduceAdd, Int.reduceMul, String.reduceEq, stK_eq, stV.eq_1, stR_some, stE_ag, stE_one, stE_whole]; rfl) (by simp [srcV, set_eq]) (by simp -implicitDefEqProofs only [XL, XM, TL, Option.isSome_some, Option.bind_some, Option.bind_none, Option.map_some, Option.map_none, Option.some.injEq, List.getElem?_cons_zero, List.getElem?_cons_succ, List.getElem?_toArray, List.toList_toArray, Nat.reduceEqDiff, if_true, if_false, ↓reduceIte, reduceCtorEq, Bool.false_eq_true, List.nil_append, List.append_nil, List.cons_append, Bool.or_self, Bool.or_true, Bool.or_false, Bool.true_or, Bool.false_or, Bool.and_true, Bool.true_and, Bool.not_true, Bool.not_false, Nat.reduceAdd, Nat.reduceMul, Nat.reduceSub, Nat.reduceLT, Nat.reduceLeDiff, Int.reduceToNat, List.all_cons, List.all_nil, List.map_cons, List.map_nil, List.set_cons_zero,  true_and, and_true, Int.natCast_nonneg, Int.le_refl, Nat.le_refl, Int.toNat_natCast, Nat.sub_zero,  List.drop_zero, List.drop_succ_cons, List.length_cons, List.length_nil,  List.set_cons_succ, and_self, decide_true, decide_false, Int.reduceLT, Int.reduceLE, Int.reduceEq, Int.reduceSub, Int.reduceAdd, Int.reduceMul, String.reduceEq, stK_eq, stV.eq_1, stR_some, stE_ag, stE_one, stE_whole]) (by decide) (by rw [bytesV_length]; simp; omega) (fun v1 h6 hb1 => ?_)
  obtain ⟨h7, h8, h9⟩ := hb1.drop (Sub.set_fresh (.refl _) (h5.toBuf.sub.no hid2) _)
  have hid7 := h9.get (set_hit h0 id _)
  have hid6 := h8 _ _ hid7
  obtain ⟨o1, o2, o3, o4⟩ := h9.toBuf.shape
  simp -implicitDefEqProofs only [XL, XM, TL, Option.isSome_some, Option.bind_some, Option.bind_none, Option.map_some, Option.map_none, Option.some.injEq, List.getElem?_cons_zero, List.getElem?_cons_succ, List.getElem?_toArray, List.toList_toArray, Nat.reduceEqDiff, if_true, if_false, ↓reduceIte, reduceCtorEq, Bool.false_eq_true, List.nil_append, List.append_nil, List.cons_append, Bool.or_self, Bool.or_true, Bool.or_false, Bool.true_or, Bool.false_or, Bool.and_true, Bool.true_and, Bool.not_true, Bool.not_false, Nat.reduceAdd, Nat.reduceMul, Nat.reduceSub, Nat.reduceLT, Nat.reduceLeDiff, Int.reduceToNat, List.all_cons, List.all_nil, List.map_cons, List.map_nil, List.set_cons_zero,  true_and, and_true, Int.natCast_nonneg, Int.le_refl, Nat.le_refl, Int.toNat_natCast, Nat.sub_zero,  List.drop_zero, List.drop_succ_cons, List.length_cons, List.length_nil,  List.set_cons_succ, and_self, decide_true, decide_false, Int.reduceLT, Int.reduceLE, Int.reduceEq, Int.reduceSub, Int.reduceAdd, Int.reduceMul, String.reduceEq, stK_eq, stV.eq_1, stR_some, stE_ag, stE_one, stE_whole, hid6, o1, o2, o3]
  have h10 := h9.set (set_hit h0 id _) (.row 2 [.ag [.ptr id 0 0, v1]])
  rw [set_set] at h10
  refine RetK_keep (h' := h7.set id (.row 2 [.ag [.ptr id 0 0, v1]])) (Sub.set h8 _ _) ?_
  refine ⟨rfl, h1, h2, .ptr id 0 0, v1, .inr rfl, ?_⟩
  simpa [bytesV, bV] using h10

theorem writeString_spec (G : Gl) (h0 h : H) (id : Nat) (l s : List UInt8) (hs : s.length ≤ 4000000000) (hll : l.length ≤ 4000000000) (hB : Bld h0 h id l) :
    XCalls Tryz.prog G 18 [.ptr id 0 0, .s s] h (fun o h' => o = .ret (.tu [.i .i64 s.length, .nifc]) ∧ Bld h0 h' id (l ++ s)) := by
  obtain ⟨h1, h2, p, v, h3, h4⟩ := hB
  refine enterK (rs := [.tmp 4, .tmp 5]) Tryz.func18 (by kernel_rfl) rfl rfl (by kernel_rfl) rfl (Nat.le_of_ble_eq_true rfl) (fun hbd => ?_)
  simp -implicitDefEqProofs only [XL, XM, TL, Option.isSome_some, Option.bind_some, Option.bind_none, Option.map_some, Option.map_none, Option.some.injEq, List.getElem?_cons_zero, List.getElem?_cons_succ, List.getElem?_toArray, List.toList_toArray, Nat.reduceEqDiff, if_true, if_false, ↓reduceIte, reduceCtorEq, Bool.false_eq_true, List.nil_append, List.append_nil, List.cons_append, Bool.or_self, Bool.or_true, Bool.or_false, Bool.true_or, Bool.false_or, Bool.and_true, Bool.true_and, Bool.not_true, Bool.not_false, Nat.reduceAdd, Nat.reduceMul, Nat.reduceSub, Nat.reduceLT, Nat.reduceLeDiff, Int.reduceToNat, List.all_cons, List.all_nil, List.map_cons, List.map_nil, List.set_cons_zero,  true_and, and_true, Int.natCast_nonneg, Int.le_refl, Nat.le_refl, Int.toNat_natCast, Nat.sub_zero,  List.drop_zero, List.drop_succ_cons, List.length_cons, List.length_nil,  List.set_cons_succ, and_self, decide_true, decide_false, Int.reduceLT, Int.reduceLE, Int.reduceEq, Int.reduceSub, Int.reduceAdd, Int.reduceMul, String.reduceEq, stK_eq, stV.eq_1, stR_some, stE_ag, stE_one, stE_whole]
  refine call_eq (copyCheck_spec G h id p v (h4.get (set_hit _ _ _)) h2 h3) ?_
  have h5 := h4.set (set_hit h0 id _) (.row 2 [.ag [.ptr id 0 0, v]])
  rw [set_set] at h5
  generalize h.set id (.row 2 [.ag [.ptr id 0 0, v]]) = h' at *
  have hid := h5.get (set_hit h0 id _)
  simp -implicitDefEqProofs only [XL, XM, TL, Option.isSome_some, Option.bind_some, Option.bind_none, Option.map_some, Option.map_none, Option.some.injEq, List.getElem?_cons_zero, List.getElem?_cons_succ, List.getElem?_toArray, List.toList_toArray, Nat.reduceEqDiff, if_true, if_false, ↓reduceIte, reduceCtorEq, Bool.false_eq_true, List.nil_append, List.append_nil, List.cons_append, Bool.or_self, Bool.or_true, Bool.or_false, Bool.true_or, Bool.false_or, Bool.and_true, Bool.true_and, Bool.not_true, Bool.not_false, Nat.reduceAdd, Nat.reduceMul, Nat.reduceSub, Nat.reduceLT, Nat.reduceLeDiff, Int.reduceToNat, List.all_cons, List.all_nil, List.map_cons, List.map_nil, List.set_cons_zero,  true_and, and_true, Int.natCast_nonneg, Int.le_refl, Nat.le_refl, Int.toNat_natCast, Nat.sub_zero,  List.drop_zero, List.drop_succ_cons, List.length_cons, List.length_nil,  List.set_cons_succ, and_self, decide_true, decide_false, Int.reduceLT, Int.reduceLE, Int.reduceEq, Int.reduceSub, Int.reduceAdd, Int.reduceMul, String.reduceEq, stK_eq, stV.eq_1, stR_some, stE_ag, stE_one, stE_whole, hid]
  refine appK_bufT (ys := bytesV s) h5 (by simp -implicitDefEqProofs only [XL, XM, TL, Option.isSome_some, Option.bind_some, Option.bind_none, Option.map_some, Option.map_none, Option.some.injEq, List.getElem?_cons_zero, List.getElem?_cons_succ, List.getElem?_toArray, List.toList_toArray, Nat.reduceEqDiff, if_true, if_false, ↓reduceIte, reduceCtorEq, Bool.false_eq_true, List.nil_append, List.append_nil, List.cons_append, Bool.or_self, Bool.or_true, Bool.or_false, Bool.true_or, Bool.false_or, Bool.and_true, Bool.true_and, Bool.not_true, Bool.not_false, Nat.reduceAdd, Nat.reduceMul, Nat.reduceSub, Nat.reduceLT, Nat.reduceLeDiff, Int.reduceToNat, List.all_cons, List.all_nil, List.map_cons, List.map_nil, List.set_cons_zero,  true_and, and_true, Int.natCast_nonneg, Int.le_refl, Nat.le_refl, Int.toNat_natCast, Nat.sub_zero,  List.drop_zero, List.drop_succ_cons, List.length_cons, List.length_nil,  List.set_cons_succ, and_self, decide_true, decide_false, Int.reduceLT, Int.reduceLE, Int.reduceEq, Int.reduceSub, Int.reduceAdd, Int.reduceMul, String.reduceEq, stK_eq, stV.eq_1, stR_some, stE_ag, stE_one, stE_whole]; rfl) (by simp [srcV, bytesV, bV]) (by simp -implicitDefEqProofs only [XL, XM, TL, Option.isSome_some, Option.bind_some, Option.bind_none, Option.map_some, Option.map_none, Option.some.injEq, List.getElem?_cons_zero, List.getElem?_cons_succ, List.getElem?_toArray, List.toList_toArray, Nat.reduceEqDiff, if_true, if_false, ↓reduceIte, reduceCtorEq, Bool.false_eq_true, List.nil_append, List.append_nil, List.cons_append, Bool.or_self, Bool.or_true, Bool.or_false, Bool.true_or, Bool.false_or, Bool.and_true, Bool.true_and, Bool.not_true, Bool.not_false, Nat.reduceAdd, Nat.reduceMul, Nat.reduceSub, Nat.reduceLT, Nat.reduceLeDiff, Int.reduceToNat, List.all_cons, List.all_nil, List.map_cons, List.map_nil, List.set_cons_zero,  true_and, and_true, Int.natCast_nonneg, Int.le_refl, Nat.le_refl, Int.toNat_natCast, Nat.sub_zero,  List.drop_zero, List.drop_succ_cons, List.length_cons, List.length_nil,  List.set_cons_succ, and_self, decide_true, decide_false, Int.reduceLT, Int.reduceLE, Int.reduceEq, Int.reduceSub, Int.reduceAdd, Int.reduceMul, String.reduceEq, stK_eq, stV.eq_1, stR_some, stE_ag, stE_one, stE_whole]) (by decide) (by rw [bytesV_length, bytesV_length]; omega) (fun v1 h6 h9 => ?_)
  have hid6 := h9.get (set_hit h0 id _)
  obtain ⟨o1, o2, o3, o4⟩ := h9.toBuf.shape
  simp -implicitDefEqProofs only [XL, XM, TL, Option.isSome_some, Option.bind_some, Option.bind_none, Option.map_some, Option.map_none, Option.some.injEq, List.getElem?_cons_zero, List.getElem?_cons_succ, List.getElem?_toArray, List.toList_toArray, Nat.reduceEqDiff, if_true, if_false, ↓reduceIte, reduceCtorEq, Bool.false_eq_true, List.nil_append, List.append_nil, List.cons_append, Bool.or_self, Bool.or_true, Bool.or_false, Bool.true_or, Bool.false_or, Bool.and_true, Bool.true_and, Bool.not_true, Bool.not_false, Nat.reduceAdd, Nat.reduceMul, Nat.reduceSub, Nat.reduceLT, Nat.reduceLeDiff, Int.reduceToNat, List.all_cons, List.all_nil, List.map_cons, List.map_nil, List.set_cons_zero,  true_and, and_true, Int.natCast_nonneg, Int.le_refl, Nat.le_refl, Int.toNat_natCast, Nat.sub_zero,  List.drop_zero, List.drop_succ_cons, List.length_cons, List.length_nil,  List.set_cons_succ, and_self, decide_true, decide_false, Int.reduceLT, Int.reduceLE, Int.reduceEq, Int.reduceSub, Int.reduceAdd, Int.reduceMul, String.reduceEq, stK_eq, stV.eq_1, stR_some, stE_ag, stE_one, stE_whole, hid6, o1, o2, o3]
  have h10 := h9.set (set_hit h0 id _) (.row 2 [.ag [.ptr id 0 0, v1]])
  rw [set_set] at h10
  intro hl
  refine RetK_keep (.refl _) ?_
  refine ⟨rfl, h1, h2, .ptr id 0 0, v1, .inr rfl, ?_⟩
  simpa [bytesV, bV] using h10

theorem writeRune_spec (G : Gl) (h0 h : H) (id : Nat) (l : List UInt8) (r : Nat) (hr : isPoint r = true) (hl : l.length ≤ 1000000000) (hB : Bld h0 h id l) :
    XCalls Tryz.prog G 20 [.ptr id 0 0, .i .i32 r] h (fun o h' => o = .ret (.tu [.i .i64 (utf8V r).length, .nifc]) ∧ Bld h0 h' id (l ++ utf8V r)) := by
  obtain ⟨h1, h2, p, v, h3, h4⟩ := hB
  refine enterK (rs := [.tmp 4, .tmp 5]) Tryz.func20 (by kernel_rfl) rfl rfl (by kernel_rfl) rfl (Nat.le_of_ble_eq_true rfl) (fun hbd => ?_)
  simp -implicitDefEqProofs only [XL, XM, TL, Option.isSome_some, Option.bind_some, Option.bind_none, Option.map_some, Option.map_none, Option.some.injEq, List.getElem?_cons_zero, List.getElem?_cons_succ, List.getElem?_toArray, List.toList_toArray, Nat.reduceEqDiff, if_true, if_false, ↓reduceIte, reduceCtorEq, Bool.false_eq_true, List.nil_append, List.append_nil, List.cons_append, Bool.or_self, Bool.or_true, Bool.or_false, Bool.true_or, Bool.false_or, Bool.and_true, Bool.true_and, Bool.not_true, Bool.not_false, Nat.reduceAdd, Nat.reduceMul, Nat.reduceSub, Nat.reduceLT, Nat.reduceLeDiff, Int.reduceToNat, List.all_cons, List.all_nil, List.map_cons, List.map_nil, List.set_cons_zero,  true_and, and_true, Int.natCast_nonneg, Int.le_refl, Nat.le_refl, Int.toNat_natCast, Nat.sub_zero,  List.drop_zero, List.drop_succ_cons, List.length_cons, List.length_nil,  List.set_cons_succ, and_self, decide_true, decide_false, Int.reduceLT, Int.reduceLE, Int.reduceEq, Int.reduceSub, Int.reduceAdd, Int.reduceMul, String.reduceEq, stK_eq, stV.eq_1, stR_some, stE_ag, stE_one, stE_whole]
  refine call_eq (copyCheck_spec G h id p v (h4.get (set_hit _ _ _)) h2 h3) ?_
  have h5 := h4.set (set_hit h0 id _) (.row 2 [.ag [.ptr id 0 0, v]])
  rw [set_set] at h5
  generalize h.set id (.row 2 [.ag [.ptr id 0 0, v]]) = h' at *
  have hid := h5.get (set_hit h0 id _)
  simp -implicitDefEqProofs only [XL, XM, TL, Option.isSome_some, Option.bind_some, Option.bind_none, Option.map_some, Option.map_none, Option.some.injEq, List.getElem?_cons_zero, List.getElem?_cons_succ, List.getElem?_toArray, List.toList_toArray, Nat.reduceEqDiff, if_true, if_false, ↓reduceIte, reduceCtorEq, Bool.false_eq_true, List.nil_append, List.append_nil, List.cons_append, Bool.or_self, Bool.or_true, Bool.or_false, Bool.true_or, Bool.false_or, Bool.and_true, Bool.true_and, Bool.not_true, Bool.not_false, Nat.reduceAdd, Nat.reduceMul, Nat.reduceSub, Nat.reduceLT, Nat.reduceLeDiff, Int.reduceToNat, List.all_cons, List.all_nil, List.map_cons, List.map_nil, List.set_cons_zero,  true_and, and_true, Int.natCast_nonneg, Int.le_refl, Nat.le_refl, Int.toNat_natCast, Nat.sub_zero,  List.drop_zero, List.drop_succ_cons, List.length_cons, List.length_nil,  List.set_cons_succ, and_self, decide_true, decide_false, Int.reduceLT, Int.reduceLE, Int.reduceEq, Int.reduceSub, Int.reduceAdd, Int.reduceMul, String.reduceEq, stK_eq, stV.eq_1, stR_some, stE_ag, stE_one, stE_whole, hid]
  refine lenB_buf h5.toBuf (t := 22) (by simp -implicitDefEqProofs only [XL, XM, TL, Option.isSome_some, Option.bind_some, Option.bind_none, Option.map_some, Option.map_none, Option.some.injEq, List.getElem?_cons_zero, List.getElem?_cons_succ, List.getElem?_toArray, List.toList_toArray, Nat.reduceEqDiff, if_true, if_false, ↓reduceIte, reduceCtorEq, Bool.false_eq_true, List.nil_append, List.append_nil, List.cons_append, Bool.or_self, Bool.or_true, Bool.or_false, Bool.true_or, Bool.false_or, Bool.and_true, Bool.true_and, Bool.not_true, Bool.not_false, Nat.reduceAdd, Nat.reduceMul, Nat.reduceSub, Nat.reduceLT, Nat.reduceLeDiff, Int.reduceToNat, List.all_cons, List.all_nil, List.map_cons, List.map_nil, List.set_cons_zero,  true_and, and_true, Int.natCast_nonneg, Int.le_refl, Nat.le_refl, Int.toNat_natCast, Nat.sub_zero,  List.drop_zero, List.drop_succ_cons, List.length_cons, List.length_nil,  List.set_cons_succ, and_self, decide_true, decide_false, Int.reduceLT, Int.reduceLE, Int.reduceEq, Int.reduceSub, Int.reduceAdd, Int.reduceMul, String.reduceEq, stK_eq, stV.eq_1, stR_some, stE_ag, stE_one, stE_whole]; rfl) (by simp only [lenV, TL, bind_some']) ?_
  simp -implicitDefEqProofs only [XL, XM, TL, Option.isSome_some, Option.bind_some, Option.bind_none, Option.map_some, Option.map_none, Option.some.injEq, List.getElem?_cons_zero, List.getElem?_cons_succ, List.getElem?_toArray, List.toList_toArray, Nat.reduceEqDiff, if_true, if_false, ↓reduceIte, reduceCtorEq, Bool.false_eq_true, List.nil_append, List.append_nil, List.cons_append, Bool.or_self, Bool.or_true, Bool.or_false, Bool.true_or, Bool.false_or, Bool.and_true, Bool.true_and, Bool.not_true, Bool.not_false, Nat.reduceAdd, Nat.reduceMul, Nat.reduceSub, Nat.reduceLT, Nat.reduceLeDiff, Int.reduceToNat, List.all_cons, List.all_nil, List.map_cons, List.map_nil, List.set_cons_zero,  true_and, and_true, Int.natCast_nonneg, Int.le_refl, Nat.le_refl, Int.toNat_natCast, Nat.sub_zero,  List.drop_zero, List.drop_succ_cons, List.length_cons, List.length_nil,  List.set_cons_succ, and_self, decide_true, decide_false, Int.reduceLT, Int.reduceLE, Int.reduceEq, Int.reduceSub, Int.reduceAdd, Int.reduceMul, String.reduceEq, stK_eq, stV.eq_1, stR_some, stE_ag, stE_one, stE_whole, hid]
  refine call_q (appendRune_spec G _ h' v l r hr (by omega) h5) (fun v1 h6 h9 => ?_)
  have hid6 := h9.get (set_hit h0 id _)
  obtain ⟨o1, o2, o3, o4⟩ := h9.toBuf.shape
  have h10 := h9.set (set_hit h0 id _) (.row 2 [.ag [.ptr id 0 0, v1]])
  rw [set_set] at h10
  simp -implicitDefEqProofs only [XL, XM, TL, Option.isSome_some, Option.bind_some, Option.bind_none, Option.map_some, Option.map_none, Option.some.injEq, List.getElem?_cons_zero, List.getElem?_cons_succ, List.getElem?_toArray, List.toList_toArray, Nat.reduceEqDiff, if_true, if_false, ↓reduceIte, reduceCtorEq, Bool.false_eq_true, List.nil_append, List.append_nil, List.cons_append, Bool.or_self, Bool.or_true, Bool.or_false, Bool.true_or, Bool.false_or, Bool.and_true, Bool.true_and, Bool.not_true, Bool.not_false, Nat.reduceAdd, Nat.reduceMul, Nat.reduceSub, Nat.reduceLT, Nat.reduceLeDiff, Int.reduceToNat, List.all_cons, List.all_nil, List.map_cons, List.map_nil, List.set_cons_zero,  true_and, and_true, Int.natCast_nonneg, Int.le_refl, Nat.le_refl, Int.toNat_natCast, Nat.sub_zero,  List.drop_zero, List.drop_succ_cons, List.length_cons, List.length_nil,  List.set_cons_succ, and_self, decide_true, decide_false, Int.reduceLT, Int.reduceLE, Int.reduceEq, Int.reduceSub, Int.reduceAdd, Int.reduceMul, String.reduceEq, stK_eq, stV.eq_1, stR_some, stE_ag, stE_one, stE_whole, hid6, o1, o2, o3]
  refine lenB_buf h10.toBuf (t := 22) (by simp -implicitDefEqProofs only [XL, XM, TL, Option.isSome_some, Option.bind_some, Option.bind_none, Option.map_some, Option.map_none, Option.some.injEq, List.getElem?_cons_zero, List.getElem?_cons_succ, List.getElem?_toArray, List.toList_toArray, Nat.reduceEqDiff, if_true, if_false, ↓reduceIte, reduceCtorEq, Bool.false_eq_true, List.nil_append, List.append_nil, List.cons_append, Bool.or_self, Bool.or_true, Bool.or_false, Bool.true_or, Bool.false_or, Bool.and_true, Bool.true_and, Bool.not_true, Bool.not_false, Nat.reduceAdd, Nat.reduceMul, Nat.reduceSub, Nat.reduceLT, Nat.reduceLeDiff, Int.reduceToNat, List.all_cons, List.all_nil, List.map_cons, List.map_nil, List.set_cons_zero,  true_and, and_true, Int.natCast_nonneg, Int.le_refl, Nat.le_refl, Int.toNat_natCast, Nat.sub_zero,  List.drop_zero, List.drop_succ_cons, List.length_cons, List.length_nil,  List.set_cons_succ, and_self, decide_true, decide_false, Int.reduceLT, Int.reduceLE, Int.reduceEq, Int.reduceSub, Int.reduceAdd, Int.reduceMul, String.reduceEq, stK_eq, stV.eq_1, stR_some, stE_ag, stE_one, stE_whole]; rfl) (by simp only [lenV, TL, bind_some']) ?_
  have hu : (utf8V r).length ≤ 4 := by unfold utf8V; split <;> (try split) <;> (try split) <;> simp
  have chk_ : True ∧ True := by simp only [and_self, bytesV_length, List.length_append]
  clear chk_
  repeat (first | simp -implicitDefEqProofs only [XL, XM, TL, Option.isSome_some, Option.bind_some, Option.bind_none, Option.map_some, Option.map_none, Option.some.injEq, List.getElem?_cons_zero, List.getElem?_cons_succ, List.getElem?_toArray, List.toList_toArray, Nat.reduceEqDiff, if_true, if_false, ↓reduceIte, reduceCtorEq, Bool.false_eq_true, List.nil_append, List.append_nil, List.cons_append, Bool.or_self, Bool.or_true, Bool.or_false, Bool.true_or, Bool.false_or, Bool.and_true, Bool.true_and, Bool.not_true, Bool.not_false, Nat.reduceAdd, Nat.reduceMul, Nat.reduceSub, Nat.reduceLT, Nat.reduceLeDiff, Int.reduceToNat, List.all_cons, List.all_nil, List.map_cons, List.map_nil, List.set_cons_zero,  true_and, and_true, Int.natCast_nonneg, Int.le_refl, Nat.le_refl, Int.toNat_natCast, Nat.sub_zero,  List.drop_zero, List.drop_succ_cons, List.length_cons, List.length_nil,  List.set_cons_succ, and_self, decide_true, decide_false, Int.reduceLT, Int.reduceLE, Int.reduceEq, Int.reduceSub, Int.reduceAdd, Int.reduceMul, String.reduceEq, stK_eq, stV.eq_1, stR_some, stE_ag, stE_one, stE_whole, bytesV_length, List.length_append] | simp (disch := omega) only [ifp, ifn, wrap_i64, wrap_u8, wrap_i32, wrap_u64, wrap_u32, Int.tdiv_eq_ediv_of_nonneg, Int.tmod_eq_emod_of_nonneg])
  refine RetK_keep (.refl _) ?_
  refine ⟨?_, h1, h2, .ptr id 0 0, v1, .inr rfl, ?_⟩
  · congr 3; simp [bytesV]; try omega
  · simpa [bytesV, bV] using h10
end Go.X
end

section
open Go Go.Proofs Go.RowKit
namespace Go.X
set_option linter.unusedSimpArgs false
set_option maxRecDepth 100000

set_option maxHeartbeats 1000000 in
theorem string_real (w : World) (rb o g cap cells : Nat) (l : List UInt8) (h0 : l ≠ []) (c1 : w.cell? ⟨rb, o + 1, none⟩ = some (.slice (some ⟨g, 0, none⟩) l.length cap))
    (hc : l.length ≤ cap) (hcm : cap ≤ 9223372036854775807) (hsh : w.shape? g = some (5, cells)) (hcc : l.length ≤ cells) (hcell : ∀ j x, l[j]? = some x → w.cell? ((⟨g, 0, none⟩ : Addr).add j) = some (.int .u8 x.toNat)) :
    Calls Tryz.prog 21 #[.pointer (some ⟨rb, o, none⟩)] w fun e w' => e = .returned (.string ⟨l.toArray⟩) ∧ w' = w.drew.freeze ⟨g, 0, none⟩ l.length := by
  have hl0 : l.length ≠ 0 := by simpa using h0
  have c1' : w.drew.cell? ⟨rb, o + 1, none⟩ = some (.slice (some ⟨g, 0, none⟩) l.length cap) := c1
  have hSD : (Builtin.unsafeSliceData_ #[22] 64 #[.slice (some ⟨g, 0, none⟩) l.length cap]).run Tryz.prog w.drew = .ok (.pointer (some ⟨g, 0, none⟩)) w.drew :=
    Lib.run_unsafeSliceData_row _ _ _ _ _ _ (by omega)
  have hUS : (Builtin.unsafeString_ #[64, 3] 9 #[.pointer (some ⟨g, 0, none⟩), .int .i64 l.length]).run Tryz.prog w.drew = .ok (.string ⟨l.toArray⟩) (w.drew.freeze ⟨g, 0, none⟩ l.length) := by
    refine Lib.run_unsafeString_row w.drew 64 3 9 5 (by kernel_rfl) (by kernel_rfl) g cells hsh l h0 hcc (by omega) ?_
    intro j x hx
    exact hcell j x hx
  have mixed : Tryz.prog.follows .mixedOrders = true := by kernel_rfl
  go_enter Tryz.func21, Tryz.ntmps21
  go_wp2
  go_region_o
  all_goals (go_wp2; go_ret; exact ⟨rfl, rfl⟩)
theorem R.other {G : Gl} {μ : Mu} {I : Nat → Prop} {h k : H} {w w' : World} (r : R G μ I h w) (hs : Sub k h) (g : Nat) (hg : ∀ id t, k id ≠ none → μ id = some t → t.block ≠ some g) (hI : ¬ I g)
    (hh : ∀ b, b ≠ g → w'.heap[b]? = w.heap[b]?) (hsz : w'.heap.size = w.heap.size) (h1 : w'.os = w.os) (h2 : w'.tape = w.tape) (h3 : w'.output = w.output) : Ext μ I w μ I w' ∧ R G μ I k w' := by
  have hx : Ext μ I w μ I w' := ⟨fun _ _ e => e, fun _ e => e, fun b hb => hh b (fun e => hI (e ▸ hb)), by omega, h1, h2, h3⟩
  have r' := r.sub hs
  refine ⟨hx, fun id o e => (r'.obj id o e).ext hx (fun t rb m tb => hh rb (fun e' => hg id t (by rw [e]; simp) m (by rw [tb, e']))), r'.inj, fun b hb => by rw [hsz]; exact r.imm b hb,
    fun id t rb a b => by rw [hsz]; exact r.mub id t rb a b, r'.notI, r.bound, fun g cs e => (r.glob g cs e).ext hx⟩

set_option maxHeartbeats 1000000 in
theorem bldString_spec (G : Gl) (h0 h : H) (id : Nat) (l : List UInt8) (hl : l ≠ []) (hB : Bld h0 h id l) :
    XCalls Tryz.prog G 21 [.ptr id 0 0] h (fun o h' => o = .ret (.s l) ∧ h' = h0) := by
  obtain ⟨h1, h2, p, v, h3, h4⟩ := hB
  have hid := h4.get (set_hit h0 id _)
  rcases h4 with ⟨_, h5, _⟩ | ⟨i, hi, hti, rfl, rfl⟩
  · exfalso; apply hl; simpa [bytesV] using h5
  have hii : ((h0.set id (.row 2 [.ag [p, .sl i 0 (bytesV l).length]])).set i (.row 1 (bytesV l))) i = some (.row 1 (bytesV l)) := set_hit _ _ _
  intro μ I w rargs r hv
  cases hv with
  | cons _ rp _ _ hv0 hv =>
    cases hv
    cases hv0 with
    | ptr _ _ _ rb base e n hm =>
      have hob := r.obj id _ hid
      have hoi := r.obj i _ hii
      rcases hob.2 with ⟨h6, _⟩ | ⟨rb', base', n', rcs, T, fz, rs, hr⟩
      · cases h6
      rcases hoi.2 with ⟨h6, _⟩ | ⟨g, bg, ng, rcg, Tg, fzg, rsg, hg⟩
      · exfalso; apply hl; simpa [bytesV] using h6
      have hme := hr.mu; rw [hm] at hme; cases hme
      have hT := hg.ty
      rcases hT with hT | ⟨hT, rfl⟩
      · rw [hti] at hT; cases hT
      rw [hti] at hT; subst hT
      have hbl : (bytesV l).length = l.length := bytesV_length l
      have hvrs := hr.vrs
      have hfl : flat [V.ag [p, .sl i 0 (bytesV l).length]] = [p, .sl i 0 (bytesV l).length] := rfl
      rw [hfl] at hvrs
      obtain ⟨rv1, hrv1, hvv⟩ := hvrs.get (j := 1) (v := .sl i 0 (bytesV l).length) rfl
      have hcell1 := hr.cell 1 rv1 hrv1
      have hlp : 0 < l.length := List.length_pos_iff.2 hl
      have hgsz := hg.size
      have hgfit := hg.fit
      have hgv := VRs_bytesV (by have := hg.vrs; rwa [flat_bytesV] at this)
      generalize hrvv : V.sl i 0 (bytesV l).length = sv at hvv
      cases hvv <;> first | (cases hrvv; done) | skip
      · rename_i id' off' len' rb2 base2 e2 n2 cap hm2 hle hroom hcap
        injection hrvv with q1 q2 q3
        subst q1; subst q2; subst q3
        have hme := hg.mu; rw [hm2] at hme; cases hme
        have hcw : w.cell? ⟨rb, base + 1, none⟩ = some (.slice (some ⟨g, 0 + 0 * 1, none⟩) (bytesV l).length cap) := by
          rw [cell_of _ _ _ _ _ _ hr.blk]; exact hcell1
        rw [hbl] at hcw hle hgfit
        have hnI : ¬ I g := r.notI i _ g (by rw [hii]; simp) hg.mu rfl
        refine .inl ⟨MuLone.run_callFunc_enter Tryz.func21 (by kernel_rfl) rfl _ _, ?_⟩
        refine (string_real w rb (base + 0 * 2 + 0) g cap rcg.size l hl (by simpa using hcw) hle hcap (by simp [World.shape?, hg.blk]) (by omega) (fun j x hj => ?_)).mono fun e w' he => ?_
        · rw [add_lit, cell_of _ _ _ _ _ _ hg.blk]
          have := hg.cell j (.int .u8 x.toNat) (by rw [hgv]; simp [hj])
          simpa using this
        · obtain ⟨rfl, rfl⟩ := he
          have hfr : ∀ b, b ≠ g → ((w.drew.freeze ⟨g, 0, none⟩ l.length)).heap[b]? = w.heap[b]? := by
            intro b hb
            unfold World.freeze
            split
            · rfl
            · simp only [Array.getElem?_modify]
              rw [if_neg (Ne.symm hb)]; rfl
          have hx := r.other (k := h0) (w' := w.drew.freeze ⟨g, 0, none⟩ l.length) ((Sub.set_fresh (.refl _) h1 _).trans (Sub.set_fresh (.refl _) hi _)) g (fun j t hj hmj htj => by
            have hjn : j ≠ i := by
              rintro rfl
              have : h0 j = none := fs hi
              exact hj this
            refine hjn (r.inj j i t _ g ?_ (by rw [hii]; simp) hmj hg.mu htj rfl)
            have : ∃ o, h0 j = some o := by cases hh : h0 j with | none => exact absurd hh hj | some o => exact ⟨o, rfl⟩
            obtain ⟨o, ho⟩ := this
            rw [(((Sub.set_fresh (.refl h0) h1 (.row 2 [.ag [p, .sl i 0 (bytesV l).length]])).trans (Sub.set_fresh (.refl _) hi (.row 1 (bytesV l)))) j o ho)]; simp) hnI hfr
            (by unfold World.freeze; split <;> simp) (by unfold World.freeze; split <;> rfl) (by unfold World.freeze; split <;> rfl) (by unfold World.freeze; split <;> rfl)
          refine ⟨_, h0, μ, I, ⟨rfl, rfl⟩, hx.1, hx.2, ?_⟩
          exact .s l (by omega)
      · rename_i id' off' a ha
        injection hrvv with q1 q2 q3
        omega
end Go.X
end
