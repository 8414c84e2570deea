/- For every input laws.FnTexts returns true and leaves its arguments as they were. Conditions: those of the given card: the listed package-level variables hold what their text lays; tied to the program's text by the given tie. -/
import Derived.Test.YtlhigokiophckaaGreatDoorWalkG
import Derived.Test.YtlhigokiophckaaGreatDoorCards
import Derived.Test.YtlhigokiophckaaGreatDoorTie
import Derived.Deep.DeepHandedRow
import Derived.Deep.DeepWitnessRowRef
import Derived.ProofKit
import Derived.OpenShut
import Derived.SliceStrings
import Derived.ChangeSlices
import Derived.Carry
import Derived.Lib.LaidTab
import Derived.Lib.LaidIn
import Derived.Lib.LaidU8T

section
namespace Go.Proofs.YtlhigokiophckaaGreatDoor.fnTexts
open Go.ChangeShapes Go.WideShapes Go.ChangeAt Go.RowKit Go.X
set_option linter.unusedVariables false
set_option maxRecDepth 100000

/-! the tables, as the walks want them -/
def gFirst : List Int := (List.range 256).map fun c => ((Lib.firstT c : Nat) : Int)
def gAcc : List Int := (List.range 16).flatMap fun i => [((Lib.accLo i : Nat) : Int), ((Lib.accHi i : Nat) : Int)]
def gDe : List Int := deBr64.map fun (n : Nat) => (n : Int)
def ints (zs : List Int) : List V := zs.map fun z => V.i .u8 z
def GF : Gl := fun g => if g = 0 then some (ints gFirst) else if g = 1 then some (ints gAcc) else if g = 6 then some (ints gDe) else none

theorem ints_get {zs : List Int} {μ : Mu} {I : Nat → Prop} {W : World} {g : Nat} (h : VR W I μ (.ip (ints zs)) (.pointer (some ⟨g, 0, none⟩))) {j : Nat} {z : Int} (hz : zs[j]? = some z) : W.cell? ⟨g, j, none⟩ = some (.int .u8 z) := by
  cases h with
  | ip _ rs _ _ hb ho hr hc =>
    have hv : (ints zs)[j]? = some (.i .u8 z) := by simp [ints, hz]
    obtain ⟨rv, h1, h2⟩ := hr.get hv
    have := hc j rv h1
    rw [Nat.zero_add] at this
    rw [this]
    cases h2; rfl
theorem ints_vr {zs : List Int} {μ : Mu} {I : Nat → Prop} {W : World} {g : Nat} (hI : I g) (h : ∀ (j : Nat) (z : Int), zs[j]? = some z → W.cell? ⟨g, j, none⟩ = some (.int .u8 z)) : VR W I μ (.ip (ints zs)) (.pointer (some ⟨g, 0, none⟩)) := by
  refine .ip _ (zs.map fun z => Value.int .u8 z) g 0 hI ?_ ?_ ?_
  · intro c hc
    obtain ⟨z, _, rfl⟩ := List.mem_map.1 hc
    rfl
  · unfold ints
    clear h
    induction zs with
    | nil => exact .nil
    | cons z zs ih => exact .cons _ _ _ _ (.i _ _) ih
  · intro j v hv
    rw [List.getElem?_map] at hv
    obtain ⟨z, hz, rfl⟩ := Option.map_eq_some_iff.1 hv
    rw [Nat.zero_add]; exact h j z hz

theorem acc_get : ∀ i, i < 16 → gAcc[2 * i]? = some ((Lib.accLo i : Nat) : Int) ∧ gAcc[2 * i + 1]? = some ((Lib.accHi i : Nat) : Int) := by decide
theorem first_get (c : Nat) (h : c < 256) : gFirst[c]? = some ((Lib.firstT c : Nat) : Int) := by simp [gFirst, h]
theorem tabs : Tabs GF := by
  intro μ I h w r
  refine ⟨fun c hc => ?_, fun i hi => ?_⟩
  · exact ints_get (r.glob 0 (ints gFirst) rfl) (first_get c hc)
  · exact ⟨ints_get (r.glob 1 (ints gAcc) rfl) (acc_get i hi).1, ints_get (r.glob 1 (ints gAcc) rfl) (acc_get i hi).2⟩
theorem tabB : TabB GF := by
  unfold TabB GF ints gDe
  simp

def ρ8 : Go.Shelf.Ren := ⟨fun n => n, fun | 5 => 5 | 119 => 73 | 138 => 76 | 139 => 77 | n => n, fun | 3 => 0 | 4 => 1 | n => n⟩
theorem u8types : U8Types Tryz.prog ρ8 := ⟨Tryz.underlying5, Tryz.underlying73, Tryz.underlying76, Tryz.underlying77⟩
theorem u8extra : U8Extra Tryz.prog ρ8 := ⟨by kernel_rfl, by kernel_rfl, by kernel_rfl, by kernel_rfl, by kernel_rfl, by kernel_rfl, by kernel_rfl⟩
theorem first_eq : Go.Pinned.utf8First = Lib.firstData := by kernel_rfl
theorem acc_eq : (Rows.laid_unicode_utf8_acceptRanges : DataW Unit) = Lib.acceptData := by kernel_rfl
theorem de_eq : (Rows.laid_math_bits_deBruijn64tab : DataW Unit) = Lib.tabData .u8 gDe := by kernel_rfl

theorem cell_lt {w : World} {a : Addr} {v : Value} (h : w.cell? a = some v) : a.block < w.heap.size := by
  unfold World.cell? at h
  cases ho : w.heap[a.block]? with
  | none => rw [ho] at h; cases h
  | some o => exact (Array.getElem?_eq_some_iff.1 ho).1

/-- The state in which the call begins: nothing of its own; whatever lies there is written by nobody. -/
theorem start {W : World} (hU : Lib.Utf8Tabs 0 1 W) (hD : ∀ (j : Nat) (z : Int), gDe[j]? = some z → W.cell? ⟨6, j, none⟩ = some (.int .u8 z)) :
    R GF (fun _ => none) (fun b => b < W.heap.size) (fun _ => none) W := by
  refine ⟨fun id o e => (by cases e), fun id id' t t' rb a => (a rfl).elim, fun b hb => hb, fun id t rb e => (by cases e), fun id t rb a => (a rfl).elim, ⟨0, fun _ _ => rfl⟩, ?_⟩
  have hf : ∀ (j : Nat) (z : Int), gFirst[j]? = some z → W.cell? ⟨0, j, none⟩ = some (.int .u8 z) := by
    intro j z hz
    have hj : j < 256 := by
      have := (List.getElem?_eq_some_iff.1 hz).1
      simpa [gFirst] using this
    rw [first_get j hj] at hz
    simp only [Option.some.injEq] at hz
    subst hz
    exact hU.1 j hj
  have ha : ∀ (j : Nat) (z : Int), gAcc[j]? = some z → W.cell? ⟨1, j, none⟩ = some (.int .u8 z) := by
    intro j z hz
    have hj : j < 32 := (List.getElem?_eq_some_iff.1 hz).1
    have hh := hU.2 (j / 2) (by omega)
    have hg := acc_get (j / 2) (by omega)
    by_cases hm : j % 2 = 0
    · have e : 2 * (j / 2) = j := by omega
      rw [e] at hh hg
      rw [hg.1] at hz
      simp only [Option.some.injEq] at hz
      subst hz; exact hh.1
    · have e : 2 * (j / 2) + 1 = j := by omega
      rw [e] at hh hg
      rw [hg.2] at hz
      simp only [Option.some.injEq] at hz
      subst hz; exact hh.2
  intro g cs e
  unfold GF at e
  split at e
  · rename_i hg; subst hg
    simp only [Option.some.injEq] at e; subst e
    exact ints_vr (cell_lt (hf 0 _ (first_get 0 (by omega)))) hf
  · split at e
    · rename_i hg; subst hg
      simp only [Option.some.injEq] at e; subst e
      exact ints_vr (cell_lt (ha 0 _ (acc_get 0 (by omega)).1)) ha
    · split at e
      · rename_i hg; subst hg
        simp only [Option.some.injEq] at e; subst e
        exact ints_vr (cell_lt (hD 0 0 rfl)) hD
      · cases e

/-- A byte slice that came in, nil or not. -/
theorem open_arg {H : Type} {enc : TypeId × Value → H} {W : World} {b0 : Nat} {a0 : Option Addr} {len cap fuel : Nat} {x : DataW H × List MemPlace}
    (hok : Value.okWide Tryz.prog W .any b0 22 (.slice a0 len cap)) (hf : DataW.trod enc Tryz.prog W 0 (fun _ => true) true fuel 22 [.slice a0 len cap] = some x) :
    ∃ l : List UInt8, VR W (fun b => b < W.heap.size) (fun _ => none) (.im 1 (bytesV l)) (.slice a0 len cap) := by
  rcases open_ints Tryz.underlying22 Tryz.underlying5 (by kernel_rfl) hf with ⟨hcs, hx⟩ | ⟨a, len', cap', zs, hcs, _, hl, hm, hz, hx, hcell, hw⟩
  · simp at hcs
    obtain ⟨rfl, rfl, rfl⟩ := hcs
    exact ⟨[], .imz _ _ _ plainA_none (fun _ => rfl)⟩
  · simp at hcs
    obtain ⟨rfl, rfl, rfl⟩ := hcs
    simp only [if_true] at hz
    simp only [Value.okWide, Tryz.underlying22, Cell.okWide, Cell.ok] at hok
    obtain ⟨_, hcap, _, hsp, _⟩ := hok
    obtain ⟨b, off, spot⟩ := a
    simp only at hsp
    subst hsp
    have hcap' : cap ≤ 9223372036854775807 := by
      have : (IntKind.i64.max : Int) = 9223372036854775807 := rfl
      omega
    by_cases h0 : len = 0
    · subst h0
      exact ⟨[], .imz _ _ _ (by intro y hy; cases hy; rfl) (by intro hn; cases hn)⟩
    · refine ⟨(zs.take len).map fun z => UInt8.ofNat z.toNat, ?_⟩
      have hlen : (bytesV ((zs.take len).map fun z => UInt8.ofNat z.toNat)).length = len := by rw [bytesV_length]; simp; omega
      have hb : b < W.heap.size := by
        have := cell_lt (hcell 0 (by omega))
        simpa [Addr.add] using this
      have := VR.im (w := W) (I := fun b => b < W.heap.size) (μ := fun _ => none) 1 (bytesV ((zs.take len).map fun z => UInt8.ofNat z.toNat)) (((zs.take len).map fun z => UInt8.ofNat z.toNat).map fun c => Value.int .u8 c.toNat) b off cap hb ?_ ?_ ?_ (by rw [hlen]; exact hl) hcap'
      · rw [hlen] at this; exact this
      · intro y hy
        simp only [bytesV, List.mem_map] at hy
        obtain ⟨c, _, rfl⟩ := hy
        exact ⟨rfl, by simp [bV, V.cells, V.one]⟩
      · rw [flat_bytesV]; exact VRs_bytes _
      · intro j v hv
        rw [List.getElem?_map, List.getElem?_map] at hv
        cases hj : (zs.take len)[j]? with
        | none => rw [hj] at hv; cases hv
        | some z =>
          rw [hj] at hv
          simp only [Option.map_some, Option.some.injEq] at hv
          have hjl : j < len := by
            have := (List.getElem?_eq_some_iff.1 hj).1
            simp at this; omega
          rw [List.getElem?_take_of_lt hjl] at hj
          have hzz : zs.getD j 0 = z := by simp [List.getD, hj]
          have hc := hcell j (by omega)
          rw [hzz] at hc
          have hwf := hw z (List.mem_of_getElem? hj)
          have hrange : 0 ≤ z ∧ z ≤ 255 := by
            simp only [Lit.wf] at hwf
            simpa [IntKind.min, IntKind.max, IntKind.signed, IntKind.bits] using hwf
          rw [← hv]
          have he : ((UInt8.ofNat z.toNat).toNat : Int) = z := by simp; omega
          rw [he]
          rw [← hc]
          unfold Addr.add
          split
          · rename_i hj0; subst hj0; rfl
          · rfl

theorem own : ownKnob Tryz.prog.godebug = none := by kernel_rfl
theorem laidOut : laidOutB Tryz.prog = true := by kernel_rfl
theorem gDeN : Tryz.prog.globalNamed "math/bits.deBruijn64tab" = some 6 := by kernel_rfl
theorem gDeT : (Tryz.prog.globals[6]?).map (·.type) = some 117 := by kernel_rfl
theorem cells5 : Tryz.prog.cellsOf 5 = 1 := by kernel_rfl
theorem cells117 : Tryz.prog.cellsOf 117 = 64 := by kernel_rfl

/-- What the row's list gives. -/
theorem listed {W : World} (h : laidMetH Tryz.prog Rows.fnTextsRow.laid W) : Lib.Utf8Tabs 0 1 W ∧ ∀ (j : Nat) (z : Int), gDe[j]? = some z → W.cell? ⟨6, j, none⟩ = some (.int .u8 z) := by
  refine ⟨?_, ?_⟩
  · have h1 := Lib.laidMet.reads h (n := "unicode/utf8.first") (d := Rows.laid_unicode_utf8_first) (.tail _ (.tail _ (.tail _ (.tail _ (.tail _ (.tail _ (.tail _ (.tail _ (.head _)))))))))
    have h2 := Lib.laidMet.reads h (n := "unicode/utf8.acceptRanges") (d := Rows.laid_unicode_utf8_acceptRanges) (.tail _ (.tail _ (.tail _ (.head _))))
    rw [show Rows.laid_unicode_utf8_first = Lib.firstData from first_eq] at h1
    rw [acc_eq] at h2
    exact utf8Tabs_of_readsT u8types u8extra h1 h2
  · have h3 := Lib.laidMet.reads h (n := "math/bits.deBruijn64tab") (d := Rows.laid_math_bits_deBruijn64tab) (.tail _ (.head _))
    rw [de_eq] at h3
    obtain ⟨g, t, cs, fuel, p, hg, hty, hvar, hd⟩ := h3
    obtain rfl := Option.some.inj (gDeN.symm.trans hg)
    obtain rfl := Option.some.inj (gDeT.symm.trans hty)
    have hcs := Lib.cells_of_tab Tryz.underlying117 Tryz.underlying5 cells5 cells117 hd
    intro j z hz
    have := World.var?_cell hg hvar j
    rw [this, ← Array.getElem?_toList, hcs]
    simp [hz]

/-- What the walks give, for every argument and every world that holds the listed variables. -/
theorem contract (H : Type) (enc : TypeId × Value → H) (W : World) (base : Nat) (args : Array Value) (ds gs : List (DataW H)) (before : List MemPlace)
    (hval : ∀ (j : Nat) t v, Tryz.f3.params[j]? = some t → args[j]? = some v → Value.okWide Tryz.prog W .any base t v)
    (hW : DataW.Whole enc Tryz.prog Tryz.f3.params.toList Rows.fnTextsSpec.vars false W args.toList ds gs before) (hL : laidMetH Tryz.prog Rows.fnTextsRow.laid W) :
    Calls Tryz.prog 3 args W fun e W' => ∃ v, e = .returned v ∧ Rows.fnTextsSpec.post enc Tryz.prog Tryz.f3 false true false false W args v W' := by
  have hW' := hW
  obtain ⟨p, q, hA0, hV0, rfl, _, _⟩ := hW
  have hA : DataW.TrodAll enc Tryz.prog W 0 (fun _ => true) true Tryz.f3.params.toList args.toList ds p := hA0
  rw [Tryz.params3] at hA hval
  obtain ⟨v0, v1, d0, d1, p0, p1, rfl, rfl, rfl, h0, h1⟩ := trodAll_two hA
  obtain ⟨rfl, rfl⟩ := trodVars_none hV0
  have k0 := hval 0 22 v0 rfl rfl
  have k1 := hval 1 22 v1 rfl rfl
  obtain ⟨a0, n0, c0, rfl⟩ := okWide_slice Tryz.underlying22 k0
  obtain ⟨a1, n1, c1, rfl⟩ := okWide_slice Tryz.underlying22 k1
  have h0k := h0
  have h1k := h1
  obtain ⟨fuel0, hf0⟩ := h0
  obtain ⟨fuel1, hf1⟩ := h1
  clear hA0 hV0
  simp only [List.append_nil] at hW'
  have hlt : ∀ x ∈ p0 ++ p1, x.block < W.heap.size := fun x hx => by simpa using hW'.lt x hx
  obtain ⟨l0, hv0⟩ := open_arg k0 hf0
  obtain ⟨l1, hv1⟩ := open_arg k1 hf1
  obtain ⟨hU, hD⟩ := listed hL
  have hc : Calls Tryz.prog 3 #[.slice a0 n0 c0, .slice a1 n1 c1] W (CPost GF (fun _ => none) (fun b => b < W.heap.size) W (fun o h' => o = .ret (.b true) ∧ h' = fun _ => none)) := by
    rcases texts_law GF tabs tabB (fun _ => none) l0 l1 (fun _ => none) _ W _ (start hU hD) (.cons _ _ _ _ hv0 (.cons _ _ _ _ hv1 .nil)) with ⟨_, hc⟩ | ⟨rv, w', hc, _⟩
    · exact hc
    · rw [MuLone.run_callFunc_enter Tryz.func3 (by kernel_rfl) rfl _ W] at hc; cases hc
  refine hc.mono ?_
  rintro e W' ⟨o, h', μ', I', ⟨rfl, rfl⟩, hx, hr, hout⟩
  cases e <;> first | (cases hout; done) | skip
  rename_i v
  have hvt : v = .bool true := by
    have : VR W' I' μ' (.b true) v := hout
    cases this; rfl
  subst hvt
  have bel : Below W.heap.size W W' := ⟨hx.os, hx.tape, hx.output, hx.size, fun k hk => hx.heap k hk⟩
  refine ⟨_, rfl, _, _, _, [], p0 ++ p1, [], hW', ?_, ?_, ?_, bel.frame _, fun h => by cases h⟩
  · exact trodAll_cons_mk (shut_bool Tryz.underlying4 _) trodAll_mk0
  · exact trodAll_mk2 (Below.trod laidOut (by kernel_rfl) (of_decide_eq_true (by kernel_rfl)) h0k bel (fun x hx => hlt x (by simp [hx]))) (Below.trod laidOut (by kernel_rfl) (of_decide_eq_true (by kernel_rfl)) h1k bel (fun x hx => hlt x (by simp [hx])))
  · rfl

/-! the witness: a world in which the listed variables hold what their text lays -/
def numsOf : DataW Unit → List Value
  | .agg ds => ds.map fun d => match d with
    | .lit (.int k n) => Value.int k n
    | _ => undef
  | _ => []
def spaces : List Int := [9, 13, 1, 32, 133, 101, 160, 5760, 5600, 8192, 8202, 1, 8232, 8233, 1, 8239, 8287, 48, 12288, 12288, 1]
noncomputable def laidWorld (os : Os) : World :=
  let N := (World.settled Tryz.prog os).heap.size
  let w0 := World.holding Tryz.prog os ⟨#[.cells (spaces.map fun z => Value.int .u16 z).toArray 137, .cells #[.slice (some ⟨N, 0, none⟩) 7 7, .slice none 0 0, .int .i64 2] 134,
    .cells #[.string ⟨#[118, 97, 108, 117, 101, 32, 111, 117, 116, 32, 111, 102, 32, 114, 97, 110, 103, 101]⟩] 130, .cells #[.string ⟨#[105, 110, 118, 97, 108, 105, 100, 32, 115, 121, 110, 116, 97, 120]⟩] 130], #[], []⟩
  let put (h : Array Obj) (g : Nat) (cs : Array Value) : Array Obj := h.modify g fun
    | .cells _ t frozen => .cells cs t frozen
    | o => o
  let h0 := put w0.heap 0 (numsOf Rows.laid_unicode_utf8_first).toArray
  let h1 := put h0 1 (gAcc.map fun z => Value.int .u8 z).toArray
  let h3 := put h1 3 (numsOf Rows.laid_internal_strconv_uint64pow10).toArray
  let h4 := put h3 4 (numsOf Rows.laid_strings_asciiSpace).toArray
  let h5 := put h4 5 (numsOf Rows.laid_math_bits_deBruijn32tab).toArray
  let h6 := put h5 6 (numsOf Rows.laid_math_bits_deBruijn64tab).toArray
  let h7 := put h6 7 #[.iface 128 (.pointer (some ⟨N + 3, 0, none⟩))]
  let h8 := put h7 8 #[.iface 128 (.pointer (some ⟨N + 2, 0, none⟩))]
  let h9 := put h8 9 #[.pointer (some ⟨N + 1, 0, none⟩)]
  { w0 with heap := h9 }
noncomputable abbrev N0 : Nat := (World.settled Tryz.prog default).heap.size
theorem piece0 (os : Os) : LaidIn Tryz.prog ((laidWorld os).forCall (fun _ _ => 0) ⟨#[], #[.slice none 0 0, .slice none 0 0], []⟩).memory [("math/bits.deBruijn32tab", Rows.laid_math_bits_deBruijn32tab)] [5] :=
  LaidIn.of_run [5] 12 (by kernel_rfl) (by kernel_rfl) (by kernel_rfl) (by kernel_rfl)
theorem piece1 (os : Os) : LaidIn Tryz.prog ((laidWorld os).forCall (fun _ _ => 0) ⟨#[], #[.slice none 0 0, .slice none 0 0], []⟩).memory [("math/bits.deBruijn64tab", Rows.laid_math_bits_deBruijn64tab)] [6] :=
  LaidIn.of_run [6] 12 (by kernel_rfl) (by kernel_rfl) (by kernel_rfl) (by kernel_rfl)
theorem piece2 (os : Os) : LaidIn Tryz.prog ((laidWorld os).forCall (fun _ _ => 0) ⟨#[], #[.slice none 0 0, .slice none 0 0], []⟩).memory [("internal/strconv.uint64pow10", Rows.laid_internal_strconv_uint64pow10)] [3] :=
  LaidIn.of_run [3] 12 (by kernel_rfl) (by kernel_rfl) (by kernel_rfl) (by kernel_rfl)
theorem piece3 (os : Os) : LaidIn Tryz.prog ((laidWorld os).forCall (fun _ _ => 0) ⟨#[], #[.slice none 0 0, .slice none 0 0], []⟩).memory [("unicode/utf8.acceptRanges", Rows.laid_unicode_utf8_acceptRanges)] [1] :=
  LaidIn.of_run [1] 12 (by kernel_rfl) (by kernel_rfl) (by kernel_rfl) (by kernel_rfl)
theorem piece4 (os : Os) : LaidIn Tryz.prog ((laidWorld os).forCall (fun _ _ => 0) ⟨#[], #[.slice none 0 0, .slice none 0 0], []⟩).memory [("strconv.ErrRange", Rows.laid_strconv_ErrRange)] [8, N0 + 2] :=
  LaidIn.of_run [8, N0 + 2] 12 (by kernel_rfl) (by kernel_rfl) (by kernel_rfl) (by kernel_rfl)
theorem piece5 (os : Os) : LaidIn Tryz.prog ((laidWorld os).forCall (fun _ _ => 0) ⟨#[], #[.slice none 0 0, .slice none 0 0], []⟩).memory [("strconv.ErrSyntax", Rows.laid_strconv_ErrSyntax)] [7, N0 + 3] :=
  LaidIn.of_run [7, N0 + 3] 12 (by kernel_rfl) (by kernel_rfl) (by kernel_rfl) (by kernel_rfl)
theorem piece6 (os : Os) : LaidIn Tryz.prog ((laidWorld os).forCall (fun _ _ => 0) ⟨#[], #[.slice none 0 0, .slice none 0 0], []⟩).memory [("unicode.White_Space", Rows.laid_unicode_White_Space)] [9, N0, N0 + 1] :=
  LaidIn.of_run [9, N0, N0 + 1] 12 (by kernel_rfl) (by kernel_rfl) (by kernel_rfl) (by kernel_rfl)
theorem piece7 (os : Os) : LaidIn Tryz.prog ((laidWorld os).forCall (fun _ _ => 0) ⟨#[], #[.slice none 0 0, .slice none 0 0], []⟩).memory [("strings.asciiSpace", Rows.laid_strings_asciiSpace)] [4] :=
  LaidIn.of_run [4] 12 (by kernel_rfl) (by kernel_rfl) (by kernel_rfl) (by kernel_rfl)
theorem piece8 (os : Os) : LaidIn Tryz.prog ((laidWorld os).forCall (fun _ _ => 0) ⟨#[], #[.slice none 0 0, .slice none 0 0], []⟩).memory [("unicode/utf8.first", Rows.laid_unicode_utf8_first)] [0] :=
  LaidIn.of_run [0] 12 (by kernel_rfl) (by kernel_rfl) (by kernel_rfl) (by kernel_rfl)
theorem laid_met (os : Os) : laidMet Tryz.prog Rows.fnTextsRow.laid ((laidWorld os).forCall (fun _ _ => 0) ⟨#[], #[.slice none 0 0, .slice none 0 0], []⟩).memory :=
  (((((((((piece0 os).append (piece1 os) (by kernel_rfl)).append (piece2 os) (by kernel_rfl)).append (piece3 os) (by kernel_rfl)).append (piece4 os) (by kernel_rfl)).append (piece5 os) (by kernel_rfl)).append (piece6 os) (by kernel_rfl)).append (piece7 os) (by kernel_rfl)).append (piece8 os) (by kernel_rfl)).met
theorem witness_row (os : Os) {H : Type} (enc : TypeId × Value → H) :
    (OpenSpec.ofChange Rows.fnTextsSpec).preRow enc Tryz.prog Tryz.f3 Rows.fnTextsRow.domain false Rows.fnTextsRow.laid ((laidWorld os).forCall (fun _ _ => 0) ⟨#[], #[.slice none 0 0, .slice none 0 0], []⟩).memory #[.slice none 0 0, .slice none 0 0] := by
  have hw : (DataW.whole enc Tryz.prog ((laidWorld os).forCall (fun _ _ => 0) ⟨#[], #[.slice none 0 0, .slice none 0 0], []⟩).memory Tryz.f3.params.toList Rows.fnTextsSpec.vars false #[Value.slice none 0 0, Value.slice none 0 0].toList 8).map (fun x => (x.1, x.2.1)) =
      some ([.nil, .nil], []) := by kernel_rfl
  obtain ⟨⟨x1, x2, x3⟩, hx, hx1⟩ := Option.map_eq_some_iff.1 hw
  simp only [Prod.mk.injEq] at hx1
  obtain ⟨rfl, rfl⟩ := hx1
  exact OpenSpec.preRow_of_cond 8 hx (by kernel_rfl) (fun k hk => by cases hk) (by kernel_rfl) (laid_met os)

end Go.Proofs.YtlhigokiophckaaGreatDoor.fnTexts
end

section
namespace Go.Proofs.YtlhigokiophckaaGreatDoor.fnTexts
open Go.ChangeShapes Go.WideShapes Go.ChangeAt Go.RowKit Go.X
set_option linter.unusedVariables false
set_option maxRecDepth 100000

theorem w_vars (os : Os) : ((laidWorld os).forCall (fun _ _ => 0) ⟨#[], #[.slice none 0 0, .slice none 0 0], []⟩).variablesRefB Tryz.prog = true := by kernel_rfl
theorem w_rest (os : Os) : (((laidWorld os).forCall (fun _ _ => 0) ⟨#[], #[.slice none 0 0, .slice none 0 0], []⟩).heap.toList.drop Tryz.prog.globals.size).take ((begin Tryz.prog (fun _ _ => 0) default).world.heap.size - Tryz.prog.globals.size) =
      (begin Tryz.prog (fun _ _ => 0) default).world.heap.toList.drop Tryz.prog.globals.size := by kernel_rfl
theorem w_ok (os : Os) : Input.okWideB Tryz.prog ((laidWorld os).forCall (fun _ _ => 0) ⟨#[], #[.slice none 0 0, .slice none 0 0], []⟩) 3 ⟨#[], #[.slice none 0 0, .slice none 0 0], []⟩ = true := by kernel_rfl
theorem notInit : Tryz.prog.inits.idxOf? 3 = none := by kernel_rfl
theorem lifted (os : Os) (started : os.Started) (H : Type) (enc : TypeId × Value → H) (F : Stop.Interp) :
    ReturnsInHanded {} Tryz.checked os 3 .any ((OpenSpec.ofChange Rows.fnTextsSpec).preRow enc Tryz.prog Tryz.f3 Rows.fnTextsRow.domain false Rows.fnTextsRow.laid) (((OpenSpec.ofChange Rows.fnTextsSpec).at F).post enc Tryz.prog Tryz.f3 false true false false) := by
  refine returnsInHanded_of_row (C := Tryz.checked) (s := OpenSpec.ofChange Rows.fnTextsSpec) own started notInit Tryz.func3
    (witness_row_atRef (enc := enc) (C := Tryz.checked) false (laidWorld os) #[.slice none 0 0, .slice none 0 0] rfl (w_vars os) (w_rest os) (w_ok os) (witness_row os enc)) ?_
  intro W base args ds gs before hval hW _ _ _ hL _ _
  exact contract H enc W base args ds gs before hval hW hL

theorem said : Rows.FnTextsSaid :=
  OpenClaim.holds_of_cond 3 Tryz.f3 rfl rfl rfl rfl rfl rfl rfl ⟨rfl, rfl, rfl, rfl, rfl⟩ rfl rfl rfl rfl rfl (by kernel_rfl) Tryz.func3 (by kernel_rfl)
    (of_decide_eq_true (by kernel_rfl)) (by unfold Func.isWrapper; first | (rw [if_pos (by decide +kernel)]; kernel_rfl) | (rw [if_neg (by decide +kernel)]; exact ⟨rfl, rfl⟩))
    (fun os started H enc _ F => by rw [OpenClaim.pre_eq_preRow]; exact lifted os started H enc F)

/-- No parameter wants a stand-in; the program's own looks are off: what the card asks. -/
theorem plain (f : FuncId) (fn : Func) (hf : Tryz.pinned.checked.prog.funcNamed "loop.example/s02126/laws.FnTexts" = some f) (hfn : Tryz.pinned.checked.prog.funcs[f]? = some fn) :
    true = Tryz.pinned.checked.prog.looks [] ∧ ∀ (j : Nat) t, fn.params[j]? = some t → Tryz.pinned.checked.prog.wantsStandIn t = false := by
  obtain rfl : f = 3 := Option.some.inj ((show Tryz.prog.funcNamed "loop.example/s02126/laws.FnTexts" = some 3 by kernel_rfl).symm.trans hf) |>.symm
  obtain rfl : fn = Tryz.f3 := (Option.some.inj (Tryz.func3.symm.trans hfn)).symm
  refine ⟨by kernel_rfl, fun j t ht => ?_⟩
  rw [Tryz.params3] at ht
  obtain rfl : t = 22 := by simpa using Array.mem_of_getElem? ht
  exact (show Tryz.prog.wantsStandIn 22 = false by kernel_rfl)

/-- The card. -/
theorem card : Rows.FnTextsCardSaid :=
  Claim7.holds_tied_plain_at .later [] _ _ _ _ said (fun _ h => by cases h) (by kernel_rfl) (fun _ h => by cases h) fnTexts_row_tie rfl ⟨rfl, rfl⟩ (by kernel_rfl) rfl plain (by kernel_rfl)
end Go.Proofs.YtlhigokiophckaaGreatDoor.fnTexts
end
