/- The calculus: slices, strings, append, conversions. -/
import Derived.Test.YtlhigokiophckaaGreatDoorKitA
import Derived.Lib.Builder
import Derived.Laws.Append
import Derived.Laws.IdiomStrings
import Derived.Lib.ConvBytes
import Derived.Lib.AppendStr
import Derived.Laws.BytesString
import Derived.Great.BuildSlice
import Derived.Laws.OwnMore
import Derived.Room.AppendUpon

section
set_option linter.unusedVariables false
set_option linter.unusedSimpArgs false
namespace Go.X

section
variable {P : Program} {G : Gl} {μ : Mu} {I : Nat → Prop} {h : H} {w : World}

def bnd (o : Option V) (d : Int) : Option Int :=
  match o with
  | none => some d
  | some v => asI v

def sliceV (P : Program) (h : H) (t : TypeId) (v : V) (lo hi : Option V) : Option V :=
  (ti P t).bind fun x => (bnd lo 0).bind fun a => match x.k, v with
    | .str, .s l => (bnd hi l.length).bind fun b => if 0 ≤ a ∧ a ≤ b ∧ b ≤ l.length then some (.s ((l.drop a.toNat).take (b.toNat - a.toNat))) else none
    | .sl _ es _, .im e xs => (bnd hi xs.length).bind fun b => if e = es ∧ 0 ≤ a ∧ a ≤ b ∧ b ≤ xs.length then some (.im e ((xs.drop a.toNat).take (b.toNat - a.toNat))) else none
    | .sl _ es _, .sl id off len => match h id with
      | some (.row e _) => (bnd hi len).bind fun b => if e = es ∧ 0 ≤ a ∧ a ≤ b ∧ b ≤ len then some (.sl id (off + a.toNat) (b.toNat - a.toNat)) else none
      | _ => none
    | .arr n _ es, .ptr id i f => match h id with
      | some (.row e xs) => (bnd hi n).bind fun b => if e = es ∧ f = 0 ∧ 0 ≤ a ∧ a ≤ b ∧ b ≤ n ∧ i + n ≤ xs.length ∧ n ≤ 9223372036854775807 then some (.sl id (i + a.toNat) (b.toNat - a.toNat)) else none
      | _ => none
    | .sl _ es _, .nil => (bnd hi 0).bind fun b => if a = 0 ∧ b = 0 then some .nil else none
    | _, _ => none

abbrev OptR (w : World) (I : Nat → Prop) (μ : Mu) (o : Option V) (ro : Option Value) : Prop :=
  match o, ro with | none, none => True | some v, some rv => VR w I μ v rv | _, _ => False

theorem bnd_run {o : Option V} {ro : Option Value} {d a : Int} (hb : bnd o d = some a) (ho : OptR w I μ o ro) :
    (o = none ∧ ro = none ∧ a = d) ∨ ∃ k, ro = some (.int k a) := by
  cases o with
  | none => cases ro with
    | none => simp [bnd] at hb; exact .inl ⟨rfl, rfl, hb.symm⟩
    | some _ => exact ho.elim
  | some v => cases ro with
    | none => exact ho.elim
    | some rv =>
      simp only [bnd] at hb
      cases v <;> simp only [asI] at hb <;> first | (cases hb; done) | skip
      simp only [Option.some.injEq] at hb; subst hb
      cases ho
      exact .inr ⟨_, rfl⟩

theorem run_bounds {lo hi : Option V} {rlo rhi : Option Value} {a b : Int} {len cap : Nat} (isSlice : Bool) (hl : bnd lo 0 = some a) (hh : bnd hi len = some b) (h1 : OptR w I μ lo rlo) (h2 : OptR w I μ hi rhi)
    (h0 : 0 ≤ a) (hab : a ≤ b) (hbc : b ≤ cap) : (Instr.sliceBounds isSlice len cap rlo rhi none).run P w = .ok (a.toNat, b.toNat, cap) w := by
  have eb : (b.toNat : Int) = b := Int.toNat_of_nonneg (by omega)
  rcases bnd_run hl h1 with ⟨rfl, rfl, rfl⟩ | ⟨k, rfl⟩ <;> rcases bnd_run hh h2 with ⟨rfl, rfl, rfl⟩ | ⟨k', rfl⟩
  · simp [Instr.sliceBounds]
  · simp [Instr.sliceBounds, run_sliceBound (P := P) (w := w) k' b cap _ (by omega) hbc]
  · simp [Instr.sliceBounds, run_sliceBound (P := P) (w := w) k a _ _ h0 hab]
  · simp only [Instr.sliceBounds, Sem.run_bind, Sem.run_pure, Result.andThen_ok, Option.isSome_none]
    simp [run_sliceBound (P := P) (w := w) k' b cap _ (by omega) hbc, run_sliceBound (P := P) (w := w) k a b.toNat _ h0 (by omega)]

theorem run_slice_of {t e : TypeId} {ei : TypeInfo} {ad : Option Addr} {len cap l hh m : Nat} {rlo rhi : Option Value} (hd : P.underlying t = some (.slice e)) (he : P.info? e = some ei)
    (hr : (Instr.sliceBounds true len cap rlo rhi none).run P w = .ok (l, hh, m) w) :
    (Instr.sliceAt t (.slice ad len cap) rlo rhi none).run P w = .ok (.slice (if m = l then ad else ad.map (·.add (l * ei.size))) (hh - l) (m - l)) w := by
  simp only [Instr.sliceAt, Instr.slice, Sem.run_bind, run_underlying hd, Result.andThen_ok, hr, run_sz he, Sem.run_pure]

theorem extract_list (l : List UInt8) (a b : Nat) (hab : a ≤ b) (hb : b ≤ l.length) : (⟨⟨l⟩⟩ : ByteArray).extract a b = ⟨⟨(l.drop a).take (b - a)⟩⟩ := by
  apply ByteArray.ext
  rw [ByteArray.data_extract]
  simp [List.extract_eq_take_drop]

theorem run_sliceV (r : R G μ I h w) {t : TypeId} {v y : V} {rv : Value} {lo hi : Option V} {rlo rhi : Option Value} (hf : sliceV P h t v lo hi = some y) (hv : VR w I μ v rv)
    (h1 : OptR w I μ lo rlo) (h2 : OptR w I μ hi rhi) : ∃ rr, (Instr.sliceAt t rv rlo rhi none).run P w = .ok rr w ∧ VR w I μ y rr := by
  simp only [sliceV, Option.bind_eq_some_iff] at hf
  obtain ⟨x, hx, a, ha, hl⟩ := hf
  obtain ⟨ifo, d, hinfo, hd, hk, _⟩ := ti_spec hx
  cases hxk : x.k <;> cases v <;> simp only [hxk] at hl <;> first | (cases hl; done) | skip
  case str.s l =>
    have hd' : d = .string := by cases d <;> simp [kn, hxk] at hk <;> first | rfl | ((repeat' split at hk) <;> cases hk)
    subst hd'
    cases hv
    simp only [Option.bind_eq_some_iff] at hl
    obtain ⟨b, hb, hl⟩ := hl
    split at hl
    · rename_i hc
      simp only [Option.some.injEq] at hl; subst hl
      have hr := run_bounds (P := P) (len := l.length) (cap := l.length) false ha hb h1 h2 hc.1 hc.2.1 hc.2.2
      refine ⟨.string ((⟨⟨l⟩⟩ : ByteArray).extract a.toNat b.toNat), ?_, ?_⟩
      · have hs : (⟨⟨l⟩⟩ : ByteArray).size = l.length := rfl
        simp only [Instr.sliceAt, Instr.slice, Sem.run_bind, run_underlying hd, Result.andThen_ok, Option.isSome_none, Bool.false_eq_true, if_false, hs]
        simp [hr]
      · rw [extract_list _ _ _ (by omega) (by omega)]; exact .s _ (by rename_i hll; simp; omega)
    · cases hl
  case arr.ptr n et es id i f =>
    obtain ⟨rfl, ei, he, hes⟩ := kn_arr (hk.symm.trans hxk)
    cases hid : h id with
    | none => simp [hid] at hl
    | some o =>
      cases o <;> simp only [hid] at hl <;> first | (cases hl; done) | skip
      rename_i e xs
      simp only [Option.bind_eq_some_iff] at hl
      obtain ⟨b, hb, hl⟩ := hl
      split at hl
      · rename_i hc
        obtain ⟨rfl, rfl, h0, hab, hbn, hin, h63⟩ := hc
        simp only [Option.some.injEq] at hl; subst hl
        cases hv with
        | ptr _ _ _ rb base e' n' hm =>
          rcases (r.obj id _ hid).2 with ⟨_, h3⟩ | ⟨rb', base', n'', rcs, T, fz, rs, hr⟩
          · rw [hm] at h3; cases h3
          · have hme := hr.mu; rw [hm] at hme; cases hme
            have hfit := hr.fit
            have hbd := run_bounds (P := P) (len := n) (cap := n) false ha hb h1 h2 h0 hab hbn
            have hie : (i + n) * e ≤ xs.length * e := Nat.mul_le_mul_right _ hin
            have hrun : (Instr.sliceAt t (.pointer (some ⟨rb, base + i * e + 0, none⟩)) rlo rhi none).run P w = .ok (.slice (some (if n = a.toNat then ⟨rb, base + i * e + 0, none⟩ else (⟨rb, base + i * e + 0, none⟩ : Addr).add (a.toNat * ei.size))) (b.toNat - a.toNat) (n - a.toNat)) w := by
              simp only [Instr.sliceAt, Sem.run_bind, run_underlying hd, Instr.sureAddr, Sem.run_pure, Result.andThen_ok, hbd, run_sz he]
            refine ⟨_, hrun, ?_⟩
            by_cases hz : n = a.toNat
            · rw [if_pos hz]
              have e1 : b.toNat - a.toNat = 0 := by omega
              have e2 : n - a.toNat = 0 := by omega
              rw [e1, e2]
              exact .slz _ _ _ (plainA_some _ _)
            · rw [if_neg hz, add_lit, hes]
              have hoff : (i + a.toNat + (n - a.toNat)) * e = (i + n) * e := by congr 1; omega
              have := VR.sl (w := w) (I := I) id (i + a.toNat) (b.toNat - a.toNat) rb base _ n' (n - a.toNat) hm (by omega) (by rw [hoff]; omega) (by omega)
              rw [Nat.add_mul] at this
              simpa [Nat.add_assoc] using this
      · cases hl
  case sl.im e' es bs e xs =>
    obtain ⟨rfl, ei, he, hes, _⟩ := kn_sl (hk.symm.trans hxk)
    simp only [Option.bind_eq_some_iff] at hl
    obtain ⟨b, hb, hl⟩ := hl
    split at hl
    · rename_i hc
      simp only [Option.some.injEq] at hl; subst hl
      obtain ⟨rfl, hc⟩ := hc
      have hab : a.toNat ≤ b.toNat := by omega
      cases hv with
      | imz e ad cap had had2 =>
        have hb : bnd hi ((0 : Nat) : Int) = some b := hb
        have hc : 0 ≤ a ∧ a ≤ b ∧ b ≤ ((0 : Nat) : Int) := hc
        have hr := run_bounds (P := P) (len := 0) (cap := cap) true ha hb h1 h2 hc.1 hc.2.1 (by omega)
        have h3 : b.toNat - a.toNat = 0 := by omega
        refine ⟨_, run_slice_of hd he hr, ?_⟩
        simp only [List.drop_nil, List.take_nil, h3]
        exact .imz _ _ _ (plainA_ite had _) (capz had2)
      | im e xs rs bk o cap hI hu hvr hcell hle hcm =>
        have hr := run_bounds (P := P) (len := xs.length) (cap := cap) true ha hb h1 h2 hc.1 hc.2.1 (by omega)
        refine ⟨_, run_slice_of hd he hr, ?_⟩
        by_cases hz : b.toNat - a.toNat = 0
        · rw [hz, List.take_zero]; exact .imz _ _ _ (plainA_ite (plainA_some _ _) _) (fun e => by split at e <;> simp at e)
        · have hcl : ¬ cap = a.toNat := by omega
          simp only [if_neg hcl, Option.map_some, add_lit, hes]
          have hlen : ((xs.drop a.toNat).take (b.toNat - a.toNat)).length = b.toNat - a.toNat := by simp; omega
          have := VR.im (w := w) (μ := μ) e ((xs.drop a.toNat).take (b.toNat - a.toNat)) ((rs.drop (a.toNat * e)).take ((b.toNat - a.toNat) * e)) bk (o + a.toNat * e) (cap - a.toNat) hI
            (fun z hz => hu z (List.mem_of_mem_drop (List.mem_of_mem_take hz)))
            (by rw [flat_take (fun z hz => hu z (List.mem_of_mem_drop hz)), flat_drop hu]; exact (hvr.drop _).take _)
            (fun j v hv => by
              rw [List.getElem?_take] at hv
              split at hv
              · rw [List.getElem?_drop] at hv
                have := hcell _ _ hv
                rw [← this]; congr 2; omega
              · cases hv)
            (by rw [hlen]; omega) (by omega)
          rw [hlen] at this; exact this
    · cases hl
  case sl.sl e' es bs id off len =>
    obtain ⟨rfl, ei, he, hes, _⟩ := kn_sl (hk.symm.trans hxk)
    cases hid : h id with
    | none => simp [hid] at hl
    | some ob =>
      cases ob <;> simp only [hid] at hl <;> first | (cases hl; done) | skip
      rename_i e xs
      simp only [Option.bind_eq_some_iff] at hl
      obtain ⟨b, hb, hl⟩ := hl
      split at hl
      · rename_i hc
        simp only [Option.some.injEq] at hl; subst hl
        obtain ⟨rfl, hc⟩ := hc
        cases hv with
        | slz _ _ ad had =>
          have hr := run_bounds (P := P) (len := 0) (cap := 0) true ha hb h1 h2 hc.1 hc.2.1 (by simpa using hc.2.2)
          have h3 : a.toNat = 0 ∧ b.toNat = 0 := by omega
          refine ⟨_, run_slice_of hd he hr, ?_⟩
          rw [h3.1, h3.2]; exact .slz _ _ _ (plainA_ite had _)
        | sl _ _ _ rb base e2 n cap hm hle hroom hcm =>
          have hr := run_bounds (P := P) (len := len) (cap := cap) true ha hb h1 h2 hc.1 hc.2.1 (by omega)
          have ho := r.obj id _ hid
          have he2 : e2 = e := by
            rcases ho.2 with ⟨_, h3⟩ | ⟨rb', base', n', rcs, T, fz, rs, hr⟩
            · rw [hm] at h3; cases h3
            · have hme := hr.mu; rw [hm] at hme; cases hme; rfl
          subst he2
          refine ⟨_, run_slice_of hd he hr, ?_⟩
          by_cases hcl : cap = a.toNat
          · have h3 : b.toNat - a.toNat = 0 := by omega
            rw [h3, hcl]; simp only [Nat.sub_self]; exact .slz _ _ _ (by first | exact plainA_ite (plainA_some _ _) _ | (simp only [if_true]; exact plainA_some _ _))
          · simp only [if_neg hcl, Option.map_some, add_lit, hes]
            have := VR.sl (w := w) (I := I) id (off + a.toNat) (b.toNat - a.toNat) rb base e2 n (cap - a.toNat) hm (by omega) (by
              have : off + a.toNat + (cap - a.toNat) = off + cap := by omega
              rw [this]; exact hroom) (by omega)
            rw [Nat.add_mul, ← Nat.add_assoc] at this; exact this
      · cases hl
  case sl.nil e' es bs =>
    obtain ⟨rfl, ei, he, hes, _⟩ := kn_sl (hk.symm.trans hxk)
    cases hv
    simp only [Option.bind_eq_some_iff] at hl
    obtain ⟨b, hb, hl⟩ := hl
    split at hl
    · rename_i hc
      simp only [Option.some.injEq] at hl; subst hl
      obtain ⟨rfl, rfl⟩ := hc
      have hr := run_bounds (P := P) (len := 0) (cap := 0) true ha hb h1 h2 (by omega) (by omega) (by omega)
      refine ⟨_, run_slice_of hd he hr, ?_⟩
      exact .nil
    · cases hl

/-! composite values -/
def fillV (places : List (Nat × Nat)) : List V → List (Nat × V) → Option (List V)
  | cells, [] => some cells
  | cells, (i, v) :: rest => (places[i]?).bind fun p =>
      if v.cells.length = p.2 ∧ p.1 + v.cells.length ≤ cells.length then fillV places (setFrom cells p.1 v.cells) rest else none

def buildV (P : Program) (t : TypeId) (parts : List (Nat × V)) : Option V :=
  (ti P t).bind fun x => match x.zero, x.k with
    | some (.ag zs), .st => (fillV (x.fl.map fun p => (p.1, p.2.2)) zs parts).bind fun cs => if cs.all V.one then some (.ag cs) else none
    | some (.ag zs), .arr n _ es => (fillV ((List.range n).map fun i => (i * es, es)) zs parts).bind fun cs => if cs.all V.one then some (.ag cs) else none
    | _, _ => none

theorem foldl_set {α : Type} (vs : List α) : ∀ (l : List α) (off s : Nat), (vs.zipIdx s).foldl (fun (cs : Array α) (p : α × Nat) => cs.setIfInBounds (off + p.2) p.1) ⟨l⟩ = ⟨setFrom l (off + s) vs⟩ := by
  induction vs with
  | nil => intro l off s; rfl
  | cons v vs ih =>
    intro l off s
    simp only [List.zipIdx_cons, List.foldl_cons, setFrom]
    rw [show (⟨l⟩ : Array α).setIfInBounds (off + s) v = ⟨l.set (off + s) v⟩ by simp, ih]
    rw [Nat.add_assoc]

theorem fill_spec {places : List (Nat × Nat)} {pl : Nat → Option (Nat × Nat)} (hp : ∀ i q, places[i]? = some q → pl i = some q) : ∀ {parts : List (Nat × V)} {rparts : List (Nat × Value)} {cs r : List V} {rcs : List Value},
    fillV places cs parts = some r → VRs w I μ cs rcs → rparts.map (·.1) = parts.map (·.1) → VRs w I μ (parts.map (·.2)) (rparts.map (·.2)) → (∀ p ∈ parts, ∀ vs, p.2 ≠ .tu vs) →
    ∃ rr, Instr.fill pl ⟨rcs⟩ rparts = some ⟨rr⟩ ∧ VRs w I μ r rr := by
  intro parts
  induction parts with
  | nil =>
    intro rparts cs r rcs hf hc h1 h2 _
    cases rparts with
    | nil => simp only [fillV, Option.some.injEq] at hf; subst hf; exact ⟨rcs, rfl, hc⟩
    | cons _ _ => simp at h1
  | cons p parts ih =>
    intro rparts cs r rcs hf hc h1 h2 h3
    obtain ⟨i, v⟩ := p
    cases rparts with
    | nil => simp at h1
    | cons rp rparts =>
      obtain ⟨ri, rv⟩ := rp
      simp only [List.map_cons, List.cons.injEq] at h1 h2
      obtain ⟨rfl, h1⟩ := h1
      cases h2 with
      | cons _ _ _ _ hv h2 =>
        simp only [fillV, Option.bind_eq_some_iff] at hf
        obtain ⟨q, hq, hf⟩ := hf
        split at hf
        · rename_i hcnd
          have hvc := hv.cells (h3 (ri, v) (by simp))
          have hlen := hvc.length
          have hcl := hc.length
          obtain ⟨rr, h5, h6⟩ := ih hf (VRs.setFrom q.1 hc hvc) h1 h2 (fun p hp => h3 p (by simp [hp]))
          refine ⟨rr, ?_, h6⟩
          have hsz : rv.cells.size = v.cells.length := by rw [← hlen]; simp
          simp only [Instr.fill, hp _ _ hq]
          rw [if_neg (by simp [hsz]; omega)]
          rw [← h5]
          congr 1
          have := foldl_set rv.cells.toList rcs q.1 0
          rw [Nat.add_zero] at this
          rw [← this, ← Array.foldl_toList, Array.toList_zipIdx]
        · cases hf

theorem places_of_fl : ∀ (l : List Field) (fl : List (Nat × TypeId × Nat)), l.mapM (fun f => (P.info? f.type).map fun i => (f.offset, f.type, i.size)) = some fl →
    l.mapM (fun f => (P.info? f.type).map fun i => (f.offset, i.size)) = some (fl.map fun p => (p.1, p.2.2))
  | [], fl, h => by simp at h; subst h; simp
  | f :: l, fl, h => by
    simp only [List.mapM_cons, Option.bind_eq_bind, Option.bind_eq_some_iff, Option.pure_def, Option.some.injEq, Option.map_eq_some_iff] at h
    obtain ⟨b, ⟨i, hi, rfl⟩, bs, hbs, rfl⟩ := h
    simp [List.mapM_cons, hi, places_of_fl l bs hbs]

theorem run_buildV {t : TypeId} {parts : List (Nat × V)} {rparts : List (Nat × Value)} {y : V} (hf : buildV P t parts = some y)
    (h1 : rparts.map (·.1) = parts.map (·.1)) (h2 : VRs w I μ (parts.map (·.2)) (rparts.map (·.2))) (h3 : ∀ p ∈ parts, ∀ vs, p.2 ≠ .tu vs) :
    ∃ rr, (Instr.build t ⟨rparts⟩).run P w = .ok rr w ∧ VR w I μ y rr := by
  simp only [buildV, Option.bind_eq_some_iff] at hf
  obtain ⟨x, hx, hl⟩ := hf
  obtain ⟨ifo, d, hinfo, hd, hk, hs, hzz, hfl⟩ := ti_spec hx
  split at hl
  · rename_i zs hz hxk
    rw [hzz, Option.bind_eq_some_iff] at hz
    obtain ⟨rz, hrz, hcz⟩ := hz
    have hzr : VR w I μ (.ag zs) rz := ofConst_spec rz hcz
    cases hzr with
    | ag _ rzs hvz hoz =>
      simp only [Option.bind_eq_some_iff] at hl
      obtain ⟨cs, hcs, hl⟩ := hl
      split at hl
      · rename_i hone
        simp only [Option.some.injEq] at hl; subst hl
        obtain ⟨fs, rfl⟩ := kn_st (hk.symm.trans hxk)
        simp only [flOf] at hfl
        have hpl := places_of_fl _ _ hfl
        obtain ⟨rr, h5, h6⟩ := fill_spec (pl := fun i => (x.fl.map fun p => (p.1, p.2.2)).toArray[i]?) (fun i q hq => by simpa using hq) hcs hvz h1 h2 h3
        refine ⟨.agg ⟨rr⟩, run_build w t ⟨rparts⟩ ⟨rr⟩ ?_, .ag _ _ h6 (by simpa using hone)⟩
        simp only [Program.built, hinfo, hd, hrz, hpl]
        exact h5
      · cases hl
  · rename_i zs n e es hz hxk
    rw [hzz, Option.bind_eq_some_iff] at hz
    obtain ⟨rz, hrz, hcz⟩ := hz
    have hzr : VR w I μ (.ag zs) rz := ofConst_spec rz hcz
    cases hzr with
    | ag _ rzs hvz hoz =>
      simp only [Option.bind_eq_some_iff] at hl
      obtain ⟨cs, hcs, hl⟩ := hl
      split at hl
      · rename_i hone
        simp only [Option.some.injEq] at hl; subst hl
        obtain ⟨rfl, ei, he, hes⟩ := kn_arr (hk.symm.trans hxk)
        obtain ⟨rr, h5, h6⟩ := fill_spec (pl := fun i => some (i * ei.size, ei.size)) (fun i q hq => by
          simp only [List.getElem?_map, Option.map_eq_some_iff] at hq
          obtain ⟨a, ha, rfl⟩ := hq
          have := (List.getElem?_eq_some_iff.1 ha).2
          simp at this; subst this; rw [hes]) hcs hvz h1 h2 h3
        refine ⟨.agg ⟨rr⟩, run_build w t ⟨rparts⟩ ⟨rr⟩ ?_, .ag _ _ h6 (by simpa using hone)⟩
        simp only [Program.built, hinfo, hd, hrz, he]
        exact h5
      · cases hl
  · cases hl

/-! comparisons -/
def eqV (P : Program) : Nat → TypeId → V → V → Option Bool
  | 0, _, _, _ => none
  | d + 1, t, u, v => (ti P t).bind fun x => match x.k, u, v with
    | .bool, .b a, .b b => some (a == b)
    | .int _, .i k a, .i k' b => if k = k' then some (decide (a = b)) else none
    | .str, .s a, .s b => some (decide (a = b))
    | .ptr _, .pnil, .pnil => some true
    | .ptr _, .pnil, .ptr .. => some false
    | .ptr _, .ptr .., .pnil => some false
    | .ptr _, .pnil, .ip _ => some false
    | .ptr _, .ip _, .pnil => some false
    | .ifc, .nifc, .nifc => some true
    | .ifc, .nifc, .ifc .. => some false
    | .ifc, .ifc .., .nifc => some false
    | .ifc, .ifc t1 a, .ifc t2 b => if t1 = t2 then (if ((P.info? t1).map (·.comparable)) = some true then eqV P d t1 a b else none) else some false
    | .sl .., .nil, .nil => some true
    | .map .., .mnil, .mnil => some true
    | .map .., .mp _, .mnil => some false
    | .map .., .mnil, .mp _ => some false
    | .fn, .nfn, .nfn => some true
    | .fn, .fn .., .nfn => some false
    | .fn, .nfn, .fn .. => some false
    | .ptr e, .ptr i j f, .ptr i' j' f' => if i = i' ∧ j = j' ∧ f = f' ∧ (P.info? e).isSome = true then some true else none
    | _, _, _ => none

theorem kn_simple {d : TypeDesc} : (kn P d = .bool → d = .bool) ∧ (∀ k, kn P d = .int k → d = .int k) ∧ (kn P d = .str → d = .string) ∧ (∀ e, kn P d = .ptr e → d = .pointer e) ∧
    (kn P d = .ifc → ∃ ms, d = .interface ms) ∧ (∀ k e, kn P d = .map k e → d = .map k e) ∧ (kn P d = .fn → ∃ a b c, d = .func a b c) := by
  cases d <;> simp [kn] <;> (repeat' split) <;> simp

theorem run_eqV : ∀ (d : Nat) {t : TypeId} {u v : V} {ru rv : Value} {b : Bool}, eqV P d t u v = some b → VR w I μ u ru → VR w I μ v rv → ∀ m, d ≤ m → (Op.equalIn m t ru rv).run P w = .ok b w := by
  intro d
  induction d with
  | zero => intro t u v ru rv b h; simp [eqV] at h
  | succ d ih =>
    intro t u v ru rv b hq hu hv m hm
    obtain ⟨m, rfl⟩ : ∃ m', m = m' + 1 := ⟨m - 1, by omega⟩
    simp only [eqV, Option.bind_eq_some_iff] at hq
    obtain ⟨x, hx, hl⟩ := hq
    obtain ⟨ifo, dd, hinfo, hd, hk, -⟩ := ti_spec hx
    have ks := @kn_simple P dd
    rw [← hk] at ks
    split at hl <;> first | (cases hl; done) | skip
    all_goals (rename_i hxk; try rw [hxk] at ks)
    all_goals first
      | (obtain rfl := ks.1 rfl)
      | (obtain rfl := ks.2.1 _ rfl)
      | (obtain rfl := ks.2.2.1 rfl)
      | (obtain rfl := ks.2.2.2.1 _ rfl)
      | (obtain ⟨ms, rfl⟩ := ks.2.2.2.2.1 rfl)
      | (obtain rfl := ks.2.2.2.2.2.1 _ _ rfl)
      | (obtain ⟨_, _, _, rfl⟩ := ks.2.2.2.2.2.2 rfl)
      | (obtain ⟨rfl, _⟩ := kn_sl (hk.symm.trans hxk))
    case h_12 =>
      cases hu; cases hv
      rename_i t1 a t2 c ra hra rc hrc
      have hd1 : (Op.equalIn (m + 1) t (.iface t1 ra) (.iface t2 rc)).run P w = (if t1 ≠ t2 then pure false else do
          let info ← typeInfo t1
          if !info.comparable then
            if (← program).holdsPacked (← program).depth t1 then unsupported (.noEntry "binop/eql.a type that holds a type that a stand-in pack declares, and that cannot be compared by the pack's declaration")
            runtimePanic (.error ("comparing uncomparable type " ++ (← typeStr t1)))
          else Op.equalIn m t1 ra rc : Sem Bool).run P w := by
        simp only [Op.equalIn, Sem.run_bind, run_underlying hd, Result.andThen_ok]
      rw [hd1]
      split at hl
      · rename_i ht; subst ht
        split at hl
        · rename_i hc
          simp only [Option.map_eq_some_iff] at hc
          obtain ⟨i1, hi1, hc1⟩ := hc
          simp only [ne_eq, not_true_eq_false, if_false, Sem.run_bind, run_ti hi1, Result.andThen_ok, hc1, Bool.not_true, Bool.false_eq_true]
          exact ih hl hra hrc m (by omega)
        · cases hl
      · rename_i ht
        simp only [Option.some.injEq] at hl; subst hl
        simp [ht]
    case h_20 =>
      split at hl
      · rename_i hc
        obtain ⟨rfl, rfl, rfl, hi⟩ := hc
        simp only [Option.some.injEq] at hl; subst hl
        obtain ⟨i1, hi1⟩ := Option.isSome_iff_exists.1 hi
        cases hu with
        | ptr _ _ _ rb base e n hm =>
          cases hv with
          | ptr _ _ _ rb' base' e' n' hm' =>
            rw [hm] at hm'; cases hm'
            simp [Op.equalIn, run_underlying hd, sizeOf, typeInfo, hi1, run_sameAddr_same]
      · cases hl
    case h_2 =>
      cases hu; cases hv
      split at hl
      · rename_i hkk; subst hkk
        simp only [Option.some.injEq] at hl; subst hl
        simp only [Op.equalIn, Sem.run_bind, run_underlying hd, Result.andThen_ok, if_true, Sem.run_pure]; rfl
      · cases hl
    case h_3 =>
      cases hu; cases hv
      simp only [Option.some.injEq] at hl; subst hl
      simp only [Op.equalIn, Sem.run_bind, run_underlying hd, Result.andThen_ok, Sem.run_pure]
      congr 1
      rw [Bool.eq_iff_iff]
      rename_i a b _ _
      have : (({data := {toList := a}} : ByteArray) == {data := {toList := b}}) = (({toList := a} : Array UInt8) == {toList := b}) := rfl
      rw [this]; simp
    all_goals
      cases hu <;> cases hv <;> simp only [Option.some.injEq] at hl <;> subst hl <;>
      simp [Op.equalIn, run_underlying hd]

end
end Go.X
end

section
set_option linter.unusedVariables false
set_option linter.unusedSimpArgs false
namespace Go.X

section
variable {P : Program} {G : Gl} {μ : Mu} {I : Nat → Prop} {h : H} {w : World}

def eqOut (op : BinOp) (b : Bool) : Option V :=
  match op with
  | .eql => some (.b b)
  | .neq => some (.b (!b))
  | _ => none

/-- 'c': one of the operands is a constant. -/
def binP (P : Program) (t : TypeId) (op : BinOp) (u v : V) (c : Bool) : Option V :=
  match u, v with
  | .i k x, .i k' y => if isShift op then shiftBin op k x y else if k = k' then intBin op k x y else none
  | .s a, .s b => strBin op a b
  | .nifc, .nifc => if c then (eqV P 4 t u v).bind (eqOut op) else none
  | .ag _, .ag _ => none
  | u, v => (eqV P 4 t u v).bind (eqOut op)

theorem run_equal {t : TypeId} {u v : V} {ru rv : Value} {b : Bool} (hq : eqV P 4 t u v = some b) (hu : VR w I μ u ru) (hv : VR w I μ v rv) : (Op.equal t ru rv).run P w = .ok b w :=
  run_eqV 4 hq hu hv Op.maxDepth (by unfold Op.maxDepth; omega)

theorem run_eqOut {t : TypeId} {op : BinOp} {ru rv : Value} {b : Bool} {y : V} (he : (Op.equal t ru rv).run P w = .ok b w) (ho : eqOut op b = some y)
    (h1 : ¬ (∃ k x k' y, ru = .int k x ∧ rv = .int k' y)) (h2 : ¬ (∃ x y, ru = .string x ∧ rv = .string y)) (h3 : ∀ k a, ru ≠ .float k a) (h4 : ∀ k a b, ru ≠ .complex k a b) :
    ∃ rr, (Go.binOp op t ru rv).run P w = .ok rr w ∧ VR w I μ y rr := by
  cases op <;> simp only [eqOut, Option.some.injEq] at ho <;> first | (cases ho; done) | skip
  · subst ho
    refine ⟨.bool b, ?_, .b _⟩
    unfold Go.binOp
    split <;> first
      | (simp_all; done)
      | (simp only [Sem.run_bind, he, Result.andThen_ok, Sem.run_pure])
  · subst ho
    refine ⟨.bool (!b), ?_, .b _⟩
    unfold Go.binOp
    split <;> first
      | (simp_all; done)
      | (simp only [Sem.run_bind, he, Result.andThen_ok, Sem.run_pure])

def isC : Operand → Bool
  | .const _ => true
  | _ => false

theorem run_eqGuard {op : BinOp} {t : TypeId} {x y : Operand} {a b : Value} (h1 : a = .nilIface ∧ b = .nilIface → (isC x || isC y) = true) (h2 : ¬ ((∃ p, a = .agg p) ∧ ∃ q, b = .agg q)) :
    (eqGuard op t x y a b).run P w = .ok () w := by
  unfold eqGuard
  cases op <;> try rfl
  all_goals
    cases a <;> cases b <;> first
      | rfl
      | (exact absurd ⟨⟨_, rfl⟩, _, rfl⟩ h2)
      | (have h3 := h1 ⟨rfl, rfl⟩
         cases x <;> cases y <;> first | rfl | (cases h3))

theorem run_binP {t : TypeId} {op : BinOp} {u v y : V} {ru rv : Value} {xo yo : Operand} (hb : binP P t op u v (isC xo || isC yo) = some y) (hu : VR w I μ u ru) (hv : VR w I μ v rv) :
    ∃ rr, (do eqGuard op t xo yo ru rv; Go.binOp op t ru rv : Sem Value).run P w = .ok rr w ∧ VR w I μ y rr := by
  have fin : ((eqGuard op t xo yo ru rv).run P w = .ok () w) → (∃ rr, (Go.binOp op t ru rv).run P w = .ok rr w ∧ VR w I μ y rr) →
      ∃ rr, (do eqGuard op t xo yo ru rv; Go.binOp op t ru rv : Sem Value).run P w = .ok rr w ∧ VR w I μ y rr := by
    intro hg ⟨rr, h1, h2⟩
    exact ⟨rr, by simp only [Sem.run_bind, hg, Result.andThen_ok, h1], h2⟩
  unfold binP at hb
  split at hb
  · rename_i k x k' z
    cases hu; cases hv
    refine fin (run_eqGuard (fun h => by simp at h) (fun h => by simp at h)) ?_
    split at hb
    · rename_i hs
      obtain ⟨rr, h1, h2⟩ := run_shiftBin (P := P) (k' := k') hs hb t w
      exact ⟨rr, h1, h2 _ _ _⟩
    · rename_i hs
      split at hb
      · rename_i hk; subst hk
        obtain ⟨rr, h1, h2⟩ := run_intBin (P := P) (by simpa using hs) hb t w
        exact ⟨rr, h1, h2 _ _ _⟩
      · cases hb
  · cases hu; cases hv
    refine fin (run_eqGuard (fun h => by simp at h) (fun h => by simp at h)) ?_
    obtain ⟨rr, h1, h2⟩ := run_strBin (P := P) hb w
    refine ⟨rr, ?_, h2 _ _ _⟩
    cases op <;> exact h1
  · split at hb
    · rename_i hc
      simp only [Option.bind_eq_some_iff] at hb
      obtain ⟨b, h1, h2⟩ := hb
      have he := run_equal (P := P) h1 hu hv
      cases hu; cases hv
      exact fin (run_eqGuard (fun _ => hc) (fun h => by simp at h)) (run_eqOut he h2 (by simp) (by simp) (by simp) (by simp))
    · cases hb
  · cases hb
  · rename_i hn1 hn2 hn3 hn4
    simp only [Option.bind_eq_some_iff] at hb
    obtain ⟨b, h1, h2⟩ := hb
    have he := run_equal (P := P) h1 hu hv
    refine fin (run_eqGuard (fun h => ?_) (fun h => ?_)) (run_eqOut he h2 ?_ ?_ ?_ ?_)
    · obtain ⟨rfl, rfl⟩ := h; cases hu; cases hv; exact (hn3 rfl rfl).elim
    · obtain ⟨⟨p, rfl⟩, q, rfl⟩ := h; cases hu; cases hv; exact (hn4 _ _ rfl rfl).elim
    · rintro ⟨k, x, k', z, rfl, rfl⟩; cases hu; cases hv; exact hn1 _ _ _ _ rfl rfl
    · rintro ⟨x, z, rfl, rfl⟩; cases hu; cases hv; exact hn2 _ _ rfl rfl
    · rintro k a rfl; cases hu
    · rintro k a b rfl; cases hu

/-! the small ones -/
def unV (op : UnOp) (v : V) : Option V :=
  match op, v with
  | .neg, .i k n => some (.i k (k.wrap (0 - n)))
  | .xor, .i k n => some (.i k (bitsOf .xor k (if k.signed then -1 else k.max) n))
  | .not, .b x => some (.b (!x))
  | _, _ => none

theorem run_unV {op : UnOp} {v y : V} {rv : Value} (hf : unV op v = some y) (hv : VR w I μ v rv) : ∃ rr, (Op.unary op rv).run P w = .ok rr w ∧ VR w I μ y rr := by
  unfold unV at hf
  split at hf <;> first | (cases hf; done) | skip
  all_goals (simp only [Option.some.injEq] at hf; subst hf; cases hv)
  · exact ⟨_, rfl, .i _ _⟩
  · exact ⟨_, rfl, .i _ _⟩
  · exact ⟨_, rfl, .b _⟩

def convV (P : Program) (src dst : TypeId) (v : V) : Option V :=
  (ti P src).bind fun s => (ti P dst).bind fun d => match s.k, d.k, v with
    | _, .int k, .i _ n => some (.i k (k.wrap n))
    | _, .str, .s l => some (.s l)
    | .int _, .str, .i _ n => some (.s (Utf8.encode n).data.toList)
    | _, _, _ => none

theorem encode_len (n : Int) : (Utf8.encode n).data.toList.length ≤ 4 := by
  unfold Utf8.encode
  simp only []
  split <;> split <;> (try split) <;> (try split) <;> simp

theorem run_convV {src dst : TypeId} {v y : V} {rv : Value} (hf : convV P src dst v = some y) (hv : VR w I μ v rv) : ∃ rr, (Go.convert src dst rv).run P w = .ok rr w ∧ VR w I μ y rr := by
  simp only [convV, Option.bind_eq_some_iff] at hf
  obtain ⟨s, hs, d, hd, hl⟩ := hf
  obtain ⟨_, ds, _, hus, hks, -⟩ := ti_spec hs
  obtain ⟨_, dd, _, hud, hkd, -⟩ := ti_spec hd
  have ks := @kn_simple P dd
  rw [← hkd] at ks
  have ks' := @kn_simple P ds
  rw [← hks] at ks'
  split at hl <;> first | (cases hl; done) | skip
  · rename_i hk
    rw [hk] at ks
    obtain rfl := ks.2.1 _ rfl
    simp only [Option.some.injEq] at hl; subst hl; cases hv
    refine ⟨_, ?_, .i _ _⟩
    simp only [Go.convert, Sem.run_bind, run_underlying hus, run_underlying hud, Result.andThen_ok]
    cases ds <;> rfl
  · rename_i hk
    rw [hk] at ks
    obtain rfl := ks.2.2.1 rfl
    simp only [Option.some.injEq] at hl; subst hl; cases hv
    refine ⟨_, ?_, .s _ (by assumption)⟩
    simp only [Go.convert, Sem.run_bind, run_underlying hus, run_underlying hud, Result.andThen_ok]
    cases ds <;> rfl
  · rename_i hk1 hk2
    rw [hk2] at ks
    rw [hk1] at ks'
    obtain rfl := ks.2.2.1 rfl
    obtain rfl := ks'.2.1 _ rfl
    simp only [Option.some.injEq] at hl; subst hl; cases hv
    refine ⟨.string (Utf8.encode _), ?_, .s _ (Nat.le_trans (encode_len _) (by omega))⟩
    simp only [Go.convert, Sem.run_bind, run_underlying hus, run_underlying hud, Result.andThen_ok]
    rfl

def mkIfcV (P : Program) (t : TypeId) (v : V) : Option V :=
  (ti P t).bind fun x => match x.k with
    | .ifc => none
    | _ => some (.ifc t v)

theorem run_mkIfcV {t : TypeId} {v y : V} {rv : Value} (hf : mkIfcV P t v = some y) (hv : VR w I μ v rv) : ∃ rr, (Instr.makeInterface t rv).run P w = .ok rr w ∧ VR w I μ y rr := by
  simp only [mkIfcV, Option.bind_eq_some_iff] at hf
  obtain ⟨x, hx, hl⟩ := hf
  obtain ⟨_, d, _, hd, hk, -⟩ := ti_spec hx
  split at hl
  · cases hl
  · rename_i hn
    simp only [Option.some.injEq] at hl; subst hl
    refine ⟨.iface t rv, ?_, .ifc _ _ _ hv⟩
    simp only [Instr.makeInterface, Sem.run_bind, run_underlying hd, Result.andThen_ok]
    cases d <;> first | rfl | (exact absurd hk hn)

def assertV (P : Program) (v : V) (at_ : TypeId) (ok : Bool) : Option V :=
  (ti P at_).bind fun x => match x.k, v with
    | .ifc, _ => none
    | _, .ifc t u => if t = at_ then some (if ok then .tu [u, .b true] else u) else if ok then x.zero.map fun z => .tu [z, .b false] else none
    | _, .nifc => if ok then x.zero.map fun z => .tu [z, .b false] else none
    | _, _ => none

theorem run_assertV {xt at_ : TypeId} {ok : Bool} {v y : V} {rv : Value} (hf : assertV P v at_ ok = some y) (hv : VR w I μ v rv) : ∃ rr, (Instr.typeAssert rv xt at_ ok).run P w = .ok rr w ∧ VR w I μ y rr := by
  simp only [assertV, Option.bind_eq_some_iff] at hf
  obtain ⟨x, hx, hl⟩ := hf
  obtain ⟨ifo, d, hi, hd, hk, _, hz, _⟩ := ti_spec hx
  have zer : ∀ z, x.zero = some z → ∃ rz, (zeroValue at_).run P w = .ok rz w ∧ VR w I μ z rz := by
    intro z hzz
    rw [hz, Option.bind_eq_some_iff] at hzz
    obtain ⟨rz, h1, h2⟩ := hzz
    exact ⟨rz, by simp [zeroValue, run_ti hi, h1], ofConst_spec rz h2⟩
  have hnd : x.k ≠ .ifc → ∀ ms, d ≠ .interface ms := by
    intro hn ms e; subst e; exact hn hk
  split at hl
  · cases hl
  · rename_i t u hn
    cases hv with
    | ifc _ _ ru hu =>
      have hn' := hnd hn
      have run : ∀ f : TypeDesc → Value → Sem Value, True := fun _ => trivial
      split at hl
      · rename_i ht; subst ht
        simp only [Option.some.injEq] at hl; subst hl
        cases ok
        · refine ⟨ru, ?_, hu⟩
          simp only [Instr.typeAssert, Sem.run_bind, run_underlying hd, Result.andThen_ok]
          cases d <;> first | (simp; done) | (exact absurd rfl (hn' _))
        · refine ⟨.tuple #[ru, .bool true], ?_, .tu _ _ (.cons _ _ _ _ hu (.cons _ _ _ _ (.b _) .nil))⟩
          simp only [Instr.typeAssert, Sem.run_bind, run_underlying hd, Result.andThen_ok]
          cases d <;> first | (simp; done) | (exact absurd rfl (hn' _))
      · rename_i ht
        split at hl
        · rename_i hok; subst hok
          simp only [Option.map_eq_some_iff] at hl
          obtain ⟨z, hz1, rfl⟩ := hl
          obtain ⟨rz, hr, hvz⟩ := zer z hz1
          refine ⟨.tuple #[rz, .bool false], ?_, .tu _ _ (.cons _ _ _ _ hvz (.cons _ _ _ _ (.b _) .nil))⟩
          simp only [Instr.typeAssert, Sem.run_bind, run_underlying hd, Result.andThen_ok]
          cases d <;> first | (simp [ht, hr]; done) | (exact absurd rfl (hn' _))
        · cases hl
  · rename_i hn
    cases hv
    have hn' := hnd hn
    split at hl
    · rename_i hok; subst hok
      simp only [Option.map_eq_some_iff] at hl
      obtain ⟨z, hz1, rfl⟩ := hl
      obtain ⟨rz, hr, hvz⟩ := zer z hz1
      refine ⟨.tuple #[rz, .bool false], ?_, .tu _ _ (.cons _ _ _ _ hvz (.cons _ _ _ _ (.b _) .nil))⟩
      simp only [Instr.typeAssert, Sem.run_bind, run_underlying hd, Result.andThen_ok]
      cases d <;> first | (simp [hr]; done) | (exact absurd rfl (hn' _))
    · cases hl
  · cases hl

def extractV (v : V) (i : Nat) : Option V :=
  match v with
  | .tu vs => vs[i]?
  | _ => none

theorem run_extractV {v y : V} {rv : Value} {i : Nat} (hf : extractV v i = some y) (hv : VR w I μ v rv) : ∃ rr, (Instr.extract rv i).run P w = .ok rr w ∧ VR w I μ y rr := by
  unfold extractV at hf
  split at hf
  · cases hv with
    | tu _ rs hr =>
      obtain ⟨ry, h1, h2⟩ := hr.get hf
      exact ⟨ry, by simp [Instr.extract, h1], h2⟩
  · cases hf

def lenV (P : Program) (t : TypeId) (v : V) : Option V :=
  (ti P t).bind fun x => match x.k, v with
    | .str, .s l => some (.i .i64 l.length)
    | .sl .., .sl _ _ n => some (.i .i64 n)
    | .sl .., .im _ xs => some (.i .i64 xs.length)
    | .sl .., .nil => some (.i .i64 0)
    | .arr n _ _, _ => some (.i .i64 n)
    | _, _ => none

theorem run_lenV {t ty : TypeId} {v y : V} {rv : Value} (hf : lenV P t v = some y) (hv : VR w I μ v rv) : ∃ rr, (Builtin.len_ #[t] ty #[rv]).run P w = .ok rr w ∧ VR w I μ y rr := by
  simp only [lenV, Option.bind_eq_some_iff] at hf
  obtain ⟨x, hx, hl⟩ := hf
  obtain ⟨ifo, d, hi, hd, hk, -⟩ := ti_spec hx
  have ks := @kn_simple P d
  rw [← hk] at ks
  split at hl <;> first | (cases hl; done) | skip
  · rename_i hxk; rw [hxk] at ks; obtain rfl := ks.2.2.1 rfl
    simp only [Option.some.injEq] at hl; subst hl; cases hv
    exact ⟨_, by simp [Builtin.len_, run_underlying hd, goInt]; rfl, .i _ _⟩
  · rename_i hxk; obtain ⟨rfl, _⟩ := kn_sl (hk.symm.trans hxk)
    simp only [Option.some.injEq] at hl; subst hl; cases hv <;> exact ⟨_, by simp [Builtin.len_, run_underlying hd, goInt], .i _ _⟩
  · rename_i hxk; obtain ⟨rfl, _⟩ := kn_sl (hk.symm.trans hxk)
    simp only [Option.some.injEq] at hl; subst hl; cases hv <;> exact ⟨_, by simp [Builtin.len_, run_underlying hd, goInt], .i _ _⟩
  · rename_i hxk; obtain ⟨rfl, _⟩ := kn_sl (hk.symm.trans hxk)
    simp only [Option.some.injEq] at hl; subst hl; cases hv; exact ⟨_, by simp [Builtin.len_, run_underlying hd, goInt], .i _ _⟩
  · rename_i hxk; obtain ⟨rfl, _⟩ := kn_arr (hk.symm.trans hxk)
    simp only [Option.some.injEq] at hl; subst hl
    exact ⟨_, by simp [Builtin.len_, run_underlying hd, goInt], .i _ _⟩

def nilChk (v : V) : Option V :=
  match v with
  | .ptr id i f => some (.ptr id i f)
  | .ip cs => some (.ip cs)
  | .fn (.func f) a b => some (.fn (.func f) a b)
  | .ifc t u => some (.ifc t u)
  | _ => none

def min2V (mx : Bool) (u v : V) : Option V :=
  match u, v with
  | .i k x, .i _ y => some (.i k (if mx then (if y > x then y else x) else (if y < x then y else x)))
  | _, _ => none

def mapO (ρ : Operand → Option V) : List Operand → Option (List V)
  | [] => some []
  | x :: xs => (ρ x).bind fun v => (mapO ρ xs).bind fun vs => some (v :: vs)

def mapP (ρ : Operand → Option V) : List (Nat × Operand) → Option (List (Nat × V))
  | [] => some []
  | (i, x) :: xs => (ρ x).bind fun v => (mapP ρ xs).bind fun vs => some ((i, v) :: vs)

def optO (ρ : Operand → Option V) : Option Operand → Option (Option V)
  | none => some none
  | some x => (ρ x).map some

def noTu (l : List (Nat × V)) : Bool := l.all fun p => match p.2 with | .tu _ => false | _ => true

/-- The value of an operation that touches no memory and cannot fail here. -/
def pureOp (P : Program) (h : H) (ρ : Operand → Option V) : Op → Option V
  | .move x | .assign x => ρ x
  | .pick c a b => (ρ c).bind fun t => match t with
    | .b true => ρ a
    | .b false => ρ b
    | _ => none
  | .nilCheck x => (ρ x).bind nilChk
  | .binOp op t x y _ => (ρ x).bind fun u => (ρ y).bind fun v => binP P t op u v (isC x || isC y)
  | .unOp op _ x => (ρ x).bind (unV op)
  | .convert src dst x => (ρ x).bind (convV P src dst)
  | .makeInterface t x => (ρ x).bind (mkIfcV P t)
  | .makeFunc f fs cs => (mapO ρ fs.toList).bind fun us => (mapO ρ cs.toList).bind fun vs => some (.fn f us vs)
  | .slice t x lo hi none => (ρ x).bind fun u => (optO ρ lo).bind fun a => (optO ρ hi).bind fun b => sliceV P h t u a b
  | .fieldAddr t x f => (ρ x).bind (fieldAddrV P t f)
  | .field t x f => (ρ x).bind (fieldV P t f)
  | .indexAddr t x i => (ρ x).bind fun u => (ρ i).bind fun v => indexAddrV P h t u v
  | .index t x i => (ρ x).bind fun u => (ρ i).bind fun v => indexV P t u v
  | .extract x i => (ρ x).bind fun u => extractV u i
  | .build t ps => (mapP ρ ps.toList).bind fun l => if noTu l then buildV P t l else none
  | .typeAssert x _ at_ ok => (ρ x).bind fun u => assertV P u at_ ok
  | .call c => match c.callee, c.args.toList, c.argTypes.toList with
    | .builtin .len, [x], [t] => (ρ x).bind (lenV P t)
    | .builtin .min, [x, y], _ => (ρ x).bind fun u => (ρ y).bind fun v => min2V false u v
    | .builtin .max, [x, y], _ => (ρ x).bind fun u => (ρ y).bind fun v => min2V true u v
    | _, _, _ => none
  | _ => none

section
variable {ρ : Operand → Option V} {rρ : Operand → Value}

theorem mapO_spec (hρ : ∀ x v, ρ x = some v → VR w I μ v (rρ x)) : ∀ (l : List Operand) {vs : List V}, mapO ρ l = some vs → VRs w I μ vs (l.map rρ)
  | [], vs, h => by simp [mapO] at h; subst h; exact .nil
  | x :: l, vs, h => by
    simp only [mapO, Option.bind_eq_some_iff, Option.some.injEq] at h
    obtain ⟨v, h1, us, h2, rfl⟩ := h
    exact .cons _ _ _ _ (hρ _ _ h1) (mapO_spec hρ l h2)

theorem mapP_spec (hρ : ∀ x v, ρ x = some v → VR w I μ v (rρ x)) : ∀ (l : List (Nat × Operand)) {vs : List (Nat × V)}, mapP ρ l = some vs →
    (l.map fun p => (p.1, rρ p.2)).map (·.1) = vs.map (·.1) ∧ VRs w I μ (vs.map (·.2)) ((l.map fun p => (p.1, rρ p.2)).map (·.2))
  | [], vs, h => by simp [mapP] at h; subst h; exact ⟨rfl, .nil⟩
  | (i, x) :: l, vs, h => by
    simp only [mapP, Option.bind_eq_some_iff, Option.some.injEq] at h
    obtain ⟨v, h1, us, h2, rfl⟩ := h
    obtain ⟨h3, h4⟩ := mapP_spec hρ l h2
    exact ⟨by simpa using h3, .cons _ _ _ _ (hρ _ _ h1) h4⟩

theorem optO_spec (hρ : ∀ x v, ρ x = some v → VR w I μ v (rρ x)) {o : Option Operand} {r : Option V} (h : optO ρ o = some r) : OptR w I μ r (o.map rρ) := by
  cases o with
  | none => simp [optO] at h; subst h; trivial
  | some x =>
    simp only [optO, Option.map_eq_some_iff] at h
    obtain ⟨v, h1, rfl⟩ := h
    exact hρ _ _ h1

theorem pureOp_spec (r : R G μ I h w) (hρ : ∀ x v, ρ x = some v → VR w I μ v (rρ x)) {o : Oper} {v : V} (hf : pureOp P h ρ o.op = some v) :
    ∃ rv, (execOp rρ o).run P w = .ok (.value rv) w ∧ VR w I μ v rv := by
  have out : ∀ {s : Sem Value}, (∃ rv, s.run P w = .ok rv w ∧ VR w I μ v rv) → ∃ rv, (do pure (Next.value (← s)) : Sem Next).run P w = .ok (.value rv) w ∧ VR w I μ v rv := by
    intro s ⟨rv, h1, h2⟩
    exact ⟨rv, by simp only [Sem.run_bind, h1, Result.andThen_ok, Sem.run_pure], h2⟩
  cases ho : o.op <;> simp only [ho, pureOp] at hf <;> first | (cases hf; done) | skip
  all_goals (unfold execOp; simp only [ho])
  case move x => exact ⟨_, rfl, hρ _ _ hf⟩
  case assign x => exact ⟨_, rfl, hρ _ _ hf⟩
  case pick c a b =>
    simp only [Option.bind_eq_some_iff] at hf
    obtain ⟨t, h1, h2⟩ := hf
    have hc := hρ _ _ h1
    split at h2 <;> first | (cases h2; done) | skip
    · generalize hcc : rρ c = rc at hc
      cases hc
      exact ⟨rρ a, by simp [hcc, asBool], hρ _ _ h2⟩
    · generalize hcc : rρ c = rc at hc
      cases hc
      exact ⟨rρ b, by simp [hcc, asBool], hρ _ _ h2⟩
  case nilCheck x =>
    simp only [Option.bind_eq_some_iff] at hf
    obtain ⟨u, h1, h2⟩ := hf
    have hx := hρ _ _ h1
    unfold nilChk at h2
    split at h2 <;> first | (cases h2; done) | skip
    all_goals
      simp only [Option.some.injEq] at h2; subst h2
      generalize rρ x = rx at hx ⊢
      have hx' := hx
      cases hx
      exact ⟨_, rfl, hx'⟩
  case binOp op t x y yt =>
    simp only [Option.bind_eq_some_iff] at hf
    obtain ⟨u, h1, z, h2, h3⟩ := hf
    exact out (run_binP h3 (hρ _ _ h1) (hρ _ _ h2))
  case unOp op t x =>
    simp only [Option.bind_eq_some_iff] at hf
    obtain ⟨u, h1, h2⟩ := hf
    exact out (run_unV h2 (hρ _ _ h1))
  case convert src dst x =>
    simp only [Option.bind_eq_some_iff] at hf
    obtain ⟨u, h1, h2⟩ := hf
    exact out (run_convV h2 (hρ _ _ h1))
  case makeInterface t x =>
    simp only [Option.bind_eq_some_iff] at hf
    obtain ⟨u, h1, h2⟩ := hf
    exact out (run_mkIfcV h2 (hρ _ _ h1))
  case makeFunc f fs cs =>
    simp only [Option.bind_eq_some_iff, Option.some.injEq] at hf
    obtain ⟨us, h1, vs, h2, rfl⟩ := hf
    refine out ⟨.func f (fs.map rρ) (cs.map rρ), rfl, ?_⟩
    have := VR.fn f us vs _ _ (mapO_spec hρ _ h1) (mapO_spec hρ _ h2)
    have e : ∀ l : Array Operand, l.map rρ = ⟨l.toList.map rρ⟩ := fun l => by apply Array.ext'; simp
    rw [e, e]; exact this
  case slice t x lo hi mx =>
    cases mx with
    | some _ => cases hf
    | none =>
      simp only [Option.bind_eq_some_iff] at hf
      obtain ⟨u, h1, a, h2, b, h3, h4⟩ := hf
      exact out (run_sliceV r h4 (hρ _ _ h1) (optO_spec hρ h2) (optO_spec hρ h3))
  case fieldAddr t x f =>
    simp only [Option.bind_eq_some_iff] at hf
    obtain ⟨u, h1, h2⟩ := hf
    exact out (run_fieldAddrV h2 (hρ _ _ h1))
  case field t x f =>
    simp only [Option.bind_eq_some_iff] at hf
    obtain ⟨u, h1, h2⟩ := hf
    exact out (run_fieldV h2 (hρ _ _ h1))
  case indexAddr t x i =>
    simp only [Option.bind_eq_some_iff] at hf
    obtain ⟨u, h1, z, h2, h3⟩ := hf
    exact out (run_indexAddrV r h3 (hρ _ _ h1) (hρ _ _ h2))
  case index t x i =>
    simp only [Option.bind_eq_some_iff] at hf
    obtain ⟨u, h1, z, h2, h3⟩ := hf
    exact out (run_indexV h3 (hρ _ _ h1) (hρ _ _ h2))
  case extract x i =>
    simp only [Option.bind_eq_some_iff] at hf
    obtain ⟨u, h1, h2⟩ := hf
    exact out (run_extractV h2 (hρ _ _ h1))
  case build t ps =>
    simp only [Option.bind_eq_some_iff] at hf
    obtain ⟨l, h1, h2⟩ := hf
    split at h2
    · rename_i hn
      obtain ⟨h3, h4⟩ := mapP_spec hρ _ h1
      have := run_buildV (w := w) h2 h3 h4 (fun p hp vs e => by
        simp only [noTu, List.all_eq_true] at hn
        have := hn p hp
        rw [e] at this; simp at this)
      refine out ?_
      have e : (⟨List.map (fun p => (p.1, rρ p.2)) ps.toList⟩ : Array (Nat × Value)) = ps.map fun p => (p.1, rρ p.2) := by
        apply Array.ext'; simp
      rw [e] at this
      exact this
    · cases h2
  case typeAssert x xt at_ ok =>
    simp only [Option.bind_eq_some_iff] at hf
    obtain ⟨u, h1, h2⟩ := hf
    exact out (run_assertV h2 (hρ _ _ h1))
  case call c =>
    obtain ⟨callee, args, tys⟩ := c
    obtain ⟨args⟩ := args
    obtain ⟨tys⟩ := tys
    simp only at hf
    split at hf <;> first | (cases hf; done) | skip
    · rename_i x t
      simp only [Option.bind_eq_some_iff] at hf
      obtain ⟨u, h4, h5⟩ := hf
      obtain ⟨rr, h6, h7⟩ := run_lenV (w := w) (ty := o.type) h5 (hρ _ _ h4)
      refine ⟨rr, ?_, h7⟩
      simp only [resolve, invoke, builtin, Sem.run_bind, Sem.run_pure, Result.andThen_ok, List.map_toArray, List.map_cons, List.map_nil, h6]
    · rename_i x y
      simp only [Option.bind_eq_some_iff] at hf
      obtain ⟨u, h4, z, h5, h6⟩ := hf
      have hx := hρ _ _ h4
      have hy := hρ _ _ h5
      unfold min2V at h6
      split at h6
      · simp only [Bool.false_eq_true, if_false, Option.some.injEq] at h6; subst h6
        generalize hrx : rρ x = rx at hx
        generalize hry : rρ y = ry at hy
        cases hx; cases hy
        refine ⟨_, ?_, .i _ _⟩
        simp only [resolve, invoke, builtin, Sem.run_bind, Sem.run_pure, Result.andThen_ok, List.map_toArray, List.map_cons, List.map_nil, hrx, hry, Builtin.min_, List.foldlM_cons, List.foldlM_nil, Builtin.min2]
      · cases h6
    · rename_i x y
      simp only [Option.bind_eq_some_iff] at hf
      obtain ⟨u, h4, z, h5, h6⟩ := hf
      have hx := hρ _ _ h4
      have hy := hρ _ _ h5
      unfold min2V at h6
      split at h6
      · simp only [if_true, Option.some.injEq] at h6; subst h6
        generalize hrx : rρ x = rx at hx
        generalize hry : rρ y = ry at hy
        cases hx; cases hy
        refine ⟨_, ?_, .i _ _⟩
        simp only [resolve, invoke, builtin, Sem.run_bind, Sem.run_pure, Result.andThen_ok, List.map_toArray, List.map_cons, List.map_nil, hrx, hry, Builtin.max_, List.foldlM_cons, List.foldlM_nil, Builtin.max2]
      · cases h6

end
end
end Go.X
end

section
set_option linter.unusedVariables false
set_option linter.unusedSimpArgs false
namespace Go.X

section
variable {P : Program} {G : Gl} {μ : Mu} {I : Nat → Prop} {h : H} {w : World}

/-- What an operation comes to. -/
def Does (P : Program) (G : Gl) (μ : Mu) (I : Nat → Prop) (w : World) (s : Sem Value) (v : V) (h' : H) : Prop :=
  ∃ rv w' μ', s.run P w = .ok rv w' ∧ Ext μ I w μ' I w' ∧ R G μ' I h' w' ∧ VR w' I μ' v rv

theorem R.same (r : R G μ I h w) {w' : World} (hh : w'.heap = w.heap) (hos : w'.os = w.os) (ht : w'.tape = w.tape) (ho : w'.output = w.output) : Ext μ I w μ I w' ∧ R G μ I h w' := by
  have hx : Ext μ I w μ I w' := ⟨fun _ _ e => e, fun _ e => e, fun b _ => by rw [hh], by rw [hh]; exact Nat.le_refl _, hos, ht, ho⟩
  refine ⟨hx, fun id o e => (r.obj id o e).ext hx (fun _ _ _ _ => by rw [hh]), r.inj, fun b hb => by rw [hh]; exact r.imm b hb, fun id t rb a b => by rw [hh]; exact r.mub id t rb a b, r.notI, r.bound, fun g cs e => (r.glob g cs e).ext hx⟩

theorem VR.okE {v : V} {rv : Value} (hv : VR w I μ v rv) (hn : ∀ vs, v ≠ .tu vs) : v.okE v.cells.length := by
  refine ⟨rfl, ?_⟩
  cases hv <;> first
    | (intro c hc; simp only [V.cells, List.mem_singleton] at hc; subst hc; rfl)
    | (rename_i ho; exact ho)
    | (exact absurd rfl (hn _))

theorem VR.cells_one {v : V} {rv : Value} (hv : VR w I μ v rv) (hn : ∀ vs, v ≠ .tu vs) {u : Value} (hu : u ∈ rv.cells.toList) : u.oneCell' = true := by
  have hvc := hv.cells hn
  obtain ⟨j, hj⟩ := List.getElem?_of_mem hu
  have hjl : j < v.cells.length := by rw [← hvc.length]; exact (List.getElem?_eq_some_iff.1 hj).1
  obtain ⟨ru, h5, h6⟩ := hvc.get (List.getElem?_eq_getElem hjl)
  rw [hj] at h5; cases h5
  exact (h6.one ((hv.okE hn).2 _ (List.getElem_mem hjl))).1

theorem flat_one (v : V) : flat [v] = v.cells := by simp [flat]

/-- A new variable. -/
theorem does_box (r : R G μ I h w) {id : Nat} (hid : μ id = none) {t : TypeId} (hty : tyOf id = 0 ∨ tyOf id = t) {v : V} {rv : Value} (hv : VR w I μ v rv) (hn : ∀ vs, v ≠ .tu vs) :
    Does P G μ I w (do pure (.pointer (some (← newVar t rv)))) (.ptr id 0 0) (h.set id (.row v.cells.length [v])) := by
  have hw := r.newRow hid (e := v.cells.length) (xs := [v]) (fun x hx => by simp at hx; subst hx; exact hv.okE hn) (rs := rv.cells.toList) (by rw [flat_one]; exact hv.cells hn) rv.cells (fun j u hu => by simpa using hu) t hty (0, 0) (by simp) (w.alloc (.cells rv.cells t)) rfl rfl rfl rfl
  refine ⟨.pointer (some ⟨w.heap.size, 0, none⟩), w.alloc (.cells rv.cells t), _, rfl, hw.1, hw.2, ?_⟩
  have := VR.ptr (w := w.alloc (.cells rv.cells t)) (I := I) (μ := μ.set id (.blk w.heap.size 0 v.cells.length rv.cells.size)) id 0 0 w.heap.size 0 v.cells.length rv.cells.size (Mu.set_same _ _ _)
  simpa using this

/-- A new variable of several elements, seen as a row of them. -/
theorem does_boxA (r : R G μ I h w) {id : Nat} (hid : μ id = none) {t : TypeId} (hty : tyOf id = 0 ∨ tyOf id = t) {e : Nat} {xs : List V} {rv : Value} (hok : ∀ x ∈ xs, x.okE e) (hv : VR w I μ (.ag (flat xs)) rv) :
    Does P G μ I w (do pure (.pointer (some (← newVar t rv)))) (.ptr id 0 0) (h.set id (.row e xs)) := by
  have hvc := hv.cells (by simp)
  have hw := r.newRow hid (e := e) (xs := xs) hok (rs := rv.cells.toList) hvc rv.cells (fun j u hu => by simpa using hu) t hty (0, 0) (by simp) (w.alloc (.cells rv.cells t)) rfl rfl rfl rfl
  refine ⟨.pointer (some ⟨w.heap.size, 0, none⟩), w.alloc (.cells rv.cells t), _, rfl, hw.1, hw.2, ?_⟩
  have := VR.ptr (w := w.alloc (.cells rv.cells t)) (I := I) (μ := μ.set id (.blk w.heap.size 0 e rv.cells.size)) id 0 0 w.heap.size 0 e rv.cells.size (Mu.set_same _ _ _)
  simpa using this

/-! what is appended -/
def srcV (h : H) (e : Nat) : V → Option (List V)
  | .nil => some []
  | .im e' xs => if e' = e then some xs else none
  | .sl id off len => match h id with
    | some (.row e' xs) => if e' = e ∧ off + len ≤ xs.length then some ((xs.drop off).take len) else none
    | _ => none
  | .s l => if e = 1 then some (l.map fun c => .i .u8 c.toNat) else none
  | _ => none

theorem flat_bytes (l : List UInt8) : flat (l.map fun c => V.i .u8 c.toNat) = l.map fun c => V.i .u8 c.toNat := by
  induction l with
  | nil => rfl
  | cons c l ih => simp only [flat, List.map_cons, List.flatMap_cons] at *; rw [ih]; rfl

theorem VRs_bytes (l : List UInt8) : VRs w I μ (l.map fun c => .i .u8 c.toNat) (l.map fun c => Value.int .u8 c.toNat) := by
  induction l with
  | nil => exact .nil
  | cons c l ih => exact .cons _ _ _ _ (.i _ _) ih

theorem srcV_spec (r : R G μ I h w) {e : Nat} {v : V} {rv : Value} {ys : List V} (hs : srcV h e v = some ys) (hv : VR w I μ v rv) :
    (∀ y ∈ ys, y.okE e) ∧ (Builtin.lenOf rv).run P w = .ok ys.length w ∧ ∃ news, VRs w I μ (flat ys) news ∧ ∀ w2 : World, w2.heap = w.heap → (Builtin.firstCells e ys.length rv).run P w2 = .ok ⟨news⟩ w2 := by
  have cellsame : ∀ w2 : World, w2.heap = w.heap → ∀ a, w2.cell? a = w.cell? a := fun w2 h2 a => by simp [World.cell?, h2]
  cases v <;> simp only [srcV] at hs <;> first | (cases hs; done) | skip
  case nil =>
    simp only [Option.some.injEq] at hs; subst hs
    cases hv
    exact ⟨by simp, rfl, [], .nil, fun w2 _ => by simp [Builtin.firstCells]⟩
  case im e' xs =>
    split at hs
    · rename_i he; subst he
      simp only [Option.some.injEq] at hs; subst hs
      cases hv with
      | imz _ a cap =>
        refine ⟨by simp, rfl, [], .nil, fun w2 _ => ?_⟩
        cases a <;> simp [Builtin.firstCells, loadCells, loadCellsFrom]
      | im _ _ rs b o cap hI hu hr hc hle =>
        refine ⟨hu, rfl, rs, hr, fun w2 h2 => ?_⟩
        have hl := hr.length
        rw [flat_length hu] at hl
        have := run_firstCells_some (P := P) w2 e' xs.length ⟨b, o, none⟩ xs.length cap rs hl (fun j u hu => by rw [add_lit, cellsame w2 h2]; exact hc j u hu)
        simpa using this
    · cases hs
  case s l =>
    split at hs
    · rename_i he; subst he
      simp only [Option.some.injEq] at hs; subst hs
      cases hv
      refine ⟨?_, by simp [Builtin.lenOf]; rfl, l.map fun c => Value.int .u8 c.toNat, by rw [flat_bytes]; exact VRs_bytes l, fun w2 _ => ?_⟩
      · intro y hy
        simp only [List.mem_map] at hy
        obtain ⟨c, _, rfl⟩ := hy
        exact ⟨rfl, by simp [V.cells, V.one]⟩
      · simp only [Builtin.firstCells, Sem.run_pure, List.length_map]
        congr 1
        rw [extract_list _ _ _ (by omega) (by omega)]
        simp
    · cases hs
  case sl id off len =>
    cases hid : h id with
    | none => simp [hid] at hs
    | some ob =>
      cases ob <;> simp only [hid] at hs <;> first | (cases hs; done) | skip
      rename_i e' xs
      split at hs
      · rename_i hc
        obtain ⟨rfl, hlen⟩ := hc
        simp only [Option.some.injEq] at hs; subst hs
        have ho := r.obj id _ hid
        have hll : ((xs.drop off).take len).length = len := by simp; omega
        refine ⟨fun y hy => ho.1 y (List.mem_of_mem_drop (List.mem_of_mem_take hy)), ?_⟩
        cases hv with
        | slz _ _ a =>
          refine ⟨by simp [Builtin.lenOf], [], by simp [flat]; exact .nil, fun w2 _ => ?_⟩
          cases a <;> simp [Builtin.firstCells, loadCells, loadCellsFrom]
        | sl _ _ _ rb base e2 n cap hm hle hroom =>
          rcases ho.2 with ⟨_, h3⟩ | ⟨rb', base', n', rcs, T, fz, rs, hr⟩
          · rw [hm] at h3; cases h3
          · have hme := hr.mu; rw [hm] at hme; cases hme
            refine ⟨by rw [hll]; simp [Builtin.lenOf], (rs.drop (off * e')).take (len * e'), ?_, fun w2 h2 => ?_⟩
            · rw [flat_take (fun z hz => ho.1 z (List.mem_of_mem_drop hz)), flat_drop ho.1]
              exact (hr.vrs.drop _).take _
            · rw [hll]
              have hl := hr.vrs.length
              rw [flat_length ho.1] at hl
              have hoe : (off + len) * e' ≤ xs.length * e' := Nat.mul_le_mul_right _ hlen
              rw [Nat.add_mul] at hoe
              have := run_firstCells_some (P := P) w2 e' len ⟨rb, base + off * e', none⟩ len cap ((rs.drop (off * e')).take (len * e')) (by simp; omega) (fun j u hu => by
                rw [add_lit, cellsame w2 h2, cell_of _ _ _ _ _ _ hr.blk]
                rw [List.getElem?_take] at hu
                split at hu
                · rw [List.getElem?_drop] at hu
                  rw [← hr.cell _ _ hu]; congr 1; omega
                · cases hu)
              simpa using this
      · cases hs

end
end Go.X
end

section
set_option linter.unusedVariables false
set_option linter.unusedSimpArgs false
namespace Go.X

section
variable {P : Program} {G : Gl} {μ : Mu} {I : Nat → Prop} {h : H} {w : World}

/-- What a slice holds that is appended to, and the heap without it. -/
def dstV (h : H) (e : Nat) : V → Option (List V × H)
  | .nil => some ([], h)
  | .sl id off len => match h id with
    | some (.row e' xs) => if e' = e ∧ off + len ≤ xs.length then some ((xs.drop off).take len, h.del id) else none
    | _ => none
  | _ => none

theorem R.del (r : R G μ I h w) (id : Nat) : R G μ I (h.del id) w :=
  r.sub (fun j o e => by unfold H.del at e; split at e; · cases e
                         · exact e)

/-- The type of what an append makes. -/
def apTy (et : TypeId) : V → Nat
  | .sl i o _ => if tyOf i = et ∧ o = 0 then et else 0
  | _ => et
theorem apTy_spec {et : TypeId} {v : V} {id : Nat} (h : tyOf id = apTy et v) : tyOf id = 0 ∨ (tyOf id = et ∧ ∀ i o n, v = .sl i o n → tyOf i = et ∧ o = 0) := by
  unfold apTy at h
  split at h
  · split at h
    · rename_i hi; exact .inr ⟨h, fun i o n e => by cases e; exact hi⟩
    · exact .inl h
  · rename_i hn; exact .inr ⟨h, fun i o n e => absurd e (hn i o n)⟩

/-- Growing: a new row that holds the old and the new. -/
theorem does_grow (r : R G μ I h w) {id : Nat} (hid : μ id = none) {e et : Nat} (hty : tyOf id = 0 ∨ tyOf id = et) {zs : List V} (hok : ∀ x ∈ zs, x.okE e) {rs : List Value} (hvr : VRs w I μ (flat zs) rs)
    {spare : List Value} {cap : Nat} (hcap : zs.length ≤ cap) (hcm : cap ≤ 9223372036854775807) (hsp : rs.length + spare.length = cap * e) (w1 : World) (hh : w1.heap = w.heap) (hos : w1.os = w.os) (ht : w1.tape = w.tape) (ho : w1.output = w.output) :
    Ext μ I w (μ.set id (.blk w.heap.size 0 e (rs ++ spare).length)) I (w1.alloc (.cells ⟨rs ++ spare⟩ et)) ∧
    R G (μ.set id (.blk w.heap.size 0 e (rs ++ spare).length)) I (h.set id (.row e zs)) (w1.alloc (.cells ⟨rs ++ spare⟩ et)) ∧
    VR (w1.alloc (.cells ⟨rs ++ spare⟩ et)) I (μ.set id (.blk w.heap.size 0 e (rs ++ spare).length)) (.sl id 0 zs.length) (.slice (some ⟨w.heap.size, 0, none⟩) zs.length cap) := by
  have hw := r.newRow hid hok hvr ⟨rs ++ spare⟩ (fun j u hu => by
    simp only [List.getElem?_toArray]
    rw [List.getElem?_append_left (List.getElem?_eq_some_iff.1 hu).1]; exact hu) et hty (0, 0) (by simp) (w1.alloc (.cells ⟨rs ++ spare⟩ et)) (by rw [← hh]; rfl) hos ht ho
  refine ⟨hw.1, hw.2, ?_⟩
  have := VR.sl (w := w1.alloc (.cells ⟨rs ++ spare⟩ et)) (I := I) id 0 zs.length w.heap.size 0 e (rs ++ spare).length cap (Mu.set_same μ id _) hcap (by simp; omega) hcm
  simpa using this

theorem zeroCells_toList (z : Array Value) (n : Nat) : (Builtin.zeroCells z n).toList.length = n * z.size := by simp [Builtin.zeroCells]

/-- The block of one id is written and from now on belongs to a new id. -/
theorem R.moveWrite (r : R G μ I h w) {id0 id e : Nat} {xs ys : List V} {rb base base' n : Nat} {rcs rcs' : Array Value} {T : TypeId} {fz : Nat × Nat} {rs rs' : List Value}
    (hid0 : h id0 = some (.row e xs)) (hid : μ id = none) (hr : RowR w I μ id0 e xs rb base n rcs T fz rs) (hty : tyOf id = 0 ∨ (tyOf id = T ∧ base' = 0)) (hbase : base ≤ base') (hok : ∀ y ∈ ys, y.okE e) (hfit : base' + ys.length * e ≤ n) (hsz : rcs'.size = n)
    (hvr : VRs w I μ (flat ys) rs') (hcell : ∀ (j : Nat) (v : Value), rs'[j]? = some v → rcs'[base' + j]? = some v) :
    Ext μ I w (μ.set id (.blk rb base' e n)) I (World.put w rb rcs' T fz) ∧ R G (μ.set id (.blk rb base' e n)) I ((h.del id0).set id (.row e ys)) (World.put w rb rcs' T fz) := by
  have hlt : rb < w.heap.size := (Array.getElem?_eq_some_iff.1 hr.blk).1
  have hnI : ¬ I rb := r.notI id0 _ rb (by rw [hid0]; simp) hr.mu rfl
  have hx : Ext μ I w (μ.set id (.blk rb base' e n)) I (World.put w rb rcs' T fz) := by
    refine ⟨fun j t' ej => ?_, fun _ e => e, fun b hb => put_other _ _ _ _ _ (fun e => hnI (e ▸ hb)), by rw [put_size]; exact Nat.le_refl _, rfl, rfl, rfl⟩
    rw [Mu.set_ne]; exact ej
    intro hj; subst hj; rw [hid] at ej; cases ej
  have dead : ∀ j, j ≠ id → ((h.del id0).set id (.row e ys)) j ≠ none → h j ≠ none ∧ j ≠ id0 := by
    intro j hj hn
    simp only [H.set, if_neg hj, H.del] at hn
    split at hn
    · exact absurd rfl hn
    · rename_i h0; exact ⟨hn, h0⟩
  refine ⟨hx, r.step hx _ (fun j => j = id) ?_ ?_ ?_ ?_ ?_ ?_ ?_ ?_⟩
  · intro j o ej hd
    simp only [H.set, if_neg hd, H.del] at ej
    split at ej
    · cases ej
    · exact ej
  · intro j o ej hd
    subst hd
    simp [H.set] at ej; subst ej
    exact ⟨hok, .inr ⟨rb, base', n, rcs', T, fz, rs', Mu.set_same _ _ _, put_heap _ _ _ _ _ hlt, hsz, hfit, fun j hj => hr.free j (by omega), VRs.ext hx hvr, hcell, hty⟩⟩
  · intro j o t b ej hd m tb
    apply put_other
    intro hb; subst hb
    have hj := dead j hd (by rw [ej]; simp)
    exact hj.2 (r.inj j id0 t _ b hj.1 (by rw [hid0]; simp) m hr.mu tb rfl)
  · intro j j' t t' b a a' hd m m' tb tb'
    subst hd
    rw [Mu.set_same] at m; cases m; cases tb
    by_cases hj : j' = j
    · exact hj.symm
    · rw [Mu.set_ne _ _ hj] at m'
      have hj' := dead j' hj a'
      exact absurd (r.inj j' id0 t' _ rb hj'.1 (by rw [hid0]; simp) m' hr.mu tb' rfl) hj'.2
  · intro b hb; rw [put_size]; exact r.imm b hb
  · intro j t b m tb
    rw [put_size]
    by_cases hj : j = id
    · subst hj; rw [Mu.set_same] at m; cases m; cases tb; exact hlt
    · rw [Mu.set_ne _ _ hj] at m; exact r.mub j t b m tb
  · intro j t b a m tb
    by_cases hj : j = id
    · subst hj; rw [Mu.set_same] at m; cases m; cases tb; exact hnI
    · rw [Mu.set_ne _ _ hj] at m
      exact r.notI j t b (dead j hj a).1 m tb
  · obtain ⟨N, hN⟩ := r.bound
    refine ⟨max N (id + 1), fun j hj => ?_⟩
    rw [Mu.set_ne _ _ (by omega)]; exact hN j (by omega)

/-- What may stand behind the appended slice: a string or a slice. -/
def srcTy (P : Program) (u : TypeId) : Prop := P.underlying u = some .string ∨ ∃ e, P.underlying u = some (.slice e)

theorem run_append_fit {t u et : TypeId} {ei : TypeInfo} {es : Nat} (hdt : P.underlying t = some (.slice et)) (hei : P.info? et = some ei) (hes : ei.size = es) (hu : srcTy P u) {base : Option Addr} {sLen sCap n : Nat} {rx : Value} {news : List Value}
    (hlen : (Builtin.lenOf rx).run P w = .ok n w) (hf : (Builtin.firstCells es n rx).run P w = .ok ⟨news⟩ w) (hroom : sLen + n ≤ sCap) (ty : TypeId) :
    (Builtin.append_ #[t, u] ty #[.slice base sLen sCap, rx]).run P w =
      (do
        if let some a := base then storeCells (a.add (sLen * es)) news
        pure (.slice base (sLen + n) sCap) : Sem Value).run P w := by
  rcases hu with hu | ⟨e, hu⟩ <;>
    cases base <;> simp [Builtin.append_, run_underlying hdt, run_underlying hu, run_sz hei, hes, hlen, hroom, hf]

theorem run_append_grow' {t u et : TypeId} {ei : TypeInfo} {es bs : Nat} {z : Value} (hdt : P.underlying t = some (.slice et)) (hei : P.info? et = some ei) (hes : ei.size = es) (hbs : ei.bytes = bs) (hz : ei.zero = some z) (hu : srcTy P u)
    {base : Option Addr} {sLen sCap n : Nat} {rx : Value} {olds news : List Value}
    (hlen : (Builtin.lenOf rx).run P w = .ok n w) (hf : (Builtin.firstCells es n rx).run P w.drew = .ok ⟨news⟩ w.drew) (ho : (Builtin.firstCells es sLen (.slice base sLen sCap)).run P w.drew = .ok ⟨olds⟩ w.drew)
    (hroom : sCap < sLen + n) (h63 : sLen + n ≤ 9223372036854775807) (h48 : Builtin.nextslicecap (sLen + n) sCap * bs ≤ 281474976710656) (ty : TypeId) :
    (Builtin.append_ #[t, u] ty #[.slice base sLen sCap, rx]).run P w =
      .ok (.slice (some ⟨w.heap.size, 0, none⟩) (sLen + n) (grownCap w (sLen + n) sCap et))
        (w.drew.alloc (.cells ((⟨olds⟩ : Array Value) ++ ((⟨news⟩ : Array Value) ++ Builtin.zeroCells z.cells (grownCap w (sLen + n) sCap et - (sLen + n)))) et)) := by
  subst hbs; subst hes
  have hn : ¬ (sLen + n ≤ sCap) := by omega
  have h63' : ¬ (9223372036854775807 < ((sLen : Int) + (n : Int))) := by omega
  have h48' : ¬ (281474976710656 < Builtin.nextslicecap (sLen + n) sCap * ei.bytes) := by omega
  rcases hu with hu | ⟨e, hu⟩ <;>
    simp [Builtin.append_, run_underlying hdt, run_underlying hu, sizeOf, typeInfo, zeroValue, hei, hz, hlen, hn, h63', h48', Question.forced, newRow, grownCap, hf, ho]

theorem arr3 (olds news : List Value) (z : Array Value) : (⟨olds⟩ : Array Value) ++ ((⟨news⟩ : Array Value) ++ z) = ⟨(olds ++ news) ++ z.toList⟩ := by
  apply Array.ext'; simp

theorem does_append (r : R G μ I h w) {id : Nat} (hid : μ id = none) {t u et es bs : Nat} {ti' : TI} (ht : ti P t = some ti') (htk : ti'.k = .sl et es bs) (hu : srcTy P u)
    {v x : V} {rv rx : Value} {xs ys : List V} {h1 : H}
    (hty : tyOf id = 0 ∨ (tyOf id = et ∧ ∀ i o n, v = .sl i o n → tyOf i = et ∧ o = 0)) (hd : dstV h es v = some (xs, h1)) (hs : srcV h es x = some ys) (hv : VR w I μ v rv) (hx : VR w I μ x rx) (hbb : ∀ b l c, rv = .slice b l c → c < xs.length + ys.length → (xs.length + ys.length) * bs ≤ 140737488355328 ∧ xs.length + ys.length ≤ 9223372036854775807) (ty : TypeId) :
    Does P G μ I w (Builtin.append_ #[t, u] ty #[rv, rx]) (.sl id 0 (xs.length + ys.length)) (h1.set id (.row es (xs ++ ys))) := by
  have hty0 : tyOf id = 0 ∨ tyOf id = et := hty.imp (fun h => h) (fun h => h.1)
  obtain ⟨_, dt, hit, hdt, hkt, -⟩ := ti_spec ht
  obtain ⟨rfl, ei, hei, hes, hbs, z, hz, hzs, hpos⟩ := kn_sl0 (hkt.symm.trans htk)
  obtain ⟨hysok, hlen, news, hnews, hfirst⟩ := srcV_spec (P := P) r hs hx
  have hnl := hnews.length
  rw [flat_length hysok] at hnl
  -- a fresh block
  have grown : ∀ (base : Option Addr) (sLen sCap : Nat) (olds : List Value), rv = .slice base sLen sCap → sLen = xs.length → sCap < xs.length + ys.length → (∀ y ∈ xs, y.okE es) → VRs w I μ (flat xs) olds →
      (Builtin.firstCells es sLen (.slice base sLen sCap)).run P w.drew = .ok ⟨olds⟩ w.drew → R G μ I h1 w →
      Does P G μ I w (Builtin.append_ #[t, u] ty #[rv, rx]) (.sl id 0 (xs.length + ys.length)) (h1.set id (.row es (xs ++ ys))) := by
    intro base sLen sCap olds he hl hgr hxok hvo ho r1
    obtain ⟨hb, h63⟩ := hbb _ _ _ he hgr
    subst he; subst hl
    have hol := hvo.length
    rw [flat_length hxok] at hol
    have hge := grownCap_ge w (xs.length + ys.length) sCap et
    have hrun := run_append_grow' (P := P) (w := w) (olds := olds) (news := news) hdt hei hes hbs hz hu hlen (hfirst w.drew rfl) ho hgr h63 (growslice_fits hgr hb) ty
    rw [arr3] at hrun
    have hok : ∀ y ∈ xs ++ ys, y.okE es := by
      intro y hy
      rcases List.mem_append.1 hy with h | h
      · exact hxok y h
      · exact hysok y h
    have hg := does_grow (et := et) r1 hid hty0 (e := es) (zs := xs ++ ys) (rs := olds ++ news) hok
      (by rw [flat_append]; exact hvo.append hnews) (spare := (Builtin.zeroCells z.cells (grownCap w (xs.length + ys.length) sCap et - (xs.length + ys.length))).toList) (cap := grownCap w (xs.length + ys.length) sCap et)
      (by simpa using hge) (grownCap_le_maxLen w _ _ _ h63) (by
        rw [zeroCells_toList, hzs, List.length_append, hol, hnl, ← Nat.add_mul, ← Nat.add_mul]
        congr 1; omega) w.drew rfl rfl rfl rfl
    refine ⟨_, _, _, hrun, hg.1, hg.2.1, ?_⟩
    have := hg.2.2
    have hl : (xs ++ ys).length = xs.length + ys.length := List.length_append
    rw [hl] at this; exact this
  have nothing : ∀ a : Option Addr, plainA a → rv = .slice a 0 0 → xs = [] → R G μ I h1 w → Does P G μ I w (Builtin.append_ #[t, u] ty #[rv, rx]) (.sl id 0 (xs.length + ys.length)) (h1.set id (.row es (xs ++ ys))) := by
    intro a hpa he hxe r1
    by_cases hy : ys = []
    · subst hy; subst hxe; subst he
      have hne : news = [] := by simp at hnl; exact hnl
      subst hne
      have hrun := run_append_fit (P := P) (w := w) (base := a) (sLen := 0) (sCap := 0) hdt hei hes hu hlen (hfirst w rfl) (Nat.le_refl _) ty
      have hvt := r1.newVirt hid es
      refine ⟨.slice a 0 0, w, _, ?_, hvt.1, by simpa using hvt.2, .slz _ _ _ hpa⟩
      rw [hrun]
      cases a <;> simp [storeCells]
    · have hyl : 0 < ys.length := List.length_pos_iff.2 hy
      subst hxe
      refine grown a 0 0 [] he rfl (by simpa using hyl) (by simp) (by simp [flat]; exact .nil) ?_ r1
      cases a <;> simp [Builtin.firstCells, loadCells, loadCellsFrom]
  cases v <;> simp only [dstV] at hd <;> first | (cases hd; done) | skip
  case nil =>
    simp only [Option.some.injEq, Prod.mk.injEq] at hd
    obtain ⟨rfl, rfl⟩ := hd
    cases hv
    exact nothing none plainA_none rfl rfl r
  case sl id0 off len =>
    cases hid0 : h id0 with
    | none => simp [hid0] at hd
    | some ob =>
      cases ob <;> simp only [hid0] at hd <;> first | (cases hd; done) | skip
      rename_i e' xs0
      split at hd
      · rename_i hc
        obtain ⟨rfl, hoff⟩ := hc
        simp only [Option.some.injEq, Prod.mk.injEq] at hd
        obtain ⟨rfl, rfl⟩ := hd
        have hxl : ((xs0.drop off).take len).length = len := by simp; omega
        have ho := r.obj id0 _ hid0
        have hxok : ∀ y ∈ (xs0.drop off).take len, y.okE e' := fun y hy => ho.1 y (List.mem_of_mem_drop (List.mem_of_mem_take hy))
        cases hv with
        | slz _ _ a had => exact nothing a had rfl (by simp) (r.del id0)
        | sl _ _ _ rb base e2 n cap hm hle hroom hcm =>
          rcases ho.2 with ⟨_, h3⟩ | ⟨rb', base', n', rcs, T, fz, rs, hr⟩
          · rw [hm] at h3; cases h3
          · have hme := hr.mu; rw [hm] at hme; cases hme
            have hrl := hr.vrs.length
            rw [flat_length ho.1] at hrl
            have hoe : (off + len) * e' ≤ xs0.length * e' := Nat.mul_le_mul_right _ hoff
            rw [Nat.add_mul] at hoe
            have hvo : VRs w I μ (flat ((xs0.drop off).take len)) ((rs.drop (off * e')).take (len * e')) := by
              rw [flat_take (fun z hz => ho.1 z (List.mem_of_mem_drop hz)), flat_drop ho.1]
              exact (hr.vrs.drop _).take _
            by_cases hgr : cap < ((xs0.drop off).take len).length + ys.length
            · refine grown _ len cap ((rs.drop (off * e')).take (len * e')) rfl hxl.symm hgr hxok hvo ?_ (r.del id0)
              have := run_firstCells_some (P := P) w.drew e' len ⟨rb, base + off * e', none⟩ len cap ((rs.drop (off * e')).take (len * e')) (by simp; omega) (fun j u hu => by
                rw [add_lit]
                show w.cell? _ = _
                rw [cell_of _ _ _ _ _ _ hr.blk]
                rw [List.getElem?_take] at hu
                split at hu
                · rw [List.getElem?_drop] at hu
                  rw [← hr.cell _ _ hu]; congr 1; omega
                · cases hu)
              simpa using this
            · rw [hxl] at hgr ⊢
              have hrun := run_append_fit (P := P) (w := w) (base := some ⟨rb, base + off * e', none⟩) (sLen := len) (sCap := cap) hdt hei hes hu hlen (hfirst w rfl) (by omega) ty
              have hblk := hr.blk
              have hsz := hr.size
              obtain ⟨cur⟩ := rcs
              simp only [List.size_toArray] at hsz
              have hlc : (len + ys.length) * e' ≤ cap * e' := Nat.mul_le_mul_right _ (by omega)
              rw [Nat.add_mul] at hlc hroom
              have hone : ∀ uu ∈ news, uu.oneCell' = true := by
                intro uu huu
                obtain ⟨j, hj⟩ := List.getElem?_of_mem huu
                have hjl : j < (flat ys).length := by rw [← hnews.length]; exact (List.getElem?_eq_some_iff.1 hj).1
                obtain ⟨ru, h5, h6⟩ := hnews.get (List.getElem?_eq_getElem hjl)
                rw [hj] at h5; cases h5
                have hmem := List.getElem_mem hjl
                simp only [flat, List.mem_flatMap] at hmem
                obtain ⟨y, hy, hcy⟩ := hmem
                exact (h6.one ((hysok y hy).2 _ hcy)).1
              have hst := run_storeCells' (P := P) rb (base + off * e' + len * e') T fz news 0 cur w hblk (by omega) (fun j a b => hr.free j (by omega) (by omega)) hone
              have hnl2 : ((rs.drop (off * e')).take (len * e')).length = len * e' := by simp; omega
              have hw := r.moveWrite (id := id) (base' := base + off * e') (rcs' := ⟨setFrom cur (base + off * e' + len * e') news⟩) (ys := (xs0.drop off).take len ++ ys) (rs' := (rs.drop (off * e')).take (len * e') ++ news) hid0 hid hr (hty.elim .inl fun hh => by
                  obtain ⟨h1, h2⟩ := hh.2 _ _ _ rfl
                  have h3 := hr.ty; have h4 := hh.1
                  subst h2
                  rcases h3 with h3 | ⟨h3, h5⟩
                  · left; omega
                  · right; subst h5; simp; omega) (by omega)
                (by intro y hy; rcases List.mem_append.1 hy with h | h
                    · exact hxok y h
                    · exact hysok y h)
                (by rw [List.length_append, hxl, Nat.add_mul]; omega) (by simp [setFrom_length, hsz])
                (by rw [flat_append]; exact hvo.append hnews)
                (by
                  intro j u hu
                  simp only [List.getElem?_toArray]
                  rw [setFrom_get _ _ _ _ (by omega)]
                  by_cases hj : j < len * e'
                  · rw [List.getElem?_append_left (by omega), List.getElem?_take, if_pos hj, List.getElem?_drop] at hu
                    rw [if_neg (by omega)]
                    have := hr.cell _ _ hu
                    simp only [List.getElem?_toArray] at this
                    rw [← this]; congr 1; omega
                  · rw [List.getElem?_append_right (by omega), hnl2] at hu
                    have := (List.getElem?_eq_some_iff.1 hu).1
                    rw [if_pos (by omega), ← hu]; congr 1; omega)
              refine ⟨.slice (some ⟨rb, base + off * e', none⟩) (len + ys.length) cap, _, _, ?_, hw.1, hw.2, ?_⟩
              · rw [hrun]
                simp only [add_lit, Sem.run_bind, hst, Result.andThen_ok, Sem.run_pure, Nat.add_zero]
              · have := VR.sl (w := World.put w rb ⟨setFrom cur (base + off * e' + len * e') news⟩ T fz) (I := I) (μ := μ.set id (.blk rb (base + off * e') e' n)) id 0 (len + ys.length) rb (base + off * e') e' n cap (Mu.set_same _ _ _) (by omega) (by
                  rw [Nat.zero_add]; omega) hcm
                simpa using this
      · cases hd

end
end Go.X
end

section
set_option linter.unusedVariables false
set_option linter.unusedSimpArgs false
namespace Go.X

def noShare : V → V → Bool
  | .sl i _ _, .sl j _ _ => i != j
  | _, _ => true

section
variable {P : Program} {G : Gl} {μ : Mu} {I : Nat → Prop} {h : H} {w : World}

theorem holdsV_row {rb o n : Nat} {cs : Array Value} {T : TypeId} {fz : Nat × Nat} (hb : w.heap[rb]? = some (.cells cs T fz)) (hn : o + n ≤ cs.size) : Room.holdsV w ⟨rb, o, none⟩ n = true := by
  simp [Room.holdsV, World.shape?, hb]; exact hn

theorem holdsV_cell {rb o n : Nat} (hn : 0 < n) (hc : ∃ v, w.cell? ⟨rb, o + (n - 1), none⟩ = some v) : Room.holdsV w ⟨rb, o, none⟩ n = true := by
  obtain ⟨v, hc⟩ := hc
  exact holdsV_of_last w rb o n hn (by simp [hc]) n (Nat.le_refl _)

set_option maxHeartbeats 2000000 in
theorem does_append_or (r : R G μ I h w) {id : Nat} (hid : μ id = none) {t u et es bs : Nat} {ti' : TI} (ht : ti P t = some ti') (htk : ti'.k = .sl et es bs) (hu : srcTy P u) (hbs : bs ≠ 0)
    {v x : V} {rv rx : Value} {xs ys : List V} {h1 : H}
    (hty : tyOf id = 0 ∨ (tyOf id = et ∧ ∀ i o n, v = .sl i o n → tyOf i = et ∧ o = 0)) (hd : dstV h es v = some (xs, h1)) (hs : srcV h es x = some ys) (hns : noShare v x = true) (hsmall : ys.length * bs ≤ 70368744177664) (hv : VR w I μ v rv) (hx : VR w I μ x rx) (ty : TypeId) :
    Does P G μ I w (Builtin.append_ #[t, u] ty #[rv, rx]) (.sl id 0 (xs.length + ys.length)) (h1.set id (.row es (xs ++ ys))) ∨
    (noRoomEvent ∈ ((Builtin.append_ #[t, u] ty #[rv, rx]).runT P w #[]).2 ∧ ((Builtin.append_ #[t, u] ty #[rv, rx]).run P w).enabled) := by
  by_cases hbb : ∀ b l c, rv = .slice b l c → c < xs.length + ys.length → (xs.length + ys.length) * bs ≤ 140737488355328 ∧ xs.length + ys.length ≤ 9223372036854775807
  · exact .inl (does_append r hid ht htk hu hty hd hs hv hx hbb ty)
  · right
    simp only [Classical.not_forall] at hbb
    obtain ⟨b, sLen, sCap, hrv, hgr, hbig⟩ := hbb
    have hbpos : 0 < bs := Nat.pos_of_ne_zero hbs
    have hbig' : 140737488355328 < (xs.length + ys.length) * bs := by
      rcases Nat.lt_or_ge 140737488355328 ((xs.length + ys.length) * bs) with h | h
      · exact h
      · exact absurd ⟨h, by have := Nat.le_mul_of_pos_right (xs.length + ys.length) hbpos; omega⟩ hbig
    have hxbig : 0 < xs.length := by
      rcases Nat.eq_zero_or_pos xs.length with h | h
      · rw [h, Nat.zero_add] at hbig'; omega
      · exact h
    have hypos : ys ≠ [] → 0 < ys.length := fun h => List.length_pos_iff.2 h
    obtain ⟨_, dt, hit, hdt, hkt, -⟩ := ti_spec ht
    obtain ⟨rfl, ei, hei, hes, hbse, z, hz, hzs, hpos⟩ := kn_sl0 (hkt.symm.trans htk)
    obtain ⟨hysok, hlen, news, hnews, hfirst⟩ := srcV_spec (P := P) r hs hx
    have hnl := hnews.length
    rw [flat_length hysok] at hnl
    obtain ⟨d, htx, hdi⟩ : ∃ d, P.underlying u = some d ∧ ∀ k, d ≠ .int k := by
      rcases hu with h | ⟨e, h⟩
      · exact ⟨_, h, by simp⟩
      · exact ⟨_, h, by simp⟩
    have hlenx : Builtin.lenOf rx = Sem.pure ys.length := by
      cases x <;> simp only [srcV] at hs <;> first | (cases hs; done) | skip
      all_goals
        generalize hsy : rx = rx0 at hx
        cases hx <;> simp only [Builtin.lenOf, Sem.run_pure] at hlen <;> subst hsy <;> simp only [Builtin.lenOf, Sem.run_pure] at hlen ⊢ <;> (injection hlen with e1; rw [e1]; rfl)
    -- the slice itself
    cases v <;> simp only [dstV] at hd <;> first | (cases hd; done) | skip
    case nil => simp only [Option.some.injEq, Prod.mk.injEq] at hd; rw [← hd.1] at hxbig; simp at hxbig
    case sl id0 off len =>
      cases hid0 : h id0 with
      | none => simp [hid0] at hd
      | some ob =>
        cases ob <;> simp only [hid0] at hd <;> first | (cases hd; done) | skip
        rename_i e' xs0
        split at hd
        · rename_i hc
          obtain ⟨rfl, hoff⟩ := hc
          simp only [Option.some.injEq, Prod.mk.injEq] at hd
          obtain ⟨rfl, rfl⟩ := hd
          have hxl : ((xs0.drop off).take len).length = len := by simp; omega
          have ho := r.obj id0 _ hid0
          subst hrv
          rw [hxl] at hxbig hgr hbig'
          have hvv := hv
          cases hv with
          | slz _ _ a => omega
          | sl _ _ _ rb base e2 n cap hm hle hroom hcm =>
            rcases ho.2 with ⟨_, h3⟩ | ⟨rb', base', n', rcs, T, fz, rs, hr⟩
            · rw [hm] at h3; cases h3
            · have hme := hr.mu; rw [hm] at hme; cases hme
              have hrl := hr.vrs.length
              rw [flat_length ho.1] at hrl
              have hoe : (off + sLen) * e' ≤ xs0.length * e' := Nat.mul_le_mul_right _ hoff
              have hoc : sLen * e' ≤ sCap * e' := Nat.mul_le_mul_right _ (by omega)
              have hl1 : 1 * e' ≤ sLen * e' := Nat.mul_le_mul_right _ hxbig
              rw [Nat.add_mul] at hoe
              have hyne : ys ≠ [] := by rintro rfl; simp at hgr; omega
              have hyl := hypos hyne
              have hfold : (Builtin.firstCells e' sLen (.slice (some ⟨rb, base + off * e', none⟩) sLen sCap)).run P w.drew = .ok ⟨(rs.drop (off * e')).take (sLen * e')⟩ w.drew := by
                have := run_firstCells_some (P := P) w.drew e' sLen ⟨rb, base + off * e', none⟩ sLen sCap ((rs.drop (off * e')).take (sLen * e')) (by simp; omega) (fun j u hu => by
                  rw [add_lit]
                  show w.cell? _ = _
                  rw [cell_of _ _ _ _ _ _ hr.blk]
                  rw [List.getElem?_take] at hu
                  split at hu
                  · rw [List.getElem?_drop] at hu
                    rw [← hr.cell _ _ hu]; congr 1; omega
                  · cases hu)
                simpa using this
              by_cases hp : Builtin.nextslicecap (sLen + ys.length) sCap * bs ≤ 281474976710656
              · have hnb : (sLen + ys.length) * bs ≤ 281474976710656 := Nat.le_trans (Nat.mul_le_mul_right _ (le_nextslicecap (by omega))) hp
                have h63 : sLen + ys.length ≤ 9223372036854775807 := by
                  have := Nat.le_mul_of_pos_right (sLen + ys.length) hbpos
                  omega
                refine ⟨events_append_grow_any (P := P) w t u ty et ei d hdt hei htx hdi (some ⟨rb, base + off * e', none⟩) sLen sCap ys.length rx hlenx (by omega) (by omega) (by rw [hbse]; exact hp) ?_, ?_⟩
                · rw [hbse]
                  have := Nat.mul_le_mul_right bs (grownCap_ge w (sLen + ys.length) sCap et)
                  unfold roomBytes; omega
                · rw [run_append_grow' (P := P) (w := w) hdt hei hes hbse hz hu hlen (hfirst w.drew rfl) hfold (by omega) h63 hp ty]
                  exact Result.enabled_ok _ _
              · have hblksz : base + (off + sCap) * e' ≤ rcs.size := by rw [hr.size]; exact hroom
                rw [Nat.add_mul] at hblksz
                have hthere : Room.holdsV w ⟨rb, base + off * e', none⟩ (sLen * e') = true ∧ w.frozen? ((⟨rb, base + off * e', none⟩ : Addr).add (sLen / 2 * e')) = false := by
                  refine ⟨holdsV_row hr.blk (by omega), ?_⟩
                  rw [add_lit]
                  have hh : (sLen / 2 + 1) * e' ≤ sCap * e' := Nat.mul_le_mul_right _ (by omega)
                  rw [Nat.add_mul] at hh
                  have := hr.free (base + off * e' + sLen / 2 * e') (by omega) (by have := hr.size; omega)
                  simp only [World.frozen?, hr.blk]
                  simp; omega
                have hshare : (Builtin.mayShare e' sLen ys.length (some ⟨rb, base + off * e', none⟩) rx).runT P w #[] = (.ok false w, #[]) := by
                  cases x <;> simp only [srcV] at hs <;> first | (cases hs; done) | skip
                  case s l =>
                    cases hx
                    exact runT_mayShare_string w e' sLen ys.length _ _ (fun a ha => by cases ha; exact hthere)
                  case nil => simp only [Option.some.injEq] at hs; exact absurd hs.symm hyne
                  case im e3 xs3 =>
                    split at hs
                    · rename_i he3; subst he3
                      simp only [Option.some.injEq] at hs; subst hs
                      cases hx with
                      | imz _ a c => exact absurd rfl hyne
                      | im _ _ rs3 b3 o3 c3 hI3 hu3 hr3 hc3 hle3 hcm3 =>
                        have hl3 := hr3.length
                        rw [flat_length hu3] at hl3
                        have hpos3 : 0 < xs3.length * e3 := Nat.mul_pos hyl hpos
                        have hold3 : Room.holdsV w ⟨b3, o3, none⟩ (xs3.length * e3) = true := holdsV_cell hpos3 ⟨_, hc3 (xs3.length * e3 - 1) (rs3[xs3.length * e3 - 1]'(by omega)) (List.getElem?_eq_getElem (by omega))⟩
                        have hne : rb ≠ b3 := by
                          rintro rfl
                          exact r.notI id0 _ rb (by rw [hid0]; simp) hm rfl hI3
                        simp [-Sem.runT_eq, Builtin.mayShare, Room.Sem.bind_def, frozen, Sem.bind, Sem.runT, Room.Sem.runT_bind, Room.runT_holdsCells', Room.Sem.runT_pure', hthere.1, hthere.2, hold3, hne]
                    · cases hs
                  case sl j off3 len3 =>
                    cases hj : h j with
                    | none => simp [hj] at hs
                    | some ob3 =>
                      cases ob3 <;> simp only [hj] at hs <;> first | (cases hs; done) | skip
                      rename_i e3 xs3
                      split at hs
                      · rename_i hc3
                        obtain ⟨rfl, hlen3⟩ := hc3
                        simp only [Option.some.injEq] at hs
                        have ho3 := r.obj j _ hj
                        have hll : ys.length = len3 := by rw [← hs]; simp; omega
                        cases hx with
                        | slz _ _ a => omega
                        | sl _ _ _ rb3 base3 e4 n3 c3 hm3 hle3 hroom3 hcm3 =>
                          rcases ho3.2 with ⟨_, h3⟩ | ⟨rb', base', n', rcs3, T3, fz3, rs3, hr3⟩
                          · rw [hm3] at h3; cases h3
                          · have hme := hr3.mu; rw [hm3] at hme; cases hme
                            have hb3 : base3 + (off3 + c3) * e3 ≤ rcs3.size := by rw [hr3.size]; exact hroom3
                            have hoc3 : len3 * e3 ≤ c3 * e3 := Nat.mul_le_mul_right _ (by omega)
                            rw [Nat.add_mul] at hb3
                            have hold3 : Room.holdsV w ⟨rb3, base3 + off3 * e3, none⟩ (ys.length * e3) = true := holdsV_row hr3.blk (by rw [hll]; omega)
                            have hne : rb ≠ rb3 := by
                              rintro rfl
                              have := r.inj id0 j _ _ rb (by rw [hid0]; simp) (by rw [hj]; simp) hm hm3 rfl rfl
                              subst this
                              simp [noShare] at hns
                            simp [-Sem.runT_eq, Builtin.mayShare, Room.Sem.bind_def, frozen, Sem.bind, Sem.runT, Room.Sem.runT_bind, Room.runT_holdsCells', Room.Sem.runT_pure', hthere.1, hthere.2, hold3, hne]
                      · cases hs
                have hrr := runT_append_beyond_any (P := P) w t u ty et ei d hdt hei htx hdi (some ⟨rb, base + off * e', none⟩) sLen sCap ys.length rx hlenx (by omega) (by rw [hbse]; omega) (by rw [hes]; exact hshare)
                refine ⟨by rw [hrr]; simp, ?_⟩
                rw [← Sem.runT_fst P _ w #[], hrr]
                exact fun _ => ⟨by simp, by simp, fun _ => by simp⟩
        · cases hd

end
end Go.X
end

section
set_option linter.unusedVariables false
set_option linter.unusedSimpArgs false
namespace Go.X

section
variable {P : Program} {G : Gl} {μ : Mu} {I : Nat → Prop} {h : H} {w : World}

theorem setFrom_append {α : Type} (us : List α) : ∀ (l vs : List α) (o : Nat), setFrom (setFrom l o us) (o + us.length) vs = setFrom l o (us ++ vs) := by
  induction us with
  | nil => intro l vs o; simp [setFrom]
  | cons u us ih =>
    intro l vs o
    simp only [setFrom, List.cons_append, List.length_cons]
    rw [← ih, show o + (us.length + 1) = o + 1 + us.length from by omega]

/-- A slice literal, its elements in order. -/
theorem fill_row {es : Nat} : ∀ (rvs : List Value) (k : Nat) (rcs : List Value), (∀ v ∈ rvs, v.cells.size = es) → (k + rvs.length) * es ≤ rcs.length →
    Instr.fill (fun i => some (i * es, es)) ⟨rcs⟩ ((List.range' k rvs.length).zip rvs) = some ⟨setFrom rcs (k * es) (rvs.flatMap fun v => v.cells.toList)⟩
  | [], k, rcs, _, _ => by simp [Instr.fill, setFrom]
  | v :: rvs, k, rcs, hs, hl => by
    have h1 := hs v (by simp)
    have h2 : (k + 1) * es ≤ rcs.length := Nat.le_trans (Nat.mul_le_mul_right _ (by simp)) hl
    simp only [List.length_cons, List.range'_succ, List.zip_cons_cons, Instr.fill]
    rw [if_neg (by
      rw [Nat.add_mul] at h2
      simp [h1]; omega)]
    have h3 := foldl_set v.cells.toList rcs (k * es) 0
    rw [Nat.add_zero] at h3
    have h4 : Array.foldl (fun (cs : Array Value) (p : Value × Nat) => cs.setIfInBounds (k * es + p.2) p.1) (⟨rcs⟩ : Array Value) v.cells.zipIdx = ⟨setFrom rcs (k * es) v.cells.toList⟩ := by
      rw [← h3, ← Array.foldl_toList, Array.toList_zipIdx]
    have h5 := fill_row rvs (k + 1) (setFrom rcs (k * es) v.cells.toList) (fun u hu => hs u (by simp [hu])) (by
      rw [setFrom_length]
      have : k + 1 + rvs.length = k + (rvs.length + 1) := by omega
      rw [this]; simpa using hl)
    have h6 : (k + 1) * es = k * es + v.cells.toList.length := by rw [Nat.add_mul]; simp [h1]
    rw [h6, setFrom_append] at h5
    rw [List.flatMap_cons, ← h5, ← h4]

theorem VRs_flat {xs : List V} {rvs : List Value} (h : VRs w I μ xs rvs) (hn : ∀ x ∈ xs, ∀ vs, x ≠ .tu vs) : VRs w I μ (flat xs) (rvs.flatMap fun v => v.cells.toList) := by
  induction xs generalizing rvs with
  | nil => cases h; exact .nil
  | cons x xs ih =>
    cases h with
    | cons _ rv _ rvs h1 h2 =>
      simp only [flat, List.flatMap_cons]
      exact (h1.cells (hn x (by simp))).append (ih h2 (fun y hy => hn y (by simp [hy])))

theorem does_buildSlice (r : R G μ I h w) {id : Nat} (hid : μ id = none) {t et es bs : Nat} (hty : tyOf id = 0 ∨ tyOf id = et) {x : TI} (ht : ti P t = some x) (htk : x.k = .sl et es bs) {xs : List V} {rvs : List Value}
    (hv : VRs w I μ xs rvs) (hok : ∀ y ∈ xs, y.okE es) (hlen : xs.length * es ≤ 16777216) :
    Does P G μ I w (Instr.buildSlice t xs.length ⟨(List.range xs.length).zip rvs⟩) (.sl id 0 xs.length) (h.set id (.row es xs)) := by
  obtain ⟨_, dt, hit, hdt, hkt, -⟩ := ti_spec ht
  obtain ⟨rfl, ei, hei, hes, hbs, z, hz, hzs, hpos⟩ := kn_sl0 (hkt.symm.trans htk)
  have hrl := hv.length
  have hnt : ∀ y ∈ xs, ∀ vs, y ≠ .tu vs := by
    rintro y hy vs rfl
    have := (hok _ hy).2 (.tu vs) (by simp [V.cells]); simp [V.one] at this
  have hcl : ∀ v ∈ rvs, v.cells.size = es := by
    intro v hvm
    obtain ⟨j, hj⟩ := List.getElem?_of_mem hvm
    have hjl : j < xs.length := by rw [← hrl]; exact (List.getElem?_eq_some_iff.1 hj).1
    obtain ⟨ru, h5, h6⟩ := hv.get (List.getElem?_eq_getElem hjl)
    rw [hj] at h5; cases h5
    have := (h6.cells (hnt _ (List.getElem_mem hjl))).length
    rw [(hok _ (List.getElem_mem hjl)).1] at this
    simpa using this
  have hfl := VRs_flat hv hnt
  have hfll := hfl.length
  rw [flat_length hok] at hfll
  have hrun : (Instr.buildSlice t xs.length ⟨(List.range xs.length).zip rvs⟩).run P w = .ok (.slice (some ⟨w.heap.size, 0, none⟩) xs.length xs.length) (w.alloc (.cells ⟨rvs.flatMap fun v => v.cells.toList⟩ et)) := by
    by_cases h0 : xs.length = 0
    · have hx : xs = [] := List.eq_nil_of_length_eq_zero h0
      subst hx
      cases hv
      have e0 : (Array.map (fun x => (#[] : Array Value)[x % (#[] : Array Value).size]!) (Array.range 0)) = ⟨[]⟩ := by apply Array.ext'; simp
      simp only [Instr.buildSlice, Sem.run_bind, run_underlying hdt, Result.andThen_ok, run_sz hei, List.length_nil, Nat.zero_mul, gt_iff_lt, Nat.not_lt_zero, if_false, if_true, Sem.run_pure, List.range_zero, List.zip_nil_left, Instr.fill, e0]
      rfl
    · refine run_buildSlice w t et xs.length _ _ ei z hdt hei hz (by rw [hes]; omega) (by rw [hes]; have := Nat.mul_pos (Nat.pos_of_ne_zero h0) hpos; omega) ?_
      rw [hes]
      have := fill_row (es := es) rvs 0 ((Array.range (xs.length * es)).map (z.cells[· % z.cells.size]!)).toList hcl (by simp [hrl])
      rw [Nat.zero_mul, setFrom_all _ _ (by simp [hfll])] at this
      rw [List.range_eq_range']
      rw [hrl] at this
      exact this
  have hw := r.newRow hid hok hfl ⟨rvs.flatMap fun v => v.cells.toList⟩ (fun j v hj => by simpa using hj) et hty (0, 0) (by simp) (w.alloc (.cells ⟨rvs.flatMap fun v => v.cells.toList⟩ et)) rfl rfl rfl rfl
  refine ⟨_, _, _, hrun, hw.1, hw.2, ?_⟩
  have := VR.sl (w := w.alloc (.cells ⟨rvs.flatMap fun v => v.cells.toList⟩ et)) (I := I) id 0 xs.length w.heap.size 0 es (rvs.flatMap fun v => v.cells.toList).length xs.length (Mu.set_same μ id _) (Nat.le_refl _) (by rw [hfll]; simp) (by have := Nat.le_mul_of_pos_right xs.length hpos; omega)
  simpa using this

theorem does_makeSlice (r : R G μ I h w) {id : Nat} (hid : μ id = none) {t et es bs : Nat} (hty : tyOf id = 0 ∨ tyOf id = et) {x y : TI} (ht : ti P t = some x) (htk : x.k = .sl et es bs) (hte : ti P et = some y) {zv : V} (hzv : y.zero = some zv) (hn : zv.fits = true)
    (k k' : IntKind) (n : Nat) (hb : bs * n ≤ 281474976710656) (h63 : n ≤ 9223372036854775807) :
    Does P G μ I w (Instr.makeSlice t (.int k n) (.int k' n)) (.sl id 0 n) (h.set id (.row es (List.replicate n zv))) := by
  obtain ⟨_, dt, hit, hdt, hkt, -⟩ := ti_spec ht
  obtain ⟨rfl, ei, hei, hes, hbs, z, hz, hzs, hpos⟩ := kn_sl0 (hkt.symm.trans htk)
  obtain ⟨ei', _, hei', _, _, _, hz', _⟩ := ti_spec hte
  rw [hei] at hei'; cases hei'
  rw [hz', hz] at hzv
  simp only [Option.bind_some] at hzv
  have hvz : VR w I μ zv z := ofConst_spec z hzv
  have hnt : ∀ vs, zv ≠ .tu vs := by rintro vs rfl; simp [V.fits] at hn
  have hvc := hvz.cells hnt
  have hzl : zv.cells.length = es := by have := hvc.length; simp at this; omega
  have hok : ∀ q ∈ List.replicate n zv, q.okE es := by
    intro q hq
    obtain ⟨_, rfl⟩ := List.mem_replicate.1 hq
    rw [← hzl]; exact hvz.okE hnt
  have hfl : flat (List.replicate n zv) = (List.replicate n zv.cells).flatten := by simp [flat, List.flatMap]
  let cells : Array Value := (Array.range (n * es)).map (z.cells[· % z.cells.size]!)
  have hvr : VRs w I μ (flat (List.replicate n zv)) cells.toList := by
    refine VRs.of_get ?_ ?_
    · rw [flat_length hok]; simp [cells]
    · intro j v rv hj hrj
      have hjl : j < n * es := by
        have := (List.getElem?_eq_some_iff.1 hj).1
        rw [flat_length hok] at this; simpa using this
      have hd : j = (j / es) * es + j % es := by rw [Nat.mul_comm]; exact (Nat.div_add_mod j es).symm
      have hq : j / es < n := (Nat.div_lt_iff_lt_mul hpos).2 hjl
      have hr : j % es < es := Nat.mod_lt _ hpos
      have h1 : (List.replicate n zv)[j / es]? = some zv := by simp [hq]
      have h2 := flat_get hok h1 hr
      rw [← hd, hj] at h2
      have h3 : cells.toList[j]? = some (z.cells[j % z.cells.size]!) := by
        simp [cells, hjl]
      rw [hrj] at h3
      obtain ⟨ru, h5, h6⟩ := hvc.get h2.symm
      have h7 : z.cells[j % z.cells.size]! = ru := by
        rw [hzs, getElem!_pos z.cells (j % es) (by omega)]
        have := (List.getElem?_eq_some_iff.1 h5).2
        simpa using this
      rw [h7] at h3; cases h3; exact h6
  have hrun : (Instr.makeSlice t (.int k n) (.int k' n)).run P w = .ok (.slice (some ⟨w.heap.size, 0, none⟩) n n) (w.alloc (.cells cells et)) := by
    have hwrap : IntKind.i64.wrap (n : Int) = n := by
      have h2 : (n : Int) % 2 ^ 64 = n := Int.emod_eq_of_lt (by omega) (by omega)
      have h3 : ¬ ((n : Int) ≥ 2 ^ 63) := by omega
      simp [IntKind.wrap, IntKind.bits, IntKind.signed, h2]
      omega
    have hb' : ¬ (281474976710656 < (bs : Int) * (n : Int)) := by
      have : ((bs * n : Nat) : Int) ≤ 281474976710656 := by omega
      rw [Int.natCast_mul] at this; omega
    have hroom : ∀ w2 : World, (askRoom (n * bs)).run P w2 = .ok () w2 := fun w2 => by
      unfold askRoom; split <;> rfl
    have hn0 : ¬ ((n : Int) < 0) := by omega
    have hz0 : ∀ w2 : World, (zeroValue et).run P w2 = .ok z w2 := fun w2 => by simp [zeroValue, run_ti hei, hz]
    simp only [Instr.makeSlice, Sem.run_bind, run_underlying hdt, Result.andThen_ok, asInt, asIntOf, Sem.run_pure, run_ti hei, hwrap, hbs]
    simp [hn0, hb', hroom, run_sz hei, hes]
    by_cases h0 : n * es = 0
    · have : n = 0 := by rcases Nat.mul_eq_zero.1 h0 with h | h <;> omega
      subst this
      have e0 : cells = #[] := by apply Array.ext'; simp [cells]
      rw [e0]; simp [newRow]
      congr 2
      apply Array.ext'; simp
    · have : ¬ (n = 0 ∨ es = 0) := by intro h; rcases h with h | h <;> simp [h] at h0
      have h1 : ¬ (n * es = 0) := h0
      simp only [h1, if_false]
      simp [hz0, newRow, cells]
  have hw := r.newRow hid hok hvr cells (fun j v hj => by simpa using hj) et hty (0, 0) (by simp) (w.alloc (.cells cells et)) rfl rfl rfl rfl
  refine ⟨_, _, _, hrun, hw.1, hw.2, ?_⟩
  have := VR.sl (w := w.alloc (.cells cells et)) (I := I) id 0 n w.heap.size 0 es cells.size n (Mu.set_same μ id _) (Nat.le_refl _) (by simp [cells]) h63
  simpa using this

/-! strings and bytes -/
def bytesOfVs : List V → Option (List UInt8)
  | [] => some []
  | .i .u8 n :: vs => (bytesOfVs vs).map fun l => UInt8.ofNat n.toNat :: l
  | _ :: _ => none

theorem bytesOfVs_spec : ∀ {ys : List V} {l : List UInt8} {rs : List Value}, bytesOfVs ys = some l → VRs w I μ (flat ys) rs →
    ∃ ns : List Int, rs = ns.map (Value.int .u8) ∧ l = ns.map (fun n => UInt8.ofNat n.toNat)
  | [], l, rs, h, hr => by simp [bytesOfVs] at h; subst h; cases hr; exact ⟨[], rfl, rfl⟩
  | v :: ys, l, rs, h, hr => by
    cases v <;> first | (simp [bytesOfVs] at h; done) | skip
    rename_i k n
    cases k <;> first | (simp [bytesOfVs] at h; done) | skip
    simp only [bytesOfVs] at h
    simp only [Option.map_eq_some_iff] at h
    obtain ⟨l', h1, rfl⟩ := h
    have : flat (V.i .u8 n :: ys) = V.i .u8 n :: flat ys := by simp [flat, V.cells]
    rw [this] at hr
    cases hr with
    | cons _ _ _ rs' h2 h3 =>
      cases h2
      obtain ⟨ns, rfl, rfl⟩ := bytesOfVs_spec h1 h3
      exact ⟨n :: ns, rfl, rfl⟩

theorem foldl_push (ns : List Int) : ∀ r : ByteArray, ns.foldl (fun r n => r.push (UInt8.ofNat n.toNat)) r = ⟨⟨r.data.toList ++ ns.map (fun n => UInt8.ofNat n.toNat)⟩⟩ := by
  induction ns with
  | nil => intro r; simp
  | cons n ns ih =>
    intro r
    simp only [List.foldl_cons, ih, List.map_cons]
    congr 2
    simp [ByteArray.push]

/-- string(b) -/
theorem run_bytesStr (r : R G μ I h w) {src dst e : TypeId} (hs : P.underlying src = some (.slice e)) (he : P.underlying e = some (.int .u8)) (hd : P.underlying dst = some .string)
    {v : V} {rv : Value} {ys : List V} {l : List UInt8} (hsv : srcV h 1 v = some ys) (hb : bytesOfVs ys = some l) (hv : VR w I μ v rv) (hns : ∀ b, v ≠ .s b) :
    (Go.convert src dst rv).run P w = .ok (.string ⟨⟨l⟩⟩) w := by
  obtain ⟨hok, hlen, news, hnews, hfirst⟩ := srcV_spec (P := P) r hsv hv
  obtain ⟨ns, rfl, rfl⟩ := bytesOfVs_spec hb hnews
  have hf := hfirst w rfl
  have hnl := hnews.length
  rw [flat_length hok] at hnl
  have hform : ∃ a len cap, rv = .slice a len cap := by
    cases hv <;> first | exact ⟨_, _, _, rfl⟩ | (simp [srcV] at hsv; done) | (exact absurd rfl (hns _))
  obtain ⟨a, len, cap, rfl⟩ := hform
  rw [run_convert_bytes_string w src dst e a len cap hs he hd]
  have hll : len = ys.length := by
    simp only [Builtin.lenOf, Sem.run_pure] at hlen
    injection hlen
  subst hll
  cases a with
  | none =>
    have : ns = [] := by
      simp only [Builtin.firstCells, Sem.run_pure] at hf
      injection hf with h1 _
      have := congrArg Array.toList h1
      simpa using this.symm
    subst this
    rfl
  | some a =>
    have hl : (loadCells a ys.length).run P w = .ok (ns.map (Value.int .u8)).toArray w := by
      simp only [Builtin.firstCells, Nat.mul_one] at hf
      exact hf
    rw [run_bytesToString w a ys.length cap ns hl, foldl_push]
    simp

/-- []byte(s) -/
theorem does_strBytes (r : R G μ I h w) {id : Nat} (hid : μ id = none) {src dst e : TypeId} (hty : tyOf id = 0 ∨ tyOf id = e) (hs : P.underlying src = some .string) (hd : P.underlying dst = some (.slice e)) (he : P.underlying e = some (.int .u8)) (l : List UInt8) (hll : l.length ≤ 9223372036854775807) :
    Does P G μ I w (Go.convert src dst (.string ⟨⟨l⟩⟩)) (.sl id 0 l.length) (h.set id (.row 1 (l.map fun c => .i .u8 c.toNat))) := by
  have hrun := Lib.run_convert_string_bytes (P := P) w src dst e ⟨⟨l⟩⟩ hs hd he
  have hnew := Lib.bytesWorld_at_new w e ⟨⟨l⟩⟩
  have hok : ∀ y ∈ l.map (fun c => V.i .u8 (c.toNat : Int)), y.okE 1 := by
    intro y hy
    simp only [List.mem_map] at hy
    obtain ⟨c, _, rfl⟩ := hy
    exact ⟨rfl, by simp [V.cells, V.one]⟩
  have hge := grownCap_ge w l.length 0 e
  have hsz : (Lib.bytesCells w e ⟨⟨l⟩⟩).size = grownCap w l.length 0 e := by
    have : (⟨⟨l⟩⟩ : ByteArray).size = l.length := rfl
    simp [Lib.bytesCells, this]; omega
  have hw := r.newRow hid hok (rs := l.map fun c => Value.int .u8 (c.toNat : Int)) (by rw [flat_bytes]; exact VRs_bytes l) (Lib.bytesCells w e ⟨⟨l⟩⟩) (fun j v hj => by
      have hjl := (List.getElem?_eq_some_iff.1 hj).1
      simp only [List.length_map] at hjl
      simp only [Lib.bytesCells]
      rw [Array.getElem?_append_left (by simpa using hjl)]
      simpa using hj) e hty ((Lib.bytesCells w e ⟨⟨l⟩⟩).size, (Lib.bytesCells w e ⟨⟨l⟩⟩).size + 1) (fun j hj h => by simp at h; omega) (Lib.bytesWorld w e ⟨⟨l⟩⟩) (by
      apply Array.ext
      · rw [Lib.bytesWorld_size]; simp
      · intro k h1 h2
        have h3 : k < w.heap.size ∨ k = w.heap.size := by rw [Lib.bytesWorld_size] at h1; omega
        rcases h3 with h3 | h3
        · have := Lib.bytesWorld_at_old w e ⟨⟨l⟩⟩ k h3
          rw [Array.getElem_push, dif_pos h3]
          rw [Array.getElem?_eq_getElem h1, Array.getElem?_eq_getElem h3] at this
          exact Option.some.inj this
        · subst h3
          rw [Array.getElem_push, dif_neg (by omega)]
          rw [Array.getElem?_eq_getElem h1] at hnew
          exact Option.some.inj hnew) rfl rfl rfl
  have hsl : (⟨⟨l⟩⟩ : ByteArray).size = l.length := rfl
  rw [hsl] at hrun
  refine ⟨_, _, _, hrun, hw.1, hw.2, ?_⟩
  have := VR.sl (w := Lib.bytesWorld w e ⟨⟨l⟩⟩) (I := I) (μ := μ.set id (.blk w.heap.size 0 1 (Lib.bytesCells w e ⟨⟨l⟩⟩).size)) id 0 l.length w.heap.size 0 1 (Lib.bytesCells w e ⟨⟨l⟩⟩).size (grownCap w l.length 0 e) (Mu.set_same _ _ _) hge (by rw [hsz]; omega) (grownCap_le_maxLen w _ _ _ hll)
  simpa using this

end
end Go.X
end
