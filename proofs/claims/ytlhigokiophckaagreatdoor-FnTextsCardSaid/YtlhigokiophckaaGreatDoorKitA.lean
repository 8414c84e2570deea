/- A calculus of ideal values and heaps over the model's worlds: values, rows, loads, stores. -/
import Derived.Calls
import Derived.Below
import Derived.RowKit3
import Derived.Laws.AppendOwn
import Derived.Laws.Cells
import Derived.Laws.IdiomCopy
import Derived.Laws.Entries
import Derived.Laws.Slices
import Derived.WideLaws
import Derived.Laws.Small

section
set_option linter.unusedVariables false
set_option linter.unusedSimpArgs false
namespace Go.X

/-- Ideal values. 'im e xs': a slice that nobody writes, by content (e: cells of an element); 'sl id off len': a slice of the row 'id' of the ideal heap; 'ip cs': the address of cells that nobody writes. -/
inductive V where
  | b (x : Bool)
  | i (k : IntKind) (n : Int)
  | s (l : List UInt8)
  | pnil
  | ptr (id i f : Nat)
  | ip (cs : List V)
  | nil
  | sl (id off len : Nat)
  | im (e : Nat) (xs : List V)
  | mnil
  | mp (id : Nat)
  | it (id : Nat)
  | yl (id : Nat)
  | fn (f : Fn) (first cap : List V)
  | nfn
  | ifc (t : TypeId) (v : V)
  | nifc
  | ag (cs : List V)
  | tu (vs : List V)
  deriving Inhabited

def V.cells : V → List V
  | .ag cs => cs
  | v => [v]

def V.one : V → Bool
  | .ag _ | .tu _ => false
  | _ => true

/-- An element of 'e' cells. -/
def V.okE (e : Nat) (x : V) : Prop := x.cells.length = e ∧ ∀ c ∈ x.cells, c.one = true

inductive O where
  | row (e : Nat) (xs : List V)
  | map (es : List (V × V))
  | iter (l : List UInt8) (pos : Nat)
  | loop (st : LoopState) (pe : Option Code) (a : Nat → Option V) (n : Nat) (ps : Array Tmp) (asg body : Code)

abbrev H := Nat → Option O
def H.set (h : H) (id : Nat) (o : O) : H := fun j => if j = id then some o else h j
def H.del (h : H) (id : Nat) : H := fun j => if j = id then none else h j

inductive Tgt where
  | virt
  | blk (rb base e n : Nat)
  | obj (rb : Nat)

def Tgt.block : Tgt → Option Nat
  | .virt => none
  | .blk rb _ _ _ => some rb
  | .obj rb => some rb

abbrev Mu := Nat → Option Tgt

def flat (xs : List V) : List V := xs.flatMap V.cells

/-- The address of an empty slice: none, or a plain one. -/
def plainA (a : Option Addr) : Prop := ∀ x, a = some x → x.spot = none
theorem plainA_none : plainA none := by intro x h; cases h
theorem plainA_some (b o : Nat) : plainA (some ⟨b, o, none⟩) := by intro x h; cases h; rfl
theorem plainA_ite {a : Option Addr} {c : Prop} [Decidable c] (h : plainA a) (n : Nat) : plainA (if c then a else a.map (·.add n)) := by
  split
  · exact h
  · intro x hx
    cases a with
    | none => cases hx
    | some y =>
      have hy := h y rfl
      simp only [Option.map_some, Option.some.injEq] at hx
      subst hx
      obtain ⟨b, o, s⟩ := y
      simp only at hy; subst hy
      unfold Addr.add; split <;> simp_all

theorem capz {a : Option Addr} {c : Prop} [Decidable c] {f : Addr → Addr} {cap l : Nat} (h : a = none → cap = 0) (e : (if c then a else a.map f) = none) : cap - l = 0 := by
  have : a = none := by
    split at e
    · exact e
    · simpa using e
  rw [h this]; simp

mutual
inductive VR (w : World) (I : Nat → Prop) (μ : Mu) : V → Value → Prop
  | b (x) : VR w I μ (.b x) (.bool x)
  | i (k n) : VR w I μ (.i k n) (.int k n)
  | s (l) : l.length ≤ 9223372036854775807 → VR w I μ (.s l) (.string ⟨⟨l⟩⟩)
  | pnil : VR w I μ .pnil (.pointer none)
  | ptr (id i f rb base e n) : μ id = some (.blk rb base e n) → VR w I μ (.ptr id i f) (.pointer (some ⟨rb, base + i * e + f, none⟩))
  | ip (cs rs b o) : I b → (∀ c ∈ cs, c.one = true) → VRs w I μ cs rs → (∀ j v, rs[j]? = some v → w.cell? ⟨b, o + j, none⟩ = some v) → VR w I μ (.ip cs) (.pointer (some ⟨b, o, none⟩))
  | nil : VR w I μ .nil (.slice none 0 0)
  | sl (id off len rb base e n cap) : μ id = some (.blk rb base e n) → len ≤ cap → base + (off + cap) * e ≤ n → cap ≤ 9223372036854775807 →
      VR w I μ (.sl id off len) (.slice (some ⟨rb, base + off * e, none⟩) len cap)
  | slz (id off a) : plainA a → VR w I μ (.sl id off 0) (.slice a 0 0)
  | im (e xs rs b o cap) : I b → (∀ x ∈ xs, x.okE e) → VRs w I μ (flat xs) rs → (∀ j v, rs[j]? = some v → w.cell? ⟨b, o + j, none⟩ = some v) →
      xs.length ≤ cap → cap ≤ 9223372036854775807 → VR w I μ (.im e xs) (.slice (some ⟨b, o, none⟩) xs.length cap)
  | imz (e a cap) : plainA a → (a = none → cap = 0) → VR w I μ (.im e []) (.slice a 0 cap)
  | mnil : VR w I μ .mnil (.map none)
  | mp (id rb) : μ id = some (.obj rb) → VR w I μ (.mp id) (.map (some rb))
  | it (id rb) : μ id = some (.obj rb) → VR w I μ (.it id) (.pointer (some ⟨rb, 0, none⟩))
  | yl (id rb) : μ id = some (.obj rb) → VR w I μ (.yl id) (.func (.yield rb) #[] #[])
  | fn (f fs cs r1 r2) : VRs w I μ fs r1 → VRs w I μ cs r2 → VR w I μ (.fn f fs cs) (.func f ⟨r1⟩ ⟨r2⟩)
  | nfn : VR w I μ .nfn .nilFunc
  | ifc (t v rv) : VR w I μ v rv → VR w I μ (.ifc t v) (.iface t rv)
  | nifc : VR w I μ .nifc .nilIface
  | ag (cs rs) : VRs w I μ cs rs → (∀ c ∈ cs, c.one = true) → VR w I μ (.ag cs) (.agg ⟨rs⟩)
  | tu (cs rs) : VRs w I μ cs rs → VR w I μ (.tu cs) (.tuple ⟨rs⟩)
inductive VRs (w : World) (I : Nat → Prop) (μ : Mu) : List V → List Value → Prop
  | nil : VRs w I μ [] []
  | cons (v rv vs rvs) : VR w I μ v rv → VRs w I μ vs rvs → VRs w I μ (v :: vs) (rv :: rvs)
end

/-- What stands still from one state to a later one. -/
structure Ext (μ : Mu) (I : Nat → Prop) (w : World) (μ' : Mu) (I' : Nat → Prop) (w' : World) : Prop where
  mu : ∀ id t, μ id = some t → μ' id = some t
  im : ∀ b, I b → I' b
  heap : ∀ b, I b → w'.heap[b]? = w.heap[b]?
  size : w.heap.size ≤ w'.heap.size
  os : w'.os = w.os
  tape : w'.tape = w.tape
  output : w'.output = w.output

theorem Ext.refl (μ : Mu) (I : Nat → Prop) (w : World) : Ext μ I w μ I w :=
  ⟨fun _ _ h => h, fun _ h => h, fun _ _ => rfl, Nat.le_refl _, rfl, rfl, rfl⟩
theorem Ext.trans {μ μ' μ'' : Mu} {I I' I'' : Nat → Prop} {w w' w'' : World} (h : Ext μ I w μ' I' w') (k : Ext μ' I' w' μ'' I'' w'') : Ext μ I w μ'' I'' w'' :=
  ⟨fun id t e => k.mu _ _ (h.mu _ _ e), fun b e => k.im _ (h.im _ e), fun b e => (k.heap _ (h.im _ e)).trans (h.heap _ e), Nat.le_trans h.size k.size,
   k.os.trans h.os, k.tape.trans h.tape, k.output.trans h.output⟩

theorem cell_of_block {w w' : World} {a : Addr} (h : w'.heap[a.block]? = w.heap[a.block]?) : w'.cell? a = w.cell? a := by
  simp only [World.cell?, h]

section
variable {μ μ' : Mu} {I I' : Nat → Prop} {w w' : World}

mutual
theorem VR.ext (hx : Ext μ I w μ' I' w') : ∀ {v rv}, VR w I μ v rv → VR w' I' μ' v rv
  | _, _, .b x => .b x
  | _, _, .i k n => .i k n
  | _, _, .s l h => .s l h
  | _, _, .pnil => .pnil
  | _, _, .ptr id i f rb base e n h => .ptr id i f rb base e n (hx.mu _ _ h)
  | _, _, .ip cs rs b o hb ho hr hc => .ip cs rs b o (hx.im _ hb) ho (VRs.ext hx hr) (fun j v e => by
      rw [cell_of_block (hx.heap _ hb)]; exact hc j v e)
  | _, _, .nil => .nil
  | _, _, .sl id off len rb base e n cap h h1 h2 h3 => .sl id off len rb base e n cap (hx.mu _ _ h) h1 h2 h3
  | _, _, .slz id off a h => .slz id off a h
  | _, _, .im e xs rs b o cap hb hu hr hc hl hl2 => .im e xs rs b o cap (hx.im _ hb) hu (VRs.ext hx hr) (fun j v e => by
      rw [cell_of_block (hx.heap _ hb)]; exact hc j v e) hl hl2
  | _, _, .imz e a cap h h2 => .imz e a cap h h2
  | _, _, .mnil => .mnil
  | _, _, .mp id rb h => .mp id rb (hx.mu _ _ h)
  | _, _, .it id rb h => .it id rb (hx.mu _ _ h)
  | _, _, .yl id rb h => .yl id rb (hx.mu _ _ h)
  | _, _, .fn f fs cs r1 r2 h1 h2 => .fn f fs cs r1 r2 (VRs.ext hx h1) (VRs.ext hx h2)
  | _, _, .nfn => .nfn
  | _, _, .ifc t v rv h => .ifc t v rv (VR.ext hx h)
  | _, _, .nifc => .nifc
  | _, _, .ag cs rs h h1 => .ag cs rs (VRs.ext hx h) h1
  | _, _, .tu cs rs h => .tu cs rs (VRs.ext hx h)
theorem VRs.ext (hx : Ext μ I w μ' I' w') : ∀ {vs rvs}, VRs w I μ vs rvs → VRs w' I' μ' vs rvs
  | _, _, .nil => .nil
  | _, _, .cons v rv vs rvs h hs => .cons v rv vs rvs (VR.ext hx h) (VRs.ext hx hs)
end

mutual
theorem VR.keep (hx : ∀ a v, w.cell? a = some v → w'.cell? a = some v) : ∀ {v rv}, VR w I μ v rv → VR w' I μ v rv
  | _, _, .b x => .b x
  | _, _, .i k n => .i k n
  | _, _, .s l h => .s l h
  | _, _, .pnil => .pnil
  | _, _, .ptr id i f rb base e n h => .ptr id i f rb base e n h
  | _, _, .ip cs rs b o hb ho hr hc => .ip cs rs b o hb ho (VRs.keep hx hr) (fun j v e => hx _ _ (hc j v e))
  | _, _, .nil => .nil
  | _, _, .sl id off len rb base e n cap h h1 h2 h3 => .sl id off len rb base e n cap h h1 h2 h3
  | _, _, .slz id off a h => .slz id off a h
  | _, _, .im e xs rs b o cap hb hu hr hc hl hl2 => .im e xs rs b o cap hb hu (VRs.keep hx hr) (fun j v e => hx _ _ (hc j v e)) hl hl2
  | _, _, .imz e a cap h h2 => .imz e a cap h h2
  | _, _, .mnil => .mnil
  | _, _, .mp id rb h => .mp id rb h
  | _, _, .it id rb h => .it id rb h
  | _, _, .yl id rb h => .yl id rb h
  | _, _, .fn f fs cs r1 r2 h1 h2 => .fn f fs cs r1 r2 (VRs.keep hx h1) (VRs.keep hx h2)
  | _, _, .nfn => .nfn
  | _, _, .ifc t v rv h => .ifc t v rv (VR.keep hx h)
  | _, _, .nifc => .nifc
  | _, _, .ag cs rs h h1 => .ag cs rs (VRs.keep hx h) h1
  | _, _, .tu cs rs h => .tu cs rs (VRs.keep hx h)
theorem VRs.keep (hx : ∀ a v, w.cell? a = some v → w'.cell? a = some v) : ∀ {vs rvs}, VRs w I μ vs rvs → VRs w' I μ vs rvs
  | _, _, .nil => .nil
  | _, _, .cons v rv vs rvs h hs => .cons v rv vs rvs (VR.keep hx h) (VRs.keep hx hs)
end

theorem VRs.length {vs : List V} {rvs : List Value} (h : VRs w I μ vs rvs) : rvs.length = vs.length := by
  induction vs generalizing rvs with
  | nil => cases h; rfl
  | cons v vs ih => cases h with | cons _ _ _ _ h hs => simp [ih hs]

theorem VRs.get {vs : List V} {rvs : List Value} (h : VRs w I μ vs rvs) {j : Nat} {v : V} (hv : vs[j]? = some v) : ∃ rv, rvs[j]? = some rv ∧ VR w I μ v rv := by
  induction vs generalizing rvs j with
  | nil => simp at hv
  | cons x vs ih =>
    cases h with
    | cons _ rv _ rvs h hs =>
      cases j with
      | zero => simp at hv; subst hv; exact ⟨rv, rfl, h⟩
      | succ j => simp at hv; simpa using ih hs hv

theorem VRs.append {vs vs' : List V} {rvs rvs' : List Value} (h : VRs w I μ vs rvs) (h' : VRs w I μ vs' rvs') : VRs w I μ (vs ++ vs') (rvs ++ rvs') := by
  induction vs generalizing rvs with
  | nil => cases h; simpa using h'
  | cons x vs ih => cases h with | cons _ rv _ rvs h hs => exact .cons _ _ _ _ h (ih hs)

theorem VRs.take {vs : List V} {rvs : List Value} (h : VRs w I μ vs rvs) (n : Nat) : VRs w I μ (vs.take n) (rvs.take n) := by
  induction vs generalizing rvs n with
  | nil => cases h; simp; exact .nil
  | cons x vs ih =>
    cases h with
    | cons _ rv _ rvs h hs =>
      cases n with
      | zero => exact .nil
      | succ n => exact .cons _ _ _ _ h (ih hs n)

theorem VRs.drop {vs : List V} {rvs : List Value} (h : VRs w I μ vs rvs) (n : Nat) : VRs w I μ (vs.drop n) (rvs.drop n) := by
  induction vs generalizing rvs n with
  | nil => cases h; simp; exact .nil
  | cons x vs ih =>
    cases h with
    | cons _ rv _ rvs h hs =>
      cases n with
      | zero => exact .cons _ _ _ _ h hs
      | succ n => exact ih hs n

theorem VRs.set {vs : List V} {rvs : List Value} (h : VRs w I μ vs rvs) (n : Nat) {v : V} {rv : Value} (hv : VR w I μ v rv) : VRs w I μ (vs.set n v) (rvs.set n rv) := by
  induction vs generalizing rvs n with
  | nil => cases h; exact .nil
  | cons x vs ih =>
    cases h with
    | cons _ rv' _ rvs h hs =>
      cases n with
      | zero => exact .cons _ _ _ _ hv hs
      | succ n => exact .cons _ _ _ _ h (ih hs n)

theorem VRs.of_get {vs : List V} {rvs : List Value} (hl : rvs.length = vs.length) (h : ∀ (j : Nat) (v : V) (rv : Value), vs[j]? = some v → rvs[j]? = some rv → VR w I μ v rv) : VRs w I μ vs rvs := by
  induction vs generalizing rvs with
  | nil => cases rvs with | nil => exact .nil | cons => simp at hl
  | cons x vs ih =>
    cases rvs with
    | nil => simp at hl
    | cons r rvs =>
      refine .cons _ _ _ _ (h 0 x r rfl rfl) (ih (by simpa using hl) fun j v rv h1 h2 => h (j+1) v rv (by simpa using h1) (by simpa using h2))

theorem VRs.getD {vs : List V} {rvs : List Value} (h : VRs w I μ vs rvs) {j : Nat} {v : V} (hv : vs[j]? = some v) (d : Value) : VR w I μ v (rvs.getD j d) := by
  obtain ⟨rv, h1, h2⟩ := h.get hv
  simp only [List.getD, h1, Option.getD_some]; exact h2

/-- The cells of a value, real and ideal. -/
theorem VR.cells {v : V} {rv : Value} (h : VR w I μ v rv) (ht : ∀ vs, v ≠ .tu vs) : VRs w I μ v.cells rv.cells.toList := by
  cases h <;> first
    | (exact absurd rfl (ht _))
    | assumption
    | (refine .cons _ _ _ _ ?_ .nil; first | constructor <;> assumption | (constructor))

theorem VR.one {v : V} {rv : Value} (h : VR w I μ v rv) (ho : v.one = true) : rv.oneCell' = true ∧ rv.cells = #[rv] := by
  cases h <;> first | (exact ⟨rfl, rfl⟩) | (simp [V.one] at ho)

end

/-- The temporaries. -/
abbrev Tm := Nat → Option V
def upd (t : Nat) (v : V) (a : Tm) : Tm := fun j => if j = t then some v else a j
def updO (t : Option Nat) (v : V) (a : Tm) : Tm := match t with | some t => upd t v a | none => a
def undefV : V := .tu []

def TR (w : World) (I : Nat → Prop) (μ : Mu) (a : Tm) (tmps : Array Value) : Prop := ∀ t v, a t = some v → t < tmps.size ∧ VR w I μ v (tmps.getD t undef)

theorem TR.ext {μ μ' : Mu} {I I' : Nat → Prop} {w w' : World} (hx : Ext μ I w μ' I' w') {a : Tm} {tmps : Array Value} (h : TR w I μ a tmps) : TR w' I' μ' a tmps :=
  fun t v e => ⟨(h t v e).1, (h t v e).2.ext hx⟩

end Go.X
end

section
set_option linter.unusedVariables false
set_option linter.unusedSimpArgs false
namespace Go.X

/-- A value that can lie in a variable. -/
def V.fits (v : V) : Bool := match v with | .tu _ => false | _ => true

/-- The type that an id bears: every type stands at ids as great as one likes. -/
def tg : Nat → Nat × Nat
  | 0 => (0, 0)
  | n + 1 => if (tg n).2 = (tg n).1 then ((tg n).1 + 1, 0) else ((tg n).1, (tg n).2 + 1)
def tyOf (id : Nat) : Nat := (tg id).2
theorem tg_row : ∀ r, ∃ s, r ≤ s ∧ ∀ c, c ≤ r → tg (s + c) = (r, c) := by
  intro r
  induction r with
  | zero => exact ⟨0, Nat.le_refl _, fun c hc => by
      have : c = 0 := by omega
      subst this; rfl⟩
  | succ r ih =>
    obtain ⟨s, hs, h⟩ := ih
    refine ⟨s + r + 1, by omega, fun c => ?_⟩
    induction c with
    | zero => intro _; rw [show s + r + 1 + 0 = (s + r) + 1 by omega, tg, h r (Nat.le_refl _)]; simp
    | succ c ihc =>
      intro hc
      have := ihc (by omega)
      rw [show s + r + 1 + (c + 1) = (s + r + 1 + c) + 1 by omega, tg, this]
      simp only []
      rw [if_neg (by omega)]
theorem tyOf_ex (N T : Nat) : ∃ id, N ≤ id ∧ tyOf id = T := by
  obtain ⟨s, hs, h⟩ := tg_row (max N T)
  exact ⟨s + T, by omega, by rw [tyOf, h T (by omega)]⟩

/-- The real row of cells behind a live ideal row. -/
structure RowR (w : World) (I : Nat → Prop) (μ : Mu) (id e : Nat) (xs : List V) (rb base n : Nat) (rcs : Array Value) (T : TypeId) (fz : Nat × Nat) (rs : List Value) : Prop where
  mu : μ id = some (.blk rb base e n)
  blk : w.heap[rb]? = some (.cells rcs T fz)
  size : rcs.size = n
  fit : base + xs.length * e ≤ n
  free : ∀ j, base ≤ j → j < n → ¬ (fz.1 ≤ j ∧ j < fz.2)
  vrs : VRs w I μ (flat xs) rs
  cell : ∀ j v, rs[j]? = some v → rcs[base + j]? = some v
  ty : tyOf id = 0 ∨ (tyOf id = T ∧ base = 0)

def ObjR (w : World) (I : Nat → Prop) (μ : Mu) (id : Nat) : O → Prop
  | .row e xs => (∀ x ∈ xs, x.okE e) ∧ ((xs = [] ∧ μ id = some .virt) ∨ ∃ rb base n rcs T fz rs, RowR w I μ id e xs rb base n rcs T fz rs)
  | .map es => ∃ rb ents clock, μ id = some (.obj rb) ∧ w.heap[rb]? = some (.map ents clock) ∧
      VRs w I μ (es.map (·.1)) (ents.toList.map (·.key)) ∧ VRs w I μ (es.map (·.2)) (ents.toList.map (·.val))
  | .iter l pos => ∃ rb, μ id = some (.obj rb) ∧ w.heap[rb]? = some (.stringIter ⟨⟨l⟩⟩ pos)
  | .loop st pe a n ps asg body => ∃ rb r, μ id = some (.obj rb) ∧ w.heap[rb]? = some (.loop r) ∧ r.state = st ∧ r.pending = pe ∧ r.params = ps ∧ r.assign = asg ∧ r.body = body ∧ r.tmps.size = n ∧ TR w I μ a r.tmps

abbrev Gl := Nat → Option (List V)

structure R (G : Gl) (μ : Mu) (I : Nat → Prop) (h : H) (w : World) : Prop where
  obj : ∀ id o, h id = some o → ObjR w I μ id o
  inj : ∀ id id' t t' rb, h id ≠ none → h id' ≠ none → μ id = some t → μ id' = some t' → t.block = some rb → t'.block = some rb → id = id'
  imm : ∀ b, I b → b < w.heap.size
  mub : ∀ id t rb, μ id = some t → t.block = some rb → rb < w.heap.size
  notI : ∀ id t rb, h id ≠ none → μ id = some t → t.block = some rb → ¬ I rb
  bound : ∃ N, ∀ id, N ≤ id → μ id = none
  glob : ∀ g cs, G g = some cs → VR w I μ (.ip cs) (.pointer (some ⟨g, 0, none⟩))

theorem ObjR.mu_some {w : World} {I : Nat → Prop} {μ : Mu} {id : Nat} {o : O} (h : ObjR w I μ id o) : ∃ t, μ id = some t := by
  cases o with
  | row e xs =>
    rcases h.2 with ⟨_, h⟩ | ⟨rb, base, n, rcs, T, fz, rs, h⟩
    · exact ⟨_, h⟩
    · exact ⟨_, h.mu⟩
  | map es => obtain ⟨rb, _, _, h, _⟩ := h; exact ⟨_, h⟩
  | iter l pos => obtain ⟨rb, h, _⟩ := h; exact ⟨_, h⟩
  | loop => obtain ⟨rb, _, h, _⟩ := h; exact ⟨_, h⟩

theorem R.dom {G : Gl} {μ : Mu} {I : Nat → Prop} {h : H} {w : World} (r : R G μ I h w) {id : Nat} (hm : μ id = none) : h id = none := by
  cases hh : h id with
  | none => rfl
  | some o => obtain ⟨t, ht⟩ := (r.obj id o hh).mu_some; rw [hm] at ht; cases ht

theorem R.fresh {G : Gl} {μ : Mu} {I : Nat → Prop} {h : H} {w : World} (r : R G μ I h w) (T : Nat) : ∃ id, μ id = none ∧ h id = none ∧ tyOf id = T := by
  obtain ⟨N, hN⟩ := r.bound
  obtain ⟨id, h1, h2⟩ := tyOf_ex N T
  exact ⟨id, hN id h1, r.dom (hN id h1), h2⟩

/-- 'h' has no more than 'k'. -/
def Sub (h k : H) : Prop := ∀ j o, h j = some o → k j = some o
theorem Sub.refl (h : H) : Sub h h := fun _ _ e => e
theorem Sub.trans {a b c : H} (h : Sub a b) (k : Sub b c) : Sub a c := fun j o e => k j o (h j o e)
theorem Sub.set_fresh {h k : H} (hs : Sub h k) {id : Nat} (hf : h id = none) (o : O) : Sub h (k.set id o) := by
  intro j o' e
  unfold H.set
  split
  · rename_i hj; subst hj; rw [hf] at e; cases e
  · exact hs j o' e
theorem Sub.set {h k : H} (hs : Sub h k) (id : Nat) (o : O) : Sub (h.set id o) (k.set id o) := by
  intro j o' e
  unfold H.set at e ⊢
  split
  · rename_i hj; rw [if_pos hj] at e; exact e
  · rename_i hj; rw [if_neg hj] at e; exact hs j o' e
theorem Sub.del {h k : H} (hs : Sub h k) {id : Nat} (hf : h id = none) : Sub h (k.del id) := by
  intro j o' e
  unfold H.del
  split
  · rename_i hj; subst hj; rw [hf] at e; cases e
  · exact hs j o' e

theorem R.sub {G : Gl} {μ : Mu} {I : Nat → Prop} {h k : H} {w : World} (r : R G μ I k w) (hs : Sub h k) : R G μ I h w := by
  have ne : ∀ id, h id ≠ none → k id ≠ none := fun id hn => by
    cases hh : h id with
    | none => exact absurd hh hn
    | some o => rw [hs id o hh]; simp
  exact ⟨fun id o e => r.obj id o (hs id o e), fun id id' t t' rb a b => r.inj id id' t t' rb (ne _ a) (ne _ b), r.imm, r.mub, fun id t rb a => r.notI id t rb (ne _ a), r.bound, r.glob⟩

/-- Every object but those of some ids stands as it stood. -/
theorem ObjR.ext {μ μ' : Mu} {I I' : Nat → Prop} {w w' : World} (hx : Ext μ I w μ' I' w') {id : Nat} {o : O} (h : ObjR w I μ id o)
    (hb : ∀ t rb, μ id = some t → t.block = some rb → w'.heap[rb]? = w.heap[rb]?) : ObjR w' I' μ' id o := by
  cases o with
  | row e xs =>
    refine ⟨h.1, ?_⟩
    rcases h.2 with ⟨h1, h2⟩ | ⟨rb, base, n, rcs, T, fz, rs, h⟩
    · exact .inl ⟨h1, hx.mu _ _ h2⟩
    · refine .inr ⟨rb, base, n, rcs, T, fz, rs, hx.mu _ _ h.mu, ?_, h.size, h.fit, h.free, VRs.ext hx h.vrs, h.cell, h.ty⟩
      rw [hb _ _ h.mu rfl]; exact h.blk
  | map es =>
    obtain ⟨rb, ents, clock, h1, h2, h3, h4⟩ := h
    exact ⟨rb, ents, clock, hx.mu _ _ h1, by rw [hb _ _ h1 rfl]; exact h2, VRs.ext hx h3, VRs.ext hx h4⟩
  | iter l pos =>
    obtain ⟨rb, h1, h2⟩ := h
    exact ⟨rb, hx.mu _ _ h1, by rw [hb _ _ h1 rfl]; exact h2⟩
  | loop =>
    obtain ⟨rb, r, h1, h2, h3, h4, h5, h6, h7, h8, h9⟩ := h
    exact ⟨rb, r, hx.mu _ _ h1, by rw [hb _ _ h1 rfl]; exact h2, h3, h4, h5, h6, h7, h8, h9.ext hx⟩

/-- The general step: the world turns at no block that is immutable and at no block of a live id but 'id's; the new heap has one new object at 'id'. -/
theorem R.step {G : Gl} {μ μ' : Mu} {I I' : Nat → Prop} {h : H} {w w' : World} (r : R G μ I h w) (hx : Ext μ I w μ' I' w')
    (k : H) (D : Nat → Prop)
    (hold : ∀ id o, k id = some o → ¬ D id → h id = some o)
    (hobj : ∀ id o, k id = some o → D id → ObjR w' I' μ' id o)
    (hkeep : ∀ id o t rb, k id = some o → ¬ D id → μ id = some t → t.block = some rb → w'.heap[rb]? = w.heap[rb]?)
    (hinj : ∀ id id' t t' rb, k id ≠ none → k id' ≠ none → D id → μ' id = some t → μ' id' = some t' → t.block = some rb → t'.block = some rb → id = id')
    (himm : ∀ b, I' b → b < w'.heap.size)
    (hmub : ∀ id t rb, μ' id = some t → t.block = some rb → rb < w'.heap.size)
    (hnotI : ∀ id t rb, k id ≠ none → μ' id = some t → t.block = some rb → ¬ I' rb)
    (hbound : ∃ N, ∀ id, N ≤ id → μ' id = none) : R G μ' I' k w' := by
  classical
  refine ⟨fun id o e => ?_, fun id id' t t' rb a b ma mb ta tb => ?_, himm, hmub, hnotI, hbound, fun g cs e => (r.glob g cs e).ext hx⟩
  · by_cases hd : D id
    · exact hobj id o e hd
    · exact (r.obj id o (hold id o e hd)).ext hx fun t rb m tb => hkeep id o t rb e hd m tb
  · by_cases hd : D id
    · exact hinj id id' t t' rb a b hd ma mb ta tb
    · by_cases hd' : D id'
      · exact (hinj id' id t' t rb b a hd' mb ma tb ta).symm
      · cases hk : k id with
        | none => exact absurd hk a
        | some o =>
          cases hk' : k id' with
          | none => exact absurd hk' b
          | some o' =>
            have e1 := hold id o hk hd
            have e2 := hold id' o' hk' hd'
            obtain ⟨t1, m1⟩ := (r.obj id o e1).mu_some
            obtain ⟨t2, m2⟩ := (r.obj id' o' e2).mu_some
            have := hx.mu _ _ m1; rw [ma] at this; cases this
            have := hx.mu _ _ m2; rw [mb] at this; cases this
            exact r.inj id id' _ _ rb (by rw [e1]; simp) (by rw [e2]; simp) m1 m2 ta tb

def Mu.set (μ : Mu) (id : Nat) (t : Tgt) : Mu := fun j => if j = id then some t else μ j
theorem Mu.set_same (μ : Mu) (id : Nat) (t : Tgt) : μ.set id t id = some t := by simp [Mu.set]
theorem Mu.set_ne (μ : Mu) {id j : Nat} (t : Tgt) (h : j ≠ id) : μ.set id t j = μ j := by simp [Mu.set, h]

/-- A new block at the end of the memory, a new id for it. -/
theorem R.new {G : Gl} {μ : Mu} {I : Nat → Prop} {h : H} {w : World} (r : R G μ I h w) {id : Nat} (hid : μ id = none) (w' : World) (t : Tgt) (o : O)
    (hpush : ∀ b, b < w.heap.size → w'.heap[b]? = w.heap[b]?) (hsize : w'.heap.size = w.heap.size + 1) (hos : w'.os = w.os) (htape : w'.tape = w.tape) (hout : w'.output = w.output)
    (ht : t.block = some w.heap.size ∨ t.block = none) (hobj : Ext μ I w (μ.set id t) I w' → ObjR w' I (μ.set id t) id o) :
    Ext μ I w (μ.set id t) I w' ∧ R G (μ.set id t) I (h.set id o) w' := by
  have hx : Ext μ I w (μ.set id t) I w' := by
    refine ⟨fun j t' e => ?_, fun _ h => h, fun b hb => hpush b (r.imm b hb), by omega, hos, htape, hout⟩
    rw [Mu.set_ne]; exact e
    intro hj; subst hj; rw [hid] at e; cases e
  refine ⟨hx, r.step hx _ (fun j => j = id) ?_ ?_ ?_ ?_ ?_ ?_ ?_ ?_⟩
  · intro j o' e hd
    simpa [H.set, hd] using e
  · intro j o' e hd
    subst hd
    simp [H.set] at e; subst e; exact hobj hx
  · intro j o' t' rb e hd m tb
    exact hpush rb (r.mub j t' rb m tb)
  · intro j j' t1 t2 rb a b hd m1 m2 b1 b2
    subst hd
    rw [Mu.set_same] at m1; cases m1
    rcases ht with ht | ht
    · rw [ht] at b1; cases b1
      by_cases hj : j' = j
      · exact hj.symm
      · rw [Mu.set_ne _ _ hj] at m2
        have := r.mub j' t2 _ m2 b2; omega
    · rw [ht] at b1; cases b1
  · intro b hb; have := r.imm b hb; omega
  · intro j t1 rb m b
    by_cases hj : j = id
    · subst hj; rw [Mu.set_same] at m; cases m
      rcases ht with ht | ht
      · rw [ht] at b; cases b; omega
      · rw [ht] at b; cases b
    · rw [Mu.set_ne _ _ hj] at m; have := r.mub j t1 rb m b; omega
  · intro j t1 rb a m b
    by_cases hj : j = id
    · subst hj; rw [Mu.set_same] at m; cases m
      rcases ht with ht | ht
      · rw [ht] at b; cases b; intro hI; have := r.imm _ hI; omega
      · rw [ht] at b; cases b
    · rw [Mu.set_ne _ _ hj] at m
      refine r.notI j t1 rb ?_ m b
      simpa [H.set, hj] using a
  · obtain ⟨N, hN⟩ := r.bound
    refine ⟨max N (id + 1), fun j hj => ?_⟩
    rw [Mu.set_ne _ _ (by omega)]; exact hN j (by omega)

theorem flat_length {xs : List V} {e : Nat} (h : ∀ x ∈ xs, x.okE e) : (flat xs).length = xs.length * e := by
  induction xs with
  | nil => simp [flat]
  | cons x xs ih =>
    have h1 := (h x (by simp)).1
    have h2 := ih fun y hy => h y (by simp [hy])
    simp only [flat, List.flatMap_cons, List.length_append, List.length_cons] at *
    rw [h1, h2, Nat.add_mul]; omega

theorem flat_get {xs : List V} {e : Nat} (h : ∀ x ∈ xs, x.okE e) {i : Nat} {x : V} (hx : xs[i]? = some x) {f : Nat} (hf : f < e) :
    (flat xs)[i * e + f]? = x.cells[f]? := by
  induction xs generalizing i with
  | nil => simp at hx
  | cons y xs ih =>
    have h1 := (h y (by simp)).1
    have h2 := @ih fun z hz => h z (by simp [hz])
    simp only [flat, List.flatMap_cons] at *
    cases i with
    | zero =>
      simp at hx; subst hx
      rw [List.getElem?_append_left (by omega)]; simp
    | succ i =>
      simp at hx
      rw [List.getElem?_append_right (by rw [h1, Nat.add_mul]; omega), ← h2 hx]
      congr 1
      rw [h1, Nat.add_mul]; omega

theorem flat_append (xs ys : List V) : flat (xs ++ ys) = flat xs ++ flat ys := by simp [flat]
theorem flat_take {xs : List V} {e : Nat} (h : ∀ x ∈ xs, x.okE e) (n : Nat) : flat (xs.take n) = (flat xs).take (n * e) := by
  induction xs generalizing n with
  | nil => simp [flat]
  | cons y xs ih =>
    cases n with
    | zero => simp [flat]
    | succ n =>
      have h1 := (h y (by simp)).1
      have h2 := @ih (fun z hz => h z (by simp [hz])) n
      simp only [flat, List.take_succ_cons, List.flatMap_cons] at *
      rw [h2, List.take_append, h1, Nat.add_mul]
      congr 1
      · rw [List.take_of_length_le (by omega)]
      · congr 1; omega
theorem flat_drop {xs : List V} {e : Nat} (h : ∀ x ∈ xs, x.okE e) (n : Nat) : flat (xs.drop n) = (flat xs).drop (n * e) := by
  induction xs generalizing n with
  | nil => simp [flat]
  | cons y xs ih =>
    cases n with
    | zero => simp [flat]
    | succ n =>
      have h1 := (h y (by simp)).1
      have h2 := @ih (fun z hz => h z (by simp [hz])) n
      have h3 : (n + 1) * e = e + n * e := by rw [Nat.add_mul]; omega
      simp only [flat, List.drop_succ_cons, List.flatMap_cons] at *
      have h4 : y.cells.drop (e + n * e) = [] := List.drop_eq_nil_of_le (by omega)
      rw [h2, h3, List.drop_append, h1, h4, List.nil_append]
      congr 1; omega

/-- Cells of one value in a row. -/
theorem flat_cells {xs : List V} {e : Nat} (h : ∀ x ∈ xs, x.okE e) {i : Nat} {x : V} (hx : xs[i]? = some x) (f n : Nat) (hf : f + n ≤ e) :
    ((flat xs).drop (i * e + f)).take n = (x.cells.drop f).take n := by
  apply List.ext_getElem?
  intro j
  rw [List.getElem?_take, List.getElem?_take]
  split
  · rename_i hj
    rw [List.getElem?_drop, List.getElem?_drop, Nat.add_assoc, flat_get h hx (by omega)]
  · rfl

end Go.X
end

section
set_option linter.unusedVariables false
set_option linter.unusedSimpArgs false
namespace Go.X

theorem add_lit (b o j : Nat) : (⟨b, o, none⟩ : Addr).add j = ⟨b, o + j, none⟩ := by
  unfold Addr.add; split <;> simp_all

theorem cell_of (w : World) (b o : Nat) (cs : Array Value) (T : TypeId) (fz : Nat × Nat) (h : w.heap[b]? = some (.cells cs T fz)) : w.cell? ⟨b, o, none⟩ = cs[o]? := by
  simp [World.cell?, h]

/-- The cells from an address on. -/
def ptrCells (h : H) : V → Option (List V)
  | .ip cs => some cs
  | .ptr id i f => match h id with
    | some (.row e xs) => match xs[i]? with
      | some x => if f < e then some (x.cells.drop f) else none
      | none => none
    | _ => none
  | _ => none

section
variable {G : Gl} {μ : Mu} {I : Nat → Prop} {h : H} {w : World}

theorem ptrCells_spec (r : R G μ I h w) {v : V} {rv : Value} (hv : VR w I μ v rv) {cs : List V} (hc : ptrCells h v = some cs) :
    ∃ b o rs, rv = .pointer (some ⟨b, o, none⟩) ∧ VRs w I μ cs rs ∧ (∀ j u, rs[j]? = some u → w.cell? ⟨b, o + j, none⟩ = some u) ∧ ∀ c ∈ cs, c.one = true := by
  cases hv with
  | ip cs' rs b o hb ho hr hcell =>
    simp only [ptrCells, Option.some.injEq] at hc; subst hc
    exact ⟨b, o, rs, rfl, hr, hcell, ho⟩
  | ptr id i f rb base e n hm =>
    simp only [ptrCells] at hc
    cases hid : h id with
    | none => simp [hid] at hc
    | some ob =>
      cases ob with
      | map es => simp [hid] at hc
      | iter l p => simp [hid] at hc
      | loop => simp [hid] at hc
      | row e' xs =>
        simp only [hid] at hc
        cases hx : xs[i]? with
        | none => simp [hx] at hc
        | some x =>
          simp only [hx] at hc
          split at hc
          · rename_i hf
            simp only [Option.some.injEq] at hc; subst hc
            have ho := r.obj id _ hid
            have hxm : x ∈ xs := List.mem_of_getElem? hx
            have hok := ho.1 x hxm
            rcases ho.2 with ⟨h1, h2⟩ | ⟨rb', base', n', rcs, T, fz, rs, hr⟩
            · subst h1; simp at hx
            · have hme := hr.mu; rw [hm] at hme; cases hme
              refine ⟨rb, base + i * e + f, ((rs.drop (i * e + f)).take (e - f)), rfl, ?_, ?_, ?_⟩
              · have h3 := ((hr.vrs.drop (i * e + f)).take (e - f))
                rw [flat_cells (fun y hy => ho.1 y hy) hx f (e - f) (by omega)] at h3
                rwa [List.take_of_length_le (by simp [hok.1])] at h3
              · intro j u hu
                rw [List.getElem?_take] at hu
                split at hu
                · rw [List.getElem?_drop] at hu
                  have := hr.cell _ _ hu
                  rw [cell_of _ _ _ _ _ _ hr.blk, ← this]
                  congr 1; omega
                · cases hu
              · intro c hc; exact hok.2 c (List.mem_of_mem_drop hc)
          · cases hc
  | _ => simp [ptrCells] at hc

end

mutual
def ofConst : Value → Option V
  | .bool b => some (.b b)
  | .int k n => some (.i k n)
  | .string s => if s.data.toList.length ≤ 9223372036854775807 then some (.s s.data.toList) else none
  | .pointer none => some .pnil
  | .slice none 0 0 => some .nil
  | .map none => some .mnil
  | .nilFunc => some .nfn
  | .nilIface => some .nifc
  | .agg cs => (ofConstA cs).bind fun vs => if vs.all V.one then some (.ag vs) else none
  | .tuple cs => (ofConstA cs).map .tu
  | _ => none
def ofConstA : Array Value → Option (List V)
  | ⟨l⟩ => ofConsts l
def ofConsts : List Value → Option (List V)
  | [] => some []
  | v :: vs => (ofConst v).bind fun x => (ofConsts vs).bind fun xs => some (x :: xs)
end

section
variable {w : World} {I : Nat → Prop} {μ : Mu}
mutual
theorem ofConst_spec : ∀ (v : Value) {x : V}, ofConst v = some x → VR w I μ x v
  | .bool b, x, h => by simp [ofConst] at h; subst h; exact .b b
  | .int k n, x, h => by simp [ofConst] at h; subst h; exact .i k n
  | .string s, x, h => by
    simp only [ofConst] at h
    split at h
    · rename_i hl; simp only [Option.some.injEq] at h; subst h; exact .s s.data.toList hl
    · cases h
  | .pointer none, x, h => by simp [ofConst] at h; subst h; exact .pnil
  | .pointer (some _), x, h => by simp [ofConst] at h
  | .slice none 0 0, x, h => by simp [ofConst] at h; subst h; exact .nil
  | .slice none (_+1) _, x, h => by simp [ofConst] at h
  | .slice none 0 (_+1), x, h => by simp [ofConst] at h
  | .slice (some _) _ _, x, h => by simp [ofConst] at h
  | .map none, x, h => by simp [ofConst] at h; subst h; exact .mnil
  | .map (some _), x, h => by simp [ofConst] at h
  | .nilFunc, x, h => by simp [ofConst] at h; subst h; exact .nfn
  | .nilIface, x, h => by simp [ofConst] at h; subst h; exact .nifc
  | .agg ⟨l⟩, x, h => by
    simp only [ofConst, Option.bind_eq_some_iff] at h
    obtain ⟨vs, h1, h2⟩ := h
    split at h2
    · rename_i ha
      simp only [Option.some.injEq] at h2; subst h2
      simp only [ofConstA] at h1
      exact .ag _ _ (ofConsts_spec l h1) (by simpa using ha)
    · cases h2
  | .tuple ⟨l⟩, x, h => by
    simp only [ofConst, Option.map_eq_some_iff] at h
    obtain ⟨vs, h1, rfl⟩ := h
    simp only [ofConstA] at h1
    exact .tu _ _ (ofConsts_spec l h1)
  | .float _ _, x, h => by simp [ofConst] at h
  | .complex _ _ _, x, h => by simp [ofConst] at h
  | .chan _, x, h => by simp [ofConst] at h
  | .func _ _ _, x, h => by simp [ofConst] at h
  | .iface _ _, x, h => by simp [ofConst] at h
theorem ofConsts_spec : ∀ (l : List Value) {vs : List V}, ofConsts l = some vs → VRs w I μ vs l
  | [], vs, h => by simp [ofConsts] at h; subst h; exact .nil
  | v :: l, vs, h => by
    simp only [ofConsts, Option.bind_eq_some_iff] at h
    obtain ⟨x, h1, xs, h2, h3⟩ := h
    simp only [Option.some.injEq] at h3; subst h3
    exact .cons _ _ _ _ (ofConst_spec v h1) (ofConsts_spec l h2)
end
end

/-! types: what the operations ask of them, in one word a type -/
inductive Knd where
  | bool
  | int (k : IntKind)
  | str
  | ptr (e : TypeId)
  | sl (e : TypeId) (es bytes : Nat)
  | arr (n : Nat) (e : TypeId) (es : Nat)
  | map (k e : TypeId)
  | st
  | fn
  | ifc
  | other
structure TI where
  k : Knd
  size : Nat
  zero : Option V
  fl : List (Nat × TypeId × Nat)

def kn (P : Program) : TypeDesc → Knd
  | .bool => .bool
  | .int k => .int k
  | .string => .str
  | .pointer e => .ptr e
  | .slice e => match P.info? e with | some i => (match i.zero with | some z => if z.cells.size = i.size ∧ 0 < i.size then .sl e i.size i.bytes else .other | none => .other) | none => .other
  | .array n e => match P.info? e with | some i => .arr n e i.size | none => .other
  | .map k e => .map k e
  | .struct _ => .st
  | .func .. => .fn
  | .interface _ => .ifc
  | _ => .other

def flOf (P : Program) : TypeDesc → Option (List (Nat × TypeId × Nat))
  | .struct fs => fs.toList.mapM fun f => (P.info? f.type).map fun i => (f.offset, f.type, i.size)
  | _ => some []

def ti (P : Program) (t : TypeId) : Option TI :=
  match P.info? t, P.underlying t with
  | some i, some d => (flOf P d).map fun fl => { k := kn P d, size := i.size, zero := i.zero.bind ofConst, fl := fl }
  | _, _ => none

theorem ti_spec {P : Program} {t : TypeId} {x : TI} (h : ti P t = some x) : ∃ i d, P.info? t = some i ∧ P.underlying t = some d ∧ x.k = kn P d ∧ x.size = i.size ∧
    x.zero = i.zero.bind ofConst ∧ flOf P d = some x.fl := by
  unfold ti at h
  split at h
  · rename_i i d h1 h2
    simp only [Option.map_eq_some_iff] at h
    obtain ⟨fl, h3, rfl⟩ := h
    exact ⟨i, d, h1, h2, rfl, rfl, rfl, h3⟩
  · cases h

theorem kn_st {P : Program} {d : TypeDesc} (h : kn P d = .st) : ∃ fs, d = .struct fs := by
  cases d <;> simp [kn] at h <;> first | exact ⟨_, rfl⟩ | ((repeat' split at h) <;> cases h)
theorem kn_arr {P : Program} {d : TypeDesc} {n e es : Nat} (h : kn P d = .arr n e es) : d = .array n e ∧ ∃ i, P.info? e = some i ∧ i.size = es := by
  cases d <;> simp [kn] at h <;> ((repeat' split at h) <;> try (simp at h; done))
  simp at h
  rename_i i hi
  obtain ⟨rfl, rfl, rfl⟩ := h
  exact ⟨rfl, i, hi, rfl⟩
theorem kn_sl0 {P : Program} {d : TypeDesc} {e es bs : Nat} (h : kn P d = .sl e es bs) : d = .slice e ∧ ∃ i, P.info? e = some i ∧ i.size = es ∧ i.bytes = bs ∧ ∃ z, i.zero = some z ∧ z.cells.size = es ∧ 0 < es := by
  cases d <;> simp [kn] at h <;> (split at h <;> try (simp at h; done))
  rename_i i hi
  split at h
  · rename_i z hz
    split at h
    · rename_i hc
      simp at h
      obtain ⟨rfl, rfl, rfl⟩ := h
      exact ⟨rfl, i, hi, rfl, rfl, z, hz, hc.1, hc.2⟩
    · cases h
  · cases h
theorem kn_sl {P : Program} {d : TypeDesc} {e es bs : Nat} (h : kn P d = .sl e es bs) : d = .slice e ∧ ∃ i, P.info? e = some i ∧ i.size = es ∧ i.bytes = bs := by
  obtain ⟨h1, i, h2, h3, h4, _⟩ := kn_sl0 h
  exact ⟨h1, i, h2, h3, h4⟩

/-- How a type is loaded: 'some none': one cell; 'some (some n)': n cells, a struct or an array. -/
def TI.ld (x : TI) : Option (Option Nat) :=
  match x.k with
  | .st | .arr .. => some (some x.size)
  | .other => none
  | _ => if x.size = 1 then some none else none
def tld (P : Program) (t : TypeId) : Option (Option Nat) := (ti P t).bind TI.ld

def loadFrom (k : Option (Option Nat)) (cs : List V) : Option V :=
  match k with
  | some none => cs[0]?
  | some (some n) => if n ≤ cs.length then some (.ag (cs.take n)) else none
  | none => none

theorem run_ti {P : Program} {t : TypeId} {i : TypeInfo} (h : P.info? t = some i) (w : World) : (typeInfo t).run P w = .ok i w := by
  simp [typeInfo, program, Sem.run, h]
theorem run_sz {P : Program} {t : TypeId} {i : TypeInfo} (h : P.info? t = some i) (w : World) : (sizeOf t).run P w = .ok i.size w := by
  simp [sizeOf, run_ti h]

theorem tld_agg {P : Program} {t : TypeId} {n : Nat} (h : tld P t = some (some n)) : (∀ w, (isAgg t).run P w = .ok true w) ∧ ∃ i, P.info? t = some i ∧ i.size = n := by
  unfold tld at h
  simp only [Option.bind_eq_some_iff] at h
  obtain ⟨x, h1, h2⟩ := h
  obtain ⟨i, d, hi, hd, hk, hs, _⟩ := ti_spec h1
  unfold TI.ld at h2
  cases hx : x.k <;> simp only [hx] at h2 <;> first
    | (cases h2; done)
    | (split at h2 <;> cases h2; done)
    | skip
  · simp only [Option.some.injEq] at h2; subst h2
    obtain ⟨rfl, _⟩ := kn_arr (hk.symm.trans hx)
    exact ⟨fun w => by simp [isAgg, run_underlying hd], i, hi, hs.symm⟩
  · simp only [Option.some.injEq] at h2; subst h2
    obtain ⟨fs, rfl⟩ := kn_st (hk.symm.trans hx)
    exact ⟨fun w => by simp [isAgg, run_underlying hd], i, hi, hs.symm⟩

theorem tld_one {P : Program} {t : TypeId} (h : tld P t = some none) : (∀ w, (isAgg t).run P w = .ok false w) ∧ ∃ i, P.info? t = some i ∧ i.size = 1 := by
  unfold tld at h
  simp only [Option.bind_eq_some_iff] at h
  obtain ⟨x, h1, h2⟩ := h
  obtain ⟨i, d, hi, hd, hk, hs, _⟩ := ti_spec h1
  unfold TI.ld at h2
  have h3 : x.size = 1 := by
    cases hx : x.k <;> simp only [hx] at h2 <;> first
      | (cases h2; done)
      | (split at h2 <;> first | assumption | cases h2)
  refine ⟨fun w => ?_, i, hi, by omega⟩
  simp only [isAgg, Sem.run_bind, run_underlying hd, Result.andThen_ok]
  cases d <;> first
    | rfl
    | (exfalso; simp only [kn] at hk; rw [hk] at h2; simp at h2; done)
    | (exfalso; simp only [kn] at hk; (repeat' split at hk) <;> (rw [hk] at h2; simp at h2))

theorem run_loadCellsFrom' {P : Program} {w : World} (b o : Nat) (n : Nat) : ∀ (i : Nat) (acc : Array Value) (rs : List Value), rs.length = n → (∀ j u, rs[j]? = some u → w.cell? ⟨b, o + i + j, none⟩ = some u) →
    (loadCellsFrom ⟨b, o, none⟩ i n acc).run P w = .ok (acc ++ rs.toArray) w := by
  induction n with
  | zero => intro i acc rs hl _; simp at hl; subst hl; simp [loadCellsFrom]
  | succ n ih =>
    intro i acc rs hl hc
    cases rs with
    | nil => simp at hl
    | cons u rs =>
      have h0 := hc 0 u rfl
      have hl' : rs.length = n := by simpa using hl
      have hih := ih (i + 1) (acc.push u) rs hl' (fun j v hv => by
        have := hc (j + 1) v (by simpa using hv)
        rw [← this]; congr 2; omega)
      simp only [loadCellsFrom, Sem.run_bind, load, Sem.run, add_lit]
      simp only [Nat.add_zero] at h0
      rw [h0]
      simp only [Result.andThen_ok, Sem.run_pure]
      rw [hih]; simp

theorem run_loadVar {P : Program} {w : World} {I : Nat → Prop} {μ : Mu} {t : TypeId} {cs : List V} {v : V} (hl : loadFrom (tld P t) cs = some v) {b o : Nat} {rs : List Value}
    (hr : VRs w I μ cs rs) (hc : ∀ j u, rs[j]? = some u → w.cell? ⟨b, o + j, none⟩ = some u) (h1 : ∀ c ∈ cs, c.one = true) :
    ∃ rv, (loadVar t ⟨b, o, none⟩).run P w = .ok rv w ∧ VR w I μ v rv := by
  cases hk : tld P t with
  | none => simp [hk, loadFrom] at hl
  | some k =>
    cases k with
    | none =>
      simp only [hk, loadFrom] at hl
      obtain ⟨ha, i, hi, hs⟩ := tld_one hk
      obtain ⟨rv, h2, h3⟩ := hr.get hl
      refine ⟨rv, ?_, h3⟩
      have := hc 0 rv h2
      simp only [Nat.add_zero] at this
      simp [loadVar, ha, load, Sem.run, this]
    | some n =>
      simp only [hk, loadFrom] at hl
      split at hl
      · rename_i hn
        simp only [Option.some.injEq] at hl; subst hl
        obtain ⟨ha, i, hi, hs⟩ := tld_agg hk
        refine ⟨.agg ⟨rs.take n⟩, ?_, .ag _ _ (hr.take n) (fun c hc => h1 c (List.mem_of_mem_take hc))⟩
        have hlen := hr.length
        have := run_loadCellsFrom' (P := P) (w := w) b o n 0 #[] (rs.take n) (by simp; omega) (fun j u hu => by
          rw [List.getElem?_take] at hu
          split at hu
          · exact hc j u hu
          · cases hu)
        simp only [loadVar, Sem.run_bind, ha, Result.andThen_ok, if_true, loadCells, run_sz hi, Sem.run_pure, hs]
        rw [this]; simp
      · cases hl

/-! stores -/

def setFrom {α : Type} (l : List α) (o : Nat) : List α → List α
  | [] => l
  | v :: vs => setFrom (l.set o v) (o + 1) vs

theorem setFrom_length {α : Type} (vs : List α) : ∀ (l : List α) (o : Nat), (setFrom l o vs).length = l.length := by
  induction vs with
  | nil => intro l o; rfl
  | cons v vs ih => intro l o; simp [setFrom, ih]

theorem setFrom_get {α : Type} (vs : List α) : ∀ (l : List α) (o : Nat) (j : Nat), o + vs.length ≤ l.length →
    (setFrom l o vs)[j]? = if o ≤ j ∧ j < o + vs.length then vs[j - o]? else l[j]? := by
  induction vs with
  | nil => intro l o j _; simp [setFrom]; intro h1 h2; omega
  | cons v vs ih =>
    intro l o j hl
    simp only [setFrom]
    rw [ih _ _ _ (by simp at hl ⊢; omega)]
    simp only [List.length_cons] at hl ⊢
    by_cases h1 : o + 1 ≤ j ∧ j < o + 1 + vs.length
    · rw [if_pos h1, if_pos (by omega)]
      have : j - o = (j - (o + 1)) + 1 := by omega
      rw [this, List.getElem?_cons_succ]
    · rw [if_neg h1]
      by_cases h2 : j = o
      · subst h2
        have h3 : j < l.length := by omega
        simp [h3]
      · rw [if_neg (by omega), List.getElem?_set_ne (by omega)]

theorem VRs.setFrom {w : World} {I : Nat → Prop} {μ : Mu} {ds : List V} : ∀ {rds : List Value} {vs : List V} {rvs : List Value} (o : Nat), VRs w I μ vs rvs → VRs w I μ ds rds →
    VRs w I μ (X.setFrom vs o ds) (X.setFrom rvs o rds) := by
  induction ds with
  | nil => intro rds vs rvs o h hd; cases hd; exact h
  | cons d ds ih => intro rds vs rvs o h hd; cases hd with | cons _ rd _ rds h1 h2 => exact ih (o + 1) (h.set o h1) h2

def World.put (w : World) (rb : Nat) (cs : Array Value) (T : TypeId) (fz : Nat × Nat) : World := { w with heap := w.heap.setIfInBounds rb (.cells cs T fz) }

theorem run_storeCells' {P : Program} (b o : Nat) (T : TypeId) (fz : Nat × Nat) : ∀ (vs : List Value) (i : Nat) (cur : List Value) (w : World), w.heap[b]? = some (.cells ⟨cur⟩ T fz) →
    o + i + vs.length ≤ cur.length → (∀ j, o + i ≤ j → j < o + i + vs.length → ¬ (fz.1 ≤ j ∧ j < fz.2)) → (∀ v ∈ vs, v.oneCell' = true) →
    (storeCells ⟨b, o, none⟩ vs i).run P w = .ok () (World.put w b ⟨setFrom cur (o + i) vs⟩ T fz)
  | [], i, cur, w, hb, _, _, _ => by
    have hlt : b < w.heap.size := (Array.getElem?_eq_some_iff.1 hb).1
    have hv : w.heap[b] = .cells ⟨cur⟩ T fz := (Array.getElem?_eq_some_iff.1 hb).2
    have : w.heap.setIfInBounds b (.cells ⟨cur⟩ T fz) = w.heap := by
      apply Array.ext
      · simp
      · intro k h1 h2
        rw [Array.getElem_setIfInBounds]
        split
        · rename_i he; subst he; exact hv.symm
        · rfl
    simp [storeCells, setFrom, World.put, this]
  | v :: vs, i, cur, w, hb, hl, hf, h1 => by
    have hlt : b < w.heap.size := (Array.getElem?_eq_some_iff.1 hb).1
    have hcell : w.cell? ⟨b, o + i, none⟩ = some (cur[o + i]'(by simp at hl; omega)) := by
      rw [cell_of _ _ _ _ _ _ hb]
      simp
    have hfz : w.frozen? ⟨b, o + i, none⟩ = false := by
      have := hf (o + i) (by omega) (by simp)
      simp only [World.frozen?, hb]
      simp; intro h; have := hf (o + i) (by omega) (by simp); omega
    have hset : w.setCell ⟨b, o + i, none⟩ v = World.put w b ⟨cur.set (o + i) v⟩ T fz := by
      unfold World.setCell World.put
      congr 1
      apply Array.ext
      · simp
      · intro k h2 h3
        rw [Array.getElem_modify, Array.getElem_setIfInBounds]
        split
        · rename_i he; subst he
          have hv : w.heap[b] = .cells ⟨cur⟩ T fz := (Array.getElem?_eq_some_iff.1 hb).2
          rw [hv]; simp
        · rfl
    have hst : (store ((⟨b, o, none⟩ : Addr).add i) v).run P w = .ok () (World.put w b ⟨cur.set (o + i) v⟩ T fz) := by
      rw [add_lit, run_store P w _ v _ (h1 v (by simp))]
      simp [hcell, hfz, hset]
    have hb' : (World.put w b ⟨cur.set (o + i) v⟩ T fz).heap[b]? = some (.cells ⟨cur.set (o + i) v⟩ T fz) := by
      simp [World.put, Array.getElem?_setIfInBounds, hlt]
    have ih := run_storeCells' (P := P) b o T fz vs (i + 1) (cur.set (o + i) v) _ hb' (by simp at hl ⊢; omega) (fun j a c => hf j (by omega) (by simp at c ⊢; omega)) (fun u hu => h1 u (by simp [hu]))
    simp only [storeCells, Sem.run_bind, hst, Result.andThen_ok]
    rw [ih]
    simp [World.put, setFrom, Nat.add_assoc]

end Go.X
end

section
set_option linter.unusedVariables false
set_option linter.unusedSimpArgs false
namespace Go.X

/-- The element 'x' behind a store of 'v' at its cell 'f'. -/
def stE (x : V) (f : Nat) (v : V) : Option V :=
  match x, v with
  | .ag cs, .ag ds => if f = 0 ∧ ds.length = cs.length then some (.ag ds) else if f + ds.length ≤ cs.length then some (.ag (setFrom cs f ds)) else none
  | .ag cs, v => if f < cs.length then some (.ag (cs.set f v)) else none
  | _, .ag _ => none
  | _, v => if f = 0 then some v else none

theorem setFrom_all {α : Type} (ds cs : List α) (h : ds.length = cs.length) : setFrom cs 0 ds = ds := by
  apply List.ext_getElem?
  intro j
  rw [setFrom_get _ _ _ _ (by omega)]
  split
  · simp
  · rename_i hj; rw [List.getElem?_eq_none (by omega), List.getElem?_eq_none (by omega)]

theorem setFrom_mem {α : Type} (vs : List α) : ∀ (l : List α) (o : Nat) (x : α), x ∈ setFrom l o vs → x ∈ l ∨ x ∈ vs := by
  induction vs with
  | nil => intro l o x h; exact .inl h
  | cons v vs ih =>
    intro l o x h
    rcases ih _ _ _ h with h | h
    · rcases List.mem_or_eq_of_mem_set h with h | h
      · exact .inl h
      · exact .inr (by simp [h])
    · exact .inr (by simp [h])

theorem stE_cells {x v x' : V} {f e : Nat} (h : stE x f v = some x') (hx : x.okE e) (hv : ∀ c ∈ v.cells, c.one = true) :
    x'.cells = setFrom x.cells f v.cells ∧ f + v.cells.length ≤ e ∧ x'.okE e := by
  have key : x'.cells = setFrom x.cells f v.cells ∧ f + v.cells.length ≤ x.cells.length := by
    cases x <;> cases v <;> simp only [stE] at h <;> first
      | (cases h; done)
      | (split at h
         · rename_i hf
           simp only [Option.some.injEq] at h; subst h
           first
             | (subst hf; exact ⟨rfl, by simp [V.cells]⟩)
             | (exact ⟨rfl, by simp only [V.cells, List.length_singleton]; omega⟩)
             | (obtain ⟨rfl, h2⟩ := hf; exact ⟨(setFrom_all _ _ h2).symm, by simp only [V.cells]; omega⟩)
         · first
             | (cases h; done)
             | (split at h
                · simp only [Option.some.injEq] at h; subst h; exact ⟨rfl, by assumption⟩
                · cases h))
  refine ⟨key.1, by rw [hx.1] at key; exact key.2, ?_, fun c hc => ?_⟩
  · rw [key.1, setFrom_length]; exact hx.1
  · rw [key.1] at hc
    rcases setFrom_mem _ _ _ _ hc with h | h
    · exact hx.2 c h
    · exact hv c h

theorem flat_set {xs : List V} {e i f : Nat} {x x' : V} {ds : List V} (hu : ∀ x ∈ xs, x.okE e) (hx : xs[i]? = some x) (h' : x'.okE e) (hc : x'.cells = setFrom x.cells f ds) (hf : f + ds.length ≤ e) :
    flat (xs.set i x') = setFrom (flat xs) (i * e + f) ds := by
  have hu' : ∀ y ∈ xs.set i x', y.okE e := fun y hy => by
    rcases List.mem_or_eq_of_mem_set hy with h | h
    · exact hu y h
    · rw [h]; exact h'
  have hi : i < xs.length := (List.getElem?_eq_some_iff.1 hx).1
  have hlen : i * e + f + ds.length ≤ (flat xs).length := by
    rw [flat_length hu]
    have : (i + 1) * e ≤ xs.length * e := Nat.mul_le_mul_right _ hi
    rw [Nat.add_mul] at this; omega
  apply List.ext_getElem?
  intro j
  rw [setFrom_get _ _ _ _ hlen]
  by_cases hj : j < xs.length * e
  · have he : 0 < e := by rcases Nat.eq_zero_or_pos e with h | h; · subst h; simp at hj
                          · exact h
    have hd : j = (j / e) * e + j % e := by rw [Nat.mul_comm]; exact (Nat.div_add_mod j e).symm
    have hq : j / e < xs.length := (Nat.div_lt_iff_lt_mul he).2 hj
    have hr : j % e < e := Nat.mod_lt _ he
    generalize hqq : j / e = q at *
    generalize hrr : j % e = r0 at *
    subst hd
    by_cases hqi : q = i
    · subst hqi
      have h1 : (xs.set q x')[q]? = some x' := by rw [List.getElem?_set_self hi]
      rw [flat_get hu' h1 hr, hc, setFrom_get _ _ _ _ (by rw [(hu x (List.mem_of_getElem? hx)).1]; exact hf)]
      by_cases hin : f ≤ r0 ∧ r0 < f + ds.length
      · rw [if_pos hin, if_pos (by omega)]; congr 1; omega
      · rw [if_neg hin, if_neg (by omega), flat_get hu hx hr]
    · obtain ⟨y, hy⟩ : ∃ y, xs[q]? = some y := ⟨_, List.getElem?_eq_getElem hq⟩
      have h1 : (xs.set i x')[q]? = some y := by rw [List.getElem?_set_ne (by omega)]; exact hy
      rw [flat_get hu' h1 hr, ← flat_get hu hy hr, if_neg]
      intro hin
      rcases Nat.lt_or_gt_of_ne hqi with hlt | hgt
      · have : (q + 1) * e ≤ i * e := Nat.mul_le_mul_right _ hlt
        rw [Nat.add_mul] at this; omega
      · have : (i + 1) * e ≤ q * e := Nat.mul_le_mul_right _ hgt
        rw [Nat.add_mul] at this; omega
  · rw [List.getElem?_eq_none (by rw [flat_length hu']; simp; omega)]
    rw [if_neg]
    · rw [List.getElem?_eq_none (by rw [flat_length hu]; omega)]
    · intro hin; rw [flat_length hu] at hlen; omega

theorem put_heap (w : World) (rb : Nat) (cs : Array Value) (T : TypeId) (fz : Nat × Nat) (h : rb < w.heap.size) : (World.put w rb cs T fz).heap[rb]? = some (.cells cs T fz) := by
  simp [World.put, Array.getElem?_setIfInBounds, h]
theorem put_other (w : World) (rb : Nat) (cs : Array Value) (T : TypeId) (fz : Nat × Nat) {b : Nat} (h : b ≠ rb) : (World.put w rb cs T fz).heap[b]? = w.heap[b]? := by
  simp [World.put, Array.getElem?_setIfInBounds]
  intro h1; exact absurd h1.symm h
theorem put_size (w : World) (rb : Nat) (cs : Array Value) (T : TypeId) (fz : Nat × Nat) : (World.put w rb cs T fz).heap.size = w.heap.size := by simp [World.put]

section
variable {G : Gl} {μ : Mu} {I : Nat → Prop} {h : H} {w : World}

/-- A write into the block of one live id. -/
theorem R.write (r : R G μ I h w) {id e : Nat} {xs ys : List V} {rb base n : Nat} {rcs rcs' : Array Value} {T : TypeId} {fz : Nat × Nat} {rs rs' : List Value}
    (hid : h id = some (.row e xs)) (hr : RowR w I μ id e xs rb base n rcs T fz rs) (hok : ∀ y ∈ ys, y.okE e) (hfit : base + ys.length * e ≤ n) (hsz : rcs'.size = n)
    (hvr : VRs w I μ (flat ys) rs') (hcell : ∀ (j : Nat) (v : Value), rs'[j]? = some v → rcs'[base + j]? = some v) :
    Ext μ I w μ I (World.put w rb rcs' T fz) ∧ R G μ I (h.set id (.row e ys)) (World.put w rb rcs' T fz) := by
  have hlt : rb < w.heap.size := (Array.getElem?_eq_some_iff.1 hr.blk).1
  have hnI : ¬ I rb := r.notI id _ rb (by rw [hid]; simp) hr.mu rfl
  have hx : Ext μ I w μ I (World.put w rb rcs' T fz) :=
    ⟨fun _ _ e => e, fun _ e => e, fun b hb => put_other _ _ _ _ _ (fun e => hnI (e ▸ hb)), by rw [put_size]; exact Nat.le_refl _, rfl, rfl, rfl⟩
  refine ⟨hx, r.step hx _ (fun j => j = id) ?_ ?_ ?_ ?_ ?_ ?_ ?_ r.bound⟩
  · intro j o e hd; simpa [H.set, hd] using e
  · intro j o e hd
    subst hd
    simp [H.set] at e; subst e
    exact ⟨hok, .inr ⟨rb, base, n, rcs', T, fz, rs', hr.mu, put_heap _ _ _ _ _ hlt, hsz, hfit, hr.free, VRs.ext hx hvr, hcell, hr.ty⟩⟩
  · intro j o t b e hd m tb
    apply put_other
    intro hb; subst hb
    refine hd (r.inj j id t _ b ?_ (by rw [hid]; simp) m hr.mu tb rfl)
    have : h j = some o := by simpa [H.set, hd] using e
    rw [this]; simp
  · intro j j' t t' b a a' hd m m' tb tb'
    subst hd
    by_cases hj : j' = j
    · exact hj.symm
    · exact r.inj j j' t t' b (by rw [hid]; simp) (by simpa [H.set, hj] using a') m m' tb tb'
  · intro b hb; rw [put_size]; exact r.imm b hb
  · intro j t b m tb; rw [put_size]; exact r.mub j t b m tb
  · intro j t b a m tb
    by_cases hj : j = id
    · subst hj; exact r.notI j t b (by rw [hid]; simp) m tb
    · exact r.notI j t b (by simpa [H.set, hj] using a) m tb

/-- A store at a variable or an element. -/
theorem R.store {P : Program} (r : R G μ I h w) {id i f e : Nat} {xs : List V} {x x' v : V} {rp rv : Value} {t : TypeId}
    (hid : h id = some (.row e xs)) (hx : xs[i]? = some x) (hst : stE x f v = some x') (hp : VR w I μ (.ptr id i f) rp) (hv : VR w I μ v rv)
    (h1 : ∀ c ∈ v.cells, c.one = true) (ht : ∃ ti, P.info? t = some ti ∧ ti.size = v.cells.length) :
    ∃ w' a, rp = .pointer (some a) ∧ (storeVar t a rv).run P w = .ok () w' ∧ Ext μ I w μ I w' ∧ R G μ I (h.set id (.row e (xs.set i x'))) w' := by
  obtain ⟨ti, hti, hts⟩ := ht
  cases hp with
  | ptr _ _ _ rb base e' n hm =>
    have ho := r.obj id _ hid
    rcases ho.2 with ⟨h2, h3⟩ | ⟨rb', base', n', rcs, T, fz, rs, hr⟩
    · rw [hm] at h3; cases h3
    · have hme := hr.mu; rw [hm] at hme; cases hme
      have hxm := List.mem_of_getElem? hx
      obtain ⟨hc, hf, hok'⟩ := stE_cells hst (ho.1 x hxm) h1
      have hnt : ∀ vs, v ≠ .tu vs := by rintro vs rfl; have := h1 (.tu vs) (by simp [V.cells]); simp [V.one] at this
      have hvc := hv.cells hnt
      have hlen := hvc.length
      have hrl := hr.vrs.length
      rw [flat_length ho.1] at hrl
      have hi : i < xs.length := (List.getElem?_eq_some_iff.1 hx).1
      have hie : (i + 1) * e ≤ xs.length * e := Nat.mul_le_mul_right _ hi
      rw [Nat.add_mul] at hie
      have hfit := hr.fit
      have hsz := hr.size
      have hblk := hr.blk
      obtain ⟨cur⟩ := rcs
      simp only [List.size_toArray] at hsz
      have hone : ∀ u ∈ rv.cells.toList, u.oneCell' = true := by
        intro u hu
        obtain ⟨j, hj⟩ := List.getElem?_of_mem hu
        have hjl : j < v.cells.length := by rw [← hlen]; exact (List.getElem?_eq_some_iff.1 hj).1
        obtain ⟨ru, h5, h6⟩ := hvc.get (List.getElem?_eq_getElem hjl)
        rw [hj] at h5; cases h5
        exact (h6.one (h1 _ (List.getElem_mem hjl))).1
      have hrun := run_storeCells' (P := P) rb (base + i * e + f) T fz rv.cells.toList 0 cur w hblk (by omega) (fun j a b => hr.free j (by omega) (by omega)) hone
      have hw := r.write (rcs' := ⟨setFrom cur (base + i * e + f) rv.cells.toList⟩) (rs' := setFrom rs (i * e + f) rv.cells.toList) (ys := xs.set i x') hid hr
        (fun y hy => by rcases List.mem_or_eq_of_mem_set hy with h | h; · exact ho.1 y h
                        · rw [h]; exact hok')
        (by simpa using hfit) (by simp [setFrom_length, hsz])
        (by rw [flat_set ho.1 hx hok' hc hf]; exact VRs.setFrom _ hr.vrs hvc)
        (by
          intro j u hu
          rw [setFrom_get _ _ _ _ (by omega)] at hu
          simp only [List.getElem?_toArray]
          rw [setFrom_get _ _ _ _ (by omega)]
          by_cases hin : i * e + f ≤ j ∧ j < i * e + f + rv.cells.toList.length
          · rw [if_pos hin] at hu; rw [if_pos (by omega), ← hu]; congr 1; omega
          · rw [if_neg hin] at hu; rw [if_neg (by omega)]
            have := hr.cell j u hu; simpa using this)
      refine ⟨_, _, rfl, ?_, hw.1, hw.2⟩
      have hsize : rv.cells.size = v.cells.length := by rw [← hlen]; simp
      simp only [storeVar, Sem.run_bind, run_sz hti, Result.andThen_ok, hts, hsize, ne_eq, not_true_eq_false, if_false]
      simpa using hrun

/-- A new row. -/
theorem R.newRow (r : R G μ I h w) {id : Nat} (hid : μ id = none) {e : Nat} {xs : List V} (hok : ∀ x ∈ xs, x.okE e) {rs : List Value} (hvr : VRs w I μ (flat xs) rs)
    (rcs : Array Value) (hcell : ∀ (j : Nat) (v : Value), rs[j]? = some v → rcs[j]? = some v) (T : TypeId) (hty : tyOf id = 0 ∨ tyOf id = T) (fz : Nat × Nat) (hfz : ∀ j, j < rcs.size → ¬ (fz.1 ≤ j ∧ j < fz.2))
    (w' : World) (hh : w'.heap = w.heap.push (.cells rcs T fz)) (hos : w'.os = w.os) (htape : w'.tape = w.tape) (hout : w'.output = w.output) :
    Ext μ I w (μ.set id (.blk w.heap.size 0 e rcs.size)) I w' ∧ R G (μ.set id (.blk w.heap.size 0 e rcs.size)) I (h.set id (.row e xs)) w' := by
  refine r.new hid w' _ _ (fun b hb => ?_) (by rw [hh]; simp) hos htape hout (.inl rfl) (fun hx => ?_)
  · rw [hh, Array.getElem?_push, if_neg (by omega)]
  · refine ⟨hok, .inr ⟨w.heap.size, 0, rcs.size, rcs, T, fz, rs, Mu.set_same _ _ _, ?_, rfl, ?_, fun j _ hj => hfz j hj, VRs.ext hx hvr, ?_, ?_⟩⟩
    · rw [hh]; simp
    · have := hvr.length
      rw [flat_length hok] at this
      rcases Nat.eq_zero_or_pos rs.length with h0 | h0
      · omega
      · have h1 := hcell (rs.length - 1) (rs[rs.length - 1]'(by omega)) (List.getElem?_eq_getElem (by omega))
        have := (Array.getElem?_eq_some_iff.1 h1).1
        omega
    · intro j v hj; simpa using hcell j v hj
    · exact hty.imp (fun h => h) (fun h => ⟨h, rfl⟩)

/-- An empty row that has no block (a nil slice). -/
theorem R.newVirt (r : R G μ I h w) {id : Nat} (hid : μ id = none) (e : Nat) :
    Ext μ I w (μ.set id .virt) I w ∧ R G (μ.set id .virt) I (h.set id (.row e [])) w := by
  have hx : Ext μ I w (μ.set id .virt) I w := by
    refine ⟨fun j t' e => ?_, fun _ h => h, fun _ _ => rfl, Nat.le_refl _, rfl, rfl, rfl⟩
    rw [Mu.set_ne]; exact e
    intro hj; subst hj; rw [hid] at e; cases e
  refine ⟨hx, r.step hx _ (fun j => j = id) ?_ ?_ ?_ ?_ r.imm ?_ ?_ ?_⟩
  · intro j o' e hd; simpa [H.set, hd] using e
  · intro j o' e hd
    subst hd
    simp [H.set] at e; subst e; exact ⟨by simp, .inl ⟨rfl, Mu.set_same _ _ _⟩⟩
  · intros; rfl
  · intro j j' t1 t2 rb a b hd m1 m2 b1 b2
    subst hd; rw [Mu.set_same] at m1; cases m1; cases b1
  · intro j t1 rb m b
    by_cases hj : j = id
    · subst hj; rw [Mu.set_same] at m; cases m; cases b
    · rw [Mu.set_ne _ _ hj] at m; exact r.mub j t1 rb m b
  · intro j t1 rb a m b
    by_cases hj : j = id
    · subst hj; rw [Mu.set_same] at m; cases m; cases b
    · rw [Mu.set_ne _ _ hj] at m
      exact r.notI j t1 rb (by simpa [H.set, hj] using a) m b
  · obtain ⟨N, hN⟩ := r.bound
    refine ⟨max N (id + 1), fun j hj => ?_⟩
    rw [Mu.set_ne _ _ (by omega)]; exact hN j (by omega)

end
end Go.X
end

section
set_option linter.unusedVariables false
set_option linter.unusedSimpArgs false
namespace Go.X

def rho (G : Gl) (a : Tm) : Operand → Option V
  | .tmp t => a t
  | .const v => ofConst v
  | .global g => (G g).map .ip
  | .func f => some (.fn (.func f) [] [])

theorem rho_spec {G : Gl} {μ : Mu} {I : Nat → Prop} {h : H} {w : World} (r : R G μ I h w) {a : Tm} {act : Act} (ht : TR w I μ a act.tmps) {x : Operand} {v : V} (hx : rho G a x = some v) :
    VR w I μ v (act.eval x) := by
  cases x with
  | tmp t => exact (ht t v hx).2
  | const c => exact ofConst_spec c hx
  | global g =>
    simp only [rho, Option.map_eq_some_iff] at hx
    obtain ⟨cs, h1, rfl⟩ := hx
    exact r.glob g cs h1
  | func f => simp only [rho, Option.some.injEq] at hx; subst hx; exact .fn _ _ _ _ _ .nil .nil

/-! binary operations -/
def bitsOf (op : BinOp) (k : IntKind) (x y : Int) : Int :=
  let a := BitVec.ofInt k.bits x
  let b := BitVec.ofInt k.bits y
  k.wrap (match op with
    | .and => (a &&& b).toNat
    | .or => (a ||| b).toNat
    | .xor => (a ^^^ b).toNat
    | _ => (a &&& ~~~b).toNat)

def intBin (op : BinOp) (k : IntKind) (x y : Int) : Option V :=
  match op with
  | .add => some (.i k (k.wrap (x + y)))
  | .sub => some (.i k (k.wrap (x - y)))
  | .mul => some (.i k (k.wrap (x * y)))
  | .quo => if y = 0 then none else some (.i k (k.wrap (x.tdiv y)))
  | .rem => if y = 0 then none else some (.i k (x.tmod y))
  | .and | .or | .xor | .andNot => some (.i k (bitsOf op k x y))
  | .eql => some (.b (decide (x = y)))
  | .neq => some (.b (!decide (x = y)))
  | .lss => some (.b (decide (x < y)))
  | .leq => some (.b (decide (x ≤ y)))
  | .gtr => some (.b (decide (y < x)))
  | .geq => some (.b (decide (y ≤ x)))
  | _ => none

def strBin (op : BinOp) (a b : List UInt8) : Option V :=
  match op with
  | .add => if a.length + b.length ≤ 9223372036854775807 then some (.s (a ++ b)) else none
  | .eql => some (.b (decide (a = b)))
  | .neq => some (.b (!decide (a = b)))
  | .lss => some (.b (Op.bytesLess a b))
  | .leq => some (.b (Op.bytesLess a b || decide (a = b)))
  | .gtr => some (.b (!(Op.bytesLess a b || decide (a = b))))
  | .geq => some (.b (!Op.bytesLess a b))
  | _ => none

/-- Is this value nil, where that can be told at once? -/
def V.isNil : V → Option Bool
  | .pnil | .nil | .mnil | .nfn | .nifc => some true
  | .ptr .. | .ip _ | .mp _ | .fn .. | .ifc .. => some false
  | _ => none

def shiftBin (op : BinOp) (k : IntKind) (x y : Int) : Option V :=
  if y < 0 then none else
  match op with
  | .shl => some (.i k (k.wrap (x * 2 ^ min y.toNat k.bits)))
  | .shr => some (.i k (x.fdiv (2 ^ min y.toNat k.bits)))
  | _ => none

def isShift : BinOp → Bool
  | .shl | .shr => true
  | _ => false

def bin (op : BinOp) (u v : V) : Option V :=
  match u, v with
  | .i k x, .i k' y => if isShift op then shiftBin op k x y else if k = k' then intBin op k x y else none
  | .s a, .s b => strBin op a b
  | .b x, .b y => match op with
    | .eql => some (.b (x == y))
    | .neq => some (.b (!(x == y)))
    | _ => none
  | _, _ => none

theorem ByteArray_toList_eq (b : ByteArray) : b.toList = b.data.toList := by
  have hsz : b.data.toList.length = b.size := by simp
  have loop : ∀ (n i : Nat) (r : List UInt8), b.size - i = n → ByteArray.toList.loop b i r = r.reverse ++ b.data.toList.drop i := by
    intro n
    induction n with
    | zero =>
      intro i r hn
      rw [ByteArray.toList.loop]
      have : ¬ i < b.size := by omega
      rw [if_neg this, List.drop_eq_nil_of_le (by omega), List.append_nil]
    | succ n ih =>
      intro i r hn
      rw [ByteArray.toList.loop]
      have hi : i < b.size := by omega
      rw [if_pos hi, ih (i + 1) _ (by omega)]
      have hi' : i < b.data.toList.length := by omega
      rw [List.drop_eq_getElem_cons hi', List.reverse_cons, List.append_assoc]
      congr 1
      have hi2 : i < b.data.size := by simpa using hi
      have : b.get! i = b.data.toList[i] := by
        show b.data[i]! = _
        rw [getElem!_pos b.data i hi2]; simp
      rw [this]; rfl
  have := loop b.size 0 [] (by omega)
  unfold ByteArray.toList
  rw [this]; simp

theorem run_strBin {P : Program} {op : BinOp} {a b : List UInt8} {v : V} (h : strBin op a b = some v) (w : World) :
    ∃ rv, (Op.stringOp op ⟨⟨a⟩⟩ ⟨⟨b⟩⟩).run P w = .ok rv w ∧ ∀ w I μ, VR w I μ v rv := by
  have h1 : ∀ l : List UInt8, (⟨⟨l⟩⟩ : ByteArray).toList = l := fun l => by rw [ByteArray_toList_eq]
  have hs : ∀ l : List UInt8, (⟨⟨l⟩⟩ : ByteArray).size = l.length := fun l => rfl
  have hd : (a == b) = decide (a = b) := by rw [Bool.eq_iff_iff]; simp
  cases op <;> simp only [strBin] at h <;> first | (cases h; done) | skip
  · split at h
    · rename_i hl
      simp only [Option.some.injEq] at h; subst h
      refine ⟨.string ⟨⟨a ++ b⟩⟩, ?_, fun w I μ => .s _ (by simpa using hl)⟩
      have : ¬ (((a.length + b.length : Nat) : Int) > IntKind.i64.max) := by
        have : IntKind.i64.max = 9223372036854775807 := by decide
        omega
      simp only [Op.stringOp, hs, if_neg this, Sem.run_pure]
      congr 2
    · cases h
  all_goals
    simp only [Option.some.injEq] at h; subst h
    exact ⟨_, by simp only [Op.stringOp, h1, hd, Sem.run_pure], fun w I μ => .b _⟩

theorem run_intBin {P : Program} {op : BinOp} {k : IntKind} {x y : Int} {v : V} (hs : isShift op = false) (h : intBin op k x y = some v) (t : TypeId) (w : World) :
    ∃ rv, (Go.binOp op t (.int k x) (.int k y)).run P w = .ok rv w ∧ ∀ w I μ, VR w I μ v rv := by
  cases op <;> simp only [intBin] at h <;> first | (simp [isShift] at hs; done) | (cases h; done) | skip
  case quo | rem =>
    split at h
    · cases h
    · rename_i hy
      simp only [Option.some.injEq] at h; subst h
      exact ⟨_, by simp only [Go.binOp, Op.intDiv, hy, if_false, ne_eq, not_true_eq_false]; rfl, fun w I μ => .i _ _⟩
  case eql => simp only [Option.some.injEq] at h; subst h; exact ⟨.bool (x == y), by simp [Go.binOp, Op.intCmp], fun w I μ => by rw [show (x == y) = decide (x = y) from rfl]; exact .b _⟩
  case neq => simp only [Option.some.injEq] at h; subst h; exact ⟨.bool (x != y), by simp [Go.binOp, Op.intCmp], fun w I μ => by rw [show (x != y) = !decide (x = y) from rfl]; exact .b _⟩
  case and | or | xor | andNot =>
    simp only [Option.some.injEq] at h; subst h
    refine ⟨.int k (bitsOf _ k x y), ?_, fun w I μ => .i _ _⟩
    simp only [Go.binOp, ne_eq, not_true_eq_false, if_false]; rfl
  case add | sub | mul =>
    simp only [Option.some.injEq] at h; subst h
    exact ⟨_, by simp only [Go.binOp, Op.intArith, ne_eq, not_true_eq_false, if_false, Sem.run_pure], fun w I μ => .i _ _⟩
  all_goals
    simp only [Option.some.injEq] at h; subst h
    exact ⟨_, by simp only [Go.binOp, Op.intCmp, ne_eq, not_true_eq_false, if_false, Sem.run_pure], fun w I μ => .b _⟩

theorem run_shiftBin {P : Program} {op : BinOp} {k k' : IntKind} {x y : Int} {v : V} (hs : isShift op = true) (h : shiftBin op k x y = some v) (t : TypeId) (w : World) :
    ∃ rv, (Go.binOp op t (.int k x) (.int k' y)).run P w = .ok rv w ∧ ∀ w I μ, VR w I μ v rv := by
  unfold shiftBin at h
  split at h
  · cases h
  · rename_i hy
    cases op <;> simp [isShift] at hs <;> simp only [Option.some.injEq] at h <;> subst h
    · exact ⟨_, by simp [Go.binOp, Op.shift, hy], fun w I μ => .i _ _⟩
    · exact ⟨_, by simp [Go.binOp, Op.shift, hy], fun w I μ => .i _ _⟩

theorem run_bin {P : Program} {w : World} {I : Nat → Prop} {μ : Mu} {op : BinOp} {u v x : V} {ru rv : Value} (t : TypeId) (hu : VR w I μ u ru) (hv : VR w I μ v rv) (h : bin op u v = some x) (hbool : ∃ d, P.underlying t = some d ∧ (∀ b, u = .b b → d = .bool)) :
    ∃ rx, (Go.binOp op t ru rv).run P w = .ok rx w ∧ VR w I μ x rx := by
  cases hu <;> cases hv <;> simp only [bin] at h <;> first | (cases h; done) | skip
  case b.b x y =>
    obtain ⟨d, hd, hb⟩ := hbool
    have := hb x rfl; subst this
    cases op <;> simp only at h <;> first | (cases h; done) | skip
    · simp only [Option.some.injEq] at h; subst h
      exact ⟨.bool (x == y), run_eql_bool (h := hd) .., .b _⟩
    · simp only [Option.some.injEq] at h; subst h
      exact ⟨.bool (!(x == y)), run_neq_bool (h := hd) .., .b _⟩
  case i.i k x k' y =>
    split at h
    · rename_i hs
      obtain ⟨rx, h1, h2⟩ := run_shiftBin (P := P) (k' := k') hs h t w
      exact ⟨rx, h1, h2 _ _ _⟩
    · rename_i hs
      split at h
      · rename_i hk; subst hk
        obtain ⟨rx, h1, h2⟩ := run_intBin (P := P) (by simpa using hs) h t w
        exact ⟨rx, h1, h2 _ _ _⟩
      · cases h
  case s.s a b =>
    obtain ⟨rx, h1, h2⟩ := run_strBin (P := P) h w
    refine ⟨rx, ?_, h2 _ _ _⟩
    cases op <;> exact h1

end Go.X
end

section
set_option linter.unusedVariables false
set_option linter.unusedSimpArgs false
namespace Go.X

section
variable {P : Program} {G : Gl} {μ : Mu} {I : Nat → Prop} {h : H} {w : World}

/-! parts of aggregates -/
theorem run_part {t : TypeId} {cs : List V} {rs : List Value} {off : Nat} {v : V} (hl : loadFrom (tld P t) (cs.drop off) = some v) (hr : VRs w I μ cs rs) (h1 : ∀ c ∈ cs, c.one = true) :
    ∃ rv, (part t ⟨rs⟩ off).run P w = .ok rv w ∧ VR w I μ v rv := by
  cases hk : tld P t with
  | none => simp [hk, loadFrom] at hl
  | some k =>
    cases k with
    | none =>
      simp only [hk, loadFrom, List.getElem?_drop, Nat.add_zero] at hl
      obtain ⟨ha, i, hi, hs⟩ := tld_one hk
      obtain ⟨rv, h2, h3⟩ := hr.get hl
      refine ⟨rv, ?_, h3⟩
      simp [part, ha, h2]
    | some n =>
      simp only [hk, loadFrom] at hl
      split at hl
      · rename_i hn
        simp only [Option.some.injEq] at hl; subst hl
        obtain ⟨ha, i, hi, hs⟩ := tld_agg hk
        refine ⟨.agg ⟨(rs.drop off).take n⟩, ?_, .ag _ _ ((hr.drop off).take n) (fun c hc => h1 c (List.mem_of_mem_drop (List.mem_of_mem_take hc)))⟩
        simp only [part, Sem.run_bind, ha, Result.andThen_ok, if_true, run_sz hi, Sem.run_pure, hs]
        congr 3
        simp [List.extract_eq_take_drop]
      · cases hl

def fieldV (P : Program) (t : TypeId) (f : Nat) (v : V) : Option V :=
  (ti P t).bind fun x => (x.fl[f]?).bind fun p => match v with
    | .ag cs => loadFrom (tld P p.2.1) (cs.drop p.1)
    | _ => none

theorem mapM_some_get {α β : Type} (g : α → Option β) : ∀ (l : List α) (r : List β), l.mapM g = some r → ∀ (f : Nat) (y : β), r[f]? = some y → ∃ x, l[f]? = some x ∧ g x = some y := by
  intro l
  induction l with
  | nil => intro r h f y hy; simp at h; subst h; simp at hy
  | cons a l ih =>
    intro r h f y hy
    simp only [List.mapM_cons, Option.bind_eq_bind, Option.bind_eq_some_iff, Option.pure_def, Option.some.injEq] at h
    obtain ⟨b, hb, bs, hbs, rfl⟩ := h
    cases f with
    | zero => simp at hy; subst hy; exact ⟨a, rfl, hb⟩
    | succ f => simp at hy; simpa using ih bs hbs f y hy

theorem fl_get {t : TypeId} {x : TI} (h : ti P t = some x) {f : Nat} {p : Nat × TypeId × Nat} (hp : x.fl[f]? = some p) :
    ∃ fs fd i, P.underlying t = some (.struct fs) ∧ fs[f]? = some fd ∧ fd.offset = p.1 ∧ fd.type = p.2.1 ∧ P.info? p.2.1 = some i ∧ i.size = p.2.2 := by
  obtain ⟨i, d, hi, hd, hk, _, _, hf⟩ := ti_spec h
  clear hk
  cases d <;> simp only [flOf, Option.some.injEq] at hf <;> first
    | (rw [← hf] at hp; simp at hp; done)
    | skip
  rename_i fs
  obtain ⟨fd, h1, h2⟩ := mapM_some_get _ _ _ hf f p hp
  simp only [Option.map_eq_some_iff] at h2
  obtain ⟨i2, h3, rfl⟩ := h2
  exact ⟨fs, fd, i2, hd, by simpa using h1, rfl, rfl, h3, rfl⟩

theorem run_fieldV {t : TypeId} {f : Nat} {v r : V} {rv : Value} (hf : fieldV P t f v = some r) (hv : VR w I μ v rv) :
    ∃ rr, (Instr.field t rv f).run P w = .ok rr w ∧ VR w I μ r rr := by
  simp only [fieldV, Option.bind_eq_some_iff] at hf
  obtain ⟨x, hx, p, hp, hl⟩ := hf
  obtain ⟨fs, fd, i, h1, h2, h3, h4, h5, h6⟩ := fl_get hx hp
  cases hv <;> simp only at hl <;> first | (cases hl; done) | skip
  rename_i cs rs hr ho
  rw [← h3, ← h4] at hl
  obtain ⟨rr, h7, h8⟩ := run_part hl hr ho
  exact ⟨rr, by simp only [Instr.field, Sem.run_bind, run_underlying h1, Result.andThen_ok, h2, asAgg, Sem.run_pure]; exact h7, h8⟩

def fieldAddrV (P : Program) (t : TypeId) (f : Nat) (v : V) : Option V :=
  (ti P t).bind fun x => (x.fl[f]?).bind fun p => if p.2.2 = 0 then none else match v with
    | .ptr id i g => some (.ptr id i (g + p.1))
    | .ip cs => some (.ip (cs.drop p.1))
    | _ => none

theorem ip_drop {cs : List V} {rv : Value} (hv : VR w I μ (.ip cs) rv) (n : Nat) : ∃ b o, rv = .pointer (some ⟨b, o, none⟩) ∧ VR w I μ (.ip (cs.drop n)) (.pointer (some ⟨b, o + n, none⟩)) := by
  cases hv with
  | ip cs rs b o hb ho hr hc =>
    refine ⟨b, o, rfl, .ip _ (rs.drop n) b (o + n) hb (fun c hc' => ho c (List.mem_of_mem_drop hc')) (hr.drop n) (fun j v e => ?_)⟩
    rw [List.getElem?_drop] at e
    have := hc _ _ e
    rw [← this]; congr 2; omega

theorem run_fieldAddrV {t : TypeId} {f : Nat} {v r : V} {rv : Value} (hf : fieldAddrV P t f v = some r) (hv : VR w I μ v rv) :
    ∃ rr, (Instr.fieldAt t rv f).run P w = .ok rr w ∧ VR w I μ r rr := by
  simp only [fieldAddrV, Option.bind_eq_some_iff] at hf
  obtain ⟨x, hx, p, hp, hl⟩ := hf
  obtain ⟨fs, fd, i, h1, h2, h3, h4, h5, h6⟩ := fl_get hx hp
  rw [← h4] at h5
  split at hl
  · cases hl
  · rename_i hz
    have run : ∀ b o, (Instr.fieldAt t (.pointer (some ⟨b, o, none⟩)) f).run P w = .ok (.pointer (some ⟨b, o + p.1, none⟩)) w := by
      intro b o
      simp only [Instr.fieldAt, Sem.run_bind, run_underlying h1, Result.andThen_ok, h2, Instr.sureAddr, Sem.run_pure, fieldPlace, run_sz h5, h6, hz, if_false, h3, add_lit]
    cases v <;> simp only at hl <;> first | (cases hl; done) | skip
    · rename_i id i g
      simp only [Option.some.injEq] at hl; subst hl
      cases hv with
      | ptr _ _ _ rb base e n hm =>
        refine ⟨_, run _ _, ?_⟩
        have := VR.ptr (w := w) (I := I) id i (g + p.1) rb base e n hm
        rw [← Nat.add_assoc] at this; exact this
    · simp only [Option.some.injEq] at hl; subst hl
      obtain ⟨b, o, rfl, h7⟩ := ip_drop hv p.1
      exact ⟨_, run _ _, h7⟩

def asI : V → Option Int
  | .i _ n => some n
  | _ => none

def indexAddrV (P : Program) (h : H) (t : TypeId) (v ix : V) : Option V :=
  (ti P t).bind fun x => (asI ix).bind fun j => match x.k with
    | .arr n _ es => if 0 ≤ j ∧ j < n then (match v with
      | .ptr id i f => (match h id with
        | some (.row e _) => if e = es ∧ f = 0 then some (.ptr id (i + j.toNat) 0) else some (.ptr id i (f + j.toNat * es))
        | _ => some (.ptr id i (f + j.toNat * es)))
      | .ip cs => some (.ip (cs.drop (j.toNat * es)))
      | _ => none) else none
    | .sl _ es _ => (match v with
      | .sl id off len => if 0 ≤ j ∧ j < len then (match h id with
        | some (.row e _) => if e = es then some (.ptr id (off + j.toNat) 0) else none
        | _ => none) else none
      | .im e xs => if 0 ≤ j then (if e = es then (xs[j.toNat]?).map fun y => .ip y.cells else none) else none
      | _ => none)
    | _ => none

theorem run_indexAddrV (r : R G μ I h w) {t : TypeId} {v ix y : V} {rv rix : Value} (hf : indexAddrV P h t v ix = some y) (hv : VR w I μ v rv) (hi : VR w I μ ix rix) :
    ∃ rr, (Instr.indexAt t rv rix).run P w = .ok rr w ∧ VR w I μ y rr := by
  simp only [indexAddrV, Option.bind_eq_some_iff] at hf
  obtain ⟨x, hx, j, hj, hl⟩ := hf
  obtain ⟨ifo, d, hinfo, hd, hk, _⟩ := ti_spec hx
  cases ix <;> simp only [asI] at hj <;> first | (cases hj; done) | skip
  simp only [Option.some.injEq] at hj; subst hj
  cases hi
  rename_i k j
  cases hxk : x.k <;> simp only [hxk] at hl <;> first | (cases hl; done) | skip
  case arr n e es =>
    obtain ⟨rfl, ei, he, hes⟩ := kn_arr (hk.symm.trans hxk)
    split at hl
    · rename_i hb
      have run : ∀ b o, (Instr.indexAt t (.pointer (some ⟨b, o, none⟩)) (.int k j)).run P w = .ok (.pointer (some ⟨b, o + j.toNat * es, none⟩)) w := by
        intro b o
        simp only [Instr.indexAt, Sem.run_bind, asIntOf, Sem.run_pure, Result.andThen_ok, run_underlying hd, Instr.sureAddr, Bool.and_true]
        simp only [hb, if_true, and_self, Sem.run_bind, run_sz he, Result.andThen_ok, Sem.run_pure, add_lit, hes]
      cases v <;> simp only at hl <;> first | (cases hl; done) | skip
      · rename_i id i f
        cases hv with
        | ptr _ _ _ rb base e n hm =>
          refine ⟨_, run _ _, ?_⟩
          have old : VR w I μ (.ptr id i (f + j.toNat * es)) (.pointer (some ⟨rb, base + i * e + f + j.toNat * es, none⟩)) := by
            have := VR.ptr (w := w) (I := I) id i (f + j.toNat * es) rb base e n hm
            rw [← Nat.add_assoc] at this; exact this
          cases hid : h id with
          | none => simp only [hid, Option.some.injEq] at hl; subst hl; exact old
          | some o =>
            cases o <;> simp only [hid, Option.some.injEq] at hl <;> try (subst hl; exact old)
            rename_i e2 xs
            split at hl
            · rename_i hc
              obtain ⟨rfl, rfl⟩ := hc
              simp only [Option.some.injEq] at hl; subst hl
              rcases (r.obj id _ hid).2 with ⟨_, h3⟩ | ⟨rb', base', n', rcs, T, fz, rs, hr⟩
              · rw [hm] at h3; cases h3
              · have hme := hr.mu; rw [hm] at hme; cases hme
                have := VR.ptr (w := w) (I := I) id (i + j.toNat) 0 rb base _ n hm
                rw [Nat.add_mul] at this
                simpa [Nat.add_assoc] using this
            · simp only [Option.some.injEq] at hl; subst hl; exact old
      · simp only [Option.some.injEq] at hl; subst hl
        obtain ⟨b, o, rfl, h7⟩ := ip_drop hv (j.toNat * es)
        exact ⟨_, run _ _, h7⟩
    · cases hl
  case sl e es bs =>
    obtain ⟨rfl, ei, he, hes, _⟩ := kn_sl (hk.symm.trans hxk)
    have run : ∀ b o len cap, 0 ≤ j → j < (len : Nat) → (Instr.indexAt t (.slice (some ⟨b, o, none⟩) len cap) (.int k j)).run P w = .ok (.pointer (some ⟨b, o + j.toNat * es, none⟩)) w := by
      intro b o len cap h0 h1
      simp only [Instr.indexAt, Sem.run_bind, asIntOf, Sem.run_pure, Result.andThen_ok, run_underlying hd]
      simp only [h0, h1, if_true, and_self, Sem.run_bind, run_sz he, Result.andThen_ok, Sem.run_pure, add_lit, hes]
    cases v <;> simp only at hl <;> first | (cases hl; done) | skip
    case sl id off len =>
      split at hl
      · rename_i hb
        cases hid : h id with
        | none => simp [hid] at hl
        | some o =>
          cases o <;> simp only [hid] at hl <;> first | (cases hl; done) | skip
          rename_i e' xs
          split at hl
          · rename_i hes'
            simp only [Option.some.injEq] at hl; subst hl
            cases hv with
            | slz => omega
            | sl _ _ _ rb base e2 n cap hm h1 h2 =>
              refine ⟨_, run _ _ _ _ hb.1 hb.2, ?_⟩
              have ho := r.obj id _ hid
              rcases ho.2 with ⟨_, h3⟩ | ⟨rb', base', n', rcs, T, fz, rs, hr⟩
              · rw [hm] at h3; cases h3
              · have hme := hr.mu; rw [hm] at hme; cases hme
                have := VR.ptr (w := w) (I := I) id (off + j.toNat) 0 rb base e' n hm
                rw [Nat.add_zero, Nat.add_mul, ← Nat.add_assoc, hes'] at this
                rw [← hes'] at this ⊢; exact this
          · cases hl
      · cases hl
    case im e' xs =>
      split at hl
      · rename_i h0
        split at hl
        · rename_i hes'
          simp only [Option.map_eq_some_iff] at hl
          obtain ⟨z, hz, rfl⟩ := hl
          cases hv with
          | imz => simp at hz
          | im _ _ rs b o cap hb hu hr hc hle =>
            have hlt := (List.getElem?_eq_some_iff.1 hz).1
            refine ⟨_, run _ _ _ _ h0 (by omega), ?_⟩
            have hok := hu z (List.mem_of_getElem? hz)
            have hr2 := (hr.drop (j.toNat * e')).take e'
            have := flat_cells hu hz 0 e' (by omega)
            simp only [Nat.add_zero, List.drop_zero] at this
            rw [this, List.take_of_length_le (by rw [hok.1]; exact Nat.le_refl _)] at hr2
            refine .ip _ _ b _ hb hok.2 hr2 (fun q v hv => ?_)
            rw [List.getElem?_take] at hv
            split at hv
            · rw [List.getElem?_drop] at hv
              have := hc _ _ hv
              rw [← this, hes']; congr 2; omega
            · cases hv
        · cases hl
      · cases hl

def indexV (P : Program) (t : TypeId) (v ix : V) : Option V :=
  (ti P t).bind fun x => (asI ix).bind fun j => match x.k, v with
    | .arr n e es, .ag cs => if 0 ≤ j ∧ j < n then loadFrom (tld P e) (cs.drop (j.toNat * es)) else none
    | .str, .s l => if 0 ≤ j then (l[j.toNat]?).map fun c => .i .u8 c.toNat else none
    | _, _ => none

theorem run_indexV {t : TypeId} {v ix y : V} {rv rix : Value} (hf : indexV P t v ix = some y) (hv : VR w I μ v rv) (hi : VR w I μ ix rix) :
    ∃ rr, (Instr.index t rv rix).run P w = .ok rr w ∧ VR w I μ y rr := by
  simp only [indexV, Option.bind_eq_some_iff] at hf
  obtain ⟨x, hx, j, hj, hl⟩ := hf
  obtain ⟨ifo, d, hinfo, hd, hk, _⟩ := ti_spec hx
  cases ix <;> simp only [asI] at hj <;> first | (cases hj; done) | skip
  simp only [Option.some.injEq] at hj; subst hj
  cases hi
  rename_i k j
  cases hxk : x.k <;> cases v <;> simp only [hxk] at hl <;> first | (cases hl; done) | skip
  case str.s l =>
    have hd' : d = .string := by cases d <;> simp [kn, hxk] at hk <;> first | rfl | ((repeat' split at hk) <;> cases hk)
    subst hd'
    cases hv
    split at hl
    · rename_i h0
      simp only [Option.map_eq_some_iff] at hl
      obtain ⟨c, hc, rfl⟩ := hl
      refine ⟨.int .u8 c.toNat, ?_, .i _ _⟩
      have hs : (⟨⟨l⟩⟩ : ByteArray)[j.toNat]? = some c := by
        have hlt := (List.getElem?_eq_some_iff.1 hc).1
        have hv := (List.getElem?_eq_some_iff.1 hc).2
        rw [getElem?_pos (⟨⟨l⟩⟩ : ByteArray) j.toNat hlt]
        exact congrArg some hv
      simp only [Instr.index, Sem.run_bind, asIntOf, Sem.run_pure, Result.andThen_ok, run_underlying hd, h0, if_true, hs]
    · cases hl
  case arr.ag n e es cs =>
    obtain ⟨rfl, ei, he, hes⟩ := kn_arr (hk.symm.trans hxk)
    split at hl
    · rename_i hb
      cases hv with
      | ag _ rs hr ho =>
        obtain ⟨rr, h1, h2⟩ := run_part hl hr ho
        refine ⟨rr, ?_, h2⟩
        simp only [Instr.index, Sem.run_bind, asIntOf, Sem.run_pure, Result.andThen_ok, run_underlying hd, hb, and_self, if_true, run_sz he, hes]
        exact h1
    · cases hl

end
end Go.X
end
