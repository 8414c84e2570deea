/- The calculus: one operation, a walk over code, rounds of a range over a function, sound. -/
import Derived.Test.YtlhigokiophckaaGreatDoorKitB
import Derived.Conc.MuLone
import Derived.Room.AppendUpon
import Derived.CallsIn
import Derived.Orders
import Derived.RangeFuncRecord
import Derived.Lib.OthersKept
import Derived.RangeFuncLeaves

section
set_option linter.unusedVariables false
set_option linter.unusedSimpArgs false
namespace Go.X

def ob {α : Type} (o : Option α) (f : α → Prop) : Prop := match o with | some x => f x | none => False
theorem ob_some {α : Type} (x : α) (f : α → Prop) : ob (some x) f = f x := rfl
theorem ob_none {α : Type} (f : α → Prop) : ob none f = False := rfl
theorem ob_spec {α : Type} {o : Option α} {f : α → Prop} (h : ob o f) : ∃ x, o = some x ∧ f x := by
  cases o with
  | none => cases h
  | some x => exact ⟨x, rfl, h⟩
theorem ob_mono {α : Type} {o : Option α} {f g : α → Prop} (h : ob o f) (hfg : ∀ x, f x → g x) : ob o g := by
  cases o with
  | none => cases h
  | some x => exact hfg _ h
@[congr] theorem ob_congr {α : Type} {o o' : Option α} {f : α → Prop} (h : o = o') : ob o f = ob o' f := by rw [h]

/-- A new id. -/
def New (h : H) (T : Nat) (K : Nat → Prop) : Prop := ∀ id, h id = none → tyOf id = T → K id
@[congr] theorem New_congr {h h' : H} {T : Nat} {K : Nat → Prop} (e : h = h') : New h T K = New h' T K := by rw [e]

inductive Out where
  | ret (v : V)
  | pan (v : V)

def OutR (w : World) (I : Nat → Prop) (μ : Mu) : Out → Ending → Prop
  | .ret v, .returned rv => VR w I μ v rv
  | .pan v, .panicked chain => ∃ rv, chain = [{ v := rv, recovered := false }] ∧ VR w I μ v rv
  | _, _ => False

/-- A function with a Go body is entered, one without runs at once. -/
def CallsX (P : Program) (f : FuncId) (args : Array Value) (w : World) (R : Ending → World → Prop) : Prop :=
  ((callFunc f args).run P w = .ok (.enter f args) w ∧ Calls P f args w R) ∨ ∃ rv w', (callFunc f args).run P w = .ok (.value rv) w' ∧ R (.returned rv) w'

def CPost (G : Gl) (μ : Mu) (I : Nat → Prop) (w : World) (Q : Out → H → Prop) : Ending → World → Prop := fun e w' =>
  ∃ o h' μ' I', Q o h' ∧ Ext μ I w μ' I' w' ∧ R G μ' I' h' w' ∧ OutR w' I' μ' o e

def XCalls (P : Program) (G : Gl) (f : FuncId) (args : List V) (h : H) (Q : Out → H → Prop) : Prop :=
  ∀ μ I w rargs, R G μ I h w → VRs w I μ args rargs → CallsX P f ⟨rargs⟩ w (CPost G μ I w Q)

@[congr] theorem XCalls_congr {P : Program} {G : Gl} {f f' : FuncId} {args args' : List V} {h h' : H} {Q : Out → H → Prop} (e0 : f = f') (e1 : args = args') (e2 : h = h') :
    XCalls P G f args h Q = XCalls P G f' args' h' Q := by rw [e0, e1, e2]

theorem CPost.mono {G : Gl} {μ : Mu} {I : Nat → Prop} {w : World} {Q Q' : Out → H → Prop} (hq : ∀ o h, Q o h → Q' o h) {e : Ending} {w' : World} (h : CPost G μ I w Q e w') : CPost G μ I w Q' e w' := by
  obtain ⟨o, h', μ', I', a, b⟩ := h
  exact ⟨o, h', μ', I', hq _ _ a, b⟩

theorem CallsX.mono {P : Program} {f : FuncId} {args : Array Value} {w : World} {R R' : Ending → World → Prop} (h : CallsX P f args w R) (hr : ∀ e w', R e w' → R' e w') : CallsX P f args w R' := by
  rcases h with ⟨a, b⟩ | ⟨rv, w', a, b⟩
  · exact .inl ⟨a, Calls.mono b hr⟩
  · exact .inr ⟨rv, w', a, hr _ _ b⟩

theorem XCalls.mono {P : Program} {G : Gl} {f : FuncId} {args : List V} {h : H} {Q Q' : Out → H → Prop} (hx : XCalls P G f args h Q) (hq : ∀ o h, Q o h → Q' o h) : XCalls P G f args h Q' :=
  fun μ I w rargs r hv => (hx μ I w rargs r hv).mono fun e w' he => he.mono hq

/-- What a call hands on. -/
def kret (K E : V → H → Prop) : Out → H → Prop
  | .ret v, h => K v h
  | .pan v, h => E v h

/-- A function that touches no memory, at this input. -/
theorem XCalls.pure {P : Program} {G : Gl} {f : FuncId} {args : List V} {h : H} {v : V} {K E : V → H → Prop} (hx : XCalls P G f args h (fun o h' => o = .ret v ∧ h' = h)) (hk : K v h) : XCalls P G f args h (kret K E) :=
  hx.mono fun o h' e => by obtain ⟨rfl, rfl⟩ := e; exact hk

/-- The bound that a slice's or a string's length has. -/
def V.bd : V → Prop
  | .s l => l.length ≤ 9223372036854775807
  | .sl _ _ n => n ≤ 9223372036854775807
  | .im _ xs => xs.length ≤ 9223372036854775807
  | _ => True

theorem VR.bd {w : World} {I : Nat → Prop} {μ : Mu} {v : V} {rv : Value} (h : VR w I μ v rv) : v.bd := by
  cases h <;> simp only [V.bd] <;> first | trivial | assumption | omega | (simp; done)

/-- A call of the yield function of the loop whose record is 'id'. -/
def YCalls (P : Program) (G : Gl) (id : Nat) (args : List V) (h : H) (Q : Out → H → Prop) : Prop :=
  ∀ μ I w rb rargs, R G μ I h w → μ id = some (.obj rb) → VRs w I μ args rargs → ∃ f tmps assign body, (Instr.yield rb ⟨rargs⟩).run P w = .ok (.round rb f tmps assign body) w ∧
    RoundIn Fence.wide 0 P rb f tmps assign body w (CPost G μ I w Q)
@[congr] theorem YCalls_congr {P : Program} {G : Gl} {id id' : Nat} {args args' : List V} {h h' : H} {Q : Out → H → Prop} (e0 : id = id') (e1 : args = args') (e2 : h = h') :
    YCalls P G id args h Q = YCalls P G id' args' h' Q := by rw [e0, e1, e2]
theorem YCalls.mono {P : Program} {G : Gl} {id : Nat} {args : List V} {h : H} {Q Q' : Out → H → Prop} (hx : YCalls P G id args h Q) (hq : ∀ o h, Q o h → Q' o h) : YCalls P G id args h Q' :=
  fun μ I w rb rargs r hm hv => let ⟨f, t, a, b, h1, h2⟩ := hx μ I w rb rargs r hm hv; ⟨f, t, a, b, h1, h2.mono fun e w' he => he.mono hq⟩

/-! stores, allocations -/
def stW (P : Program) (h : H) (t : TypeId) (p v : V) (K : H → Prop) : Prop :=
  match p with
  | .ptr id i f => ob (h id) fun o => match o with
    | .row e xs => ob (xs[i]?) fun x => ob (stE x f v) fun x' => ob (ti P t) fun y => (y.size = v.cells.length ∧ v.fits = true) ∧ K (h.set id (.row e (xs.set i x')))
    | _ => False
  | _ => False

def zeroOf (P : Program) (t : TypeId) : Option V := (ti P t).bind (·.zero)

def boxW (h : H) (t : TypeId) (v : V) (K : V → H → Prop) : Prop :=
  (v.fits = true ∧ New h t fun id => K (.ptr id 0 0) (h.set id (.row v.cells.length [v]))) ∨
  ∃ e xs, (∀ x ∈ xs, x.okE e) ∧ v = .ag (flat xs) ∧ New h t fun id => K (.ptr id 0 0) (h.set id (.row e xs))

def isU8 (P : Program) (t : TypeId) : Bool := match ti P t with
  | some x => match x.k with
    | .int .u8 => true
    | _ => false
  | none => false
def isStr (P : Program) (t : TypeId) : Bool := match ti P t with
  | some x => match x.k with
    | .str => true
    | _ => false
  | none => false
def slOf (P : Program) (t : TypeId) : Option (TypeId × Nat × Nat) := (ti P t).bind fun x => match x.k with
  | .sl e es bs => some (e, es, bs)
  | _ => none

theorem isStr_spec {P : Program} {t : TypeId} (h : isStr P t = true) : P.underlying t = some .string := by
  unfold isStr at h
  split at h
  · rename_i x hx
    obtain ⟨_, d, _, hd, hk, -⟩ := ti_spec hx
    split at h
    · rename_i hxk
      have ks := (@kn_simple P d).2.2.1
      rw [← hk, hxk] at ks
      rw [ks rfl] at hd; exact hd
    · cases h
  · cases h
theorem isU8_spec {P : Program} {t : TypeId} (h : isU8 P t = true) : P.underlying t = some (.int .u8) := by
  unfold isU8 at h
  split at h
  · rename_i x hx
    obtain ⟨_, d, _, hd, hk, -⟩ := ti_spec hx
    split at h
    · rename_i hxk
      have ks := (@kn_simple P d).2.1
      rw [← hk, hxk] at ks
      rw [ks _ rfl] at hd; exact hd
    · cases h
  · cases h
theorem slOf_spec {P : Program} {t : TypeId} {r : TypeId × Nat × Nat} (h : slOf P t = some r) : (∃ x, ti P t = some x ∧ x.k = .sl r.1 r.2.1 r.2.2) ∧ P.underlying t = some (.slice r.1) := by
  simp only [slOf, Option.bind_eq_some_iff] at h
  obtain ⟨x, hx, h⟩ := h
  split at h
  · rename_i e es bs hk
    simp only [Option.some.injEq] at h; subst h
    obtain ⟨_, d, _, hd, hkd, -⟩ := ti_spec hx
    obtain ⟨rfl, _⟩ := kn_sl (hkd.symm.trans hk)
    exact ⟨⟨x, hx, hk⟩, hd⟩
  · cases h

def srcTyB (P : Program) (u : TypeId) : Bool := isStr P u || (slOf P u).isSome
theorem srcTyB_spec {P : Program} {u : TypeId} (h : srcTyB P u = true) : srcTy P u := by
  simp only [srcTyB, Bool.or_eq_true] at h
  rcases h with h | h
  · exact .inl (isStr_spec h)
  · obtain ⟨r, hr⟩ := Option.isSome_iff_exists.1 h
    exact .inr ⟨_, (slOf_spec hr).2⟩

/-- A pointer seen as an unsafe one, and back: 'T' the type of its block. -/
def upB (P : Program) (src dst : TypeId) (T i f e : Nat) : Bool := match P.underlying src, P.underlying dst with
  | some (.pointer t), some .unsafePointer => (match P.info? t with
    | some j => j.size != 0
    | none => false)
  | some .unsafePointer, some (.pointer u) => T != 0 && i == 0 && (P.info? u).isSome && Nat.blt 0 (P.cellsOf T) && Nat.ble (P.cellsOf T) e && liesAt P P.depth T 1 f u 1
  | _, _ => false

def convW (P : Program) (h : H) (src dst : TypeId) (v : V) (K : V → H → Prop) : Prop :=
  match v with
  | .ptr id i f => ob (h id) fun o => match o with
    | .row e xs => (i < xs.length ∧ f < e ∧ upB P src dst (tyOf id) i f e = true) ∧ K (.ptr id i f) h
    | _ => False
  | .s l => if isStr P dst then ob (convV P src dst (.s l)) fun r => K r h else
      ob (slOf P dst) fun r => (isStr P src = true ∧ isU8 P r.1 = true) ∧ New h r.1 fun id => K (.sl id 0 l.length) (h.set id (.row 1 (l.map fun c => .i .u8 c.toNat)))
  | .i k n => ob (convV P src dst (.i k n)) fun r => K r h
  | v => ob (slOf P src) fun r => (isStr P dst = true ∧ isU8 P r.1 = true) ∧ ob (srcV h 1 v) fun ys => ob (bytesOfVs ys) fun l => K (.s l) h

def intOf : V → Option (IntKind × Int)
  | .i k n => some (k, n)
  | _ => none

def builtinW (P : Program) (ρ : Operand → Option V) (h : H) (b : Builtin) (args : List Operand) (tys : List TypeId) (K : V → H → Prop) : Prop :=
  match b, args, tys with
  | .append, [s, x], [t, u] => ob (slOf P t) fun r => ob (ρ s) fun v => ob (ρ x) fun y => ob (dstV h r.2.1 v) fun d => ob (srcV h r.2.1 y) fun ys =>
      (noShare v y = true ∧ srcTyB P u = true ∧ r.2.2 ≠ 0 ∧ (d.1.length + ys.length) * r.2.2 ≤ 140737488355328) ∧ New h (apTy r.1 v) fun id => K (.sl id 0 (d.1.length + ys.length)) (d.2.set id (.row r.2.1 (d.1 ++ ys)))
  | .len, [x], [t] => ob (ρ x) fun v => ob (lenV P t v) fun r => (v.bd → K r h)
  | .min, [x, y], _ => ob (ρ x) fun u => ob (ρ y) fun v => ob (min2V false u v) fun r => K r h
  | .max, [x, y], _ => ob (ρ x) fun u => ob (ρ y) fun v => ob (min2V true u v) fun r => K r h
  | _, _, _ => False

def decV (l : List UInt8) (pos : Nat) : Nat × Nat := Utf8.decode ⟨⟨l⟩⟩ pos
/-- The next character of a string that is ranged over. -/
def nextW (h : H) (v : V) (b : Bool) (K : V → H → Prop) : Prop := match v, b with
  | .it id, true => ob (h id) fun o => match o with
    | .iter l pos => (pos < l.length → K (.tu [.b true, .i .i64 pos, .i .i32 (decV l pos).1]) (h.set id (.iter l (pos + (decV l pos).2)))) ∧ (l.length ≤ pos → K (.tu [.b false]) h)
    | _ => False
  | _, _ => False

/-- One operation. -/
def opw (P : Program) (G : Gl) (ρ : Operand → Option V) (h : H) (K E : V → H → Prop) : Op → Prop
  | .load t a => ob (ρ a) fun p => ob (ptrCells h p) fun cs => ob (loadFrom (tld P t) cs) fun v => K v h
  | .store t a x => ob (ρ a) fun p => ob (ρ x) fun v => stW P h t p v fun h' => K undefV h'
  | .alloc t => ob (zeroOf P t) fun z => boxW h t z K
  | .box t x => ob (ρ x) fun v => boxW h t v K
  | .buildSlice t n ps => ob (slOf P t) fun r => ob (mapP ρ ps.toList) fun l => (l.map (·.1) = List.range n ∧ (∀ p ∈ l, p.2.fits = true ∧ p.2.cells.length = r.2.1) ∧ n * r.2.1 ≤ 16777216) ∧
      New h r.1 fun id => K (.sl id 0 n) (h.set id (.row r.2.1 (l.map (·.2))))
  | .makeSlice t a b => ob (slOf P t) fun r => ob (zeroOf P r.1) fun z => ob (ρ a) fun u => ob (ρ b) fun v => ob (intOf u) fun x => ob (intOf v) fun y =>
      (z.fits = true ∧ x.2 = y.2 ∧ 0 ≤ x.2 ∧ x.2 ≤ 9223372036854775807 ∧ r.2.2 * x.2 ≤ 140737488355328) ∧ New h r.1 fun id => K (.sl id 0 x.2.toNat) (h.set id (.row r.2.1 (List.replicate x.2.toNat z)))
  | .convert src dst x => ob (ρ x) fun v => convW P h src dst v K
  | .panic x => ob (ρ x) fun v => match v with
    | .ifc t u => E (.ifc t u) h
    | _ => False
  | .range t x => ob (ρ x) fun v => match v with
    | .s l => isStr P t = true ∧ New h 0 fun id => K (.it id) (h.set id (.iter l 0))
    | _ => False
  | .next x b => ob (ρ x) fun v => nextW h v b K
  | .call c => match c.callee with
    | .builtin b => builtinW P ρ h b c.args.toList c.argTypes.toList K
    | .value f => ob (ρ f) fun fv => ob (mapO ρ c.args.toList) fun args => match fv with
      | .fn (.func f) first cap => XCalls P G f (first ++ args ++ cap) h (kret K E)
      | .yl id => YCalls P G id args h (kret K E)
      | _ => False
    | .invoke r m => False
  | op => ob (pureOp P h ρ op) fun v => K v h

end Go.X
end

section
set_option linter.unusedVariables false
set_option linter.unusedSimpArgs false
namespace Go.X

/-- Whatever function, whatever depth; of a round, or of none. -/
def FR (ro : Option Nat) : Fence := { Fence.wide with round := ro }

variable {P : Program} {ro : Option Nat}

theorem calls_FR {n : Nat} {f : FuncId} {args : Array Value} {w : World} {R : Ending → World → Prop} : CallsIn (FR ro) n P f args w R ↔ Calls P f args w R := callsIn_wide
theorem fenced_FR (m : Machine) : m.fenced P (FR ro) := fenced_wide P m
theorem steps_FR {m m' : Machine} : StepsIn (Machine.fenced P (FR ro)) P m m' ↔ Steps P m m' := stepsIn_wide
theorem room_FR (n : Nat) : (FR ro).room n := room_wide n
theorem comes_FR {m m' : Machine} {e : Ending} : ComesIn (Machine.fenced P (FR ro)) P m m' e ↔ Comes P m m' e := comesIn_wide

/-- The end of a round. -/
def roundEnd (e : Ending) (c : Frame) (cs : List Frame) (w' : World) : Machine := match e with
  | .returned v => lone (c.finish v) cs w'
  | .panicked chain => lone (c.raise chain) cs w'
  | .outgrown => lone c cs w'

/-- One round. -/
def RoundX (P : Program) (l : Nat) (f : FuncId) (tmps : Array Value) (assign body : Code) (w : World) (R : Ending → World → Prop) : Prop :=
  ∀ (c : Frame) (cs : List Frame), ∃ e w', R e w' ∧ Comes P (lone (Frame.round l f tmps assign body .normal) (c :: cs) w) (roundEnd e c cs w') e

theorem roundX_in {n : Nat} {l : Nat} {f : FuncId} {tmps : Array Value} {assign body : Code} {w : World} {R : Ending → World → Prop} : RoundIn (FR ro) n P l f tmps assign body w R ↔ RoundX P l f tmps assign body w R :=
  ⟨fun h c cs => let ⟨e, w', r, s⟩ := h.2 c cs (room_FR _); ⟨e, w', r, by cases e <;> exact comes_FR.1 s⟩,
   fun h => ⟨trivial, fun c cs _ => let ⟨e, w', r, s⟩ := h c cs; ⟨e, w', r, by cases e <;> exact comes_FR.2 s⟩⟩⟩

/-- A wanted operation, in whatever frame. -/
def opX (ro : Option Nat) (P : Program) (o : Oper) (a : Act) (w : World) (next : Act → World → Prop) (Q : Exit → Act → World → Prop) : Prop :=
  o.uponIn (FR ro) 0 P a next Q ((o.semAt ro a.eval).run P w) ∨ ((∀ c, o.op ≠ .defer c) ∧ o.asks P a w ∧ LetsOut Q)

def wpOpsX (ro : Option Nat) (P : Program) (ops : Array Oper) (Q : Exit → Act → World → Prop) : List Nat → Act → World → Prop
  | [], a, w => Q .normal a w
  | i :: rest, a, w => match ops[i]? with
    | none => wpOpsX ro P ops Q rest a w
    | some o => if Region.wanted o (yielded ops a.tmps) then opX ro P o a w (wpOpsX ro P ops Q rest) Q else wpOpsX ro P ops Q rest (a.put o.dst undef) w

theorem uponIn_of {o : Oper} (hnd : ∀ c, o.op ≠ .defer c) {a : Act} {w : World} {next : Act → World → Prop} {Q : Exit → Act → World → Prop} (h : o.wp P a w next Q) : o.uponIn (FR ro) 0 P a next Q ((o.semAt ro a.eval).run P w) := by
  rw [Oper.semAt_eq ro _ _ hnd]
  unfold Oper.wp at h
  generalize (execOp a.eval o).run P w = r at h
  cases r with
  | ok x w' =>
    cases x <;> simp only [Oper.upon] at h <;> simp only [Oper.uponIn]
    case value => exact h
    case skip => exact h
    case defer => exact h
    case enter f args => exact ⟨fun hc => by simp [FR, Fence.wide] at hc, calls_FR.2 h⟩
    case row rw_ args => exact ⟨fun hc => by simp [FR, Fence.wide] at hc, fun c cs _ => let ⟨v, w'', r, s⟩ := h c cs; ⟨v, w'', r, steps_FR.2 s⟩⟩
  | halt x w' => cases x <;> simp only [Oper.upon] at h <;> simp only [Oper.uponIn] <;> exact h

section
variable {b : Frame} {a : Act} {k : List Item} {cs : List Frame} {w : World} {ops : Array Oper} {i : Nat} {rest : List Nat} {o : Oper} {next : Act → World → Prop} {Q : Exit → Act → World → Prop}

theorem asksR_outgrown (hnd : ∀ c, o.op ≠ .defer c) (ho : ops[i]? = some o) (hw : Region.wanted o (yielded ops a.tmps) = true) (hb : b.kind ≠ .early) (h : o.asks P a w) :
    Outgrown P (lone (b.atR a (.inRegion ops (i :: rest) :: k)) cs w) := by
  obtain ⟨hm, hkept⟩ := h
  have hg := stepGR_op (P := P) (b := b) (k := k) (cs := cs) (w := w) (rest := rest) ho hw
  rw [Oper.semAt_eq _ _ _ hnd] at hg
  have hseen : noRoomEvent ∈ (stepG P true { frame := b.atR a (.inRegion ops (i :: rest) :: k), callers := cs, status := .running, dying := none } w).es := by
    rw [hg]
    have hk : ((b.atR a (.inRegion ops (i :: rest) :: k)).kind == CallKind.early) = false := by simpa [Frame.atR] using hb
    have hm' : noRoomEvent ∈ Sem.events P (execOp a.eval o) w #[] := hm
    simp only [stepG.apply, Sem.runT_eq, if_true, hk, Bool.false_eq_true, if_false]
    rw [GStep.es_after]
    refine Array.mem_append.2 (.inl (seen_keeps P _ _ ?_))
    cases hrun : (execOp a.eval o).run P w with
    | ok x w' => exact hm'
    | halt x w' =>
      rw [hrun] at hkept
      cases x with
      | unsupported u => cases u <;> first | exact hkept.elim | exact hm'
      | blocked => exact hkept.elim
      | waiting => exact hkept.elim
      | _ => exact hm'
  refine Outgrown.now (o := { g := 0, fn := (b.atR a (.inRegion ops (i :: rest) :: k)).fn, pos := (b.atR a (.inRegion ops (i :: rest) :: k)).place, act := .mark .noRoom }) ?_ rfl rfl
  rw [stepT, move_lone]
  refine runT_lists P _ 0 { frame := b.atR a (.inRegion ops (i :: rest) :: k), callers := cs, status := .running, dying := none } (by simp [lone]) _ ?_
  exact mem_ofEvents (e := noRoomEvent) (by simpa [lone] using hseen)

/-- One operation's steps: on to the next, out by a panic, or beyond memory. -/
def OneOp (P : Program) (b : Frame) (a : Act) (k : List Item) (cs : List Frame) (w : World) (ops : Array Oper) (i : Nat) (rest : List Nat) (next : Act → World → Prop) (Q : Exit → Act → World → Prop) : Prop :=
  (∃ a' w', next a' w' ∧ Steps P (lone (b.atR a (.inRegion ops (i :: rest) :: k)) cs w) (lone (b.atR a' (.inRegion ops rest :: k)) cs w')) ∨
    (∃ chain w', Q (.panic chain) a w' ∧ Steps P (lone (b.atR a (.inRegion ops (i :: rest) :: k)) cs w) (lone { b.atR a (.inRegion ops (i :: rest) :: k) with mode := .panicking chain } cs w')) ∨
    (LetsOut Q ∧ Outgrown P (lone (b.atR a (.inRegion ops (i :: rest) :: k)) cs w))

theorem one_op (ho : ops[i]? = some o) (hw : Region.wanted o (yielded ops a.tmps) = true) (hro : b.roundOf = ro) (h : o.uponIn (FR ro) 0 P a next Q ((o.semAt ro a.eval).run P w)) :
    OneOp P b a k cs w ops i rest next Q := by
  have hg := stepGR_op (P := P) (b := b) (k := k) (cs := cs) (w := w) (rest := rest) ho hw
  rw [hro] at hg
  have hfin : ∀ v, (b.atR a (.inRegion ops (i :: rest) :: k)).finish v = b.atR (a.put o.dst v) (.inRegion ops rest :: k) := by
    intro v; rw [Frame.finish_atR, ho]; rfl
  have hra : ∀ chain, (b.atR a (.inRegion ops (i :: rest) :: k)).raise chain = { b.atR a (.inRegion ops (i :: rest) :: k) with mode := .panicking chain } := fun chain => Frame.raise_atR _ _ _ _
  generalize hrun : (o.semAt ro a.eval).run P w = res at h
  -- a call, a round: what it ends in
  have fromCall : ∀ {m₀ : Machine}, step P (lone (b.atR a (.inRegion ops (i :: rest) :: k)) cs w) = .next m₀ → ∀ (e : Ending) (w' : World) (m₁ : Machine), Comes P m₀ m₁ e →
      (∀ v, e = .returned v → Steps P m₁ (lone ((b.atR a (.inRegion ops (i :: rest) :: k)).finish v) cs w')) → (∀ chain, e = .panicked chain → Steps P m₁ (lone ((b.atR a (.inRegion ops (i :: rest) :: k)).raise chain) cs w')) →
      (match e with | .returned v => next (a.put o.dst v) w' | .panicked chain => Q (.panic chain) a w' | .outgrown => LetsOut Q) → OneOp P b a k cs w ops i rest next Q := by
    intro m₀ hs e w' m₁ hc hv hp hq
    cases e with
    | returned v => exact .inl ⟨_, _, hq, .head hs (Steps.trans hc (by rw [← hfin]; exact hv v rfl))⟩
    | panicked chain => exact .inr (.inl ⟨_, _, hq, .head hs (Steps.trans hc (by rw [← hra]; exact hp chain rfl))⟩)
    | outgrown => exact .inr (.inr ⟨hq, Outgrown.of_steps (.one hs) hc⟩)
  cases res with
  | ok x w' =>
    cases x with
    | value v => exact .inl ⟨_, _, h, .one (step_lone_go (by rw [hg, ← hfin]; simp [stepG.apply, hrun]))⟩
    | skip => exact .inl ⟨_, _, h, .one (step_lone_go (by rw [hg, ← hfin]; simp [stepG.apply, hrun]))⟩
    | defer d =>
      refine .inl ⟨_, _, h, .one (step_lone_go ?_)⟩
      have hd := Frame.finish_atR b { a with defers := d :: a.defers } ops i rest k undef
      rw [ho] at hd
      rw [hg]; simp only [stepG.apply, Sem.runT_eq, hrun, GStep.bare_after]
      exact congrArg (fun fr => GStep.go { frame := fr, callers := cs, status := .running, dying := none } w') hd
    | enter f args =>
      obtain ⟨e, w'', fr, hR, hc, -, hl⟩ := (calls_FR.1 h.2) (b.atR a (.inRegion ops (i :: rest) :: k) :: cs)
      refine fromCall (m₀ := lone (Frame.enter P f args .normal) (b.atR a (.inRegion ops (i :: rest) :: k) :: cs) w') (step_lone_go (by rw [hg]; simp [stepG.apply, hrun, Frame.atR])) e w'' _ hc ?_ ?_ (by cases e <;> exact hR)
      · rintro v rfl; exact .one (step_leave_returned hl)
      · rintro chain rfl; exact .one (step_leave_panicked hl)
    | row name args =>
      obtain ⟨v, w'', hR, hs⟩ := h.2 (b.atR a (.inRegion ops (i :: rest) :: k)) cs (room_FR _)
      exact fromCall (m₀ := lone (Frame.ofRow P name args .normal) (b.atR a (.inRegion ops (i :: rest) :: k) :: cs) w') (step_lone_go (by rw [hg]; simp [stepG.apply, hrun, Frame.atR])) (.returned v) w'' _ (steps_FR.1 hs)
        (by intro v hv; cases hv; exact .refl _ _) (by intro _ h; cases h) hR
    | round l f tmps assign body =>
      obtain ⟨e, w'', hR, hc⟩ := (roundX_in.1 h.2) (b.atR a (.inRegion ops (i :: rest) :: k)) cs
      refine fromCall (m₀ := lone (Frame.round l f tmps assign body .normal) (b.atR a (.inRegion ops (i :: rest) :: k) :: cs) w') (step_lone_go (by rw [hg]; simp [stepG.apply, hrun, Frame.atR])) e w'' _ hc ?_ ?_ (by cases e <;> exact hR)
      · intro v hv; cases hv; exact .refl _ _
      · intro v hv; cases hv; exact .refl _ _
    | _ => exact h.elim
  | halt x w' =>
    cases x with
    | panic v => exact .inr (.inl ⟨_, w', h, .one (step_lone_go (by rw [hg, ← hra]; simp [stepG.apply, hrun]))⟩)
    | _ => exact h.elim
end

theorem wp_opsX {ops : Array Oper} {Q : Exit → Act → World → Prop} : ∀ (l : List Nat) (a : Act) (w : World), wpOpsX ro P ops Q l a w → ∀ (b : Frame) (k : List Item) (cs : List Frame), b.roundOf = ro →
    ∃ e a' w', Q e a' w' ∧ ArrivesIn (Machine.fenced P (FR ro)) P (lone (b.atR a (.inRegion ops l :: k)) cs w) b k cs e a' w'
  | [], a, w, h, b, k, cs, _ => ⟨.normal, a, w, h, steps_FR.2 (.one stepR_region_end)⟩
  | i :: rest, a, w, h, b, k, cs, hro => by
    have skip : (∀ v, ops[i]? = some v → Region.wanted v (yielded ops a.tmps) = false) → ∀ a', a' = a.put ((ops[i]?).bind (·.dst)) undef → wpOpsX ro P ops Q rest a' w →
        ∃ e a' w', Q e a' w' ∧ ArrivesIn (Machine.fenced P (FR ro)) P (lone (b.atR a (.inRegion ops (i :: rest) :: k)) cs w) b k cs e a' w' := by
      rintro hs a' rfl h
      obtain ⟨e, a', w', hq, harr⟩ := wp_opsX rest _ w h b k cs hro
      refine ⟨e, a', w', hq, .of_steps (steps_FR.2 (.one (stepR_op_skip ?_))) harr⟩
      cases ho : ops[i]? with
      | none => simp
      | some o => simpa using hs o ho
    cases ho : ops[i]? with
    | none => exact skip (fun v hv => by rw [ho] at hv; cases hv) a (by rw [ho]; rfl) (by simpa only [wpOpsX, ho] using h)
    | some o =>
      simp only [wpOpsX, ho] at h
      cases hw : Region.wanted o (yielded ops a.tmps) with
      | false =>
        rw [if_neg (by rw [hw]; simp)] at h
        exact skip (fun v hv => by rw [ho] at hv; cases hv; exact hw) _ (by rw [ho]; rfl) h
      | true =>
        rw [if_pos hw] at h
        rcases h with h | ⟨hnd, hasks, a₀, w₀, hq⟩
        · rcases one_op (b := b) (k := k) (cs := cs) (rest := rest) ho hw hro h with ⟨a', w', hn, hs⟩ | ⟨chain, w', hq, hs⟩ | ⟨⟨a₀, w₀, hq⟩, hout⟩
          · obtain ⟨e, a'', w'', hq, harr⟩ := wp_opsX rest _ _ hn b k cs hro
            exact ⟨e, a'', w'', hq, .of_steps (steps_FR.2 hs) harr⟩
          · exact ⟨.panic chain, a, w', hq, _, steps_FR.2 hs⟩
          · exact ⟨.outgrown, a₀, w₀, hq, .inr hout⟩
        · refine ⟨.outgrown, a₀, w₀, hq, ?_⟩
          by_cases hk : b.kind = .early
          · exact .inl hk
          · exact .inr (asksR_outgrown hnd ho hw hk hasks)

theorem wpX_region {id : Nat} {ops : Array Oper} {Q : Exit → Act → World → Prop} {a : Act} {w : World} {n : Nat} (h : wpOpsX ro P ops Q (List.range ops.size) a w) : (Code.region id ops false).wpIn (FR ro) n P Q a w :=
  fun b k cs hro _ _ => let ⟨e, a', w', q, r⟩ := wp_opsX _ a w h b k cs hro; ⟨e, a', w', q, .of_steps (steps_FR.2 (.one stepR_region)) r⟩

theorem wpX_region_draw {id : Nat} {ops : Array Oper} {Q : Exit → Act → World → Prop} {a : Act} {w : World} {n : Nat}
    (h : ∀ t, wpOpsX ro P ops Q (Region.schedule (P.follows .mixedOrders) ops t) a { w with drawn := w.drawn + 1 }) : (Code.region id ops true).wpIn (FR ro) n P Q a w :=
  fun b k cs hro _ _ => let ⟨e, a', w', q, r⟩ := wp_opsX _ a _ (h _) b k cs hro; ⟨e, a', w', q, .of_steps (steps_FR.2 (.one stepR_region_draw)) r⟩

/-- What a round's end asks. -/
def roundPostX (P : Program) (l : Nat) (R : Ending → World → Prop) : Exit → Act → World → Prop
  | .normal, _, w => ∃ v w', (Instr.endRound l none).run P w = .ok v w' ∧ R (.returned v) w'
  | .ret, _, w => ∃ v w', (Instr.endRound l (some .ret)).run P w = .ok v w' ∧ R (.returned v) w'
  | .exit id, _, w => ∃ v w', (Instr.endRound l (some (.exit id))).run P w = .ok v w' ∧ R (.returned v) w'
  | .outgrown, _, w => R .outgrown w
  | _, _, _ => False

theorem roundX_of {l : Nat} {f : FuncId} {tmps : Array Value} {assign body : Code} {w : World} {R : Ending → World → Prop} {n : Nat}
    (h : assign.wpIn (FR (some l)) n P (fun e a₁ w₁ => match e with
      | .normal => ∃ w₂, (Instr.beginRound l).run P w₁ = .ok () w₂ ∧ body.wpIn (FR (some l)) n P (roundPostX P l R) a₁ w₂
      | .outgrown => R .outgrown w₁
      | _ => False) { tmps := tmps, defers := [] } w) :
    RoundX P l f tmps assign body w R := by
  intro c cs
  let b : Frame := { (default : Frame) with fn := f, kind := .normal, roundOf := some l }
  have hstart : Frame.round l f tmps assign body .normal = b.atR { tmps := tmps, defers := [] } [.code assign, .beginRound, .code body] := by
    simp [Frame.round, Frame.atR, b]
  rw [hstart]
  obtain ⟨e, a₁, w₁, hq, harr⟩ := h b [.beginRound, .code body] (c :: cs) rfl trivial (room_FR _)
  cases e with
  | normal =>
    obtain ⟨w₂, hbr, hbody⟩ := hq
    have s1 : Steps P (lone (b.atR { tmps := tmps, defers := [] } [.code assign, .beginRound, .code body]) (c :: cs) w) (lone (b.atR a₁ [.code body]) (c :: cs) w₂) :=
      Steps.trans (steps_FR.1 harr) (.one (stepR_beginRound rfl hbr))
    obtain ⟨e₂, a₂, w₃, hq₂, harr₂⟩ := hbody b [] (c :: cs) rfl trivial (room_FR _)
    cases e₂ with
    | normal =>
      obtain ⟨v, w₄, hend, hR⟩ := hq₂
      exact ⟨.returned v, w₄, hR, Steps.trans s1 (Steps.trans (steps_FR.1 harr₂) (.one (stepR_round_end rfl rfl hend)))⟩
    | ret =>
      obtain ⟨v, w₄, hend, hR⟩ := hq₂
      obtain ⟨k₁, hs⟩ := harr₂.2 rfl
      exact ⟨.returned v, w₄, hR, Steps.trans s1 (Steps.trans (steps_FR.1 hs) (.one (stepR_round_ret rfl rfl hend)))⟩
    | exit id =>
      obtain ⟨v, w₄, hend, hR⟩ := hq₂
      obtain ⟨k₁, hk, hs⟩ := harr₂.2 rfl rfl
      exact ⟨.returned v, w₄, hR, Steps.trans s1 (Steps.trans (steps_FR.1 hs) (.one (stepR_round_exit rfl rfl hk hend)))⟩
    | outgrown => exact ⟨.outgrown, w₃, hq₂, Outgrown.of_steps s1 (harr₂.resolve_left (by simp [b]))⟩
    | goto t => exact hq₂.elim
    | panic chain => exact hq₂.elim
  | outgrown => exact ⟨.outgrown, w₁, hq, harr.resolve_left (by simp [b])⟩
  | exit id => exact hq.elim
  | goto t => exact hq.elim
  | ret => exact hq.elim
  | panic chain => exact hq.elim

end Go.X
end

section
set_option linter.unusedVariables false
set_option linter.unusedSimpArgs false
namespace Go.X

section
variable {P : Program} {G : Gl} {μ : Mu} {I : Nat → Prop} {h : H} {w : World}

theorem fits_nt {v : V} (h : v.fits = true) : ∀ vs, v ≠ .tu vs := by rintro vs rfl; simp [V.fits] at h

theorem R.freshNew (r : R G μ I h w) {T : Nat} {K : Nat → Prop} (hn : New h T K) : ∃ id, μ id = none ∧ tyOf id = T ∧ K id := by
  obtain ⟨id, h1, h2, h3⟩ := r.fresh T
  exact ⟨id, h1, h3, hn id h2 h3⟩

theorem tld_size {t : TypeId} {y : TI} (h : ti P t = some y) : ∃ i, P.info? t = some i ∧ i.size = y.size := by
  obtain ⟨i, d, hi, _, _, hs, _⟩ := ti_spec h
  exact ⟨i, hi, hs.symm⟩

theorem stW_spec (r : R G μ I h w) {t : TypeId} {p v : V} {rp rv : Value} {K : H → Prop} (hK : stW P h t p v K) (hp : VR w I μ p rp) (hv : VR w I μ v rv) :
    ∃ w' h', (Instr.storeAt t rp rv).run P w = .ok () w' ∧ K h' ∧ Ext μ I w μ I w' ∧ R G μ I h' w' := by
  unfold stW at hK
  split at hK
  · rename_i id i f
    obtain ⟨o, ho, hK⟩ := ob_spec hK
    split at hK
    · rename_i e xs
      obtain ⟨x, hx, hK⟩ := ob_spec hK
      obtain ⟨x', hx', hK⟩ := ob_spec hK
      obtain ⟨y, hy, ⟨hsz, hfit⟩, hK⟩ := ob_spec hK
      obtain ⟨ti, hti, hts⟩ := tld_size hy
      have hok := (hv.okE (fits_nt hfit)).2
      obtain ⟨w', a, rfl, h1, h2, h3⟩ := r.store (P := P) ho hx hx' hp hv hok ⟨ti, hti, hts.trans hsz⟩
      exact ⟨w', _, by simp only [Instr.storeAt, Instr.sureAddr, Sem.run_bind, Sem.run_pure, Result.andThen_ok, h1], hK, h2, h3⟩
    · cases hK
  · cases hK

theorem zeroOf_spec {t : TypeId} {z : V} (h : zeroOf P t = some z) : ∃ rz, (∀ w : World, (zeroValue t).run P w = .ok rz w) ∧ ∀ w I μ, VR w I μ z rz := by
  simp only [zeroOf, Option.bind_eq_some_iff] at h
  obtain ⟨x, hx, hz⟩ := h
  obtain ⟨i, d, hi, hd, hk, _, hz', _⟩ := ti_spec hx
  rw [hz', Option.bind_eq_some_iff] at hz
  obtain ⟨rz, h1, h2⟩ := hz
  exact ⟨rz, fun w => by simp [zeroValue, run_ti hi, h1], fun w I μ => ofConst_spec rz h2⟩

theorem boxW_spec (r : R G μ I h w) {t : TypeId} {v : V} {rv : Value} {K : V → H → Prop} (hK : boxW h t v K) (hv : VR w I μ v rv) :
    ∃ v' h', K v' h' ∧ Does P G μ I w (do pure (.pointer (some (← newVar t rv)))) v' h' := by
  rcases hK with ⟨hf, hn⟩ | ⟨e, xs, hok, rfl, hn⟩
  · obtain ⟨id, h1, h2, h3⟩ := r.freshNew hn
    exact ⟨_, _, h3, does_box r h1 (.inr h2) hv (fits_nt hf)⟩
  · obtain ⟨id, h1, h2, h3⟩ := r.freshNew hn
    exact ⟨_, _, h3, does_boxA r h1 (.inr h2) hok hv⟩

theorem range_zip {α : Type} (l : List (Nat × α)) (n : Nat) (h : l.map (·.1) = List.range n) : l = (List.range n).zip (l.map (·.2)) := by
  rw [← h]
  clear h
  induction l with
  | nil => rfl
  | cons p l ih => simp only [List.map_cons, List.zip_cons_cons]; rw [← ih]

theorem srcV_bd {e : Nat} {v : V} {ys : List V} (hs : srcV h e v = some ys) (hb : v.bd) : ys.length ≤ 9223372036854775807 := by
  cases v <;> simp only [srcV] at hs <;> first | (cases hs; done) | skip
  case nil => simp only [Option.some.injEq] at hs; subst hs; simp
  case im e' xs => split at hs
                   · simp only [Option.some.injEq] at hs; subst hs; exact hb
                   · cases hs
  case s l => split at hs
              · simp only [Option.some.injEq] at hs; subst hs; simp only [List.length_map]; exact hb
              · cases hs
  case sl id off len =>
    cases hid : h id with
    | none => simp [hid] at hs
    | some ob =>
      cases ob <;> simp only [hid] at hs <;> first | (cases hs; done) | skip
      split at hs
      · simp only [Option.some.injEq] at hs; subst hs
        have : len ≤ 9223372036854775807 := hb
        simp; omega
      · cases hs

theorem rowAt_mono (P : Program) (fits : TypeId → Bool) : ∀ (d : Nat) (e count count' off n : Nat), count ≤ count' → rowAt P fits d e count off n = true → rowAt P fits d e count' off n = true
  | 0, _, _, _, _, _, _, h => by simp [rowAt] at h
  | d + 1, e, count, count', off, n, hc, h => by
    simp only [rowAt] at h ⊢
    split at h
    · cases h
    · rename_i hz
      rw [if_neg hz]
      simp only [Bool.or_eq_true, Bool.and_eq_true, beq_iff_eq, decide_eq_true_eq] at h ⊢
      rcases h with ⟨⟨h1, h2⟩, h3⟩ | ⟨h1, h2⟩
      · exact .inl ⟨⟨h1, by omega⟩, h3⟩
      · exact .inr ⟨by omega, h2⟩
theorem liesAt_mono (P : Program) : ∀ (d : Nat) (e : TypeId) {count count' : Nat} (off : Nat) (u : TypeId) {n : Nat}, count ≤ count' → liesAt P d e count off u n = true → liesAt P d e count' off u n = true
  | 0, _, _, _, _, _, _, _, h => by simp [liesAt] at h
  | d + 1, e, count, count', off, u, n, hc, h => by
    simp only [liesAt, Bool.or_eq_true] at h ⊢
    rcases h with h | h
    · exact .inl (rowAt_mono P _ _ _ _ _ _ _ hc h)
    · refine .inr ?_
      split at h
      · exact liesAt_mono P d _ _ _ hc h
      · cases h

theorem convW_spec (r : R G μ I h w) {src dst : TypeId} {v : V} {rv : Value} {K : V → H → Prop} (hK : convW P h src dst v K) (hv : VR w I μ v rv) :
    ∃ v' h', K v' h' ∧ Does P G μ I w (Go.convert src dst rv) v' h' := by
  have other : (ob (slOf P src) fun r => (isStr P dst = true ∧ isU8 P r.1 = true) ∧ ob (srcV h 1 v) fun ys => ob (bytesOfVs ys) fun l => K (.s l) h) → (∀ b, v ≠ .s b) →
      ∃ v' h', K v' h' ∧ Does P G μ I w (Go.convert src dst rv) v' h' := by
    intro hK hns
    obtain ⟨q, hq, ⟨h1, h2⟩, hK⟩ := ob_spec hK
    obtain ⟨ys, hys, hK⟩ := ob_spec hK
    obtain ⟨l, hl, hK⟩ := ob_spec hK
    refine ⟨_, _, hK, _, w, μ, run_bytesStr r (slOf_spec hq).2 (isU8_spec h2) (isStr_spec h1) hys hl hv hns, .refl _ _ _, r, .s _ ?_⟩
    have hlen : ∀ (ys : List V) (l : List UInt8), bytesOfVs ys = some l → l.length = ys.length := by
      intro ys
      induction ys with
      | nil => intro l h; simp [bytesOfVs] at h; subst h; rfl
      | cons y ys ih =>
        intro l h
        cases y <;> first | (simp [bytesOfVs] at h; done) | skip
        rename_i k n
        cases k <;> first | (simp [bytesOfVs] at h; done) | skip
        simp only [bytesOfVs, Option.map_eq_some_iff] at h
        obtain ⟨l', h1, rfl⟩ := h
        simp [ih _ h1]
    rw [hlen _ _ hl]
    exact srcV_bd hys hv.bd
  cases v
  case s l =>
    simp only [convW] at hK
    split at hK
    · rename_i hst
      obtain ⟨y, hy, hK⟩ := ob_spec hK
      obtain ⟨rr, h1, h2⟩ := run_convV (w := w) hy hv
      exact ⟨_, _, hK, rr, w, μ, h1, .refl _ _ _, r, h2⟩
    · obtain ⟨q, hq, ⟨h1, h2⟩, hK⟩ := ob_spec hK
      obtain ⟨id, h3, h4, h5⟩ := r.freshNew hK
      cases hv with
      | s _ hl => exact ⟨_, _, h5, does_strBytes r h3 (.inr h4) (isStr_spec h1) (slOf_spec hq).2 (isU8_spec h2) l hl⟩
  case i k n =>
    simp only [convW] at hK
    obtain ⟨y, hy, hK⟩ := ob_spec hK
    obtain ⟨rr, h1, h2⟩ := run_convV (w := w) hy hv
    exact ⟨_, _, hK, rr, w, μ, h1, .refl _ _ _, r, h2⟩
  case ptr id i f =>
    simp only [convW] at hK
    obtain ⟨o, ho, hK⟩ := ob_spec hK
    split at hK
    · rename_i e xs
      obtain ⟨⟨h1, h2, h3⟩, hK⟩ := hK
      refine ⟨_, _, hK, rv, w, μ, ?_, .refl _ _ _, r, hv⟩
      cases hv with
      | ptr _ _ _ rb base e' n hm =>
        have hob := r.obj id _ ho
        rcases hob.2 with ⟨rfl, _⟩ | ⟨rb', base', n', rcs, T, fz, rs, hr⟩
        · simp at h1
        · have hme := hr.mu; rw [hm] at hme; cases hme
          have hfit := hr.fit
          have hsz := hr.size
          have hie : (i + 1) * e ≤ xs.length * e := Nat.mul_le_mul_right _ h1
          rw [Nat.add_mul] at hie
          have hsh : w.shape? rb = some (T, rcs.size) := by simp [World.shape?, hr.blk]
          unfold upB at h3
          split at h3
          · rename_i t hs hd
            split at h3
            · rename_i j hj
              exact Lib.run_to_unsafe w ⟨rb, base + i * e + f, none⟩ hs hd hj (by simpa using h3) hsh (by simp only; omega)
            · cases h3
          · rename_i u hs hd
            simp only [Bool.and_eq_true, bne_iff_ne, ne_eq, beq_iff_eq] at h3
            obtain ⟨⟨⟨⟨⟨h4, h5⟩, h6⟩, h7⟩, h8⟩, h9⟩ := h3
            subst h5
            obtain ⟨j, hj⟩ := Option.isSome_iff_exists.1 h6
            rcases hr.ty with h10 | ⟨h10, rfl⟩
            · exact absurd h10 h4
            · rw [h10] at h7 h8 h9
              have h7' : 0 < P.cellsOf T := by have := h7; rw [Nat.blt_eq] at this; exact this
              have h8' := Nat.le_of_ble_eq_true h8
              refine Lib.run_from_unsafe w ⟨rb, 0 + 0 * e + f, none⟩ hs hd hj hsh ?_
              simp only [Nat.zero_mul, Nat.zero_add]
              exact liesAt_mono P _ _ _ _ (by rw [Nat.le_div_iff_mul_le h7']; omega) h9
          · cases h3
    · cases hK
  all_goals exact other hK (by simp)


theorem R.iterStep (r : R G μ I h w) {id rb : Nat} {l : List UInt8} {pos : Nat} (hid : h id = some (.iter l pos)) (hm : μ id = some (.obj rb)) (hb : w.heap[rb]? = some (.stringIter ⟨⟨l⟩⟩ pos)) (pos' : Nat) :
    Ext μ I w μ I (w.iterAt rb ⟨⟨l⟩⟩ pos') ∧ R G μ I (h.set id (.iter l pos')) (w.iterAt rb ⟨⟨l⟩⟩ pos') := by
  have hnI : ¬ I rb := r.notI id _ rb (by rw [hid]; simp) hm rfl
  have hsz : (w.iterAt rb ⟨⟨l⟩⟩ pos').heap.size = w.heap.size := by simp [World.iterAt]
  have hx : Ext μ I w μ I (w.iterAt rb ⟨⟨l⟩⟩ pos') :=
    ⟨fun _ _ e => e, fun _ e => e, fun b hb' => Lib.iterAt_other w rb b _ _ (fun e => hnI (e ▸ hb')), by rw [hsz]; exact Nat.le_refl _, rfl, rfl, rfl⟩
  refine ⟨hx, r.step hx _ (fun j => j = id) ?_ ?_ ?_ ?_ ?_ ?_ ?_ r.bound⟩
  · intro j o e hd; simpa [H.set, hd] using e
  · intro j o e hd
    subst hd
    simp [H.set] at e; subst e
    exact ⟨rb, hm, Lib.iterAt_heap w rb _ pos _ hb⟩
  · intro j o t b e hd m tb
    apply Lib.iterAt_other
    intro hbb; subst hbb
    refine hd (r.inj j id t _ b ?_ (by rw [hid]; simp) m hm tb rfl)
    have : h j = some o := by simpa [H.set, hd] using e
    rw [this]; simp
  · intro j j' t t' b a a' hd m m' tb tb'
    subst hd
    by_cases hj : j' = j
    · exact hj.symm
    · exact r.inj j j' t t' b (by rw [hid]; simp) (by simpa [H.set, hj] using a') m m' tb tb'
  · intro b hb; rw [hsz]; exact r.imm b hb
  · intro j t b m tb; rw [hsz]; exact r.mub j t b m tb
  · intro j t b a m tb
    by_cases hj : j = id
    · subst hj; exact r.notI j t b (by rw [hid]; simp) m tb
    · exact r.notI j t b (by simpa [H.set, hj] using a) m tb

theorem nextW_spec (r : R G μ I h w) {v : V} {rv : Value} {b : Bool} {K : V → H → Prop} (hK : nextW h v b K) (hv : VR w I μ v rv) (ty : TypeId) :
    ∃ v' h', K v' h' ∧ Does P G μ I w (Instr.next rv b ty) v' h' := by
  unfold nextW at hK
  split at hK
  · rename_i id
    obtain ⟨o, ho, hK⟩ := ob_spec hK
    split at hK
    · rename_i l pos
      obtain ⟨rb, hm, hb⟩ := r.obj id _ ho
      cases hv with
      | it _ rb' hm' =>
        rw [hm] at hm'; cases hm'
        by_cases hp : pos < l.length
        · have hs := r.iterStep ho hm hb (pos + (decV l pos).2)
          exact ⟨_, _, hK.1 hp, _, _, μ, Lib.run_next_any_at w rb ⟨⟨l⟩⟩ pos ty hb hp, hs.1, hs.2, .tu _ _ (.cons _ _ _ _ (.b _) (.cons _ _ _ _ (.i _ _) (.cons _ _ _ _ (.i _ _) .nil)))⟩
        · exact ⟨_, _, hK.2 (by omega), _, w, μ, Lib.run_next_end_at w rb ⟨⟨l⟩⟩ pos ty hb hp, .refl _ _ _, r, .tu _ _ (.cons _ _ _ _ (.b _) .nil)⟩
    · cases hK
  · cases hK

theorem rangeStr_spec (r : R G μ I h w) {id : Nat} (hid : μ id = none) {t : TypeId} (ht : isStr P t = true) (l : List UInt8) :
    Does P G μ I w (Instr.range t (.string ⟨⟨l⟩⟩)) (.it id) (h.set id (.iter l 0)) := by
  have hw := r.new hid (w.alloc (.stringIter ⟨⟨l⟩⟩ 0)) (.obj w.heap.size) (.iter l 0) (fun b hb => by rw [show (w.alloc (.stringIter ⟨⟨l⟩⟩ 0)).heap = w.heap.push (.stringIter ⟨⟨l⟩⟩ 0) from rfl, Array.getElem?_push, if_neg (by omega)]) (by rw [show (w.alloc (.stringIter ⟨⟨l⟩⟩ 0)).heap = w.heap.push (.stringIter ⟨⟨l⟩⟩ 0) from rfl]; simp) rfl rfl rfl (.inl rfl)
    (fun hx => ⟨w.heap.size, Mu.set_same _ _ _, by rw [show (w.alloc (.stringIter ⟨⟨l⟩⟩ 0)).heap = w.heap.push (.stringIter ⟨⟨l⟩⟩ 0) from rfl]; simp⟩)
  refine ⟨.pointer (some ⟨w.heap.size, 0, none⟩), _, _, ?_, hw.1, hw.2, .it _ _ (Mu.set_same _ _ _)⟩
  simp only [Instr.range, Sem.run_bind, run_underlying (isStr_spec ht), Result.andThen_ok, Sem.run_pure]
  rfl

theorem intOf_spec {v : V} {k : IntKind} {n : Int} (h : intOf v = some (k, n)) : v = .i k n := by
  cases v <;> simp only [intOf] at h <;> first | (cases h; done) | skip
  simp only [Option.some.injEq, Prod.mk.injEq] at h
  obtain ⟨rfl, rfl⟩ := h
  rfl

theorem opw_sound (ro : Option Nat) (r : R G μ I h w) {a : Act} {ρ : Operand → Option V} (hρ : ∀ x v, ρ x = some v → VR w I μ v (a.eval x)) {o : Oper} {K E : V → H → Prop} (hK : opw P G ρ h K E o.op)
    {K' : Act → World → Prop} {Q : Exit → Act → World → Prop}
    (hk : ∀ v rv h' μ' I' w', K v h' → Ext μ I w μ' I' w' → R G μ' I' h' w' → VR w' I' μ' v rv → K' (a.put o.dst rv) w')
    (he : ∀ v rv h' μ' I' w', E v h' → Ext μ I w μ' I' w' → R G μ' I' h' w' → VR w' I' μ' v rv → Q (.panic [{ v := rv, recovered := false }]) a w') :
    opX ro P o a w K' Q := by
  have hnd : ∀ c, o.op ≠ .defer c := by
    intro c hc
    rw [hc] at hK
    exact hK
  have pure_ : (ob (pureOp P h ρ o.op) fun v => K v h) → opX ro P o a w K' Q := by
    intro hK
    obtain ⟨v, hv, hK⟩ := ob_spec hK
    obtain ⟨rv, h1, h2⟩ := pureOp_spec r hρ hv
    refine .inl (uponIn_of hnd ?_)
    unfold Oper.wp
    rw [h1]
    exact hk v rv h μ I w hK (.refl _ _ _) r h2
  have does : ∀ {s : Sem Value} {v : V} {h' : H}, (execOp a.eval o = do pure (Next.value (← s))) → K v h' → Does P G μ I w s v h' → opX ro P o a w K' Q := by
    intro s v h' hx hK ⟨rv, w', μ', h1, h2, h3, h4⟩
    refine .inl (uponIn_of hnd ?_)
    unfold Oper.wp
    rw [hx]
    simp only [Sem.run_bind, h1, Result.andThen_ok, Sem.run_pure]
    exact hk v rv h' μ' I w' hK h2 h3 h4
  cases ho : o.op <;> simp only [ho, opw] at hK pure_ <;> first
    | (exact pure_ hK)
    | skip
  case load t x =>
    obtain ⟨p, hp, hK⟩ := ob_spec hK
    obtain ⟨cs, hcs, hK⟩ := ob_spec hK
    obtain ⟨v, hv, hK⟩ := ob_spec hK
    obtain ⟨b, of, rs, he1, hvr, hcell, hone⟩ := ptrCells_spec r (hρ _ _ hp) hcs
    obtain ⟨rv, h1, h2⟩ := run_loadVar (P := P) hv hvr hcell hone
    refine does (s := Instr.loadAt t (a.eval x)) (by unfold execOp; simp only [ho]) hK ⟨rv, w, μ, ?_, .refl _ _ _, r, h2⟩
    rw [he1]
    simp only [Instr.loadAt, Instr.sureAddr, Sem.run_bind, Sem.run_pure, Result.andThen_ok, h1]
  case store t x y =>
    obtain ⟨p, hp, hK⟩ := ob_spec hK
    obtain ⟨v, hv, hK⟩ := ob_spec hK
    obtain ⟨w', h', h1, h2, h3, h4⟩ := stW_spec r hK (hρ _ _ hp) (hρ _ _ hv)
    refine .inl (uponIn_of hnd ?_)
    have hx : execOp a.eval o = (do Instr.storeAt t (a.eval x) (a.eval y); pure .skip) := by unfold execOp; simp only [ho]
    unfold Oper.wp
    rw [hx]
    simp only [Sem.run_bind, h1, Result.andThen_ok, Sem.run_pure]
    exact hk undefV undef h' μ I w' h2 h3 h4 (.tu _ _ .nil)
  case alloc t =>
    obtain ⟨z, hz, hK⟩ := ob_spec hK
    obtain ⟨rz, h1, h2⟩ := zeroOf_spec hz
    obtain ⟨v', h', h3, h4⟩ := boxW_spec (P := P) r (t := t) hK (h2 w I μ)
    refine does (s := Instr.alloc t true (.tuple #[])) (by unfold execOp; simp only [ho]) h3 ?_
    obtain ⟨rv, w', μ', h5, h6⟩ := h4
    refine ⟨rv, w', μ', ?_, h6⟩
    simp only [Instr.alloc, Sem.run_bind, h1, Result.andThen_ok]
    simpa only [Sem.run_bind] using h5
  case box t x =>
    obtain ⟨v, hv, hK⟩ := ob_spec hK
    obtain ⟨v', h', h3, h4⟩ := boxW_spec (P := P) r (t := t) hK (hρ _ _ hv)
    exact does (s := do pure (.pointer (some (← newVar t (a.eval x))))) (by unfold execOp; simp only [ho]; rfl) h3 h4
  case buildSlice t n ps =>
    obtain ⟨q, hq, hK⟩ := ob_spec hK
    obtain ⟨l, hl, ⟨h1, h2, h3⟩, hK⟩ := ob_spec hK
    obtain ⟨id, h4, h5, h6⟩ := r.freshNew hK
    obtain ⟨⟨y, hy, hyk⟩, _⟩ := slOf_spec hq
    obtain ⟨h7, h8⟩ := mapP_spec hρ _ hl
    have hlen : (l.map (·.2)).length = n := by have := congrArg List.length h1; simpa using this
    have hd := does_buildSlice (P := P) r h4 (.inr h5) hy hyk h8 (by
      intro z hz
      obtain ⟨p, hp, rfl⟩ := List.mem_map.1 hz
      have := h2 p hp
      refine ⟨this.2, ?_⟩
      obtain ⟨j, hj⟩ := List.getElem?_of_mem hz
      obtain ⟨rz, _, hvz⟩ := h8.get hj
      exact (hvz.okE (fits_nt this.1)).2) (by rw [hlen]; exact h3)
    rw [hlen] at hd
    have e : ps.map (fun p => (p.1, a.eval p.2)) = ⟨(List.range n).zip ((ps.toList.map fun p => (p.1, a.eval p.2)).map (·.2))⟩ := by
      apply Array.ext'
      rw [Array.toList_map]
      exact range_zip _ n (by rw [h7, h1])
    exact does (s := Instr.buildSlice t n (ps.map fun p => (p.1, a.eval p.2))) (by unfold execOp; simp only [ho]) h6 (by rw [e]; exact hd)
  case makeSlice t x y =>
    obtain ⟨q, hq, hK⟩ := ob_spec hK
    obtain ⟨z, hz, hK⟩ := ob_spec hK
    obtain ⟨u, hu, hK⟩ := ob_spec hK
    obtain ⟨v, hv, hK⟩ := ob_spec hK
    obtain ⟨m, hm, hK⟩ := ob_spec hK
    obtain ⟨m', hm', ⟨h1, h2, h3, h4, h5⟩, hK⟩ := ob_spec hK
    obtain ⟨id, h6, h7, h8⟩ := r.freshNew hK
    obtain ⟨⟨y', hy, hyk⟩, _⟩ := slOf_spec hq
    simp only [zeroOf, Option.bind_eq_some_iff] at hz
    obtain ⟨zy, hzy, hz⟩ := hz
    obtain ⟨k, n⟩ := m
    obtain ⟨k', n'⟩ := m'
    have h2 : n = n' := h2
    subst h2
    have hu' := intOf_spec hm
    have hv' := intOf_spec hm'
    subst hu'; subst hv'
    obtain ⟨j, rfl⟩ : ∃ j : Nat, n = j := ⟨n.toNat, by have : 0 ≤ n := h3; omega⟩
    have hvu := hρ _ _ hu
    have hvv := hρ _ _ hv
    have h5' : q.2.2 * j ≤ 140737488355328 := by
      have : ((q.2.2 : Nat) : Int) * (j : Int) ≤ 140737488355328 := h5
      rw [← Int.natCast_mul] at this; omega
    have hd := does_makeSlice (P := P) r h6 (.inr h7) hy hyk hzy hz h1 k k' j (by omega) (by have : (j : Int) ≤ 9223372036854775807 := h4; omega)
    refine does (s := Instr.makeSlice t (a.eval x) (a.eval y)) (by unfold execOp; simp only [ho]) h8 ?_
    generalize hrx : a.eval x = rx at hvu
    generalize hry : a.eval y = ry at hvv
    cases hvu; cases hvv
    exact hd
  case convert src dst x =>
    obtain ⟨v, hv, hK⟩ := ob_spec hK
    obtain ⟨v', h', h1, h2⟩ := convW_spec (P := P) r hK (hρ _ _ hv)
    exact does (s := Go.convert src dst (a.eval x)) (by unfold execOp; simp only [ho]) h1 h2
  case range t x =>
    obtain ⟨v, hv, hK⟩ := ob_spec hK
    split at hK
    · rename_i l
      obtain ⟨hst, hK⟩ := hK
      obtain ⟨id, h1, h2, h3⟩ := r.freshNew hK
      have hx := hρ _ _ hv
      have hd := rangeStr_spec (P := P) r h1 hst l
      generalize hrx : a.eval x = rx at hx
      cases hx
      exact does (s := Instr.range t (a.eval x)) (by unfold execOp; simp only [ho]) h3 (by rw [hrx]; exact hd)
    · cases hK
  case next x b =>
    obtain ⟨v, hv, hK⟩ := ob_spec hK
    obtain ⟨v', h', h1, h2⟩ := nextW_spec (P := P) r hK (hρ _ _ hv) o.type
    exact does (s := Instr.next (a.eval x) b o.type) (by unfold execOp; simp only [ho]) h1 h2
  case panic x =>
    obtain ⟨v, hv, hK⟩ := ob_spec hK
    split at hK
    · rename_i t u
      have hx := hρ _ _ hv
      refine .inl (uponIn_of hnd ?_)
      generalize hrx : a.eval x = rx at hx
      cases hx with
      | ifc _ _ ru hu =>
        have hx : execOp a.eval o = (do pure (Next.value (← Instr.panic (a.eval x)))) := by unfold execOp; simp only [ho]
        unfold Oper.wp
        rw [hx, hrx]
        simp only [Instr.panic, goPanic, Sem.run_bind, Sem.run, Result.andThen]
        exact he _ _ _ _ _ _ hK (.refl _ _ _) r (.ifc _ _ _ hu)
    · cases hK
  case call c =>
    obtain ⟨callee, args, tys⟩ := c
    cases callee with
    | invoke rc m => cases hK
    | value f =>
      simp only at hK
      obtain ⟨fv, hf, hK⟩ := ob_spec hK
      obtain ⟨as, has, hK⟩ := ob_spec hK
      split at hK
      · rename_i g first cap _
        have hfv := hρ _ _ hf
        have hargs := mapO_spec hρ _ has
        generalize hrf : a.eval f = rf at hfv
        cases hfv with
        | fn _ _ _ r1 r2 hv1 hv2 =>
          have hall := (hv1.append hargs).append hv2
          have hx : execOp a.eval o = callFunc g ⟨r1 ++ args.toList.map a.eval ++ r2⟩ := by
            unfold execOp
            simp only [ho, resolve, hrf, Deferred.ofValue]
            have : (⟨r1⟩ : Array Value) ++ Array.map a.eval args ++ ⟨r2⟩ = ⟨r1 ++ args.toList.map a.eval ++ r2⟩ := by
              apply Array.ext'; simp
            rw [← this]; rfl
          have hc := hK μ I w _ r hall
          refine .inl (uponIn_of hnd ?_)
          unfold Oper.wp
          rw [hx]
          rcases hc with ⟨h1, h2⟩ | ⟨rv, w', h1, h2⟩
          · rw [h1, Oper.upon_enter]
            refine Calls.mono h2 fun e w' hce => ?_
            obtain ⟨oo, h', μ', I', h3, h4, h5, h6⟩ := hce
            cases oo with
            | ret v =>
              cases e <;> first | (cases h6; done) | skip
              exact hk _ _ _ _ _ _ h3 h4 h5 h6
            | pan v =>
              cases e <;> first | (cases h6; done) | skip
              obtain ⟨rv, rfl, h7⟩ := h6
              exact he _ _ _ _ _ _ h3 h4 h5 h7
          · rw [h1, Oper.upon_value]
            obtain ⟨oo, h', μ', I', h3, h4, h5, h6⟩ := h2
            cases oo with
            | ret v => exact hk _ _ _ _ _ _ h3 h4 h5 h6
            | pan v => cases h6
      · rename_i id _
        have hfv := hρ _ _ hf
        have hargs := mapO_spec hρ _ has
        generalize hrf : a.eval f = rf at hfv
        cases hfv with
        | yl _ rb hm =>
          obtain ⟨g, tmps, asg, body, h1, h2⟩ := hK μ I w rb _ r hm hargs
          have hx : execOp a.eval o = (Instr.yield rb ⟨args.toList.map a.eval⟩) := by
            unfold execOp
            simp only [ho, resolve, hrf, Deferred.ofValue]
            have : (#[] : Array Value) ++ Array.map a.eval args ++ (#[] : Array Value) = ⟨args.toList.map a.eval⟩ := by
              apply Array.ext'; simp
            rw [← this]; rfl
          refine .inl ?_
          rw [Oper.semAt_eq ro _ _ hnd, hx, h1, Oper.uponIn_round]
          refine ⟨fun hc => by simp [FR, Fence.wide] at hc, roundX_in.2 ((roundX_in (ro := none) (n := 0)).1 (RoundIn.mono h2 fun e w' hce => ?_))⟩
          obtain ⟨oo, h', μ', I', h3, h4, h5, h6⟩ := hce
          cases oo with
          | ret v =>
            cases e <;> first | (cases h6; done) | skip
            exact hk _ _ _ _ _ _ h3 h4 h5 h6
          | pan v =>
            cases e <;> first | (cases h6; done) | skip
            obtain ⟨rv, rfl, h7⟩ := h6
            exact he _ _ _ _ _ _ h3 h4 h5 h7
      · cases hK
    | builtin b =>
      simp only at hK
      unfold builtinW at hK
      split at hK
      · rename_i s x t u hargs htys
        obtain ⟨q, hq, hK⟩ := ob_spec hK
        obtain ⟨v, hv, hK⟩ := ob_spec hK
        obtain ⟨y, hy, hK⟩ := ob_spec hK
        obtain ⟨d, hd, hK⟩ := ob_spec hK
        obtain ⟨ys, hys, ⟨h1, h2, h3, h4⟩, hK⟩ := ob_spec hK
        obtain ⟨id, h5, h6, h7⟩ := r.freshNew hK
        obtain ⟨⟨ty, hty, htyk⟩, _⟩ := slOf_spec hq
        have hap := does_append (P := P) r h5 hty htyk (srcTyB_spec h2) (xs := d.1) (h1 := d.2) (apTy_spec h6) hd hys (hρ _ _ hv) (hρ _ _ hy) (fun _ _ _ _ _ => ⟨h4, by
          have := Nat.le_mul_of_pos_right (d.1.length + ys.length) (Nat.pos_of_ne_zero h3); omega⟩) o.type
        have hargs' : args = #[s, x] := by apply Array.ext'; exact hargs
        have htys' : tys = #[t, u] := by apply Array.ext'; exact htys
        subst hargs'; subst htys'
        exact does (s := Builtin.append_ #[t, u] o.type #[a.eval s, a.eval x]) (by unfold execOp; simp only [ho, resolve, invoke, builtin, List.map_toArray, List.map_cons, List.map_nil]; rfl) h7 hap
      · rename_i x t hargs htys
        obtain ⟨v, hv, hK⟩ := ob_spec hK
        obtain ⟨y, hy, hK⟩ := ob_spec hK
        have hx := hρ _ _ hv
        refine pure_ ?_
        simp only [pureOp, hargs, htys, hv, hy, Option.bind_some, ob_some]
        exact hK hx.bd
      · rename_i x y tt hargs
        obtain ⟨u, hu, hK⟩ := ob_spec hK
        obtain ⟨v, hv, hK⟩ := ob_spec hK
        obtain ⟨z, hz, hK⟩ := ob_spec hK
        refine pure_ ?_
        simp only [pureOp, hargs, hu, hv, hz, Option.bind_some, ob_some]
        exact hK
      · rename_i x y tt hargs
        obtain ⟨u, hu, hK⟩ := ob_spec hK
        obtain ⟨v, hv, hK⟩ := ob_spec hK
        obtain ⟨z, hz, hK⟩ := ob_spec hK
        refine pure_ ?_
        simp only [pureOp, hargs, hu, hv, hz, Option.bind_some, ob_some]
        exact hK
      · cases hK

end
end Go.X
end

section
set_option linter.unusedVariables false
set_option linter.unusedSimpArgs false
namespace Go.X

mutual
inductive Fz (h : H) : V → V → List Nat → Prop
  | keep (v) : Fz h v v []
  | nil (e) : Fz h .nil (.im e []) []
  | row (id off len e xs ys S) : h id = some (.row e xs) → off + len ≤ xs.length → FzL h ((xs.drop off).take len) ys S → Fz h (.sl id off len) (.im e ys) (id :: S)
  | ag (cs ds S) : FzL h cs ds S → Fz h (.ag cs) (.ag ds) S
  | tu (cs ds S) : FzL h cs ds S → Fz h (.tu cs) (.tu ds) S
  | ifc (t v v' S) : Fz h v v' S → Fz h (.ifc t v) (.ifc t v') S
inductive FzL (h : H) : List V → List V → List Nat → Prop
  | nil : FzL h [] [] []
  | cons (x y S xs ys T) : Fz h x y S → FzL h xs ys T → FzL h (x :: xs) (y :: ys) (S ++ T)
end

theorem FzL.keep {h : H} : ∀ (xs : List V), FzL h xs xs []
  | [] => .nil
  | x :: xs => .cons x x [] xs xs [] (.keep x) (FzL.keep xs)

/-- A slice of a row of scalars, or of things already still. -/
theorem Fz.slice {h : H} {id off len e : Nat} {xs : List V} (h1 : h id = some (.row e xs)) (h2 : off + len ≤ xs.length) : Fz h (.sl id off len) (.im e ((xs.drop off).take len)) [id] :=
  .row id off len e xs _ [] h1 h2 (FzL.keep _)

theorem FzL.length {h : H} : ∀ {xs ys : List V} {S : List Nat}, FzL h xs ys S → ys.length = xs.length
  | _, _, _, .nil => rfl
  | _, _, _, .cons _ _ _ _ _ _ _ h => by simp [FzL.length h]

theorem Fz.one {h : H} {v v' : V} {S : List Nat} (f : Fz h v v' S) (ho : v.one = true) : v'.one = true := by
  cases f with
  | keep => exact ho
  | nil => rfl
  | row => rfl
  | ag => simp [V.one] at ho
  | tu => simp [V.one] at ho
  | ifc => rfl

theorem FzL.one {h : H} : ∀ {xs ys : List V} {S : List Nat}, FzL h xs ys S → (∀ x ∈ xs, x.one = true) → ∀ y ∈ ys, y.one = true
  | _, _, _, .nil, _ => by simp
  | _, _, _, .cons x y S xs ys T f fs, ho => by
    intro z hz
    rcases List.mem_cons.1 hz with rfl | hz
    · exact f.one (ho x (by simp))
    · exact FzL.one fs (fun z hz => ho z (by simp [hz])) z hz

theorem Fz.okE {h : H} {v v' : V} {S : List Nat} {e : Nat} (f : Fz h v v' S) (ho : v.okE e) (hn : ∀ vs, v ≠ .tu vs) : v'.okE e := by
  cases f with
  | keep => exact ho
  | nil => exact ⟨ho.1, by simp [V.cells, V.one]⟩
  | row => exact ⟨ho.1, by simp [V.cells, V.one]⟩
  | ag cs ds S f => exact ⟨by rw [← ho.1]; exact f.length, f.one ho.2⟩
  | tu => exact absurd rfl (hn _)
  | ifc => exact ⟨ho.1, by simp [V.cells, V.one]⟩

def frI (μ : Mu) (I : Nat → Prop) (S : List Nat) : Nat → Prop := fun b => I b ∨ ∃ id ∈ S, ∃ rb base e n, μ id = some (.blk rb base e n) ∧ b = rb

section
variable {G : Gl} {μ : Mu} {I : Nat → Prop} {h : H} {w : World}

theorem VRs_single {v : V} {rs : List Value} (hv : VRs w I μ [v] rs) : ∃ rv, rs = [rv] ∧ VR w I μ v rv := by
  cases hv with
  | cons _ rv _ rvs h1 h2 => cases h2; exact ⟨rv, rfl, h1⟩

theorem VRs_whole {x : V} {rs : List Value} {e : Nat} (ho : x.okE e) (hv : VRs w I μ x.cells rs) : ∃ rv, VR w I μ x rv ∧ rv.cells.toList = rs := by
  by_cases ha : ∃ cs, x = .ag cs
  · obtain ⟨cs, rfl⟩ := ha
    exact ⟨.agg ⟨rs⟩, .ag _ _ hv ho.2, rfl⟩
  · have hc : x.cells = [x] := by
      cases x <;> first | rfl | exact absurd ⟨_, rfl⟩ ha
    rw [hc] at hv
    obtain ⟨rv, rfl, h1⟩ := VRs_single hv
    have h2 := (h1.one (ho.2 x (by rw [hc]; simp))).2
    exact ⟨rv, h1, by rw [h2]⟩

mutual
theorem Fz.vr (r : R G μ I h w) {J : Nat → Prop} (hI : ∀ b, I b → J b) : ∀ {v v' : V} {S : List Nat} {rv : Value}, Fz h v v' S → (∀ b, frI μ I S b → J b) → VR w I μ v rv → VR w J μ v' rv
  | _, _, _, _, .keep v, _, hv => hv.ext ⟨fun _ _ e => e, hI, fun _ _ => rfl, Nat.le_refl _, rfl, rfl, rfl⟩
  | _, _, _, _, .nil e, _, .nil => .imz _ _ _ plainA_none (fun _ => rfl)
  | _, _, _, _, .ag cs ds S f, hJ, .ag _ rs hr ho => .ag _ rs (FzL.vrs r hI f hJ hr) (f.one ho)
  | _, _, _, _, .tu cs ds S f, hJ, .tu _ rs hr => .tu _ rs (FzL.vrs r hI f hJ hr)
  | _, _, _, _, .ifc t v v' S f, hJ, .ifc _ _ rv hv => .ifc _ _ _ (Fz.vr r hI f hJ hv)
  | _, _, _, _, .row id off len e xs ys S h1 h2 f, hJ, hv => by
    cases hv with
    | slz _ _ a had =>
      have hl := f.length
      have : ys = [] := by simpa using hl
      subst this
      exact .imz _ _ _ had (fun _ => rfl)
    | sl _ _ _ rb base e2 n cap hm hle hroom hcm =>
      have ho := r.obj id _ h1
      have hl := f.length
      have hll : ((xs.drop off).take len).length = len := by simp; omega
      rcases ho.2 with ⟨_, h3⟩ | ⟨rb', base', n', rcs, T, fz, rs, hr⟩
      · rw [hm] at h3; cases h3
      · have hme := hr.mu; rw [hm] at hme; cases hme
        have hok : ∀ y ∈ (xs.drop off).take len, y.okE e := fun y hy => ho.1 y (List.mem_of_mem_drop (List.mem_of_mem_take hy))
        have hv1 : VRs w I μ (flat ((xs.drop off).take len)) ((rs.drop (off * e)).take (len * e)) := by
          rw [flat_take (fun z hz => ho.1 z (List.mem_of_mem_drop hz)), flat_drop ho.1]
          exact (hr.vrs.drop _).take _
        have hJ' : ∀ b, frI μ I S b → J b := fun b hb => hJ b (by
          rcases hb with hb | ⟨i, hi, hb⟩
          · exact .inl hb
          · exact .inr ⟨i, by simp [hi], hb⟩)
        have hv2 := FzL.flat r hI f hJ' hok hv1
        have := VR.im (w := w) (μ := μ) (I := J) e ys _ rb (base + off * e) cap (hJ rb (.inr ⟨id, by simp, rb, base, e, n, hm, rfl⟩)) (FzL.okEs f hok) hv2 (fun j u hu => by
          rw [List.getElem?_take] at hu
          split at hu
          · rw [List.getElem?_drop] at hu
            rw [cell_of _ _ _ _ _ _ hr.blk, ← hr.cell _ _ hu]
            congr 1; omega
          · cases hu) (by omega) hcm
        rw [hl, hll] at this
        exact this
theorem FzL.vrs (r : R G μ I h w) {J : Nat → Prop} (hI : ∀ b, I b → J b) : ∀ {xs ys : List V} {S : List Nat} {rs : List Value}, FzL h xs ys S → (∀ b, frI μ I S b → J b) → VRs w I μ xs rs → VRs w J μ ys rs
  | _, _, _, _, .nil, _, .nil => .nil
  | _, _, _, _, .cons x y S xs ys T f fs, hJ, .cons _ rv _ rvs hv hvs => .cons _ _ _ _ (Fz.vr r hI f (fun b hb => hJ b (by
      rcases hb with hb | ⟨i, hi, hb⟩
      · exact .inl hb
      · exact .inr ⟨i, by simp [hi], hb⟩)) hv) (FzL.vrs r hI fs (fun b hb => hJ b (by
      rcases hb with hb | ⟨i, hi, hb⟩
      · exact .inl hb
      · exact .inr ⟨i, by simp [hi], hb⟩)) hvs)
theorem FzL.flat (r : R G μ I h w) {J : Nat → Prop} (hI : ∀ b, I b → J b) : ∀ {xs ys : List V} {S : List Nat} {rs : List Value} {e : Nat}, FzL h xs ys S → (∀ b, frI μ I S b → J b) → (∀ x ∈ xs, x.okE e) → VRs w I μ (X.flat xs) rs → VRs w J μ (X.flat ys) rs
  | _, _, _, _, _, .nil, _, _, hv => by cases hv; exact .nil
  | _, _, _, rs, e, .cons x y S xs ys T f fs, hJ, hok, hv => by
    have hfl : X.flat (x :: xs) = x.cells ++ X.flat xs := by simp [X.flat]
    have hfl2 : X.flat (y :: ys) = y.cells ++ X.flat ys := by simp [X.flat]
    rw [hfl] at hv
    have ha := hv.take x.cells.length
    have hb := hv.drop x.cells.length
    rw [List.take_left] at ha
    rw [List.drop_left] at hb
    have hJ1 : ∀ b, frI μ I S b → J b := fun b hb => hJ b (by
      rcases hb with hb | ⟨i, hi, hb⟩
      · exact .inl hb
      · exact .inr ⟨i, by simp [hi], hb⟩)
    have hJ2 : ∀ b, frI μ I T b → J b := fun b hb => hJ b (by
      rcases hb with hb | ⟨i, hi, hb⟩
      · exact .inl hb
      · exact .inr ⟨i, by simp [hi], hb⟩)
    have h2 := FzL.flat r hI fs hJ2 (fun z hz => hok z (by simp [hz])) hb
    have hokx := hok x (by simp)
    obtain ⟨rv, hvx, hrc⟩ := VRs_whole hokx ha
    have hvy := Fz.vr r hI f hJ1 hvx
    have hnt : ∀ vs, x ≠ .tu vs := by
      rintro vs rfl
      have := hokx.2 (.tu vs) (by simp [V.cells]); simp [V.one] at this
    have hoky := f.okE hokx hnt
    have h1 := hvy.cells (by
      rintro vs rfl
      have := hoky.2 (.tu vs) (by simp [V.cells]); simp [V.one] at this)
    rw [hrc] at h1
    have := h1.append h2
    rw [List.take_append_drop] at this
    rw [hfl2]; exact this
theorem FzL.okEs : ∀ {h : H} {xs ys : List V} {S : List Nat} {e : Nat}, FzL h xs ys S → (∀ x ∈ xs, x.okE e) → ∀ y ∈ ys, y.okE e
  | _, _, _, _, _, .nil, _ => by simp
  | _, _, _, _, _, .cons x y S xs ys T f fs, hok => by
    intro z hz
    rcases List.mem_cons.1 hz with rfl | hz
    · refine f.okE (hok x (by simp)) ?_
      rintro vs rfl
      have := (hok (.tu vs) (by simp)).2 (.tu vs) (by simp [V.cells]); simp [V.one] at this
    · exact FzL.okEs fs (fun z hz => hok z (by simp [hz])) z hz
end

theorem FzS_live : ∀ {h : H} {v v' : V} {S : List Nat}, Fz h v v' S → ∀ id ∈ S, h id ≠ none := by
  intro h v v' S f
  refine Fz.rec (h := h) (motive_1 := fun _ _ S _ => ∀ id ∈ S, h id ≠ none) (motive_2 := fun _ _ S _ => ∀ id ∈ S, h id ≠ none) ?_ ?_ ?_ ?_ ?_ ?_ ?_ ?_ f
  · intro v id hid; simp at hid
  · intro e id hid; simp at hid
  · intro id off len e xs ys S h1 h2 f ih j hj
    rcases List.mem_cons.1 hj with rfl | hj
    · rw [h1]; simp
    · exact ih j hj
  · intro cs ds S f ih; exact ih
  · intro cs ds S f ih; exact ih
  · intro t v v' S f ih; exact ih
  · intro id hid; simp at hid
  · intro x y S xs ys T f fs ih1 ih2 id hid
    rcases List.mem_append.1 hid with h | h
    · exact ih1 id h
    · exact ih2 id h

theorem R.freeze (r : R G μ I h w) {v v' : V} {S : List Nat} {rv : Value} (hv : VR w I μ v rv) (f : Fz h v v' S) {h' : H} (hs : Sub h' h) (hS : ∀ id ∈ S, h' id = none) :
    ∃ J, Ext μ I w μ J w ∧ R G μ J h' w ∧ VR w J μ v' rv := by
  have hx : Ext μ I w μ (frI μ I S) w := ⟨fun _ _ e => e, fun b hb => .inl hb, fun _ _ => rfl, Nat.le_refl _, rfl, rfl, rfl⟩
  have r' := r.sub hs
  refine ⟨frI μ I S, hx, ⟨fun id o e => (r'.obj id o e).ext hx (fun _ _ _ _ => rfl), r'.inj, ?_, r'.mub, ?_, r'.bound, fun g cs e => (r'.glob g cs e).ext hx⟩, Fz.vr r (fun b hb => .inl hb) f (fun b hb => hb) hv⟩
  · rintro b (hb | ⟨id, _, rb, base, e, n, hm, rfl⟩)
    · exact r.imm b hb
    · exact r.mub id _ b hm rfl
  · intro id t rb hid hm hb hI
    rcases hI with hI | ⟨j, hj, rb', base, e, n, hmj, rfl⟩
    · exact r'.notI id t rb hid hm hb hI
    · have hlive := FzS_live f j hj
      have hid2 : h id ≠ none := by
        cases hh : h' id with
        | none => exact absurd hh hid
        | some o => rw [hs id o hh]; simp
      have := r.inj id j t _ rb hid2 hlive hm hmj hb rfl
      subst this
      exact hid (hS id hj)

end
end Go.X
end

section
set_option linter.unusedVariables false
set_option linter.unusedSimpArgs false
namespace Go.X

def Br (t : Bool) (p q : Prop) : Prop := (t = true → p) ∧ (t = false → q)
@[congr] theorem Br_congr {t t' : Bool} {p q : Prop} (e : t = t') : Br t p q = Br t' p q := by rw [e]
theorem Br_true (p q : Prop) : Br true p q = p := by simp [Br]
theorem Br_false (p q : Prop) : Br false p q = q := by simp [Br]
theorem Br_spec {t : Bool} {p q : Prop} (h : Br t p q) : (t = true ∧ p) ∨ (t = false ∧ q) := by
  cases t
  · exact .inr ⟨rfl, h.2 rfl⟩
  · exact .inl ⟨rfl, h.1 rfl⟩

/-- A loop: a state that a number goes with, the number falls. -/
def LoopW (body : (Tm → H → Prop) → Tm → H → Prop) (a : Tm) (h : H) : Prop :=
  ∃ Inv : Nat → Tm → H → Prop, (∃ n, Inv n a h) ∧ ∀ n a h, Inv n a h → body (fun a' h' => ∃ n', n' < n ∧ Inv n' a' h') a h
@[congr] theorem LoopW_congr (body : (Tm → H → Prop) → Tm → H → Prop) (a : Tm) (h : H) : LoopW body a h = LoopW body a h := rfl

theorem LoopW.intro {S : Type} {body : (Tm → H → Prop) → Tm → H → Prop} {a : Tm} {h : H} (st : S → Tm → H → Prop) (m : S → Nat) (s0 : S) (h0 : st s0 a h)
    (step : ∀ s a h, st s a h → body (fun a' h' => ∃ s', m s' < m s ∧ st s' a' h') a h) (mono : ∀ (N N' : Tm → H → Prop) a h, (∀ a h, N a h → N' a h) → body N a h → body N' a h) : LoopW body a h :=
  ⟨fun n a h => ∃ s, m s = n ∧ st s a h, ⟨m s0, s0, rfl, h0⟩, fun n a h hs => by
    obtain ⟨s, rfl, hs⟩ := hs
    exact mono _ _ _ _ (fun a' h' hh => by obtain ⟨s', h1, h2⟩ := hh; exact ⟨m s', h1, s', rfl, h2⟩) (step s a h hs)⟩

def gd (ops : Array Oper) (o : Oper) (a : Tm) (p q : Prop) : Prop :=
  match o.guard with
  | none => p
  | some (g, want) => match (ops[g]?).bind (·.dst) with
    | none => q
    | some t => ob (a t) fun v => match v with
      | .b b => Br (b == want) p q
      | .tu [] => q
      | _ => False

def regW (P : Program) (G : Gl) (ops : Array Oper) (N : Tm → H → Prop) (E : V → H → Prop) : List Oper → Tm → H → Prop
  | [], a, h => N a h
  | o :: os, a, h => gd ops o a (opw P G (rho G a) h (fun v h' => regW P G ops N E os (updO o.dst v a) h') E o.op) (regW P G ops N E os (updO o.dst undefV a) h)

def dstOk (n : Nat) (o : Oper) : Bool := match o.dst with
  | none => true
  | some t => t < n

def drawW (P : Program) (G : Gl) (id : Nat) (ops : Array Oper) (N : Tm → H → Prop) (E : V → H → Prop) (a : Tm) (h : H) : Prop :=
  ∀ (ro : Option Nat) (Q : Exit → Act → World → Prop) (n : Nat) (μ0 : Mu) (I0 : Nat → Prop) (w0 : World) (ds : List Deferred), ops.all (dstOk n) = true →
    (∀ (act : Act) (w : World) (a : Tm) (h : H) (μ : Mu) (I : Nat → Prop), N a h → Ext μ0 I0 w0 μ I w → R G μ I h w → TR w I μ a act.tmps → act.tmps.size = n → act.defers = ds → Q .normal act w) →
    (∀ (act : Act) (w : World) (v : V) (rv : Value) (h : H) (μ : Mu) (I : Nat → Prop), E v h → Ext μ0 I0 w0 μ I w → R G μ I h w → VR w I μ v rv → act.defers = ds → Q (.panic [{ v := rv, recovered := false }]) act w) →
    ∀ (act : Act) (w : World) (μ : Mu) (I : Nat → Prop), Ext μ0 I0 w0 μ I w → R G μ I h w → TR w I μ a act.tmps → act.tmps.size = n → act.defers = ds → (Code.region id ops true).wpIn (FR ro) 0 P Q act w
@[congr] theorem drawW_congr {P : Program} {G : Gl} {id : Nat} {ops : Array Oper} {N : Tm → H → Prop} {E : V → H → Prop} {a a' : Tm} {h h' : H} (e : a = a') (e2 : h = h') : drawW P G id ops N E a h = drawW P G id ops N E a' h' := by rw [e, e2]

/-- A function with a Go body. -/
def goFn (P : Program) (f : FuncId) : Bool := match P.funcs[f]? with
  | some fn => fn.body.isSome && !(fn.name == "runtime.NumGoroutine")
  | none => false

/-- What the end of a range over a function leaves. -/
def rfPost (id : Nat) (a : Tm) (n : Nat) (ps : Array Tmp) (asg body : Code) (X : Nat → Tm → H → Prop) (N R : Tm → H → Prop) (E : V → H → Prop) : Out → H → Prop
  | .ret _, h' => ∃ st pe, h' id = some (.loop st pe a n ps asg body) ∧ st ≠ .busy ∧ match pe with
    | none => N a (h'.del id)
    | some .ret => R a (h'.del id)
    | some (.exit i) => X i a (h'.del id)
    | some _ => False
  | .pan v, h' => E v h'

def codeOkB (r : Bool) (n : Nat) : Code → Bool
  | .region _ ops _ => ops.all (dstOk n)
  | .seq x y => codeOkB r n x && codeOkB r n y
  | .cond _ x y => codeOkB r n x && codeOkB r n y
  | .block _ c => codeOkB r n c
  | .loop c => codeOkB r n c
  | .rangeFunc _ ps x y => !r && (ps.all (fun t => decide (t < n)) && codeOkB true n x && codeOkB true n y)
  | _ => true
def codeOk (n : Nat) (c : Code) : Bool := codeOkB false n c
def roundOk (n : Nat) (ps : Array Tmp) (x y : Code) : Bool := ps.all (fun t => decide (t < n)) && codeOkB true n x && codeOkB true n y

def wp (P : Program) (G : Gl) (R : Tm → H → Prop) (E : V → H → Prop) : Code → (Nat → Tm → H → Prop) → (Tm → H → Prop) → Tm → H → Prop
  | .skip, X, N, a, h => N a h
  | .region id ops d, X, N, a, h => if d then drawW P G id ops N E a h else regW P G ops N E ops.toList a h
  | .seq x y, X, N, a, h => wp P G R E x X (fun a h => wp P G R E y X N a h) a h
  | .cond c x y, X, N, a, h => ob (rho G a c) fun v => match v with
    | .b t => Br t (wp P G R E x X N a h) (wp P G R E y X N a h)
    | _ => False
  | .block id c, X, N, a, h => wp P G R E c (fun i a h => if i = id then N a h else X i a h) N a h
  | .loop c, X, N, a, h => LoopW (fun N' a h => wp P G R E c X N' a h) a h
  | .exit i, X, N, a, h => X i a h
  | .ret, X, N, a, h => R a h
  | .rangeFunc g ps asg body, X, N, a, h => ob (rho G a g) fun fv => match fv with
    | .fn (.func f) first cap => goFn P f = true ∧ New h 0 fun id => ∀ n, roundOk n ps asg body = true → XCalls P G f (first ++ [.yl id] ++ cap) (h.set id (.loop .ready none a n ps asg body)) (rfPost id a n ps asg body X N R E)
    | _ => False
  | _, X, N, a, h => False

@[congr] theorem wp_congr {P : Program} {G : Gl} {R : Tm → H → Prop} {E : V → H → Prop} {c : Code} {X : Nat → Tm → H → Prop} {N : Tm → H → Prop} {a a' : Tm} {h h' : H} (e : a = a') (e2 : h = h') :
    wp P G R E c X N a h = wp P G R E c X N a' h' := by rw [e, e2]
@[congr] theorem regW_congr {P : Program} {G : Gl} {ops : Array Oper} {N : Tm → H → Prop} {E : V → H → Prop} {l : List Oper} {a a' : Tm} {h h' : H} (e : a = a') (e2 : h = h') :
    regW P G ops N E l a h = regW P G ops N E l a' h' := by rw [e, e2]
@[congr] theorem opw_congr {P : Program} {G : Gl} {ρ ρ' : Operand → Option V} {h h' : H} {K E : V → H → Prop} {o : Op} (e : ρ = ρ') (e2 : h = h') : opw P G ρ h K E o = opw P G ρ' h' K E o := by rw [e, e2]
@[congr] theorem gd_congr {ops : Array Oper} {o : Oper} {a a' : Tm} {p q : Prop} (e : a = a') : gd ops o a p q = gd ops o a' p q := by rw [e]

/-- The marks of the loops over functions, on the deferred calls. -/
def marks (bs : List Nat) : List Deferred := bs.map fun b => { target := .collected b, args := #[] }
def Mk (I0 I : Nat → Prop) (w : World) (ds : List Deferred) : Prop := ∃ bs : List Nat, ds = marks bs ∧ bs.Nodup ∧ ∀ b ∈ bs, I b ∧ ¬ I0 b ∧ w.heap[b]? = some (.deferred (some []))
theorem Mk.nil {I0 I : Nat → Prop} {w : World} : Mk I0 I w [] := ⟨[], rfl, .nil, by simp⟩
theorem Mk.ext {I0 I I' : Nat → Prop} {w w' : World} {μ μ' : Mu} {ds : List Deferred} (m : Mk I0 I w ds) (hx : Ext μ I w μ' I' w') : Mk I0 I' w' ds := by
  obtain ⟨bs, h1, h2, h3⟩ := m
  exact ⟨bs, h1, h2, fun b hb => let ⟨h4, h5, h6⟩ := h3 b hb; ⟨hx.im _ h4, h5, (hx.heap _ h4).trans h6⟩⟩

structure St (G : Gl) (n : Nat) (μ0 : Mu) (I0 : Nat → Prop) (w0 : World) (a : Tm) (h : H) (act : Act) (w : World) (μ : Mu) (I : Nat → Prop) : Prop where
  ext : Ext μ0 I0 w0 μ I w
  r : R G μ I h w
  tr : TR w I μ a act.tmps
  size : act.tmps.size = n
  defers : Mk I0 I w act.defers

def RP (G : Gl) (n : Nat) (μ0 : Mu) (I0 : Nat → Prop) (w0 : World) (N R' : Tm → H → Prop) (X : Nat → Tm → H → Prop) (E : V → H → Prop) : Exit → Act → World → Prop
  | .normal, act, w => ∃ a h μ I, N a h ∧ St G n μ0 I0 w0 a h act w μ I
  | .ret, act, w => ∃ a h μ I, R' a h ∧ St G n μ0 I0 w0 a h act w μ I
  | .exit i, act, w => ∃ a h μ I, X i a h ∧ St G n μ0 I0 w0 a h act w μ I
  | .panic chain, act, w => ∃ v rv h μ I, Mk I0 I w act.defers ∧ chain = [{ v := rv, recovered := false }] ∧ E v h ∧ Ext μ0 I0 w0 μ I w ∧ R G μ I h w ∧ VR w I μ v rv
  | .goto _, _, _ => False
  | .outgrown, _, _ => False

section
variable {P : Program} {G : Gl}

theorem TR.put {μ : Mu} {I : Nat → Prop} {w : World} {a : Tm} {act : Act} (ht : TR w I μ a act.tmps) {d : Option Tmp} {v : V} {rv : Value} (hv : VR w I μ v rv) (hd : ∀ t, d = some t → t < act.tmps.size) :
    TR w I μ (updO d v a) (act.put d rv).tmps := by
  cases d with
  | none => exact ht
  | some t =>
    have hlt := hd t rfl
    intro t' v' e
    simp only [updO, upd] at e
    simp only [Act.put]
    split at e
    · rename_i h1; subst h1
      simp only [Option.some.injEq] at e; subst e
      refine ⟨by simpa using hlt, ?_⟩
      simp only [Array.getD_eq_getD_getElem?]
      rw [Array.getElem?_setIfInBounds_self_of_lt hlt]; exact hv
    · rename_i h1
      obtain ⟨h2, h3⟩ := ht t' v' e
      refine ⟨by simpa using h2, ?_⟩
      simp only [Array.getD_eq_getD_getElem?] at h3 ⊢
      rw [Array.getElem?_setIfInBounds_ne (by omega)]; exact h3

theorem act_put_size (act : Act) (d : Option Tmp) (rv : Value) : (act.put d rv).tmps.size = act.tmps.size := by cases d <;> simp [Act.put]
theorem act_put_defers (act : Act) (d : Option Tmp) (rv : Value) : (act.put d rv).defers = act.defers := by cases d <;> rfl

theorem tr_rho {μ : Mu} {I : Nat → Prop} {h : H} {w : World} {a : Tm} {act : Act} (r : R G μ I h w) (ht : TR w I μ a act.tmps) : ∀ x v, rho G a x = some v → VR w I μ v (act.eval x) :=
  fun x v e => rho_spec r ht e

theorem gd_spec {ops : Array Oper} {o : Oper} {a : Tm} {p q : Prop} (hg : gd ops o a p q) {μ : Mu} {I : Nat → Prop} {w : World} {act : Act} (ht : TR w I μ a act.tmps) :
    (Region.wanted o (yielded ops act.tmps) = true ∧ p) ∨ (Region.wanted o (yielded ops act.tmps) = false ∧ q) := by
  unfold gd at hg
  unfold Region.wanted
  cases ho : o.guard with
  | none => simp only [ho] at hg; exact .inl ⟨rfl, hg⟩
  | some gw =>
    obtain ⟨g, want⟩ := gw
    simp only [ho] at hg ⊢
    cases hd : (ops[g]?).bind (·.dst) with
    | none => simp only [hd] at hg; exact .inr ⟨by simp [yielded, hd], hg⟩
    | some t =>
      simp only [hd] at hg
      obtain ⟨v, hv, hg⟩ := ob_spec hg
      obtain ⟨hlt, hvr⟩ := ht t v hv
      have hy : yielded ops act.tmps g = match act.tmps.getD t undef with | .bool b => some b | _ => none := by
        simp only [yielded, hd, Option.bind_some]
        simp only [Array.getD_eq_getD_getElem?]
        rw [Array.getElem?_eq_getElem hlt]
        simp only [Option.getD_some]
        cases act.tmps[t] <;> rfl
      rw [hy]
      split at hg
      · rename_i b
        generalize act.tmps.getD t undef = rv at hvr
        cases hvr
        rcases Br_spec hg with ⟨h1, h2⟩ | ⟨h1, h2⟩
        · exact .inl ⟨by simpa using h1, h2⟩
        · exact .inr ⟨by simpa using h1, h2⟩
      · generalize act.tmps.getD t undef = rv at hvr
        cases hvr
        exact .inr ⟨rfl, hg⟩
      · cases hg

theorem regW_sound (ro : Option Nat) {ops : Array Oper} {n : Nat} {μ0 : Mu} {I0 : Nat → Prop} {w0 : World} {N : Tm → H → Prop} {E : V → H → Prop} {Q : Exit → Act → World → Prop}
    (hN : ∀ (act : Act) (w : World) a h μ I, N a h → St G n μ0 I0 w0 a h act w μ I → Q .normal act w)
    (hE : ∀ (act : Act) (w : World) v rv h μ I, E v h → Ext μ0 I0 w0 μ I w → R G μ I h w → VR w I μ v rv → Mk I0 I w act.defers → Q (.panic [{ v := rv, recovered := false }]) act w)
    (hok : ∀ o ∈ ops.toList, dstOk n o = true) :
    ∀ (l : List Oper) (k : Nat), ops.toList.drop k = l → ∀ (act : Act) (w : World) a h μ I, regW P G ops N E l a h → St G n μ0 I0 w0 a h act w μ I → wpOpsX ro P ops Q (List.range' k l.length) act w := by
  intro l
  induction l with
  | nil => intro k _ act w a h μ I hw hs; exact hN _ _ _ _ _ _ hw hs
  | cons o l ih =>
    intro k hk act w a h μ I hw hs
    have hko : ops[k]? = some o := by
      have := congrArg (·[0]?) hk
      simpa using this
    have hk' : ops.toList.drop (k + 1) = l := by
      rw [← List.drop_drop, hk]; rfl
    have hdst : ∀ t, o.dst = some t → t < act.tmps.size := by
      intro t ht
      have := hok o (List.mem_of_mem_drop (hk ▸ List.mem_cons_self))
      simp only [dstOk, ht] at this
      rw [hs.size]; simpa using this
    simp only [List.length_cons, List.range'_succ, wpOpsX, hko]
    rcases gd_spec hw hs.tr with ⟨h1, h2⟩ | ⟨h1, h2⟩
    · rw [if_pos h1]
      refine opw_sound ro hs.r (tr_rho hs.r hs.tr) h2 ?_ ?_
      · intro v rv h' μ' I' w' hK hx hr hv
        refine ih (k + 1) hk' _ _ _ _ μ' I' hK ⟨hs.ext.trans hx, hr, ?_, by rw [act_put_size]; exact hs.size, by rw [act_put_defers]; exact hs.defers.ext hx⟩
        exact (hs.tr.ext hx).put hv hdst
      · intro v rv h' μ' I' w' hEE hx hr hv
        exact hE _ _ _ _ _ _ _ hEE (hs.ext.trans hx) hr hv (hs.defers.ext hx)
    · rw [if_neg (by rw [h1]; simp)]
      refine ih (k + 1) hk' _ _ _ _ μ I h2 ⟨hs.ext, hs.r, hs.tr.put (.tu _ _ .nil) hdst, by rw [act_put_size]; exact hs.size, by rw [act_put_defers]; exact hs.defers⟩

/-! blocks that are no cells -/
theorem cell_put {w : World} {b : Nat} {o o' : Obj} (h : w.heap[b]? = some o) (ho : ∀ cs T fz, o ≠ .cells cs T fz) : ∀ a v, w.cell? a = some v → (w.putObj b o').cell? a = some v := by
  intro a v hv
  by_cases hb : a.block = b
  · exfalso
    simp only [World.cell?, hb, h] at hv
    cases o <;> simp at hv
    rename_i cs T fz
    exact ho cs T fz rfl
  · rw [cell_of_block (w := w) (World.putObj_heap_other hb)]; exact hv

theorem ObjR.keep {μ : Mu} {I : Nat → Prop} {w w' : World} (hc : ∀ a v, w.cell? a = some v → w'.cell? a = some v) {id : Nat} {o : O} (h : ObjR w I μ id o)
    (hb : ∀ t rb, μ id = some t → t.block = some rb → w'.heap[rb]? = w.heap[rb]?) : ObjR w' I μ id o := by
  cases o with
  | row e xs =>
    refine ⟨h.1, ?_⟩
    rcases h.2 with ⟨h1, h2⟩ | ⟨rb, base, n, rcs, T, fz, rs, h⟩
    · exact .inl ⟨h1, h2⟩
    · refine .inr ⟨rb, base, n, rcs, T, fz, rs, h.mu, ?_, h.size, h.fit, h.free, VRs.keep hc h.vrs, h.cell, h.ty⟩
      rw [hb _ _ h.mu rfl]; exact h.blk
  | map es =>
    obtain ⟨rb, ents, clock, h1, h2, h3, h4⟩ := h
    exact ⟨rb, ents, clock, h1, by rw [hb _ _ h1 rfl]; exact h2, VRs.keep hc h3, VRs.keep hc h4⟩
  | iter l pos =>
    obtain ⟨rb, h1, h2⟩ := h
    exact ⟨rb, h1, by rw [hb _ _ h1 rfl]; exact h2⟩
  | loop =>
    obtain ⟨rb, r, h1, h2, h3, h4, h5, h6, h7, h8, h9⟩ := h
    exact ⟨rb, r, h1, by rw [hb _ _ h1 rfl]; exact h2, h3, h4, h5, h6, h7, h8, fun t v e => ⟨(h9 t v e).1, (h9 t v e).2.keep hc⟩⟩

/-- A block that holds no cells, and that no live id stands at, turns. -/
theorem R.put {μ : Mu} {I : Nat → Prop} {h : H} {w : World} (r : R G μ I h w) {b : Nat} {o o' : Obj} (hb : w.heap[b]? = some o) (ho : ∀ cs T fz, o ≠ .cells cs T fz)
    (hfree : ∀ id t, h id ≠ none → μ id = some t → t.block ≠ some b) : R G μ I h (w.putObj b o') := by
  have hc := cell_put (o' := o') hb ho
  refine ⟨fun id o e => (r.obj id o e).keep hc fun t rb m tb => World.putObj_heap_other (fun hh => hfree id t (by rw [e]; simp) m (by rw [← hh]; exact tb)), r.inj, fun b hb => by rw [World.putObj_size]; exact r.imm b hb, fun id t rb m tb => by rw [World.putObj_size]; exact r.mub id t rb m tb, r.notI, r.bound, fun g cs e => (r.glob g cs e).keep hc⟩

theorem Ext.put {μ0 μ : Mu} {I0 I : Nat → Prop} {w0 w : World} (hx : Ext μ0 I0 w0 μ I w) {b : Nat} (o' : Obj) (hb : ¬ I0 b) : Ext μ0 I0 w0 μ I (w.putObj b o') :=
  ⟨hx.mu, hx.im, fun c hc => (World.putObj_heap_other (fun e => hb (by rw [← e]; exact hc))).trans (hx.heap c hc), by rw [World.putObj_size]; exact hx.size, hx.os, hx.tape, hx.output⟩

/-- A new block that nobody writes. -/
theorem R.newI {μ : Mu} {I : Nat → Prop} {h : H} {w : World} (r : R G μ I h w) (o : Obj) :
    Ext μ I w μ (fun b => I b ∨ b = w.heap.size) (w.alloc o) ∧ R G μ (fun b => I b ∨ b = w.heap.size) h (w.alloc o) := by
  have hpush : ∀ b, b < w.heap.size → (w.alloc o).heap[b]? = w.heap[b]? := fun b hb => RowKit.Below.heap_alloc w o b hb
  have hx : Ext μ I w μ (fun b => I b ∨ b = w.heap.size) (w.alloc o) := ⟨fun _ _ e => e, fun _ hb => .inl hb, fun b hb => hpush b (r.imm b hb), by simp, rfl, rfl, rfl⟩
  refine ⟨hx, ⟨fun id o e => (r.obj id o e).ext hx fun t rb m tb => hpush rb (r.mub id t rb m tb), r.inj, ?_, ?_, ?_, r.bound, fun g cs e => (r.glob g cs e).ext hx⟩⟩
  · rintro b (hb | rfl)
    · have := r.imm b hb; simp; omega
    · simp
  · intro id t rb m tb; have := r.mub id t rb m tb; simp; omega
  · rintro id t rb a m tb (hI | rfl)
    · exact r.notI id t rb a m tb hI
    · have := r.mub id t _ m tb; omega

/-- The record of a loop turns. -/
theorem R.setLoop {μ : Mu} {I : Nat → Prop} {h : H} {w : World} (r : R G μ I h w) {id rb : Nat} {st : LoopState} {pe : Option Code} {a : Tm} {n : Nat} {ps : Array Tmp} {asg body : Code}
    (hid : h id = some (.loop st pe a n ps asg body)) (hm : μ id = some (.obj rb)) : ∃ rc : Loop, w.heap[rb]? = some (.loop rc) ∧ rc.state = st ∧ rc.pending = pe ∧ rc.params = ps ∧ rc.assign = asg ∧ rc.body = body ∧ rc.tmps.size = n ∧ TR w I μ a rc.tmps ∧
      ∀ st' pe', Ext μ I w μ I (w.putObj rb (.loop { rc with state := st', pending := pe' })) ∧ R G μ I (h.set id (.loop st' pe' a n ps asg body)) (w.putObj rb (.loop { rc with state := st', pending := pe' })) := by
  obtain ⟨rb', rc, h1, h2, h3, h4, h5, h6, h7, h8, h9⟩ := r.obj id _ hid
  rw [hm] at h1; cases h1
  refine ⟨rc, h2, h3, h4, h5, h6, h7, h8, h9, fun st' pe' => ?_⟩
  have hnI : ¬ I rb := r.notI id _ rb (by rw [hid]; simp) hm rfl
  have hx : Ext μ I w μ I (w.putObj rb (.loop { rc with state := st', pending := pe' })) := (Ext.refl μ I w).put _ hnI
  have hlt : rb < w.heap.size := (Array.getElem?_eq_some_iff.1 h2).1
  refine ⟨hx, r.step hx _ (fun j => j = id) ?_ ?_ ?_ ?_ ?_ ?_ ?_ r.bound⟩
  · intro j o e hd; simpa [H.set, hd] using e
  · intro j o e hd
    subst hd
    simp [H.set] at e; subst e
    exact ⟨rb, _, hm, World.putObj_heap_same hlt, rfl, rfl, h5, h6, h7, h8, h9.ext hx⟩
  · intro j o t b e hd m tb
    refine World.putObj_heap_other fun hbb => ?_
    subst hbb
    refine hd (r.inj j id t _ b ?_ (by rw [hid]; simp) m hm tb rfl)
    have : h j = some o := by simpa [H.set, hd] using e
    rw [this]; simp
  · intro j j' t t' b a a' hd m m' tb tb'
    subst hd
    by_cases hj : j' = j
    · exact hj.symm
    · exact r.inj j j' t t' b (by rw [hid]; simp) (by simpa [H.set, hj] using a') m m' tb tb'
  · intro b hb; rw [World.putObj_size]; exact r.imm b hb
  · intro j t b m tb; rw [World.putObj_size]; exact r.mub j t b m tb
  · intro j t b a m tb
    by_cases hj : j = id
    · subst hj; exact r.notI j t b (by rw [hid]; simp) m tb
    · exact r.notI j t b (by simpa [H.set, hj] using a) m tb

theorem least (p : Nat → Prop) (h : ∃ n, p n) : ∃ n, p n ∧ ∀ m, p m → n ≤ m := by
  obtain ⟨n, hn⟩ := h
  induction n using Nat.strongRecOn with
  | _ n ih =>
    by_cases hm : ∃ m, m < n ∧ p m
    · obtain ⟨m, h1, h2⟩ := hm; exact ih m h1 h2
    · exact ⟨n, hn, fun m hm' => by
        rcases Nat.lt_or_ge m n with h | h
        · exact absurd ⟨m, h, hm'⟩ hm
        · exact h⟩

theorem wp_sound (rr : Bool) (ro : Option Nat) (hrr : rr = false → ro = none) {n : Nat} {μ0 : Mu} {I0 : Nat → Prop} {w0 : World} {R' : Tm → H → Prop} {E : V → H → Prop} : ∀ (c : Code) (X : Nat → Tm → H → Prop) (N : Tm → H → Prop) (a : Tm) (h : H) (act : Act) (w : World) (μ : Mu) (I : Nat → Prop),
    wp P G R' E c X N a h → codeOkB rr n c = true → St G n μ0 I0 w0 a h act w μ I → c.wpIn (FR ro) 0 P (RP G n μ0 I0 w0 N R' X E) act w := by
  intro c
  induction c with
  | skip => intro X N a h act w μ I hw _ hs; exact wpIn_skip ⟨a, h, μ, I, hw, hs⟩
  | region id ops d =>
    intro X N a h act w μ I hw hok hs
    simp only [codeOkB] at hok
    cases d with
    | false =>
      simp only [wp, Bool.false_eq_true, if_false] at hw
      refine wpX_region ?_
      rw [List.range_eq_range']
      have := regW_sound ro (P := P) (ops := ops) (Q := RP G n μ0 I0 w0 N R' X E) (N := N) (E := E) (fun act w a h μ I hn hs => ⟨a, h, μ, I, hn, hs⟩)
        (fun act w v rv h μ I he hx hr hv hd => ⟨v, rv, h, μ, I, hd, rfl, he, hx, hr, hv⟩) (by
          intro o ho
          simp only [Array.all_eq_true_iff_forall_mem] at hok
          exact hok o (by simpa using ho)) ops.toList 0 rfl act w a h μ I hw hs
      simpa using this
    | true =>
      simp only [wp, if_true] at hw
      exact hw ro _ n μ I w act.defers hok (fun act' w' a h μ' I' hn h1 h2 h3 h4 h5 => ⟨a, h, μ', I', hn, hs.ext.trans h1, h2, h3, h4, by rw [h5]; exact hs.defers.ext h1⟩)
        (fun act' w' v rv h μ' I' he hx hr hv hd => ⟨v, rv, h, μ', I', by rw [hd]; exact hs.defers.ext hx, rfl, he, hs.ext.trans hx, hr, hv⟩) act w μ I (.refl _ _ _) hs.r hs.tr hs.size rfl
  | seq x y ihx ihy =>
    intro X N a h act w μ I hw hok hs
    simp only [codeOkB, Bool.and_eq_true] at hok
    simp only [wp] at hw
    refine Go.wpIn_seq (wpIn_mono (ihx _ _ _ _ _ _ μ I hw hok.1 hs) ?_)
    intro e act' w' he
    cases e with
    | normal =>
      obtain ⟨a', h', μ', I', h1, h2⟩ := he
      exact ihy _ _ _ _ _ _ μ' I' h1 hok.2 h2
    | _ => exact he
  | cond c x y ihx ihy =>
    intro X N a h act w μ I hw hok hs
    simp only [codeOkB, Bool.and_eq_true] at hok
    simp only [wp] at hw
    obtain ⟨v, hv, hw⟩ := ob_spec hw
    split at hw
    · rename_i t
      have hvr := tr_rho hs.r hs.tr _ _ hv
      generalize hrc : act.eval c = rc at hvr
      cases hvr
      refine wpIn_cond_split hrc (fun ht => ?_) (fun ht => ?_)
      · exact ihx _ _ _ _ _ _ μ I (hw.1 ht) hok.1 hs
      · exact ihy _ _ _ _ _ _ μ I (hw.2 ht) hok.2 hs
    · cases hw
  | block id c ih =>
    intro X N a h act w μ I hw hok hs
    simp only [codeOkB] at hok
    simp only [wp] at hw
    refine Go.wpIn_block (wpIn_mono (ih _ _ _ _ _ _ μ I hw hok hs) ?_)
    intro e act' w' he
    cases e with
    | exit i =>
      obtain ⟨a', h', μ', I', h1, h2⟩ := he
      simp only [Exit.inBlock]
      split
      · rename_i hi; rw [if_pos hi] at h1; exact ⟨a', h', μ', I', h1, h2⟩
      · rename_i hi; rw [if_neg hi] at h1; exact ⟨a', h', μ', I', h1, h2⟩
    | _ => exact he
  | loop c ih =>
    intro X N a h act w μ I hw hok hs
    simp only [codeOkB] at hok
    simp only [wp] at hw
    obtain ⟨Inv, ⟨n0, h0⟩, hstep⟩ := hw
    classical
    let p : Act → World → Nat → Prop := fun act w k => ∃ a h μ I, Inv k a h ∧ St G n μ0 I0 w0 a h act w μ I
    let m : Act → World → Nat := fun act w => if hp : ∃ k, p act w k then Classical.choose (least _ hp) else 0
    have hm : ∀ act w k, p act w k → p act w (m act w) ∧ m act w ≤ k := by
      intro act w k hk
      have hp : ∃ k, p act w k := ⟨k, hk⟩
      have := Classical.choose_spec (least _ hp)
      simp only [m, dif_pos hp]
      exact ⟨this.1, this.2 k hk⟩
    refine Go.wpIn_loop (fun act w => ∃ k, p act w k) m ⟨n0, a, h, μ, I, h0, hs⟩ ?_
    intro act' w' hp
    obtain ⟨k, hk⟩ := hp
    obtain ⟨a1, h1, μ1, I1, h2, h3⟩ := (hm act' w' k hk).1
    refine wpIn_mono (ih X _ a1 h1 act' w' μ1 I1 (hstep _ _ _ h2) hok h3) ?_
    intro e act2 w2 he
    cases e with
    | normal =>
      obtain ⟨a2, h2, μ2, I2, ⟨k2, h4, h5⟩, h6⟩ := he
      have : p act2 w2 k2 := ⟨a2, h2, μ2, I2, h5, h6⟩
      exact ⟨⟨k2, this⟩, Nat.lt_of_le_of_lt (hm _ _ _ this).2 h4⟩
    | _ => exact he
  | exit i => intro X N a h act w μ I hw _ hs; exact wpIn_exit ⟨a, h, μ, I, hw, hs⟩
  | ret => intro X N a h act w μ I hw _ hs; exact wpIn_ret ⟨a, h, μ, I, hw, hs⟩
  | rangeFunc g ps asg body ih1 ih2 =>
    intro X N a h act w μ I hw hok hs
    simp only [codeOkB, Bool.and_eq_true, Bool.not_eq_true'] at hok
    obtain ⟨hr0, hrok⟩ := hok
    have := hrr hr0
    subst this
    simp only [wp] at hw
    obtain ⟨fv, hfv, hw⟩ := ob_spec hw
    split at hw
    · rename_i f first cap
      obtain ⟨hgo, hnew⟩ := hw
      have hvr := tr_rho hs.r hs.tr _ _ hfv
      generalize hrg : act.eval g = rg at hvr
      cases hvr with
      | fn _ _ _ r1 r2 hv1 hv2 =>
        refine wpIn_rangeFunc fun fn _ => ?_
        obtain ⟨hx0, hr0'⟩ := hs.r.newI (.deferred (some []))
        obtain ⟨W0, hW0⟩ : ∃ W0, W0 = w.alloc (.deferred (some [])) := ⟨_, rfl⟩
        rw [← hW0] at hx0 hr0'
        have hs0 : W0.heap.size = w.heap.size + 1 := by rw [hW0]; simp
        have hD0 : W0.heap[w.heap.size]? = some (.deferred (some [])) := by rw [hW0]; exact World.alloc_heap_new w _
        obtain ⟨id, h1, h2, h3⟩ := hr0'.freshNew hnew
        obtain ⟨rec, hrec⟩ : ∃ rec : Loop, rec = { state := .ready, pending := none, fn, tmps := act.tmps, params := ps, assign := asg, body, defers := w.heap.size } := ⟨_, rfl⟩
        obtain ⟨W1, hW1⟩ : ∃ W1, W1 = W0.alloc (.loop rec) := ⟨_, rfl⟩
        obtain ⟨hx1, hr1⟩ := hr0'.new h1 W1 (.obj W0.heap.size) (.loop .ready none a n ps asg body) (fun b hb => by rw [hW1]; exact RowKit.Below.heap_alloc _ _ b hb) (by rw [hW1]; simp) (by rw [hW1]; rfl) (by rw [hW1]; rfl) (by rw [hW1]; rfl) (.inl rfl)
          (fun hx => ⟨W0.heap.size, rec, Mu.set_same _ _ _, by rw [hW1]; exact World.alloc_heap_new _ _, by rw [hrec], by rw [hrec], by rw [hrec], by rw [hrec], by rw [hrec], by rw [hrec]; exact hs.size, by rw [hrec]; exact (hs.tr.ext hx0).ext hx⟩)
        have hx01 := hx0.trans hx1
        have hargs : VRs W1 (fun b => I b ∨ b = w.heap.size) (μ.set id (.obj W0.heap.size)) (first ++ [.yl id] ++ cap) (r1 ++ [.func (.yield W0.heap.size) #[] #[]] ++ r2) :=
          ((hv1.ext hx01).append (.cons _ _ _ _ (.yl _ _ (Mu.set_same _ _ _)) .nil)).append (hv2.ext hx01)
        have hc := h3 n (by simp only [roundOk, Bool.and_eq_true]; exact hrok) _ _ W1 _ hr1 hargs
        have hent : (callFunc f ⟨r1 ++ [.func (.yield W0.heap.size) #[] #[]] ++ r2⟩).run P W1 = .ok (.enter f ⟨r1 ++ [.func (.yield W0.heap.size) #[] #[]] ++ r2⟩) W1 := by
          unfold goFn at hgo
          cases hpf : P.funcs[f]? with
          | none => rw [hpf] at hgo; cases hgo
          | some fn' =>
            rw [hpf] at hgo
            simp only [Bool.and_eq_true, Bool.not_eq_true'] at hgo
            obtain ⟨bd, hbd⟩ := Option.isSome_iff_exists.1 hgo.1
            exact MuLone.run_callFunc_enter hpf hgo.2 hbd _ _
        have hcalls : Calls P f ⟨r1 ++ [.func (.yield W0.heap.size) #[] #[]] ++ r2⟩ W1 (CPost G (μ.set id (.obj W0.heap.size)) (fun b => I b ∨ b = w.heap.size) W1 (rfPost id a n ps asg body X N R' E)) := by
          rcases hc with ⟨_, hc⟩ | ⟨rv, w', hc, _⟩
          · exact hc
          · rw [hent] at hc; cases hc
        have hmark : ∀ {μ' : Mu} {I' : Nat → Prop} {w' : World}, Ext (μ.set id (.obj W0.heap.size)) (fun b => I b ∨ b = w.heap.size) W1 μ' I' w' → Mk I0 I' w' ({ target := .collected w.heap.size, args := #[] } :: act.defers) := by
          intro μ' I' w' hx
          obtain ⟨bs, h4, h5, h6⟩ := hs.defers.ext (hx01.trans hx)
          have hbs : ∀ b ∈ bs, b < w.heap.size := by
            intro b hb
            obtain ⟨bs', h7, h8, h9⟩ := hs.defers
            have : marks bs = marks bs' := by rw [← h4, h7]
            have hinj : ∀ (l l' : List Nat), marks l = marks l' → l = l' := by
              intro l
              induction l with
              | nil => intro l' e; cases l' with
                | nil => rfl
                | cons x l' => simp [marks] at e
              | cons x l ih => intro l' e; cases l' with
                | nil => simp [marks] at e
                | cons y l' =>
                  simp only [marks, List.map_cons, List.cons.injEq, Deferred.mk.injEq, Target.collected.injEq, and_true] at e
                  rw [e.1, ih l' e.2]
            rw [hinj _ _ this] at hb
            exact (Array.getElem?_eq_some_iff.1 (h9 b hb).2.2).1
          refine ⟨w.heap.size :: bs, by rw [h4]; rfl, List.nodup_cons.2 ⟨fun hm => by have := hbs _ hm; omega, h5⟩, ?_⟩
          intro b hb
          rcases List.mem_cons.1 hb with rfl | hb
          · refine ⟨hx.im _ (.inr rfl), fun hI0 => ?_, ?_⟩
            · have := hs.r.imm _ (hs.ext.im _ hI0); omega
            · rw [hx.heap _ (.inr rfl), hx1.heap _ (.inr rfl)]; exact hD0
          · exact h6 b hb
        refine ⟨W0.heap.size, [{ target := .collected w.heap.size, args := #[] }], W1, { target := .fn (.func f) ⟨r2⟩, args := ⟨r1⟩ ++ #[.func (.yield W0.heap.size) #[] #[]] }, W1, f, ⟨r1 ++ [.func (.yield W0.heap.size) #[] #[]] ++ r2⟩, W1, ?_, ?_, fun _ _ => trivial, ?_, fun hc => by simp [FR, Fence.wide] at hc, ?_⟩
        · show (Instr.enterLoop fn act.tmps ps asg body none).run P w = _
          rw [run_enterLoop_outer, hs0, hW1, hrec, hW0]
        · simp only [resolve, hrg]
          simp [go_sem]
        · simp only [invoke]
          have : (⟨r1⟩ : Array Value) ++ #[.func (.yield W0.heap.size) #[] #[]] ++ (⟨r2⟩ : Array Value) = ⟨r1 ++ [.func (.yield W0.heap.size) #[] #[]] ++ r2⟩ := by apply Array.ext'; simp
          simp only [this]
          simpa [go_sem] using hent
        · refine CallsIn.mono (calls_FR.2 hcalls) fun e w3 hce => ?_
          obtain ⟨oo, h', μ', I', h4, hx3, hr3, h6⟩ := hce
          · cases oo with
            | ret v =>
              cases e <;> first | (cases h6; done) | skip
              obtain ⟨st, pe, hid', hst, hm⟩ := h4
              have hmu : μ' id = some (.obj W0.heap.size) := hx3.mu _ _ (Mu.set_same _ _ _)
              obtain ⟨rc, g1, g2, g3, g4, g5, g6, g7, g8, -⟩ := hr3.setLoop hid' hmu
              have hend := run_endLoop (P := P) g1 (by rw [g2]; exact hst)
              rw [g3] at hend
              have hnI : ¬ I' W0.heap.size := hr3.notI id _ _ (by rw [hid']; simp) hmu rfl
              have hsub : Sub (h'.del id) h' := by
                intro j o e; unfold H.del at e; split at e
                · cases e
                · exact e
              have hr4 : R G μ' I' (h'.del id) (w3.putObj W0.heap.size (.loop { rc with state := .exhausted })) := (hr3.sub hsub).put g1 (by simp) (by
                intro j t hj m tb
                have hji : j ≠ id := by rintro rfl; simp [H.del] at hj
                refine hji (hr3.inj j id t _ _ ?_ (by rw [hid']; simp) m hmu tb rfl)
                simpa [H.del, hji] using hj)
              have hx4 : Ext (μ.set id (.obj W0.heap.size)) (fun b => I b ∨ b = w.heap.size) W1 μ' I' (w3.putObj W0.heap.size (.loop { rc with state := .exhausted })) := hx3.put _ (fun hI => hnI (hx3.im _ hI))
              have hst4 : St G n μ0 I0 w0 a (h'.del id) { act with defers := [{ target := .collected w.heap.size, args := #[] }] ++ act.defers } (w3.putObj W0.heap.size (.loop { rc with state := .exhausted })) μ' I' :=
                ⟨hs.ext.trans (hx01.trans hx4), hr4, hs.tr.ext (hx01.trans hx4), hs.size, hmark hx4⟩
              rw [g3] at hst4
              refine ⟨pe, _, hend, ?_⟩
              cases pe with
              | none => exact ⟨a, _, μ', I', hm, hst4⟩
              | some c =>
                cases c <;> first | (cases hm; done) | skip
                · exact wpIn_exit ⟨a, _, μ', I', hm, hst4⟩
                · exact wpIn_ret ⟨a, _, μ', I', hm, hst4⟩
            | pan v =>
              cases e <;> first | (cases h6; done) | skip
              obtain ⟨rv, rfl, h7⟩ := h6
              exact ⟨v, rv, h', μ', I', hmark hx3, rfl, h4, hs.ext.trans (hx01.trans hx3), hr3, h7⟩
    · cases hw
  | _ => intros; rename_i hw _ _; cases hw

/-! entering a function -/
def resV (P : Program) (h : H) (a : Tm) : List ResultVar → Option (List V)
  | [] => some []
  | .tmp t :: rs => (a t).bind fun v => (resV P h a rs).bind fun vs => some (v :: vs)
  | .cell t ty :: rs => (a t).bind fun p => (ptrCells h p).bind fun cs => (loadFrom (tld P ty) cs).bind fun v => (resV P h a rs).bind fun vs => some (v :: vs)

def oneOr : List V → V
  | [v] => v
  | vs => .tu vs

def resW (P : Program) (rs : List ResultVar) (Q : Out → H → Prop) (a : Tm) (h : H) : Prop :=
  ob (resV P h a rs) fun vs => ∃ h' v' S, Fz h (oneOr vs) v' S ∧ Sub h' h ∧ (∀ id ∈ S, h' id = none) ∧ Q (.ret v') h'

def argTm (args : List V) : Tm := fun t => args[t]?

def rdRes (tmps : Array Value) : ResultVar → Sem Value
  | .tmp t => pure (tmps.getD t undef)
  | .cell b t => do loadVar t (← asAddr (tmps.getD b undef))

theorem results_eq (fn : Func) (tmps : Array Value) : results fn tmps = (do let vs ← fn.results.mapM (rdRes tmps); pure (if h : vs.size = 1 then vs[0] else .tuple vs)) := rfl

theorem resV_spec {μ : Mu} {I : Nat → Prop} {h : H} {w : World} {a : Tm} {tmps : Array Value} (r : R G μ I h w) (ht : TR w I μ a tmps) : ∀ (rs : List ResultVar) {vs : List V}, resV P h a rs = some vs →
    ∃ rvs : List Value, (rs.mapM (rdRes tmps)).run P w = .ok rvs w ∧ VRs w I μ vs rvs
  | [], vs, hv => by simp [resV] at hv; subst hv; exact ⟨[], rfl, .nil⟩
  | .tmp t :: rs, vs, hv => by
    simp only [resV, Option.bind_eq_some_iff, Option.some.injEq] at hv
    obtain ⟨v, h1, vs, h2, rfl⟩ := hv
    obtain ⟨rvs, h3, h4⟩ := resV_spec r ht rs h2
    refine ⟨tmps.getD t undef :: rvs, ?_, .cons _ _ _ _ (ht t v h1).2 h4⟩
    simp only [List.mapM_cons, rdRes, Sem.run_bind, Sem.run_pure, Result.andThen_ok, h3]
  | .cell t ty :: rs, vs, hv => by
    simp only [resV, Option.bind_eq_some_iff, Option.some.injEq] at hv
    obtain ⟨p, h1, cs, h5, v, h6, vs, h2, rfl⟩ := hv
    obtain ⟨rvs, h3, h4⟩ := resV_spec r ht rs h2
    obtain ⟨b, o, rs', he, hvr, hcell, hone⟩ := ptrCells_spec r (ht t p h1).2 h5
    obtain ⟨rv, h7, h8⟩ := run_loadVar (P := P) h6 hvr hcell hone
    refine ⟨rv :: rvs, ?_, .cons _ _ _ _ h8 h4⟩
    have ha : (asAddr (.pointer (some ⟨b, o, none⟩))).run P w = .ok ⟨b, o, none⟩ w := rfl
    simp only [List.mapM_cons, rdRes, Sem.run_bind, he, ha, Sem.run_pure, Result.andThen_ok, h7, h3]

theorem run_results {fn : Func} {μ : Mu} {I : Nat → Prop} {h : H} {w : World} {a : Tm} {tmps : Array Value} (r : R G μ I h w) (ht : TR w I μ a tmps) {vs : List V} (hv : resV P h a fn.results.toList = some vs) :
    ∃ rv, (results fn tmps).run P w = .ok rv w ∧ VR w I μ (oneOr vs) rv := by
  obtain ⟨rvs, h1, h2⟩ := resV_spec r ht _ hv
  have hm : (fn.results.mapM (rdRes tmps)).run P w = .ok ⟨rvs⟩ w := by
    rw [Array.mapM_eq_mapM_toList]
    simp only [map_eq_pure_bind, Sem.run_bind, h1, Result.andThen_ok, Sem.run_pure]
  have hl := h2.length
  have key : (results fn tmps).run P w = .ok (if h : (⟨rvs⟩ : Array Value).size = 1 then (⟨rvs⟩ : Array Value)[0] else .tuple ⟨rvs⟩) w := by
    rw [results_eq, Sem.run_bind, hm]
    simp only [Result.andThen_ok, Sem.run_pure]
  refine ⟨_, key, ?_⟩
  cases h2 with
  | nil => exact .tu _ _ .nil
  | cons v rv vs rvs hv1 hvs =>
    cases hvs with
    | nil => exact hv1
    | cons v2 rv2 vs rvs hv2 hvs => exact .tu _ _ (.cons _ _ _ _ hv1 (.cons _ _ _ _ hv2 hvs))

/-- The marks are taken off on the way out. -/
theorem leaves_marks {fn : Func} {tmps : Array Value} {Rr : Ending → World → Prop} {u : FrameMode} (hu : u ≠ .run) {μ0 μ : Mu} {I0 I : Nat → Prop} {h : H} {w0 : World} :
    ∀ (bs : List Nat) (w : World), bs.Nodup → R G μ I h w → Ext μ0 I0 w0 μ I w → (∀ b ∈ bs, I b ∧ ¬ I0 b ∧ w.heap[b]? = some (.deferred (some []))) →
      (∀ w', R G μ I h w' → Ext μ0 I0 w0 μ I w' → (∀ v rv, VR w I μ v rv → VR w' I μ v rv) → LeavesIn Fence.wide 0 P fn tmps Rr [] u w') → LeavesInM Fence.wide 0 P fn tmps Rr (marks bs) u w
  | [], w, _, r, hx, _, hk => hk w r hx fun _ _ hv => hv
  | b :: bs, w, hnd, r, hx, hb, hk => by
    obtain ⟨h1, h2, h3⟩ := hb b (by simp)
    have hc := cell_put (o' := .deferred none) h3 (by simp)
    refine ⟨hu, .inl ⟨b, _, rfl, run_takeDeferred h3, leaves_marks hu bs _ (List.nodup_cons.1 hnd).2 (r.put h3 (by simp) (fun id t hid m tb => r.notI id t b hid m tb h1)) (hx.put _ h2) ?_ ?_⟩⟩
    · intro c hcb
      obtain ⟨h4, h5, h6⟩ := hb c (by simp [hcb])
      exact ⟨h4, h5, by rw [World.putObj_heap_other (by rintro rfl; exact (List.nodup_cons.1 hnd).1 hcb)]; exact h6⟩
    · intro w' hr' hx' hv'
      exact hk w' hr' hx' fun v rv hv => hv' v rv (hv.keep hc)

theorem enter {f : FuncId} {fn : Func} {body : Code} (hf : P.funcs[f]? = some fn) (hn : (fn.name == "runtime.NumGoroutine") = false) (hb : fn.body = some body) (hok : codeOk fn.ntmps body = true)
    {args : List V} {h : H} {Q : Out → H → Prop}
    (hw : (∀ v ∈ args, v.bd) → wp P G (resW P fn.results.toList Q) (fun v h' => Q (.pan v) h') body (fun _ _ _ => False) (resW P fn.results.toList Q) (argTm args) h) (hlen : args.length ≤ fn.ntmps) :
    XCalls P G f args h Q := by
  intro μ I w rargs r hv
  refine .inl ⟨MuLone.run_callFunc_enter hf hn hb _ _, ?_⟩
  have hal := hv.length
  have hbd : ∀ v ∈ args, v.bd := by
    intro v hm
    obtain ⟨j, hj⟩ := List.getElem?_of_mem hm
    obtain ⟨rv, _, h2⟩ := hv.get hj
    exact h2.bd
  refine (callsIn_wide (n := 0)).1 (callsIn_of_wp_marks hf hb trivial ?_)
  have hs : St G fn.ntmps μ I w (argTm args) h { tmps := (⟨rargs⟩ : Array Value) ++ Array.replicate (fn.ntmps - (⟨rargs⟩ : Array Value).size) undef, defers := [] } w μ I := by
    refine ⟨.refl _ _ _, r, ?_, ?_, .nil⟩
    · intro t v e
      have hlt : t < args.length := (List.getElem?_eq_some_iff.1 e).1
      obtain ⟨rv, h1, h2⟩ := hv.get e
      refine ⟨by simp; omega, ?_⟩
      simp only [Array.getD_eq_getD_getElem?]
      rw [Array.getElem?_append_left (by simp; omega)]
      simp only [List.getElem?_toArray, h1, Option.getD_some]; exact h2
    · simp; omega
  refine wpIn_mono (wp_sound false none (fun _ => rfl) body _ _ _ _ _ _ μ I (hw hbd) hok hs) ?_
  have fin : ∀ act w', (∃ a h μ' I', resW P fn.results.toList Q a h ∧ St G fn.ntmps μ I w a h act w' μ' I') → LeavesInM Fence.wide 0 P fn act.tmps (CPost G μ I w Q) act.defers .returning w' := by
    intro act w' he
    obtain ⟨a, h', μ', I', hr, hs⟩ := he
    obtain ⟨vs, h1, h2, v2, S, h3, h4, h7, h8⟩ := ob_spec hr
    obtain ⟨bs, hb1, hb2, hb3⟩ := hs.defers
    rw [hb1]
    refine leaves_marks (by simp) bs w' hb2 hs.r hs.ext hb3 fun w2 hr2 hx2 hv2 => ?_
    have htr : TR w2 I' μ' a act.tmps := fun t v e => ⟨(hs.tr t v e).1, hv2 _ _ (hs.tr t v e).2⟩
    obtain ⟨rv, h5, h6⟩ := run_results (fn := fn) hr2 htr h1
    obtain ⟨J, hx, hr3, hv3⟩ := hr2.freeze h6 h3 h4 h7
    exact ⟨rv, h5, ⟨_, h2, μ', J, h8, hx2.trans hx, hr3, hv3⟩⟩
  intro e act w' he
  cases e with
  | normal => exact fin _ _ he
  | ret => exact fin _ _ he
  | exit i => obtain ⟨_, _, _, _, h, _⟩ := he; exact h.elim
  | goto l => exact he.elim
  | outgrown => exact he.elim
  | panic chain =>
    obtain ⟨v, rv, h', μ', I', ⟨bs, hb1, hb2, hb3⟩, rfl, h1, h2, h3, h4⟩ := he
    show LeavesInM _ _ _ _ _ _ act.defers _ _
    rw [hb1]
    refine leaves_marks (by simp) bs w' hb2 h3 h2 hb3 fun w2 hr2 hx2 hv2 => ?_
    exact ⟨_, h', μ', I', h1, hx2, hr2, rv, rfl, hv2 _ _ h4⟩

/-! a round -/
def putA : List Tmp → List V → Tm → Tm
  | t :: ts, v :: vs, a => putA ts vs (upd t v a)
  | _, _, a => a

theorem putA_spec {μ : Mu} {I : Nat → Prop} {w : World} : ∀ (ps : List Tmp) (vs : List V) (rvs : List Value) (a : Tm) (tmps : Array Value), TR w I μ a tmps → VRs w I μ vs rvs → (∀ t ∈ ps, t < tmps.size) →
    TR w I μ (putA ps vs a) ((ps.zip rvs).foldl (fun tmps p => tmps.setIfInBounds p.1 p.2) tmps) ∧ ((ps.zip rvs).foldl (fun tmps p => tmps.setIfInBounds p.1 p.2) tmps).size = tmps.size
  | [], vs, rvs, a, tmps, ht, hv, hl => by simpa [putA] using ht
  | t :: ts, [], rvs, a, tmps, ht, hv, hl => by cases hv; simpa [putA] using ht
  | t :: ts, v :: vs, _, a, tmps, ht, .cons _ rv _ rvs h1 h2, hl => by
    have h3 := (TR.put (act := { tmps := tmps, defers := [] }) (d := some t) ht h1 (by intro t' e; cases e; exact hl t (by simp)))
    have := putA_spec ts vs rvs (upd t v a) (tmps.setIfInBounds t rv) h3 h2 (fun t' ht' => by rw [Array.size_setIfInBounds]; exact hl t' (by simp [ht']))
    simp only [List.zip_cons_cons, List.foldl_cons, putA]
    rw [Array.size_setIfInBounds] at this
    exact this

def rdN (id : Nat) (a : Tm) (n : Nat) (ps : Array Tmp) (asg body : Code) (Q : Out → H → Prop) (st : LoopState) (pe : Option Code) : Tm → H → Prop := fun _ h2 =>
  h2 id = some (.loop .busy none a n ps asg body) ∧ Q (.ret (.b pe.isNone)) (h2.set id (.loop st pe a n ps asg body))

theorem YCalls_wp {id : Nat} {a : Tm} {n : Nat} {ps : Array Tmp} {asg body : Code} {args : List V} {h : H} {Q : Out → H → Prop} (hid : h id = some (.loop .ready none a n ps asg body)) (hlen : args.length = ps.size) (hok : roundOk n ps asg body = true)
    (hw : wp P G (fun _ _ => False) (fun _ _ => False) asg (fun _ _ _ => False) (fun a1 h1 => h1 id = some (.loop .ready none a n ps asg body) ∧
      wp P G (rdN id a n ps asg body Q .done (some .ret)) (fun _ _ => False) body (fun i => rdN id a n ps asg body Q .done (some (.exit i))) (rdN id a n ps asg body Q .ready none) a1 (h1.set id (.loop .busy none a n ps asg body))) (putA ps.toList args a) h) :
    YCalls P G id args h Q := by
  intro μ I w rb rargs r hm hv
  obtain ⟨rc, g1, g2, g3, g4, g5, g6, g7, g8, -⟩ := r.setLoop hid hm
  simp only [roundOk, Bool.and_eq_true] at hok
  obtain ⟨⟨hps, hok1⟩, hok2⟩ := hok
  have hal := hv.length
  refine ⟨rc.fn, _, rc.assign, rc.body, run_yield g1 (by rw [g4]; simp; omega), ?_⟩
  refine (roundX_in (ro := none)).2 (roundX_of (n := 0) ?_)
  rw [g4, g5, g6]
  have hz : (ps.zip ⟨rargs⟩).foldl (fun tmps (t, a) => tmps.setIfInBounds t a) rc.tmps = (ps.toList.zip rargs).foldl (fun tmps p => tmps.setIfInBounds p.1 p.2) rc.tmps := by
    rw [← Array.foldl_toList, Array.toList_zip]
  rw [hz]
  have hput := putA_spec ps.toList args rargs a rc.tmps g8 hv (fun t ht => by
    have := Array.all_eq_true_iff_forall_mem.1 hps t (by simpa using ht)
    rw [g7]; simpa using this)
  refine wpIn_mono (wp_sound true (some rb) (by simp) (n := n) asg _ _ _ _ _ _ μ I hw hok1 ⟨.refl _ _ _, r, hput.1, by rw [hput.2]; exact g7, .nil⟩) ?_
  intro e act w1 he
  cases e with
  | normal =>
    obtain ⟨a1, h1, μ1, I1, ⟨hid1, hw1⟩, hs1⟩ := he
    have hm1 : μ1 id = some (.obj rb) := hs1.ext.mu _ _ hm
    obtain ⟨rc1, k1, k2, k3, k4, k5, k6, k7, k8, kset⟩ := hs1.r.setLoop hid1 hm1
    have hb := run_beginRound (P := P) k1 k2
    have hset := kset .busy none
    rw [show ({ rc1 with state := .busy, pending := none } : Loop) = { rc1 with state := .busy } by rw [← k3]] at hset
    refine ⟨_, hb, ?_⟩
    refine wpIn_mono (wp_sound true (some rb) (by simp) (n := n) (μ0 := μ) (I0 := I) (w0 := w) body _ _ _ _ _ _ μ1 I1 hw1 hok2 ⟨hs1.ext.trans hset.1, hset.2, hs1.tr.ext hset.1, hs1.size, hs1.defers.ext hset.1⟩) ?_
    have fin : ∀ (jump : Option Code) (w3 : World) (act' : Act), (∃ a2 h2 μ2 I2, rdN id a n ps asg body Q (if jump.isNone then .ready else .done) jump a2 h2 ∧ St G n μ I w a2 h2 act' w3 μ2 I2) →
        ∃ v w', (Instr.endRound rb jump).run P w3 = .ok v w' ∧ CPost G μ I w Q (.returned v) w' := by
      rintro jump w3 act' ⟨a2, h2, μ2, I2, ⟨hid2, hQ⟩, hs2⟩
      have hm2 : μ2 id = some (.obj rb) := hs2.ext.mu _ _ hm
      obtain ⟨rc2, l1, l2, l3, l4, l5, l6, l7, l8, lset⟩ := hs2.r.setLoop hid2 hm2
      have hset2 := lset (if jump.isNone then .ready else .done) jump
      exact ⟨_, _, run_endRound (P := P) jump l1, ⟨_, _, μ2, I2, hQ, hs2.ext.trans hset2.1, hset2.2, .b _⟩⟩
    intro e2 act2 w2 he2
    cases e2 with
    | normal => exact fin none _ _ he2
    | ret => exact fin (some .ret) _ _ he2
    | exit i => exact fin (some (.exit i)) _ _ he2
    | goto l => exact he2
    | outgrown => exact he2.elim
    | panic chain => obtain ⟨_, _, _, _, _, _, _, hf, _⟩ := he2; exact hf.elim
  | ret => obtain ⟨_, _, _, _, hf, _⟩ := he; exact hf.elim
  | exit i => obtain ⟨_, _, _, _, hf, _⟩ := he; exact hf.elim
  | goto l => exact he
  | outgrown => exact he.elim
  | panic chain => obtain ⟨_, _, _, _, _, _, _, hf, _⟩ := he; exact hf.elim

end
end Go.X
end
