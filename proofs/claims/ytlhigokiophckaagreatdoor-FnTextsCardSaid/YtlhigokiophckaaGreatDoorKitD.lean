/- The calculus: the walk as equations, loops, calls; facts on this program's types. -/
import Derived.Test.YtlhigokiophckaaGreatDoorKitC
import Derived.OrdersIn
import Derived.Test.YtlhigokiophckaaGreatDoorProg
import Derived.KernelRfl

section
set_option linter.unusedVariables false
set_option linter.unusedSimpArgs false
namespace Go.X

inductive Fr where
  | code (c : Code)
  | blk (id : Nat)
  | ops (ops : Array Oper) (l : List Oper)
  | post (N : Tm → H → Prop)
  | rend (N : Tm → H → Prop) (X : Nat → Tm → H → Prop)

/-- The fixed things of a walk. -/
structure Cx where
  P : Program
  G : Gl
  R : Tm → H → Prop
  E : V → H → Prop

mutual
def K (c : Cx) : List Fr → Tm → H → Prop
  | [], a, h => c.R a h
  | .code x :: k, a, h => wp c.P c.G c.R c.E x (fun i a h => Xof c k i a h) (fun a h => K c k a h) a h
  | .blk _ :: k, a, h => K c k a h
  | .ops os l :: k, a, h => regW c.P c.G os (fun a h => K c k a h) c.E l a h
  | .post N :: k, a, h => N a h
  | .rend N _ :: k, a, h => N a h
def Xof (c : Cx) : List Fr → Nat → Tm → H → Prop
  | [], _, _, _ => False
  | .code _ :: k, i, a, h => Xof c k i a h
  | .blk id :: k, i, a, h => if i = id then K c k a h else Xof c k i a h
  | .ops _ _ :: k, i, a, h => Xof c k i a h
  | .post _ :: k, i, a, h => Xof c k i a h
  | .rend _ X :: k, i, a, h => X i a h
end

def setv (c : Cx) (o : Option V) (d : Option Tmp) (k : List Fr) (a : Tm) (h : H) : Prop := ob o fun v => K c k (updO d v a) h
def cnd (o : Option V) (p q : Prop) : Prop := match o with
  | some (.b t) => Br t p q
  | _ => False
/-- A branch. -/
def BrK (t : Bool) (c : Cx) (y z : Code) (k : List Fr) (a : Tm) (h : H) : Prop := Br t (K c (.code y :: k) a h) (K c (.code z :: k) a h)
def cndK (o : Option V) (c : Cx) (y z : Code) (k : List Fr) (a : Tm) (h : H) : Prop := cnd o (K c (.code y :: k) a h) (K c (.code z :: k) a h)
def opK (c : Cx) (op : Op) (d : Option Tmp) (k : List Fr) (a : Tm) (h : H) : Prop := opw c.P c.G (rho c.G a) h (fun v h' => K c k (updO d v a) h') c.E op
def lenK (c : Cx) (v : V) (o : Option V) (d : Option Tmp) (k : List Fr) (a : Tm) (h : H) : Prop := v.bd → setv c o d k a h
def stK (c : Cx) (t : TypeId) (p v : V) (d : Option Tmp) (k : List Fr) (a : Tm) (h : H) : Prop := stW c.P h t p v fun h' => K c k (updO d undefV a) h'
def stKO (c : Cx) (t : TypeId) (p v : Option V) (d : Option Tmp) (k : List Fr) (a : Tm) (h : H) : Prop := ob p fun p => ob v fun v => stK c t p v d k a h
def boxK (c : Cx) (t : TypeId) (o : Option V) (d : Option Tmp) (k : List Fr) (a : Tm) (h : H) : Prop := ob o fun v => boxW h t v fun v h' => K c k (updO d v a) h'
def rowK (c : Cx) (e : Nat) (o : Option (List V)) (d : Option Tmp) (k : List Fr) (a : Tm) (h0 h : H) : Prop := ob o fun xs => New h0 0 fun id => K c k (updO d (.sl id 0 xs.length) a) (h.set id (.row e xs))
def convK (c : Cx) (src dst : TypeId) (o : Option V) (d : Option Tmp) (k : List Fr) (a : Tm) (h : H) : Prop := ob o fun v => convW c.P h src dst v fun v h' => K c k (updO d v a) h'
def panK (c : Cx) (o : Option V) (h : H) : Prop := ob o fun v => match v with
  | .ifc t u => c.E (.ifc t u) h
  | _ => False
def callK (c : Cx) (f : FuncId) (args : List V) (d : Option Tmp) (k : List Fr) (a : Tm) (h : H) : Prop := XCalls c.P c.G f args h (kret (fun v h' => K c k (updO d v a) h') c.E)
def yieldK (c : Cx) (id : Nat) (args : List V) (d : Option Tmp) (k : List Fr) (a : Tm) (h : H) : Prop := YCalls c.P c.G id args h (kret (fun v h' => K c k (updO d v a) h') c.E)
def callKO (c : Cx) (f : Option V) (args : Option (List V)) (d : Option Tmp) (k : List Fr) (a : Tm) (h : H) : Prop := ob f fun fv => ob args fun args => match fv with
  | .fn (.func f) first cap => callK c f (first ++ args ++ cap) d k a h
  | .yl id => yieldK c id args d k a h
  | _ => False
/-- A range over a function. -/
def rfK (c : Cx) (o : Option V) (ps : Array Tmp) (asg body : Code) (k : List Fr) (a : Tm) (h : H) : Prop := ob o fun fv => match fv with
  | .fn (.func f) first cap => goFn c.P f = true ∧ New h 0 fun id => ∀ n, roundOk n ps asg body = true → XCalls c.P c.G f (first ++ [.yl id] ++ cap) (h.set id (.loop .ready none a n ps asg body)) (rfPost id a n ps asg body (fun i a h => Xof c k i a h) (fun a h => K c k a h) c.R c.E)
  | _ => False
def loopK (c : Cx) (x : Code) (k : List Fr) (a : Tm) (h : H) : Prop := K c (.code (.loop x) :: k) a h
def drawK (c : Cx) (id : Nat) (ops : Array Oper) (k : List Fr) (a : Tm) (h : H) : Prop := K c (.code (.region id ops true) :: k) a h

/-- A guarded operation. -/
def gdK (o : Option V) (want : Bool) (c : Cx) (op : Op) (d : Option Tmp) (k : List Fr) (a : Tm) (h : H) : Prop := ob o fun v => match v with
  | .b b => Br (b == want) (opK c op d k a h) (K c k (updO d undefV a) h)
  | .tu [] => K c k (updO d undefV a) h
  | _ => False
def gbK (t want : Bool) (c : Cx) (op : Op) (d : Option Tmp) (k : List Fr) (a : Tm) (h : H) : Prop := Br (t == want) (opK c op d k a h) (K c k (updO d undefV a) h)

section
variable (c : Cx) (k : List Fr) (a : Tm) (h : H) (d : Option Tmp)

theorem K_skip : K c (.code .skip :: k) a h = K c k a h := by simp only [K, wp]
theorem K_seq (x y : Code) : K c (.code (.seq x y) :: k) a h = K c (.code x :: .code y :: k) a h := by simp only [K, wp, Xof]
theorem K_block (id : Nat) (x : Code) : K c (.code (.block id x) :: k) a h = K c (.code x :: .blk id :: k) a h := by simp only [K, wp, Xof]
theorem K_exit (i : Nat) : K c (.code (.exit i) :: k) a h = Xof c k i a h := by simp only [K, wp]
theorem K_ret : K c (.code .ret :: k) a h = c.R a h := by simp only [K, wp]
theorem K_nil : K c [] a h = c.R a h := by simp only [K]
theorem K_blk (id : Nat) : K c (.blk id :: k) a h = K c k a h := by simp only [K]
theorem K_post (N : Tm → H → Prop) : K c (.post N :: k) a h = N a h := by simp only [K]
theorem K_rend (N : Tm → H → Prop) (X : Nat → Tm → H → Prop) : K c (.rend N X :: k) a h = N a h := by simp only [K]
theorem X_rend (N : Tm → H → Prop) (X : Nat → Tm → H → Prop) (i : Nat) : Xof c (.rend N X :: k) i a h = X i a h := by simp only [Xof]
theorem K_rf (g : Operand) (ps : Array Tmp) (asg body : Code) : K c (.code (.rangeFunc g ps asg body) :: k) a h = rfK c (rho c.G a g) ps asg body k a h := by simp only [K, wp, rfK]; rfl
theorem K_cond (x : Operand) (y z : Code) : K c (.code (.cond x y z) :: k) a h = cndK (rho c.G a x) c y z k a h := by
  simp only [K, wp, cnd, cndK]
  cases rho c.G a x with
  | none => rfl
  | some v => cases v <;> rfl
theorem K_loop (x : Code) : K c (.code (.loop x) :: k) a h = loopK c x k a h := rfl
theorem K_region (id : Nat) (ops : Array Oper) : K c (.code (.region id ops false) :: k) a h = K c (.ops ops ops.toList :: k) a h := by simp only [K, wp, Bool.false_eq_true, if_false]
theorem K_draw (id : Nat) (ops : Array Oper) : K c (.code (.region id ops true) :: k) a h = drawK c id ops k a h := rfl
theorem K_ops_nil (ops : Array Oper) : K c (.ops ops [] :: k) a h = K c k a h := by simp only [K, regW]
theorem K_ops_none (ops : Array Oper) (op : Op) (ty : TypeId) (pos : String) (after : Array Edge) (l : List Oper) : K c (.ops ops (⟨d, op, ty, pos, after, none⟩ :: l) :: k) a h = opK c op d (.ops ops l :: k) a h := by
  simp only [K, regW, opK, gd]
theorem K_ops_guard (ops : Array Oper) (op : Op) (ty : TypeId) (pos : String) (after : Array Edge) (g : Nat) (want : Bool) (l : List Oper) : K c (.ops ops (⟨d, op, ty, pos, after, some (g, want)⟩ :: l) :: k) a h =
    (match (ops[g]?).bind (·.dst) with | none => K c (.ops ops l :: k) (updO d undefV a) h | some t => gdK (a t) want c op d (.ops ops l :: k) a h) := by
  simp only [K, regW, gd, gdK, opK]
  cases (ops[g]?).bind (·.dst) <;> rfl
theorem X_blk (id i : Nat) : Xof c (.blk id :: k) i a h = if i = id then K c k a h else Xof c k i a h := by simp only [Xof]
theorem X_code (x : Code) (i : Nat) : Xof c (.code x :: k) i a h = Xof c k i a h := by simp only [Xof]
theorem X_ops (os : Array Oper) (l : List Oper) (i : Nat) : Xof c (.ops os l :: k) i a h = Xof c k i a h := by simp only [Xof]
theorem X_post (N : Tm → H → Prop) (i : Nat) : Xof c (.post N :: k) i a h = Xof c k i a h := by simp only [Xof]

theorem setv_some (v : V) : setv c (some v) d k a h = K c k (updO d v a) h := rfl
theorem cndK_some (t : Bool) (y z : Code) : cndK (some (.b t)) c y z k a h = BrK t c y z k a h := rfl
theorem BrK_true (y z : Code) : BrK true c y z k a h = K c (.code y :: k) a h := by simp [BrK, Br]
theorem BrK_false (y z : Code) : BrK false c y z k a h = K c (.code z :: k) a h := by simp [BrK, Br]
theorem BrK_intro {t : Bool} {c : Cx} {y z : Code} {k : List Fr} {a : Tm} {h : H} (h1 : t = true → K c (.code y :: k) a h) (h2 : t = false → K c (.code z :: k) a h) : BrK t c y z k a h := ⟨h1, h2⟩
theorem gdK_some (t want : Bool) (op : Op) : gdK (some (.b t)) want c op d k a h = gbK t want c op d k a h := rfl
theorem gdK_un (want : Bool) (op : Op) : gdK (some undefV) want c op d k a h = K c k (updO d undefV a) h := rfl
theorem gbK_tt (op : Op) : gbK true true c op d k a h = opK c op d k a h := by simp [gbK, Br]
theorem gbK_ff (op : Op) : gbK false false c op d k a h = opK c op d k a h := by simp [gbK, Br]
theorem gbK_tf (op : Op) : gbK true false c op d k a h = K c k (updO d undefV a) h := by simp [gbK, Br]
theorem gbK_ft (op : Op) : gbK false true c op d k a h = K c k (updO d undefV a) h := by simp [gbK, Br]
theorem gbK_intro {t want : Bool} {c : Cx} {op : Op} {d : Option Tmp} {k : List Fr} {a : Tm} {h : H} (h1 : t = want → opK c op d k a h) (h2 : t = !want → K c k (updO d undefV a) h) : gbK t want c op d k a h := by
  refine ⟨fun e => h1 (by simpa using e), fun e => h2 ?_⟩
  cases t <;> cases want <;> simp_all
theorem cnd_some (t : Bool) (p q : Prop) : cnd (some (.b t)) p q = Br t p q := rfl
theorem cnd_tt (p q : Prop) : cnd (some (.b true)) p q = p := by simp [cnd, Br]
theorem cnd_ff (p q : Prop) : cnd (some (.b false)) p q = q := by simp [cnd, Br]

/-! operations -/
theorem op_move (x : Operand) : opK c (.move x) d k a h = setv c (rho c.G a x) d k a h := rfl
theorem op_assign (x : Operand) : opK c (.assign x) d k a h = setv c (rho c.G a x) d k a h := rfl
def pickV (t x y : Option V) : Option V := t.bind fun t => match t with
  | .b true => x
  | .b false => y
  | _ => none
theorem op_pick (x y z : Operand) : opK c (.pick x y z) d k a h = setv c (pickV (rho c.G a x) (rho c.G a y) (rho c.G a z)) d k a h := rfl
theorem op_load (t : TypeId) (x : Operand) : opK c (.load t x) d k a h = setv c ((rho c.G a x).bind fun p => (ptrCells h p).bind (loadFrom (tld c.P t))) d k a h := by
  simp only [opK, opw, setv]
  cases rho c.G a x with
  | none => rfl
  | some p =>
    simp only [ob, Option.bind_some]
    cases ptrCells h p <;> rfl
theorem op_store (t : TypeId) (x y : Operand) : opK c (.store t x y) d k a h = stKO c t (rho c.G a x) (rho c.G a y) d k a h := rfl
theorem stKO_some (t : TypeId) (p v : V) : stKO c t (some p) (some v) d k a h = stK c t p v d k a h := rfl
theorem op_alloc (t : TypeId) : opK c (.alloc t) d k a h = boxK c t (zeroOf c.P t) d k a h := rfl
theorem op_box (t : TypeId) (x : Operand) : opK c (.box t x) d k a h = boxK c t (rho c.G a x) d k a h := rfl
theorem op_nilCheck (x : Operand) : opK c (.nilCheck x) d k a h = setv c ((rho c.G a x).bind nilChk) d k a h := rfl
theorem op_binOp (op : BinOp) (t : TypeId) (x y : Operand) (u : TypeId) : opK c (.binOp op t x y u) d k a h = setv c ((rho c.G a x).bind fun p => (rho c.G a y).bind fun q => binP c.P t op p q (isC x || isC y)) d k a h := rfl
theorem op_unOp (op : UnOp) (t : TypeId) (x : Operand) : opK c (.unOp op t x) d k a h = setv c ((rho c.G a x).bind (unV op)) d k a h := rfl
theorem op_convert (s t : TypeId) (x : Operand) : opK c (.convert s t x) d k a h = convK c s t (rho c.G a x) d k a h := rfl
theorem op_makeInterface (t : TypeId) (x : Operand) : opK c (.makeInterface t x) d k a h = setv c ((rho c.G a x).bind (mkIfcV c.P t)) d k a h := rfl
theorem op_makeFunc (f : Fn) (xs ys : Array Operand) : opK c (.makeFunc f xs ys) d k a h = setv c ((mapO (rho c.G a) xs.toList).bind fun us => (mapO (rho c.G a) ys.toList).bind fun vs => some (.fn f us vs)) d k a h := rfl
theorem op_slice (t : TypeId) (x : Operand) (lo hi : Option Operand) : opK c (.slice t x lo hi none) d k a h = setv c ((rho c.G a x).bind fun u => (optO (rho c.G a) lo).bind fun p => (optO (rho c.G a) hi).bind fun q => sliceV c.P h t u p q) d k a h := rfl
theorem op_fieldAddr (t : TypeId) (x : Operand) (f : Nat) : opK c (.fieldAddr t x f) d k a h = setv c ((rho c.G a x).bind (fieldAddrV c.P t f)) d k a h := rfl
theorem op_field (t : TypeId) (x : Operand) (f : Nat) : opK c (.field t x f) d k a h = setv c ((rho c.G a x).bind (fieldV c.P t f)) d k a h := rfl
theorem op_indexAddr (t : TypeId) (x i : Operand) : opK c (.indexAddr t x i) d k a h = setv c ((rho c.G a x).bind fun u => (rho c.G a i).bind fun v => indexAddrV c.P h t u v) d k a h := rfl
theorem op_index (t : TypeId) (x i : Operand) : opK c (.index t x i) d k a h = setv c ((rho c.G a x).bind fun u => (rho c.G a i).bind fun v => indexV c.P t u v) d k a h := rfl
theorem op_extract (x : Operand) (i : Nat) : opK c (.extract x i) d k a h = setv c ((rho c.G a x).bind fun u => extractV u i) d k a h := rfl
theorem op_build (t : TypeId) (ps : Array (Nat × Operand)) : opK c (.build t ps) d k a h = setv c ((mapP (rho c.G a) ps.toList).bind fun l => if noTu l then buildV c.P t l else none) d k a h := rfl
theorem op_typeAssert (x : Operand) (t u : TypeId) (ok : Bool) : opK c (.typeAssert x t u ok) d k a h = setv c ((rho c.G a x).bind fun v => assertV c.P v u ok) d k a h := rfl
def nextK (c : Cx) (o : Option V) (b : Bool) (d : Option Tmp) (k : List Fr) (a : Tm) (h : H) : Prop := ob o fun v => nextW h v b fun v h' => K c k (updO d v a) h'
theorem op_next (x : Operand) (b : Bool) : opK c (.next x b) d k a h = nextK c (rho c.G a x) b d k a h := rfl
theorem nextK_intro {c : Cx} {id : Nat} {l : List UInt8} {pos : Nat} {d : Option Tmp} {k : List Fr} {a : Tm} {h : H} (hid : h id = some (.iter l pos))
    (h1 : pos < l.length → K c k (updO d (.tu [.b true, .i .i64 pos, .i .i32 (decV l pos).1]) a) (h.set id (.iter l (pos + (decV l pos).2)))) (h2 : l.length ≤ pos → K c k (updO d (.tu [.b false]) a) h) : nextK c (some (.it id)) true d k a h := by
  unfold nextK nextW
  simp only [ob_some, hid]
  exact ⟨h1, h2⟩
def rangeK (c : Cx) (t : TypeId) (o : Option V) (d : Option Tmp) (k : List Fr) (a : Tm) (h : H) : Prop := ob o fun v => match v with
  | .s l => isStr c.P t = true ∧ New h 0 fun id => K c k (updO d (.it id) a) (h.set id (.iter l 0))
  | _ => False
theorem op_range (t : TypeId) (x : Operand) : opK c (.range t x) d k a h = rangeK c t (rho c.G a x) d k a h := rfl
theorem rangeK_intro {c : Cx} {t : TypeId} {l : List UInt8} {d : Option Tmp} {k : List Fr} {a : Tm} {h : H} (ht : isStr c.P t = true) (hk : ∀ id, h id = none → K c k (updO d (.it id) a) (h.set id (.iter l 0))) : rangeK c t (some (.s l)) d k a h := ⟨ht, fun id h1 _ => hk id h1⟩
theorem op_panic (x : Operand) : opK c (.panic x) d k a h = panK c (rho c.G a x) h := rfl
theorem op_call (f : Operand) (args : Array Operand) (tys : Array TypeId) : opK c (.call { callee := .value f, args := args, argTypes := tys }) d k a h = callKO c (rho c.G a f) (mapO (rho c.G a) args.toList) d k a h := rfl
theorem callKO_some (f : FuncId) (first args cap : List V) : callKO c (some (.fn (.func f) first cap)) (some args) d k a h = callK c f (first ++ args ++ cap) d k a h := rfl

theorem callKO_yl (id : Nat) (args : List V) : callKO c (some (.yl id)) (some args) d k a h = yieldK c id args d k a h := rfl
theorem yield_mono {c : Cx} {id : Nat} {args : List V} {d : Option Tmp} {k : List Fr} {a : Tm} {h : H} {Q : Out → H → Prop} (hx : YCalls c.P c.G id args h Q) (hk : ∀ o h', Q o h' → kret (fun v h' => K c k (updO d v a) h') c.E o h') : yieldK c id args d k a h := hx.mono hk
theorem rfK_intro {c : Cx} {f : FuncId} {first cap : List V} {ps : Array Tmp} {asg body : Code} {k : List Fr} {a : Tm} {h : H} (hgo : goFn c.P f = true)
    (hk : ∀ id n, h id = none → roundOk n ps asg body = true → XCalls c.P c.G f (first ++ [.yl id] ++ cap) (h.set id (.loop .ready none a n ps asg body)) (rfPost id a n ps asg body (fun i a h => Xof c k i a h) (fun a h => K c k a h) c.R c.E)) :
    rfK c (some (.fn (.func f) first cap)) ps asg body k a h := ⟨hgo, fun id h1 _ n hn => hk id n h1 hn⟩

def lenB (c : Cx) (v : V) (o : Option V) (d : Option Tmp) (k : List Fr) (a : Tm) (h : H) : Prop := ob o fun r => (v.bd → K c k (updO d r a) h)
def lenKO (c : Cx) (t : TypeId) (o : Option V) (d : Option Tmp) (k : List Fr) (a : Tm) (h : H) : Prop := ob o fun v => lenB c v (lenV c.P t v) d k a h
theorem op_len (x : Operand) (t : TypeId) : opK c (.call { callee := .builtin .len, args := #[x], argTypes := #[t] }) d k a h = lenKO c t (rho c.G a x) d k a h := rfl
theorem lenKO_some (t : TypeId) (v : V) : lenKO c t (some v) d k a h = lenB c v (lenV c.P t v) d k a h := rfl
theorem lenB_some (v r : V) : lenB c v (some r) d k a h = (v.bd → K c k (updO d r a) h) := rfl
theorem op_min (x y : Operand) (tys : Array TypeId) : opK c (.call { callee := .builtin .min, args := #[x, y], argTypes := tys }) d k a h = setv c ((rho c.G a x).bind fun u => (rho c.G a y).bind (min2V false u)) d k a h := by
  simp only [opK, opw, builtinW, setv]
  cases rho c.G a x with
  | none => rfl
  | some u => cases rho c.G a y <;> rfl
theorem op_max (x y : Operand) (tys : Array TypeId) : opK c (.call { callee := .builtin .max, args := #[x, y], argTypes := tys }) d k a h = setv c ((rho c.G a x).bind fun u => (rho c.G a y).bind (min2V true u)) d k a h := by
  simp only [opK, opw, builtinW, setv]
  cases rho c.G a x with
  | none => rfl
  | some u => cases rho c.G a y <;> rfl

/-- append: the values, the side conditions, the new row. -/
def appK (c : Cx) (t u : TypeId) (v y : Option V) (d : Option Tmp) (k : List Fr) (a : Tm) (h : H) : Prop :=
  ob (slOf c.P t) fun r => ob v fun v => ob y fun y => ob (dstV h r.2.1 v) fun dd => ob (srcV h r.2.1 y) fun ys =>
      (noShare v y = true ∧ srcTyB c.P u = true ∧ r.2.2 ≠ 0 ∧ (dd.1.length + ys.length) * r.2.2 ≤ 140737488355328) ∧ New h (apTy r.1 v) fun id => K c k (updO d (.sl id 0 (dd.1.length + ys.length)) a) (dd.2.set id (.row r.2.1 (dd.1 ++ ys)))
theorem op_append (x y : Operand) (t u : TypeId) : opK c (.call { callee := .builtin .append, args := #[x, y], argTypes := #[t, u] }) d k a h = appK c t u (rho c.G a x) (rho c.G a y) d k a h := rfl
theorem appK_intro {c : Cx} {t u : TypeId} {v y : V} {d : Option Tmp} {k : List Fr} {a : Tm} {h h1 : H} {e es bs : Nat} {xs ys : List V} (hs : slOf c.P t = some (e, es, bs)) (hd : dstV h es v = some (xs, h1)) (hy : srcV h es y = some ys)
    (h2 : noShare v y = true) (h3 : srcTyB c.P u = true) (h4 : bs ≠ 0) (h5 : (xs.length + ys.length) * bs ≤ 140737488355328) (hk : ∀ id, h id = none → K c k (updO d (.sl id 0 (xs.length + ys.length)) a) (h1.set id (.row es (xs ++ ys)))) :
    appK c t u (some v) (some y) d k a h := by
  unfold appK
  simp only [hs, ob_some, hd, hy]
  exact ⟨⟨h2, h3, h4, h5⟩, fun id e _ => hk id e⟩

/-- a slice literal -/
def bslK (c : Cx) (t : TypeId) (n : Nat) (l : Option (List (Nat × V))) (d : Option Tmp) (k : List Fr) (a : Tm) (h : H) : Prop :=
  ob (slOf c.P t) fun r => ob l fun l => (l.map (·.1) = List.range n ∧ (∀ p ∈ l, p.2.fits = true ∧ p.2.cells.length = r.2.1) ∧ n * r.2.1 ≤ 16777216) ∧
      New h r.1 fun id => K c k (updO d (.sl id 0 n) a) (h.set id (.row r.2.1 (l.map (·.2))))
theorem op_buildSlice (t : TypeId) (n : Nat) (ps : Array (Nat × Operand)) : opK c (.buildSlice t n ps) d k a h = bslK c t n (mapP (rho c.G a) ps.toList) d k a h := rfl
theorem bslK_intro {c : Cx} {t : TypeId} {n : Nat} {l : List (Nat × V)} {d : Option Tmp} {k : List Fr} {a : Tm} {h : H} {e es bs : Nat} (hs : slOf c.P t = some (e, es, bs))
    (h1 : l.map (·.1) = List.range n) (h2 : ∀ p ∈ l, p.2.fits = true ∧ p.2.cells.length = es) (h3 : n * es ≤ 16777216) (hk : ∀ id, h id = none → K c k (updO d (.sl id 0 n) a) (h.set id (.row es (l.map (·.2))))) :
    bslK c t n (some l) d k a h := by
  unfold bslK
  simp only [hs, ob_some]
  exact ⟨⟨h1, h2, h3⟩, fun id e _ => hk id e⟩

def mksK (c : Cx) (t : TypeId) (u v : Option V) (d : Option Tmp) (k : List Fr) (a : Tm) (h : H) : Prop :=
  ob (slOf c.P t) fun r => ob (zeroOf c.P r.1) fun z => ob u fun u => ob v fun v => ob (intOf u) fun x => ob (intOf v) fun y =>
      (z.fits = true ∧ x.2 = y.2 ∧ 0 ≤ x.2 ∧ x.2 ≤ 9223372036854775807 ∧ r.2.2 * x.2 ≤ 140737488355328) ∧ New h r.1 fun id => K c k (updO d (.sl id 0 x.2.toNat) a) (h.set id (.row r.2.1 (List.replicate x.2.toNat z)))
theorem op_makeSlice (t : TypeId) (x y : Operand) : opK c (.makeSlice t x y) d k a h = mksK c t (rho c.G a x) (rho c.G a y) d k a h := rfl
theorem mksK_intro {c : Cx} {t : TypeId} {kk kk' : IntKind} {n : Int} {d : Option Tmp} {k : List Fr} {a : Tm} {h : H} {e es bs : Nat} {z : V} (hs : slOf c.P t = some (e, es, bs)) (hz : zeroOf c.P e = some z) (hf : z.fits = true)
    (h1 : 0 ≤ n) (h2 : n ≤ 9223372036854775807) (h3 : bs * n ≤ 140737488355328) (hk : ∀ id, h id = none → K c k (updO d (.sl id 0 n.toNat) a) (h.set id (.row es (List.replicate n.toNat z)))) :
    mksK c t (some (.i kk n)) (some (.i kk' n)) d k a h := by
  unfold mksK
  simp only [hs, ob_some, hz, intOf]
  exact ⟨⟨hf, trivial, h1, h2, h3⟩, fun id e _ => hk id e⟩

theorem boxK_intro {c : Cx} {t : TypeId} {v : V} {d : Option Tmp} {k : List Fr} {a : Tm} {h : H} (hf : v.fits = true) (hk : ∀ id, h id = none → K c k (updO d (.ptr id 0 0) a) (h.set id (.row v.cells.length [v]))) : boxK c t (some v) d k a h := .inl ⟨hf, fun id e _ => hk id e⟩
theorem boxK_ty {c : Cx} {t : TypeId} {v : V} {d : Option Tmp} {k : List Fr} {a : Tm} {h : H} (hf : v.fits = true) (hk : ∀ id, h id = none → tyOf id = t → K c k (updO d (.ptr id 0 0) a) (h.set id (.row v.cells.length [v]))) : boxK c t (some v) d k a h := .inl ⟨hf, hk⟩
theorem boxK_arr {c : Cx} {t : TypeId} {v : V} {e : Nat} {xs : List V} {d : Option Tmp} {k : List Fr} {a : Tm} {h : H} (hok : ∀ x ∈ xs, x.okE e) (hv : v = .ag (flat xs)) (hk : ∀ id, h id = none → K c k (updO d (.ptr id 0 0) a) (h.set id (.row e xs))) : boxK c t (some v) d k a h := .inr ⟨e, xs, hok, hv, fun id e _ => hk id e⟩
theorem stK_intro {c : Cx} {t : TypeId} {id i f e : Nat} {v x x' : V} {xs : List V} {d : Option Tmp} {k : List Fr} {a : Tm} {h : H} {y : TI} (h1 : h id = some (.row e xs)) (h2 : xs[i]? = some x) (h3 : stE x f v = some x') (h4 : ti c.P t = some y)
    (h5 : y.size = v.cells.length) (h6 : v.fits = true) (hk : K c k (updO d undefV a) (h.set id (.row e (xs.set i x')))) : stK c t (.ptr id i f) v d k a h := by
  unfold stK stW
  simp only [h1, ob_some, h2, h3, h4]
  exact ⟨⟨h5, h6⟩, hk⟩
theorem conv_int {c : Cx} {s t : TypeId} {kk : IntKind} {n : Int} {d : Option Tmp} {k : List Fr} {a : Tm} {h : H} : convK c s t (some (.i kk n)) d k a h = setv c (convV c.P s t (.i kk n)) d k a h := rfl
theorem conv_strBytes {c : Cx} {s t : TypeId} {l : List UInt8} {d : Option Tmp} {k : List Fr} {a : Tm} {h : H} {e es bs : Nat} (h0 : isStr c.P t = false) (hs : slOf c.P t = some (e, es, bs)) (h1 : isStr c.P s = true) (h2 : isU8 c.P e = true)
    (hk : ∀ id, h id = none → K c k (updO d (.sl id 0 l.length) a) (h.set id (.row 1 (l.map fun x => .i .u8 x.toNat)))) : convK c s t (some (.s l)) d k a h := by
  unfold convK convW
  simp only [ob_some, h0, Bool.false_eq_true, if_false, hs]
  exact ⟨⟨h1, h2⟩, fun id e _ => hk id e⟩
def slish : V → Bool
  | .sl .. | .im .. | .nil => true
  | _ => false
theorem conv_bytesStr {c : Cx} {s t : TypeId} {v : V} {ys : List V} {l : List UInt8} {d : Option Tmp} {k : List Fr} {a : Tm} {h : H} {e es bs : Nat} (hv : slish v = true) (hs : slOf c.P s = some (e, es, bs)) (h1 : isStr c.P t = true) (h2 : isU8 c.P e = true)
    (h3 : srcV h 1 v = some ys) (h4 : bytesOfVs ys = some l) (hk : K c k (updO d (.s l) a) h) : convK c s t (some v) d k a h := by
  unfold convK convW
  simp only [ob_some]
  cases v <;> simp only [slish] at hv <;> first | (cases hv; done) | skip
  all_goals (simp only [hs, ob_some, h3, h4]; exact ⟨⟨h1, h2⟩, hk⟩)
theorem conv_ptr {c : Cx} {s t : TypeId} {id i f e : Nat} {xs : List V} {d : Option Tmp} {k : List Fr} {a : Tm} {h : H} (hid : h id = some (.row e xs)) (h1 : i < xs.length) (h2 : f < e) (h3 : upB c.P s t (tyOf id) i f e = true)
    (hk : K c k (updO d (.ptr id i f) a) h) : convK c s t (some (.ptr id i f)) d k a h := by
  unfold convK convW
  simp only [ob_some, hid]
  exact ⟨⟨h1, h2, h3⟩, hk⟩

theorem call_pure {c : Cx} {f : FuncId} {args : List V} {v : V} {d : Option Tmp} {k : List Fr} {a : Tm} {h : H} (hx : XCalls c.P c.G f args h (fun o h' => o = .ret v ∧ h' = h)) (hk : K c k (updO d v a) h) : callK c f args d k a h := XCalls.pure hx hk
theorem call_mono {c : Cx} {f : FuncId} {args : List V} {d : Option Tmp} {k : List Fr} {a : Tm} {h : H} {Q : Out → H → Prop} (hx : XCalls c.P c.G f args h Q) (hk : ∀ o h', Q o h' → kret (fun v h' => K c k (updO d v a) h') c.E o h') : callK c f args d k a h := hx.mono hk

/-- The end of a round. -/
def LP {S : Type} (st : S → Tm → H → Prop) (m : S → Nat) (s : S) : Tm → H → Prop := fun a' h' => ∃ s', m s' < m s ∧ st s' a' h'
theorem LP.mk {S : Type} {st : S → Tm → H → Prop} {m : S → Nat} {s : S} {a : Tm} {h : H} (s' : S) (h1 : m s' < m s) (h2 : st s' a h) : LP st m s a h := ⟨s', h1, h2⟩
theorem loopK_intro {c : Cx} {x : Code} {k : List Fr} {a : Tm} {h : H} {S : Type} (st : S → Tm → H → Prop) (m : S → Nat) (s0 : S) (h0 : st s0 a h)
    (step : ∀ s a h, st s a h → K c (.code x :: .post (LP st m s) :: k) a h) : loopK c x k a h := by
  unfold loopK
  simp only [K, wp]
  refine ⟨fun n a h => ∃ s, m s = n ∧ st s a h, ⟨m s0, s0, rfl, h0⟩, fun n a h hs => ?_⟩
  obtain ⟨s, rfl, hs⟩ := hs
  have := step s a h hs
  simp only [K, Xof, LP] at this
  have e : (fun a' h' => ∃ s', m s' < m s ∧ st s' a' h') = (fun (a' : Tm) (h' : H) => ∃ n', n' < m s ∧ ∃ s, m s = n' ∧ st s a' h') := by
    funext a' h'
    apply propext
    constructor
    · rintro ⟨s', h1, h2⟩; exact ⟨_, h1, s', rfl, h2⟩
    · rintro ⟨_, h1, s', rfl, h2⟩; exact ⟨s', h1, h2⟩
  rw [e] at this
  exact this

end

theorem enterK {P : Program} {G : Gl} {f : FuncId} {fn : Func} {body : Code} (hf : P.funcs[f]? = some fn) (hn : (fn.name == "runtime.NumGoroutine") = false) (hb : fn.body = some body) {nt : Nat} (hnt : fn.ntmps = nt) (hok : codeOk nt body = true) {rs : List ResultVar} (hrs : fn.results.toList = rs)
    {args : List V} {h : H} {Q : Out → H → Prop} (hlen : args.length ≤ nt)
    (hw : (∀ v ∈ args, v.bd) → K ⟨P, G, resW P rs Q, fun v h' => Q (.pan v) h'⟩ [.code body] (argTm args) h) :
    XCalls P G f args h Q := by
  subst hnt; subst hrs
  refine enter hf hn hb hok (fun hbd => ?_) hlen
  have := hw hbd
  simp only [K, Xof] at this
  exact this

/-- A round, walked. -/
theorem YCalls_K {P : Program} {G : Gl} {id : Nat} {a : Tm} {n : Nat} {ps : Array Tmp} {asg body : Code} {args : List V} {h : H} {Q : Out → H → Prop} (hid : h id = some (.loop .ready none a n ps asg body)) (hlen : args.length = ps.size) (hok : roundOk n ps asg body = true)
    (hw : K ⟨P, G, fun _ _ => False, fun _ _ => False⟩ [.code asg, .rend (fun a1 h1 => h1 id = some (.loop .ready none a n ps asg body) ∧
      K ⟨P, G, rdN id a n ps asg body Q .done (some .ret), fun _ _ => False⟩ [.code body, .rend (rdN id a n ps asg body Q .ready none) (fun i => rdN id a n ps asg body Q .done (some (.exit i)))] a1 (h1.set id (.loop .busy none a n ps asg body))) (fun _ _ _ => False)]
      (putA ps.toList args a) h) : YCalls P G id args h Q := by
  refine YCalls_wp hid hlen hok ?_
  simp only [K, Xof] at hw
  exact hw

end Go.X
end

section
set_option linter.unusedVariables false
set_option linter.unusedSimpArgs false
namespace Go.X

theorem upd_eq (t : Nat) (v : V) (a : Tm) (j : Nat) : upd t v a j = if j = t then some v else a j := rfl
theorem updO_some (t : Nat) (v : V) (a : Tm) : updO (some t) v a = upd t v a := rfl
theorem updO_none (v : V) (a : Tm) : updO none v a = a := rfl
theorem argTm_eq (l : List V) (t : Nat) : argTm l t = l[t]? := rfl
theorem rho_tmp (G : Gl) (a : Tm) (t : Nat) : rho G a (.tmp t) = a t := rfl
theorem rho_const (G : Gl) (a : Tm) (v : Value) : rho G a (.const v) = ofConst v := rfl
theorem rho_global (G : Gl) (a : Tm) (g : Nat) : rho G a (.global g) = (G g).map .ip := rfl
theorem rho_func (G : Gl) (a : Tm) (f : Nat) : rho G a (.func f) = some (.fn (.func f) [] []) := rfl
theorem bd_im (e : Nat) (xs : List V) : (V.im e xs).bd = (xs.length ≤ 9223372036854775807) := rfl
theorem bd_s (l : List UInt8) : (V.s l).bd = (l.length ≤ 9223372036854775807) := rfl
theorem bd_sl (i o n : Nat) : (V.sl i o n).bd = (n ≤ 9223372036854775807) := rfl
theorem set_eq (h : H) (id : Nat) (o : O) (j : Nat) : h.set id o j = if j = id then some o else h j := rfl
theorem del_eq (h : H) (id : Nat) (j : Nat) : h.del id j = if j = id then none else h j := rfl
theorem set_set (h : H) (id : Nat) (o o' : O) : (h.set id o).set id o' = h.set id o' := by funext j; simp only [H.set]; split <;> rfl
/-- The end of a function: what is handed back, what of the memory stays. -/
def RetK (Q : Out → H → Prop) (v : V) (h : H) : Prop := ∃ h' v' S, Fz h v v' S ∧ Sub h' h ∧ (∀ id ∈ S, h' id = none) ∧ Q (.ret v') h'
theorem RetK_keep {Q : Out → H → Prop} {v : V} {h h' : H} (hs : Sub h' h) (hq : Q (.ret v) h') : RetK Q v h := ⟨h', v, [], .keep v, hs, by simp, hq⟩
theorem RetK_freeze {Q : Out → H → Prop} {v v' : V} {h h' : H} {S : List Nat} (f : Fz h v v' S) (hs : Sub h' h) (hS : ∀ id ∈ S, h' id = none) (hq : Q (.ret v') h') : RetK Q v h := ⟨h', v', S, f, hs, hS, hq⟩
/-- A fresh row handed back, written no more. -/
theorem RetK_row {Q : Out → H → Prop} {id off len e : Nat} {xs : List V} {h h' : H} (h1 : h id = some (.row e xs)) (h2 : off + len ≤ xs.length) (hs : Sub h' h) (hS : h' id = none) (hq : Q (.ret (.im e ((xs.drop off).take len))) h') : RetK Q (.sl id off len) h :=
  ⟨h', _, [id], Fz.slice h1 h2, hs, by simpa using hS, hq⟩
theorem resW_nil (P : Program) (Q : Out → H → Prop) (a : Tm) (h : H) : resW P [] Q a h = RetK Q (.tu []) h := rfl
theorem resW_one (P : Program) (Q : Out → H → Prop) (t : Nat) (a : Tm) (h : H) : resW P [.tmp t] Q a h = ob (a t) fun v => RetK Q v h := by
  simp only [resW, resV]
  cases a t <;> rfl
theorem resW_two (P : Program) (Q : Out → H → Prop) (t u : Nat) (a : Tm) (h : H) : resW P [.tmp t, .tmp u] Q a h = ob (a t) fun v => ob (a u) fun x => RetK Q (.tu [v, x]) h := by
  simp only [resW, resV]
  cases a t with
  | none => rfl
  | some v => cases a u <;> rfl
theorem resW_three (P : Program) (Q : Out → H → Prop) (t u x : Nat) (a : Tm) (h : H) : resW P [.tmp t, .tmp u, .tmp x] Q a h = ob (a t) fun v => ob (a u) fun y => ob (a x) fun z => RetK Q (.tu [v, y, z]) h := by
  simp only [resW, resV]
  cases a t with
  | none => rfl
  | some v =>
    cases a u with
    | none => rfl
    | some y => cases a x <;> rfl

theorem bind_some' {α β : Type} (x : α) (f : α → Option β) : (some x).bind f = f x := rfl
theorem wrap_i8 {n : Int} (h1 : -128 ≤ n) (h2 : n ≤ 127) : IntKind.i8.wrap n = n := by
  have hb : IntKind.i8.bits = 8 := rfl
  have hs : IntKind.i8.signed = true := rfl
  simp only [IntKind.wrap, hb, hs, Int.reducePow, Nat.reduceSub, Bool.true_and, Bool.false_and, Bool.false_eq_true, if_false, decide_eq_true_eq, ge_iff_le]
  split <;> omega
theorem wrap_i16 {n : Int} (h1 : -32768 ≤ n) (h2 : n ≤ 32767) : IntKind.i16.wrap n = n := by
  have hb : IntKind.i16.bits = 16 := rfl
  have hs : IntKind.i16.signed = true := rfl
  simp only [IntKind.wrap, hb, hs, Int.reducePow, Nat.reduceSub, Bool.true_and, Bool.false_and, Bool.false_eq_true, if_false, decide_eq_true_eq, ge_iff_le]
  split <;> omega
theorem wrap_i32 {n : Int} (h1 : -2147483648 ≤ n) (h2 : n ≤ 2147483647) : IntKind.i32.wrap n = n := by
  have hb : IntKind.i32.bits = 32 := rfl
  have hs : IntKind.i32.signed = true := rfl
  simp only [IntKind.wrap, hb, hs, Int.reducePow, Nat.reduceSub, Bool.true_and, Bool.false_and, Bool.false_eq_true, if_false, decide_eq_true_eq, ge_iff_le]
  split <;> omega
theorem wrap_i64 {n : Int} (h1 : -9223372036854775808 ≤ n) (h2 : n ≤ 9223372036854775807) : IntKind.i64.wrap n = n := by
  have hb : IntKind.i64.bits = 64 := rfl
  have hs : IntKind.i64.signed = true := rfl
  simp only [IntKind.wrap, hb, hs, Int.reducePow, Nat.reduceSub, Bool.true_and, Bool.false_and, Bool.false_eq_true, if_false, decide_eq_true_eq, ge_iff_le]
  split <;> omega
theorem wrap_u8 {n : Int} (h1 : 0 ≤ n) (h2 : n ≤ 255) : IntKind.u8.wrap n = n := by
  have hb : IntKind.u8.bits = 8 := rfl
  have hs : IntKind.u8.signed = false := rfl
  simp only [IntKind.wrap, hb, hs, Int.reducePow, Nat.reduceSub, Bool.true_and, Bool.false_and, Bool.false_eq_true, if_false, decide_eq_true_eq, ge_iff_le]
  omega
theorem wrap_u16 {n : Int} (h1 : 0 ≤ n) (h2 : n ≤ 65535) : IntKind.u16.wrap n = n := by
  have hb : IntKind.u16.bits = 16 := rfl
  have hs : IntKind.u16.signed = false := rfl
  simp only [IntKind.wrap, hb, hs, Int.reducePow, Nat.reduceSub, Bool.true_and, Bool.false_and, Bool.false_eq_true, if_false, decide_eq_true_eq, ge_iff_le]
  omega
theorem wrap_u32 {n : Int} (h1 : 0 ≤ n) (h2 : n ≤ 4294967295) : IntKind.u32.wrap n = n := by
  have hb : IntKind.u32.bits = 32 := rfl
  have hs : IntKind.u32.signed = false := rfl
  simp only [IntKind.wrap, hb, hs, Int.reducePow, Nat.reduceSub, Bool.true_and, Bool.false_and, Bool.false_eq_true, if_false, decide_eq_true_eq, ge_iff_le]
  omega
theorem wrap_u64 {n : Int} (h1 : 0 ≤ n) (h2 : n ≤ 18446744073709551615) : IntKind.u64.wrap n = n := by
  have hb : IntKind.u64.bits = 64 := rfl
  have hs : IntKind.u64.signed = false := rfl
  simp only [IntKind.wrap, hb, hs, Int.reducePow, Nat.reduceSub, Bool.true_and, Bool.false_and, Bool.false_eq_true, if_false, decide_eq_true_eq, ge_iff_le]
  omega

end Go.X
namespace Go.X
theorem cells_ag (cs : List V) : (V.ag cs).cells = cs := rfl
theorem fits_ag (cs : List V) : (V.ag cs).fits = true := rfl
theorem cells_bV (c : UInt8) : (V.i .u8 (c.toNat : Int)).cells = [.i .u8 (c.toNat : Int)] := rfl
theorem cells_b (x : Bool) : (V.b x).cells = [.b x] := rfl
theorem fits_b (x : Bool) : (V.b x).fits = true := rfl
theorem cells_i (k : IntKind) (n : Int) : (V.i k n).cells = [.i k n] := rfl
theorem fits_i (k : IntKind) (n : Int) : (V.i k n).fits = true := rfl
theorem cells_s (l : List UInt8) : (V.s l).cells = [.s l] := rfl
theorem fits_s (l : List UInt8) : (V.s l).fits = true := rfl
theorem cells_pnil  : (V.pnil).cells = [.pnil] := rfl
theorem fits_pnil  : (V.pnil).fits = true := rfl
theorem cells_ptr (i j f : Nat) : (V.ptr i j f).cells = [.ptr i j f] := rfl
theorem fits_ptr (i j f : Nat) : (V.ptr i j f).fits = true := rfl
theorem cells_ip (cs : List V) : (V.ip cs).cells = [.ip cs] := rfl
theorem fits_ip (cs : List V) : (V.ip cs).fits = true := rfl
theorem cells_nil  : (V.nil).cells = [.nil] := rfl
theorem fits_nil  : (V.nil).fits = true := rfl
theorem cells_sl (i o n : Nat) : (V.sl i o n).cells = [.sl i o n] := rfl
theorem fits_sl (i o n : Nat) : (V.sl i o n).fits = true := rfl
theorem cells_im (e : Nat) (xs : List V) : (V.im e xs).cells = [.im e xs] := rfl
theorem fits_im (e : Nat) (xs : List V) : (V.im e xs).fits = true := rfl
theorem cells_mnil  : (V.mnil).cells = [.mnil] := rfl
theorem fits_mnil  : (V.mnil).fits = true := rfl
theorem cells_mp (i : Nat) : (V.mp i).cells = [.mp i] := rfl
theorem fits_mp (i : Nat) : (V.mp i).fits = true := rfl
theorem cells_fn (f : Fn) (x y : List V) : (V.fn f x y).cells = [.fn f x y] := rfl
theorem fits_fn (f : Fn) (x y : List V) : (V.fn f x y).fits = true := rfl
theorem cells_nfn  : (V.nfn).cells = [.nfn] := rfl
theorem fits_nfn  : (V.nfn).fits = true := rfl
theorem cells_ifc (t : TypeId) (v : V) : (V.ifc t v).cells = [.ifc t v] := rfl
theorem fits_ifc (t : TypeId) (v : V) : (V.ifc t v).fits = true := rfl
theorem cells_nifc  : (V.nifc).cells = [.nifc] := rfl
theorem fits_nifc  : (V.nifc).fits = true := rfl
theorem one_b (x : Bool) : (V.b x).one = true := rfl
theorem one_i (k : IntKind) (n : Int) : (V.i k n).one = true := rfl
theorem one_s (l : List UInt8) : (V.s l).one = true := rfl
theorem one_pnil  : (V.pnil).one = true := rfl
theorem one_ptr (i j f : Nat) : (V.ptr i j f).one = true := rfl
theorem one_ip (cs : List V) : (V.ip cs).one = true := rfl
theorem one_nil  : (V.nil).one = true := rfl
theorem one_sl (i o n : Nat) : (V.sl i o n).one = true := rfl
theorem one_im (e : Nat) (xs : List V) : (V.im e xs).one = true := rfl
theorem one_mnil  : (V.mnil).one = true := rfl
theorem one_mp (i : Nat) : (V.mp i).one = true := rfl
theorem one_fn (f : Fn) (x y : List V) : (V.fn f x y).one = true := rfl
theorem one_nfn  : (V.nfn).one = true := rfl
theorem one_ifc (t : TypeId) (v : V) : (V.ifc t v).one = true := rfl
theorem one_nifc  : (V.nifc).one = true := rfl
theorem setFrom_nil {α : Type} (l : List α) (o : Nat) : setFrom l o [] = l := rfl
theorem setFrom_cons {α : Type} (l : List α) (o : Nat) (v : α) (vs : List α) : setFrom l o (v :: vs) = setFrom (l.set o v) (o + 1) vs := rfl
theorem stE_ag {cs : List V} {f : Nat} {v : V} (hv : v.one = true) (hf : f < cs.length) : stE (.ag cs) f v = some (.ag (cs.set f v)) := by
  cases v <;> simp_all [stE, V.one]
theorem stE_one {x v : V} (hx : x.one = true) (hv : v.one = true) : stE x 0 v = some v := by
  cases x <;> cases v <;> simp_all [stE, V.one]
theorem ifp {α : Type} {c : Prop} [Decidable c] (hc : c) (a b : α) : (if c then a else b) = a := if_pos hc
theorem ifn {α : Type} {c : Prop} [Decidable c] (hc : ¬ c) (a b : α) : (if c then a else b) = b := if_neg hc
theorem call_eq {c : Cx} {f : FuncId} {args : List V} {v : V} {d : Option Tmp} {k : List Fr} {a : Tm} {h h1 : H} (hx : XCalls c.P c.G f args h (fun o h' => o = .ret v ∧ h' = h1)) (hk : K c k (updO d v a) h1) : callK c f args d k a h :=
  call_mono hx fun o h' e => by obtain ⟨rfl, rfl⟩ := e; exact hk
theorem fs {h : H} {i j : Nat} {o : O} (e : h.set i o j = none) : h j = none := by
  unfold H.set at e; split at e
  · cases e
  · exact e
theorem fsn {h : H} {i j : Nat} {o : O} (e : h.set i o j = none) : j ≠ i := by
  rintro rfl; simp [H.set] at e
theorem call_ex {c : Cx} {f : FuncId} {args : List V} {S : Type} {p : S → Prop} {r : S → V} {g : S → H} {d : Option Tmp} {k : List Fr} {a : Tm} {h : H} (hx : XCalls c.P c.G f args h (fun o h' => ∃ s, p s ∧ o = .ret (r s) ∧ h' = g s)) (hk : ∀ s, p s → K c k (updO d (r s) a) (g s)) : callK c f args d k a h :=
  call_mono hx fun o h' e => by obtain ⟨s, h1, rfl, rfl⟩ := e; exact hk s h1
theorem RetK_pure {h0 h : H} {v v' : V} (hs : Sub h0 h) (e : v = v') : RetK (fun o h' => o = .ret v' ∧ h' = h0) v h := RetK_keep hs ⟨by rw [e], rfl⟩
theorem RetK_prow {h0 h : H} {id off len e : Nat} {xs ys : List V} (h1 : h id = some (.row e xs)) (h2 : off + len ≤ xs.length) (hs : Sub h0 h) (hS : h0 id = none) (he : (xs.drop off).take len = ys) :
    RetK (fun o h' => o = .ret (.im e ys) ∧ h' = h0) (.sl id off len) h := RetK_row h1 h2 hs hS ⟨by rw [he], rfl⟩
/-- A buffer of the function's own: nil, or a row that nobody else has. -/
def Buf (e : Nat) (h2 h : H) (v : V) (xs : List V) : Prop := (v = .nil ∧ xs = [] ∧ h = h2) ∨ ∃ i, h2 i = none ∧ v = .sl i 0 xs.length ∧ h = h2.set i (.row e xs)
theorem Buf.nil (e : Nat) (h2 : H) : Buf e h2 h2 .nil [] := .inl ⟨rfl, rfl, rfl⟩
theorem Buf.mk {e : Nat} {h2 : H} {i : Nat} {xs : List V} (hi : h2 i = none) : Buf e h2 (h2.set i (.row e xs)) (.sl i 0 xs.length) xs := .inr ⟨i, hi, rfl, rfl⟩
theorem del_set {h : H} {i : Nat} {o : O} (hi : h i = none) : (h.set i o).del i = h := by
  funext j; unfold H.del H.set
  split
  · rename_i e; subst e; exact hi.symm
  · rfl
theorem srcV_mono {h h' : H} {e : Nat} {y : V} {ys : List V} (hs : Sub h h') (hy : srcV h e y = some ys) : srcV h' e y = some ys := by
  cases y <;> simp only [srcV] at hy ⊢ <;> try exact hy
  rename_i id off len
  cases hid : h id with
  | none => simp [hid] at hy
  | some o => rw [hs id o hid]; simpa [hid] using hy
theorem appK_buf {c : Cx} {t u : TypeId} {v y : V} {d : Option Tmp} {k : List Fr} {a : Tm} {h h2 : H} {e es bs : Nat} {xs ys : List V} (hb : Buf es h2 h v xs) (hs : slOf c.P t = some (e, es, bs)) (hy : srcV h2 es y = some ys)
    (h3 : srcTyB c.P u = true) (h4 : bs ≠ 0) (h5 : (xs.length + ys.length) * bs ≤ 140737488355328) (hk : ∀ v' h', Buf es h2 h' v' (xs ++ ys) → K c k (updO d v' a) h') : appK c t u (some v) (some y) d k a h := by
  rcases hb with ⟨rfl, rfl, rfl⟩ | ⟨i, hi, rfl, rfl⟩
  · refine appK_intro (xs := []) (h1 := h) hs rfl hy rfl h3 h4 h5 (fun id hid => ?_)
    refine hk _ _ (.inr ⟨id, hid, by simp, by simp⟩)
  · have hy' := srcV_mono (Sub.set_fresh (.refl h2) hi (.row es xs)) hy
    refine appK_intro (xs := xs) (h1 := h2) hs ?_ hy' ?_ h3 h4 h5 (fun id hid => ?_)
    · simp only [dstV, set_eq, if_true]
      rw [del_set hi]; simp
    · cases y <;> try rfl
      rename_i j off len
      simp only [noShare, bne_iff_ne, ne_eq]
      rintro rfl
      simp [srcV, hi] at hy
    · exact hk _ _ (.inr ⟨id, fs hid, by simp, rfl⟩)
theorem set_comm {h : H} {i j : Nat} {o o' : O} (hij : i ≠ j) : (h.set i o).set j o' = (h.set j o').set i o := by
  funext k; unfold H.set
  by_cases h1 : k = j
  · subst h1; simp [Ne.symm hij]
  · simp [h1]
theorem Buf.get {e : Nat} {h2 h : H} {v : V} {xs : List V} (hb : Buf e h2 h v xs) {id : Nat} {o : O} (ho : h2 id = some o) : h id = some o := by
  rcases hb with ⟨_, _, rfl⟩ | ⟨i, hi, _, rfl⟩
  · exact ho
  · unfold H.set; split
    · rename_i e; subst e; rw [hi] at ho; cases ho
    · exact ho
theorem Buf.set {e : Nat} {h2 h : H} {v : V} {xs : List V} (hb : Buf e h2 h v xs) {id : Nat} {o : O} (ho : h2 id = some o) (o' : O) : Buf e (h2.set id o') (h.set id o') v xs := by
  rcases hb with ⟨rfl, rfl, rfl⟩ | ⟨i, hi, rfl, rfl⟩
  · exact Buf.nil _ _
  · have hne : i ≠ id := by rintro rfl; rw [hi] at ho; cases ho
    refine .inr ⟨i, ?_, rfl, set_comm hne⟩
    unfold H.set; rw [if_neg hne]; exact hi
theorem Buf.sub {e : Nat} {h2 h : H} {v : V} {xs : List V} (hb : Buf e h2 h v xs) : Sub h2 h := by
  rcases hb with ⟨_, _, rfl⟩ | ⟨i, hi, _, rfl⟩
  · exact .refl _
  · exact Sub.set_fresh (.refl _) hi _
theorem RetK_buf {e : Nat} {h2 h : H} {v : V} {xs : List V} (hb : Buf e h2 h v xs) {ys : List V} (he : xs = ys) : RetK (fun o h' => o = .ret (.im e ys) ∧ h' = h2) v h := by
  subst he
  rcases hb with ⟨rfl, rfl, rfl⟩ | ⟨i, hi, rfl, rfl⟩
  · exact RetK_freeze (S := []) (.nil e) (.refl _) (by simp) ⟨rfl, rfl⟩
  · exact RetK_prow (xs := xs) (e := e) (by simp [set_eq]) (by simp) (Sub.set_fresh (.refl _) hi _) hi (by simp)
theorem Sub.no {a b : H} (hs : Sub a b) {i : Nat} (hb : b i = none) : a i = none := by
  cases ha : a i with
  | none => rfl
  | some o => rw [hs i o ha] at hb; cases hb
theorem RetK_buf' {e : Nat} {h0 h2 h : H} {v : V} {xs : List V} (hb : Buf e h2 h v xs) (hs : Sub h0 h2) {ys : List V} (he : xs = ys) : RetK (fun o h' => o = .ret (.im e ys) ∧ h' = h0) v h := by
  subst he
  rcases hb with ⟨rfl, rfl, rfl⟩ | ⟨i, hi, rfl, rfl⟩
  · exact RetK_freeze (S := []) (.nil e) hs (by simp) ⟨rfl, rfl⟩
  · exact RetK_prow (xs := xs) (e := e) (by simp [set_eq]) (by simp) (Sub.set_fresh hs (hs.no hi) _) (hs.no hi) (by simp)
/-- bytes, numbers -/
def bV (c : UInt8) : V := .i .u8 (c.toNat : Int)
def bytesV (l : List UInt8) : List V := l.map bV
theorem bytesV_length (l : List UInt8) : (bytesV l).length = l.length := by simp [bytesV]
theorem bytesV_get (l : List UInt8) (i : Nat) : (bytesV l)[i]? = (l[i]?).map bV := by simp [bytesV]
theorem bytesV_drop (l : List UInt8) (i : Nat) : (bytesV l).drop i = bytesV (l.drop i) := by simp [bytesV]
theorem bytesV_take (l : List UInt8) (i : Nat) : (bytesV l).take i = bytesV (l.take i) := by simp [bytesV]
theorem bytesV_append (l m : List UInt8) : bytesV l ++ bytesV m = bytesV (l ++ m) := by simp [bytesV]
theorem bytesV_nil : bytesV [] = [] := rfl
theorem bytesV_one (c : UInt8) : [V.i .u8 (c.toNat : Int)] = bytesV [c] := rfl
theorem bytesV_ok (l : List UInt8) : ∀ x ∈ bytesV l, x.okE 1 := by
  intro x hx
  obtain ⟨c, _, rfl⟩ := List.mem_map.1 hx
  exact ⟨rfl, by simp [bV, V.cells, V.one]⟩
theorem bytesOf_bytesV (l : List UInt8) : bytesOfVs (bytesV l) = some l := by
  induction l with
  | nil => rfl
  | cons c l ih =>
    show bytesOfVs (V.i .u8 (c.toNat : Int) :: bytesV l) = _
    simp only [bytesOfVs, ih, Option.map_some]
    simp
theorem bV_cells (c : UInt8) : (bV c).cells = [.i .u8 (c.toNat : Int)] := rfl
theorem bV_eq (c : UInt8) : bV c = .i .u8 (c.toNat : Int) := rfl
theorem u8_lt (c : UInt8) : (c.toNat : Int) < 256 := by have := c.toNat_lt; omega

theorem Sub.of_set {h k : H} {id : Nat} {o : O} (hs : Sub h k) (hf : h id = none) : Sub h (k.set id o) := Sub.set_fresh hs hf o
end Go.X
end

section
set_option linter.unusedVariables false
set_option linter.unusedSimpArgs false
namespace Go.X

def rdV (P : Program) (h : H) (ρ : Operand → Option V) : Op → Option V
  | .load t x => (ρ x).bind fun p => (ptrCells h p).bind (loadFrom (tld P t))
  | op => pureOp P h ρ op

/-- Is the operation wanted? -/
def gwant (ops : Array Oper) (o : Oper) (a : Tm) : Option Bool :=
  match o.guard with
  | none => some true
  | some (g, want) => match (ops[g]?).bind (·.dst) with
    | none => some false
    | some t => (a t).bind fun v => match v with
      | .b b => some (b == want)
      | .tu [] => some false
      | _ => none

def rdStep (P : Program) (G : Gl) (ops : Array Oper) (h : H) (o : Oper) (a : Tm) : Option V :=
  (gwant ops o a).bind fun g => if g then rdV P h (rho G a) o.op else some undefV

def looks (ops : Array Oper) (o : Oper) (t : Tmp) : Bool := (o.looksAt ops).contains t

def hasAfter (o : Oper) (j : Nat) : Bool := o.after.any fun e => Region.binds .any e && e.on == j

/-- The order does not matter. -/
def quietOk (ops : Array Oper) : Bool :=
  Region.noSelect ops &&
  (List.range ops.size).all fun i => match ops[i]? with
    | none => true
    | some o => (o.after.all fun e => !Region.binds .any e || e.on < i) &&
      (List.range ops.size).all fun j => j == i || match ops[j]? with
        | none => true
        | some q => (match q.dst with
          | none => true
          | some t => o.dst != some t && (!looks ops o t || hasAfter o j || hasAfter q i))

/-- The reads one by one, in the order of the text. -/
def qW (P : Program) (G : Gl) (ops : Array Oper) (h : H) (N : Tm → Prop) : List Oper → Tm → Prop
  | [], a => N a
  | o :: l, a => match gwant ops o a with
    | some true => ob (rdV P h (rho G a) o.op) fun v => qW P G ops h N l (updO o.dst v a)
    | some false => qW P G ops h N l (updO o.dst undefV a)
    | none => False

/-- The states that the reads go through. -/
def runs (P : Program) (G : Gl) (ops : Array Oper) (h : H) : List Oper → List V → Tm → Tm → Prop
  | [], [], a, a' => a = a'
  | o :: l, v :: vs, a, a' => rdStep P G ops h o a = some v ∧ runs P G ops h l vs (updO o.dst v a) a'
  | _, _, _, _ => False

section
variable {P : Program} {G : Gl}

theorem qW_runs {ops : Array Oper} {h : H} {N : Tm → Prop} : ∀ (l : List Oper) (a : Tm), qW P G ops h N l a → ∃ vs a', runs P G ops h l vs a a' ∧ N a'
  | [], a, hq => ⟨[], a, rfl, hq⟩
  | o :: l, a, hq => by
    simp only [qW] at hq
    cases hg : gwant ops o a with
    | none => rw [hg] at hq; exact hq.elim
    | some g =>
      rw [hg] at hq
      cases g with
      | true =>
        obtain ⟨v, hv, hq⟩ := ob_spec hq
        obtain ⟨vs, a', h1, h2⟩ := qW_runs l _ hq
        exact ⟨v :: vs, a', ⟨by simp [rdStep, hg, hv], h1⟩, h2⟩
      | false =>
        obtain ⟨vs, a', h1, h2⟩ := qW_runs l _ hq
        exact ⟨undefV :: vs, a', ⟨by simp [rdStep, hg], h1⟩, h2⟩

theorem runs_length {ops : Array Oper} {h : H} : ∀ {l : List Oper} {vs : List V} {a a' : Tm}, runs P G ops h l vs a a' → vs.length = l.length
  | [], [], _, _, _ => rfl
  | _ :: _, _ :: _, _, _, ⟨_, h⟩ => by simp [runs_length h]
  | [], _ :: _, _, _, h => h.elim
  | _ :: _, [], _, _, h => h.elim

/-- The state before the i-th. -/
theorem runs_at {ops : Array Oper} {h : H} : ∀ {l : List Oper} {vs : List V} {a a' : Tm} (i : Nat) {o : Oper}, runs P G ops h l vs a a' → l[i]? = some o →
    ∃ ai v, vs[i]? = some v ∧ rdStep P G ops h o ai = some v ∧ ∀ t, (∃ j q u, j < i ∧ l[j]? = some q ∧ q.dst = some t ∧ vs[j]? = some u ∧ ai t = some u ∧ ∀ k r, j < k → k < i → l[k]? = some r → r.dst ≠ some t) ∨
      ((∀ j q, j < i → l[j]? = some q → q.dst ≠ some t) ∧ ai t = a t)
  | [], _, _, _, i, _, _, hi => by simp at hi
  | _ :: _, [], _, _, _, _, h, _ => h.elim
  | o0 :: l, v0 :: vs, a, a', 0, o, ⟨h1, h2⟩, hi => by
    simp at hi; subst hi
    exact ⟨a, v0, rfl, h1, fun t => .inr ⟨fun j q hj => by omega, rfl⟩⟩
  | o0 :: l, v0 :: vs, a, a', i + 1, o, ⟨h1, h2⟩, hi => by
    simp only [List.getElem?_cons_succ] at hi
    obtain ⟨ai, v, h3, h4, h5⟩ := runs_at i h2 hi
    refine ⟨ai, v, by simpa using h3, h4, fun t => ?_⟩
    rcases h5 t with ⟨j, q, u, hj, hq, hd, hu, ha, hlast⟩ | ⟨hno, ha⟩
    · refine .inl ⟨j + 1, q, u, by omega, by simpa using hq, hd, by simpa using hu, ha, fun k r hk1 hk2 hr => ?_⟩
      cases k with
      | zero => omega
      | succ k => exact hlast k r (by omega) (by omega) (by simpa using hr)
    · by_cases hd : o0.dst = some t
      · refine .inl ⟨0, o0, v0, by omega, rfl, hd, rfl, ?_, fun k r hk1 hk2 hr => ?_⟩
        · rw [ha]; simp [updO, hd, upd]
        · cases k with
          | zero => omega
          | succ k => exact hno k r (by omega) (by simpa using hr)
      · refine .inr ⟨fun j q hj hq => ?_, ?_⟩
        · cases j with
          | zero => simp at hq; subst hq; exact hd
          | succ j => exact hno j q (by omega) (by simpa using hq)
        · rw [ha]
          cases hdd : o0.dst with
          | none => rfl
          | some s =>
            have : t ≠ s := by rintro rfl; exact hd hdd
            simp [updO, upd, this]

theorem runs_end {ops : Array Oper} {h : H} : ∀ {l : List Oper} {vs : List V} {a a' : Tm}, runs P G ops h l vs a a' →
    ∀ t, (∃ (j : Nat) (q : Oper) (u : V), l[j]? = some q ∧ q.dst = some t ∧ vs[j]? = some u ∧ a' t = some u ∧ ∀ (k : Nat) (r : Oper), j < k → l[k]? = some r → r.dst ≠ some t) ∨ ((∀ (j : Nat) (q : Oper), l[j]? = some q → q.dst ≠ some t) ∧ a' t = a t)
  | [], [], a, a', h => fun t => .inr ⟨fun j q hq => by simp at hq, by rw [show a = a' from h]⟩
  | [], _ :: _, _, _, h => h.elim
  | _ :: _, [], _, _, h => h.elim
  | o0 :: l, v0 :: vs, a, a', ⟨h1, h2⟩ => by
    intro t
    rcases runs_end h2 t with ⟨j, q, u, hq, hd, hu, ha, hlast⟩ | ⟨hno, ha⟩
    · refine .inl ⟨j + 1, q, u, by simpa using hq, hd, by simpa using hu, ha, fun k r hk1 hr => ?_⟩
      cases k with
      | zero => omega
      | succ k => exact hlast k r (by omega) (by simpa using hr)
    · by_cases hd : o0.dst = some t
      · refine .inl ⟨0, o0, v0, rfl, hd, rfl, ?_, fun k r hk1 hr => ?_⟩
        · rw [ha]; simp [updO, hd, upd]
        · cases k with
          | zero => omega
          | succ k => exact hno k r (by simpa using hr)
      · refine .inr ⟨fun j q hq => ?_, ?_⟩
        · cases j with
          | zero => simp at hq; subst hq; exact hd
          | succ j => exact hno j q (by simpa using hq)
        · rw [ha]
          cases hdd : o0.dst with
          | none => rfl
          | some s =>
            have : t ≠ s := by rintro rfl; exact hd hdd
            simp [updO, upd, this]

/-- A read is sound. -/
theorem rdV_spec {μ : Mu} {I : Nat → Prop} {h : H} {w : World} (r : R G μ I h w) {act : Act} {ρ : Operand → Option V} (hρ : ∀ x v, ρ x = some v → VR w I μ v (act.eval x)) {o : Oper} {v : V} (hv : rdV P h ρ o.op = some v) :
    ∃ rv, (execOp act.eval o).run P w = .ok (.value rv) w ∧ VR w I μ v rv := by
  have pure_ : pureOp P h ρ o.op = some v → ∃ rv, (execOp act.eval o).run P w = .ok (.value rv) w ∧ VR w I μ v rv := fun hv => pureOp_spec r hρ hv
  unfold rdV at hv
  split at hv
  · rename_i t x ho
    simp only [Option.bind_eq_some_iff] at hv
    obtain ⟨p, hp, cs, hcs, hv⟩ := hv
    obtain ⟨b, of, rs, he1, hvr, hcell, hone⟩ := ptrCells_spec r (hρ _ _ hp) hcs
    obtain ⟨rv, h1, h2⟩ := run_loadVar (P := P) hv hvr hcell hone
    refine ⟨rv, ?_, h2⟩
    unfold execOp
    simp only [ho, Instr.loadAt, he1, Instr.sureAddr, Sem.run_bind, Sem.run_pure, Result.andThen_ok, h1]
  · exact pure_ hv

theorem mapO_congr {ρ ρ' : Operand → Option V} : ∀ (l : List Operand), (∀ x ∈ l, ρ x = ρ' x) → mapO ρ l = mapO ρ' l
  | [], _ => rfl
  | x :: l, h => by simp only [mapO]; rw [h x (by simp), mapO_congr l (fun y hy => h y (by simp [hy]))]
theorem mapP_congr {ρ ρ' : Operand → Option V} : ∀ (l : List (Nat × Operand)), (∀ x ∈ l, ρ x.2 = ρ' x.2) → mapP ρ l = mapP ρ' l
  | [], _ => rfl
  | (i, x) :: l, h => by simp only [mapP]; rw [h (i, x) (by simp), mapP_congr l (fun y hy => h y (by simp [hy]))]

theorem rdV_congr {h : H} {ρ ρ' : Operand → Option V} {op : Op} (he : ∀ x ∈ op.operands, ρ x = ρ' x) : rdV P h ρ op = rdV P h ρ' op := by
  unfold rdV
  split
  · rename_i t x; rw [he x (by simp [Op.operands])]
  · rename_i hnl
    clear hnl
    cases op <;> simp only [Op.operands] at he <;> simp only [pureOp]
    case pick c x y => rw [he c (by simp), he x (by simp), he y (by simp)]
    case move x => exact he x (by simp)
    case assign x => exact he x (by simp)
    case nilCheck x => rw [he x (by simp)]
    case unOp _ _ x => rw [he x (by simp)]
    case convert _ _ x => rw [he x (by simp)]
    case makeInterface _ x => rw [he x (by simp)]
    case fieldAddr _ x _ => rw [he x (by simp)]
    case field _ x _ => rw [he x (by simp)]
    case extract x _ => rw [he x (by simp)]
    case typeAssert x _ _ _ => rw [he x (by simp)]
    case binOp _ _ x y _ => rw [he x (by simp), he y (by simp)]
    case indexAddr _ x y => rw [he x (by simp), he y (by simp)]
    case index _ x y => rw [he x (by simp), he y (by simp)]
    case makeFunc f fs cs => rw [mapO_congr fs.toList (fun x hx => he x (by simp [Array.mem_toList_iff.1 hx])), mapO_congr cs.toList (fun x hx => he x (by simp [Array.mem_toList_iff.1 hx]))]
    case build t ps => rw [mapP_congr ps.toList (fun x hx => he x.2 (by simp; exact ⟨x.1, Array.mem_toList_iff.1 hx⟩))]
    case slice t x lo hi mx =>
      cases mx with
      | some _ => rfl
      | none =>
        simp only [pureOp]
        rw [he x (by simp)]
        have h1 : optO ρ lo = optO ρ' lo := by cases lo with
          | none => rfl
          | some y => simp only [optO]; rw [he y (by simp)]
        have h2 : optO ρ hi = optO ρ' hi := by cases hi with
          | none => rfl
          | some y => simp only [optO]; rw [he y (by simp)]
        rw [h1, h2]
    case call c =>
      obtain ⟨callee, args, tys⟩ := c
      obtain ⟨args⟩ := args
      obtain ⟨tys⟩ := tys
      have he' : ∀ x ∈ args, ρ x = ρ' x := fun x hx => he x (by simp [Call.operands, hx])
      simp only
      split
      · rename_i x t; rw [he' x (by simp)]
      · rename_i x y; rw [he' x (by simp), he' y (by simp)]
      · rename_i x y; rw [he' x (by simp), he' y (by simp)]
      · rfl

theorem gwant_spec {ops : Array Oper} {o : Oper} {a : Tm} {g : Bool} (hg : gwant ops o a = some g) {μ : Mu} {I : Nat → Prop} {w : World} {act : Act} (ht : TR w I μ a act.tmps) :
    Region.wanted o (yielded ops act.tmps) = g := by
  have : gd ops o a (g = true) (g = false) := by
    unfold gwant at hg
    unfold gd
    cases ho : o.guard with
    | none => simp only [ho, Option.some.injEq] at hg; exact hg.symm
    | some gw =>
      obtain ⟨j, want⟩ := gw
      simp only [ho] at hg ⊢
      cases hd : (ops[j]?).bind (·.dst) with
      | none => simp only [hd, Option.some.injEq] at hg; exact hg.symm
      | some t =>
        simp only [hd, Option.bind_eq_some_iff] at hg
        obtain ⟨v, hv, hg⟩ := hg
        simp only [hv, ob_some]
        split at hg
        · simp only [Option.some.injEq] at hg; subst hg; exact ⟨fun h => h, fun h => h⟩
        · simp only [Option.some.injEq] at hg; exact hg.symm
        · cases hg
  rcases gd_spec this ht with ⟨h1, h2⟩ | ⟨h1, h2⟩
  · rw [h1, h2]
  · rw [h1, h2]

theorem rdStep_congr {ops : Array Oper} {h : H} {o : Oper} {a a' : Tm} (he : ∀ t, t ∈ o.looksAt ops → a t = a' t) : rdStep P G ops h o a = rdStep P G ops h o a' := by
  have h1 : gwant ops o a = gwant ops o a' := by
    unfold gwant
    cases ho : o.guard with
    | none => rfl
    | some gw =>
      obtain ⟨j, want⟩ := gw
      simp only
      cases hd : (ops[j]?).bind (·.dst) with
      | none => rfl
      | some t => simp only; rw [he t (by simp [Oper.looksAt, ho, hd])]
  have h2 : rdV P h (rho G a) o.op = rdV P h (rho G a') o.op := by
    refine rdV_congr fun x hx => ?_
    cases x with
    | tmp t => exact he t (by
        simp only [Oper.looksAt, List.mem_append, List.mem_filterMap]
        exact .inl ⟨.tmp t, by simpa using hx, rfl⟩)
    | _ => rfl
  simp only [rdStep, h1, h2]

/-- What has been listed stands in the temporaries. -/
def Agree (ops : Array Oper) (vs : List V) (a : Tm) (listed : Array Bool) (aA : Tm) : Prop :=
  ∀ t, (∃ (k : Nat) (o : Oper), ops[k]? = some o ∧ listed.getD k false = true ∧ o.dst = some t ∧ aA t = vs[k]?) ∨
    ((∀ (k : Nat) (o : Oper), ops[k]? = some o → listed.getD k false = true → o.dst ≠ some t) ∧ aA t = a t)

theorem looks_mem {ops : Array Oper} {o : Oper} {t : Tmp} : looks ops o t = true ↔ t ∈ o.looksAt ops := by simp [looks]

theorem unl_lt {listed : Array Bool} {n i : Nat} (hsz : listed.size = n) (hi : i < n) (hl : listed.getD i true = false) :
    ((List.range n).filter fun j => !(listed.setIfInBounds i true).getD j true).length < ((List.range n).filter fun j => !listed.getD j true).length := by
  have key : ∀ (l : List Nat), l.Nodup → i ∈ l → ((l.filter fun j => !(listed.setIfInBounds i true).getD j true).length < (l.filter fun j => !listed.getD j true).length) := by
    intro l
    have le : ∀ (l : List Nat), (l.filter fun j => !(listed.setIfInBounds i true).getD j true).length ≤ (l.filter fun j => !listed.getD j true).length := by
      intro l
      induction l with
      | nil => simp
      | cons x l ih =>
        by_cases hx : i = x
        · subst hx
          have h1 : (listed.setIfInBounds i true).getD i true = true := by
            simp only [Array.getD_eq_getD_getElem?]
            rw [Array.getElem?_setIfInBounds_self_of_lt (by omega)]; rfl
          simp only [List.filter_cons, h1, hl, Bool.not_true, Bool.not_false, if_true, Bool.false_eq_true, if_false, List.length_cons]
          omega
        · rw [List.filter_cons, List.filter_cons, getD_set_ne true hx]
          split
          · simp only [List.length_cons]; omega
          · exact ih
    induction l with
    | nil => intro _ h; simp at h
    | cons x l ih =>
      intro hnd hmem
      by_cases hx : i = x
      · subst hx
        have h1 : (listed.setIfInBounds i true).getD i true = true := by
          simp only [Array.getD_eq_getD_getElem?]
          rw [Array.getElem?_setIfInBounds_self_of_lt (by omega)]; rfl
        have := le l
        simp only [List.filter_cons, h1, hl, Bool.not_true, Bool.not_false, if_true, Bool.false_eq_true, if_false, List.length_cons]
        omega
      · have hm : i ∈ l := by
          rcases List.mem_cons.1 hmem with h | h
          · exact absurd h hx
          · exact h
        have := ih (List.nodup_cons.1 hnd).2 hm
        rw [List.filter_cons, List.filter_cons, getD_set_ne true hx]
        split
        · simp only [List.length_cons]; omega
        · exact this
  exact key _ List.nodup_range (by simpa using hi)

theorem quiet_any (ro : Option Nat) {ops : Array Oper} {h : H} {a a' : Tm} {vs : List V} (hq : quietOk ops = true) (hr : runs P G ops h ops.toList vs a a') {Q : Exit → Act → World → Prop} {μ : Mu} {I : Nat → Prop} {w : World} {n : Nat} (r : R G μ I h w)
    (hok : ∀ o ∈ ops.toList, dstOk n o = true)
    {ds : List Deferred} (hN : ∀ act : Act, TR w I μ a' act.tmps → act.tmps.size = n → act.defers = ds → Q .normal act w) :
    ∀ (fuel : Nat) (listed : Array Bool) (act : Act) (aA : Tm), listed.size = ops.size → ((List.range ops.size).filter fun j => !listed.getD j true).length ≤ fuel → Agree ops vs a listed aA →
      (∀ (k : Nat) (o : Oper), ops[k]? = some o → listed.getD k false = true → ∀ e ∈ o.after, Region.binds .any e = true → listed.getD e.on false = true) →
      TR w I μ aA act.tmps → act.tmps.size = n → act.defers = ds → wpAnyIn (FR ro) 0 P .any ops Q fuel listed act w := by
  simp only [quietOk, Bool.and_eq_true, List.all_eq_true, List.mem_range] at hq
  obtain ⟨_, hq⟩ := hq
  have hafter : ∀ (i : Nat) (o : Oper), ops[i]? = some o → ∀ e ∈ o.after, Region.binds .any e = true → e.on < i := by
    intro i o ho e he hb
    have hi := (Array.getElem?_eq_some_iff.1 ho).1
    have := hq i hi
    simp only [ho, Bool.and_eq_true] at this
    have h1 := Array.all_eq_true_iff_forall_mem.1 this.1 e he
    simpa [hb] using h1
  have hpair : ∀ (i j : Nat) (o q : Oper) (t : Tmp), ops[i]? = some o → ops[j]? = some q → j ≠ i → q.dst = some t → o.dst ≠ some t ∧ (t ∈ o.looksAt ops → hasAfter o j = true ∨ hasAfter q i = true) := by
    intro i j o q t ho hqq hne hd
    have hi := (Array.getElem?_eq_some_iff.1 ho).1
    have hj := (Array.getElem?_eq_some_iff.1 hqq).1
    have := hq i hi
    simp only [ho, Bool.and_eq_true, List.all_eq_true, List.mem_range] at this
    have h1 := this.2 j hj
    simp only [hqq, hd, Bool.or_eq_true, beq_iff_eq, hne, false_or, Bool.and_eq_true, bne_iff_ne, ne_eq, Bool.not_eq_true'] at h1
    refine ⟨h1.1, fun ht => ?_⟩
    rcases h1.2 with (h2 | h2) | h2
    · rw [looks_mem.2 ht] at h2; cases h2
    · exact .inl h2
    · exact .inr h2
  have hasA : ∀ (o : Oper) (j : Nat), hasAfter o j = true → ∃ e ∈ o.after, Region.binds .any e = true ∧ e.on = j := by
    intro o j hh
    obtain ⟨e, he, hb⟩ := Array.any_eq_true'.1 hh
    simp only [Bool.and_eq_true, beq_iff_eq] at hb
    exact ⟨e, he, hb.1, hb.2⟩
  have toL : ∀ (i : Nat) (o : Oper), ops[i]? = some o → ops.toList[i]? = some o := fun i o ho => by simpa using ho
  have ofL : ∀ (i : Nat) (o : Oper), ops.toList[i]? = some o → ops[i]? = some o := fun i o ho => by simpa using ho
  have hvl := runs_length hr
  have tf : ∀ (listed : Array Bool) (i : Nat), i < listed.size → listed.getD i true = listed.getD i false := by
    intro listed i hi
    simp only [Array.getD_eq_getD_getElem?, Array.getElem?_eq_getElem hi, Option.getD_some]
  -- all are listed
  have done : ∀ (listed : Array Bool) (act : Act) (aA : Tm), listed.size = ops.size → (∀ i, i < ops.size → listed.getD i true = true) → Agree ops vs a listed aA → TR w I μ aA act.tmps → act.tmps.size = n → act.defers = ds → Q .normal act w := by
    intro listed act aA hsz hall hag ht h1 h2
    refine hN act ?_ h1 h2
    have : aA = a' := by
      funext t
      rcases hag t with ⟨k, o, hk, hl, hd, ha⟩ | ⟨hno, ha⟩
      · rcases runs_end hr t with ⟨j, q, u, hjq, hqd, hu, ha', _⟩ | ⟨hno, _⟩
        · by_cases hjk : j = k
          · subst hjk; rw [ha, ha', hu]
          · exact absurd hd ((hpair k j o q t hk (ofL _ _ hjq) hjk hqd).1)
        · exact absurd hd (hno k o (toL _ _ hk))
      · rcases runs_end hr t with ⟨j, q, u, hjq, hqd, hu, ha', _⟩ | ⟨_, ha'⟩
        · have hj := (Array.getElem?_eq_some_iff.1 (ofL _ _ hjq)).1
          exact absurd hqd (hno j q (ofL _ _ hjq) (by rw [← tf listed j (by omega)]; exact hall j hj))
        · rw [ha, ha']
    rw [← this]; exact ht
  -- if none is ready, all are listed
  have ready0 : ∀ (listed : Array Bool), listed.size = ops.size → Region.ready .any ops listed = [] → ∀ i, i < ops.size → listed.getD i true = true := by
    intro listed hsz hr0 i
    induction i using Nat.strongRecOn with
    | _ i ih =>
      intro hi
      cases hl : listed.getD i true with
      | true => rfl
      | false =>
        have ho : ops[i]? = some ops[i] := Array.getElem?_eq_getElem hi
        have : i ∈ Region.ready .any ops listed := mem_ready.2 ⟨hl, ops[i], ho, fun e he hb => by
          have h1 := hafter i _ ho e he hb
          rw [← tf listed e.on (by omega)]
          exact ih e.on h1 (by omega)⟩
        rw [hr0] at this; cases this
  intro fuel
  induction fuel with
  | zero =>
    intro listed act aA hsz hf hag hcl ht h1 h2
    have hall : ∀ i, i < ops.size → listed.getD i true = true := by
      intro i hi
      cases hl : listed.getD i true with
      | true => rfl
      | false =>
        have : i ∈ (List.range ops.size).filter fun j => !listed.getD j true := by simp only [List.mem_filter, List.mem_range]; exact ⟨hi, by rw [hl]; rfl⟩
        have := List.length_pos_of_mem this
        omega
    refine ⟨?_, done listed act aA hsz hall hag ht h1 h2⟩
    apply List.eq_nil_iff_forall_not_mem.2
    intro i hi
    obtain ⟨hl, o, ho, _⟩ := mem_ready.1 hi
    rw [hall i (Array.getElem?_eq_some_iff.1 ho).1] at hl; cases hl
  | succ fuel ih =>
    intro listed act aA hsz hf hag hcl ht h1 h2
    refine ⟨fun hr0 => done listed act aA hsz (ready0 listed hsz hr0) hag ht h1 h2, fun i hi => ?_⟩
    obtain ⟨hl, o, ho, hall⟩ := mem_ready.1 hi
    have hilt := (Array.getElem?_eq_some_iff.1 ho).1
    have hlf : listed.getD i false = false := by rw [← tf listed i (by omega)]; exact hl
    obtain ⟨ai, v, hv, hstep, hai⟩ := runs_at i hr (toL _ _ ho)
    have hsame : ∀ t, t ∈ o.looksAt ops → aA t = ai t := by
      intro t htl
      rcases hai t with ⟨j, q, u, hji, hjq, hqd, hu, ha, _⟩ | ⟨hno, ha⟩
      · have hjq' := ofL _ _ hjq
        rcases (hpair i j o q t ho hjq' (by omega) hqd).2 htl with hA | hA
        · obtain ⟨e, he, hb, hej⟩ := hasA _ _ hA
          have hlj := hall e he hb
          rw [hej] at hlj
          rcases hag t with ⟨k, o', hk, hlk, hd, haA⟩ | ⟨hno, _⟩
          · by_cases hkj : j = k
            · subst hkj; rw [haA, ha, hu]
            · exact absurd hd ((hpair k j o' q t hk hjq' hkj hqd).1)
          · exact absurd hqd (hno j q hjq' hlj)
        · obtain ⟨e, he, hb, hej⟩ := hasA _ _ hA
          have := hafter j q hjq' e he hb
          omega
      · rcases hag t with ⟨k, o', hk, hlk, hd, haA⟩ | ⟨_, haA⟩
        · by_cases hki : k < i
          · exact absurd hd (hno k o' hki (toL _ _ hk))
          · by_cases hke : k = i
            · subst hke; rw [hlf] at hlk; cases hlk
            · rcases (hpair i k o o' t ho hk hke hd).2 htl with hA | hA
              · obtain ⟨e, he, hb, hej⟩ := hasA _ _ hA
                have := hafter i o ho e he hb
                omega
              · obtain ⟨e, he, hb, hej⟩ := hasA _ _ hA
                have := hcl k o' hk hlk e he hb
                rw [hej, hlf] at this; cases this
        · rw [haA, ha]
    have hstep' : rdStep P G ops h o aA = some v := by rw [rdStep_congr hsame]; exact hstep
    have hdst : ∀ t, o.dst = some t → t < act.tmps.size := by
      intro t hd
      have := hok o (by simpa using Array.mem_of_getElem? ho)
      simp only [dstOk, hd] at this
      rw [h1]; simpa using this
    have next : ∀ rv, VR w I μ v rv → wpAnyIn (FR ro) 0 P .any ops Q fuel (listed.setIfInBounds i true) (act.put o.dst rv) w := by
      intro rv hvr
      refine ih _ _ (updO o.dst v aA) (by simpa using hsz) ?_ ?_ ?_ (ht.put hvr hdst) (by rw [act_put_size]; exact h1) (by rw [act_put_defers]; exact h2)
      · have := unl_lt hsz hilt hl; omega
      · intro t
        have hii : (listed.setIfInBounds i true).getD i false = true := by
          simp only [Array.getD_eq_getD_getElem?]
          rw [Array.getElem?_setIfInBounds_self_of_lt (by omega)]; rfl
        by_cases hd : o.dst = some t
        · exact .inl ⟨i, o, ho, hii, hd, by rw [hv]; simp [updO, hd, upd]⟩
        · have hup : updO o.dst v aA t = aA t := by
            cases hdd : o.dst with
            | none => rfl
            | some s =>
              have : t ≠ s := by rintro rfl; exact hd hdd
              simp [updO, upd, this]
          rcases hag t with ⟨k, o', hk, hlk, hdk, haA⟩ | ⟨hno, haA⟩
          · exact .inl ⟨k, o', hk, getD_set_true hlk, hdk, by rw [hup]; exact haA⟩
          · refine .inr ⟨fun k o' hk hlk => ?_, by rw [hup]; exact haA⟩
            by_cases hki : i = k
            · subst hki; rw [ho] at hk; cases hk; exact hd
            · rw [getD_set_ne false hki] at hlk; exact hno k o' hk hlk
      · intro k o' hk hlk e he hb
        by_cases hki : i = k
        · subst hki; rw [ho] at hk; cases hk; exact getD_set_true (hall e he hb)
        · rw [getD_set_ne false hki] at hlk; exact getD_set_true (hcl k o' hk hlk e he hb)
    have hnd : ∀ c, rdV P h (rho G aA) o.op = some v → o.op ≠ .defer c := by
      intro c hv hc
      rw [hc] at hv
      cases hv
    unfold wpOpIn
    simp only [ho]
    simp only [rdStep, Option.bind_eq_some_iff] at hstep'
    obtain ⟨g, hg, hstep'⟩ := hstep'
    rw [gwant_spec hg ht]
    cases g with
    | true =>
      rw [if_pos rfl] at hstep' ⊢
      obtain ⟨rv, h3, h4⟩ := rdV_spec (act := act) r (tr_rho r ht) hstep'
      refine ⟨fun _ _ => trivial, uponIn_of (fun c => hnd c hstep') ?_⟩
      unfold Oper.wp
      rw [h3, Oper.upon_value]
      exact next rv h4
    | false =>
      simp only [Bool.false_eq_true, if_false, Option.some.injEq] at hstep' ⊢
      subst hstep'
      exact ⟨fun _ _ => trivial, next undef (.tu _ _ .nil)⟩

/-- A region that draws its order and only reads. -/
theorem drawK_quiet {c : Cx} {id : Nat} {ops : Array Oper} {k : List Fr} {a : Tm} {h : H} (hm : c.P.follows .mixedOrders = true) (hq : quietOk ops = true) (hw : qW c.P c.G ops h (fun a => K c k a h) ops.toList a) : drawK c id ops k a h := by
  unfold drawK
  simp only [K, wp, if_true]
  intro ro Q n μ0 I0 w0 ds hok hN hE act w μ I hx r ht h1 h2
  obtain ⟨vs, a', hr, hn⟩ := qW_runs _ _ hw
  refine wpIn_region_any hm ?_
  have r' := r.same (w' := { w with drawn := w.drawn + 1 }) rfl rfl rfl rfl
  refine quiet_any ro hq hr (μ := μ) (I := I) (n := n) r'.2 ?_ ?_ ops.size _ act a (by simp) ?_ ?_ ?_ (ht.ext r'.1) h1 h2
  · intro o ho
    simp only [Array.all_eq_true_iff_forall_mem] at hok
    exact hok o (by simpa using ho)
  · intro act' ht' h1' h2'
    exact hN act' _ a' h μ I hn (hx.trans r'.1) r'.2 ht' h1' h2'
  · have := List.length_filter_le (fun j => !(Array.replicate ops.size false).getD j true) (List.range ops.size)
    simpa using this
  · intro t
    refine .inr ⟨fun k o hk hl => ?_, rfl⟩
    have hkl := (Array.getElem?_eq_some_iff.1 hk).1
    simp [hkl] at hl
  · intro k o hk hl
    have hkl := (Array.getElem?_eq_some_iff.1 hk).1
    simp [hkl] at hl

/-! equations for simp -/
def qK (c : Cx) (ops : Array Oper) (l : List Oper) (k : List Fr) (a : Tm) (h : H) : Prop := qW c.P c.G ops h (fun a => K c k a h) l a
def qset (c : Cx) (o : Option V) (d : Option Tmp) (ops : Array Oper) (l : List Oper) (k : List Fr) (a : Tm) (h : H) : Prop := ob o fun v => qK c ops l k (updO d v a) h
theorem qset_some (c : Cx) (v : V) (d : Option Tmp) (ops : Array Oper) (l : List Oper) (k : List Fr) (a : Tm) (h : H) : qset c (some v) d ops l k a h = qK c ops l k (updO d v a) h := rfl
theorem qK_nil (c : Cx) (ops : Array Oper) (k : List Fr) (a : Tm) (h : H) : qK c ops [] k a h = K c k a h := rfl
theorem qK_none (c : Cx) (ops : Array Oper) (d : Option Tmp) (op : Op) (ty : TypeId) (pos : String) (after : Array Edge) (l : List Oper) (k : List Fr) (a : Tm) (h : H) :
    qK c ops (⟨d, op, ty, pos, after, none⟩ :: l) k a h = qset c (rdV c.P h (rho c.G a) op) d ops l k a h := rfl
def qgd (o : Option V) (want : Bool) (c : Cx) (ops : Array Oper) (d : Option Tmp) (op : Op) (l : List Oper) (k : List Fr) (a : Tm) (h : H) : Prop :=
  match o with
  | some (.b b) => if b == want then qset c (rdV c.P h (rho c.G a) op) d ops l k a h else qK c ops l k (updO d undefV a) h
  | some (.tu []) => qK c ops l k (updO d undefV a) h
  | _ => False
def qgb (t want : Bool) (c : Cx) (ops : Array Oper) (d : Option Tmp) (op : Op) (l : List Oper) (k : List Fr) (a : Tm) (h : H) : Prop :=
  if t == want then qset c (rdV c.P h (rho c.G a) op) d ops l k a h else qK c ops l k (updO d undefV a) h
theorem qgd_some (t want : Bool) (c : Cx) (ops : Array Oper) (d : Option Tmp) (op : Op) (l : List Oper) (k : List Fr) (a : Tm) (h : H) : qgd (some (.b t)) want c ops d op l k a h = qgb t want c ops d op l k a h := rfl
theorem qgd_un (want : Bool) (c : Cx) (ops : Array Oper) (d : Option Tmp) (op : Op) (l : List Oper) (k : List Fr) (a : Tm) (h : H) : qgd (some undefV) want c ops d op l k a h = qK c ops l k (updO d undefV a) h := rfl
theorem qgb_tt (c : Cx) (ops : Array Oper) (d : Option Tmp) (op : Op) (l : List Oper) (k : List Fr) (a : Tm) (h : H) : qgb true true c ops d op l k a h = qset c (rdV c.P h (rho c.G a) op) d ops l k a h := rfl
theorem qgb_ff (c : Cx) (ops : Array Oper) (d : Option Tmp) (op : Op) (l : List Oper) (k : List Fr) (a : Tm) (h : H) : qgb false false c ops d op l k a h = qset c (rdV c.P h (rho c.G a) op) d ops l k a h := rfl
theorem qgb_tf (c : Cx) (ops : Array Oper) (d : Option Tmp) (op : Op) (l : List Oper) (k : List Fr) (a : Tm) (h : H) : qgb true false c ops d op l k a h = qK c ops l k (updO d undefV a) h := rfl
theorem qgb_ft (c : Cx) (ops : Array Oper) (d : Option Tmp) (op : Op) (l : List Oper) (k : List Fr) (a : Tm) (h : H) : qgb false true c ops d op l k a h = qK c ops l k (updO d undefV a) h := rfl
theorem qgb_intro {t want : Bool} {c : Cx} {ops : Array Oper} {d : Option Tmp} {op : Op} {l : List Oper} {k : List Fr} {a : Tm} {h : H} (h1 : t = want → qset c (rdV c.P h (rho c.G a) op) d ops l k a h) (h2 : t = !want → qK c ops l k (updO d undefV a) h) : qgb t want c ops d op l k a h := by
  unfold qgb
  split
  · rename_i hh; exact h1 (by simpa using hh)
  · rename_i hh; exact h2 (by cases t <;> cases want <;> simp_all)
theorem qK_guard (c : Cx) (ops : Array Oper) (d : Option Tmp) (op : Op) (ty : TypeId) (pos : String) (after : Array Edge) (g : Nat) (want : Bool) (l : List Oper) (k : List Fr) (a : Tm) (h : H) :
    qK c ops (⟨d, op, ty, pos, after, some (g, want)⟩ :: l) k a h = (match (ops[g]?).bind (·.dst) with | none => qK c ops l k (updO d undefV a) h | some t => qgd (a t) want c ops d op l k a h) := by
  simp only [qK, qW, gwant]
  cases (ops[g]?).bind (·.dst) with
  | none => rfl
  | some t =>
    simp only
    cases a t with
    | none => rfl
    | some v =>
      cases v <;> try rfl
      case b b => cases b <;> cases want <;> rfl
      case tu vs => cases vs <;> rfl
theorem drawK_q {c : Cx} {id : Nat} {ops : Array Oper} {k : List Fr} {a : Tm} {h : H} (hm : c.P.follows .mixedOrders = true) (hq : quietOk ops = true) (hw : qK c ops ops.toList k a h) : drawK c id ops k a h := drawK_quiet hm hq hw
theorem rd_load (P : Program) (h : H) (ρ : Operand → Option V) (t : TypeId) (x : Operand) : rdV P h ρ (.load t x) = (ρ x).bind fun p => (ptrCells h p).bind (loadFrom (tld P t)) := rfl
theorem rd_move (P : Program) (h : H) (ρ : Operand → Option V) (x : Operand) : rdV P h ρ (.move x) = ρ x := rfl
theorem rd_assign (P : Program) (h : H) (ρ : Operand → Option V) (x : Operand) : rdV P h ρ (.assign x) = ρ x := rfl
theorem rd_pick (P : Program) (h : H) (ρ : Operand → Option V) (x y z : Operand) : rdV P h ρ (.pick x y z) = pickV (ρ x) (ρ y) (ρ z) := rfl
theorem rd_nilCheck (P : Program) (h : H) (ρ : Operand → Option V) (x : Operand) : rdV P h ρ (.nilCheck x) = (ρ x).bind nilChk := rfl
theorem rd_binOp (P : Program) (h : H) (ρ : Operand → Option V) (op : BinOp) (t : TypeId) (x y : Operand) (u : TypeId) : rdV P h ρ (.binOp op t x y u) = (ρ x).bind fun p => (ρ y).bind fun q => binP P t op p q (isC x || isC y) := rfl
theorem rd_unOp (P : Program) (h : H) (ρ : Operand → Option V) (op : UnOp) (t : TypeId) (x : Operand) : rdV P h ρ (.unOp op t x) = (ρ x).bind (unV op) := rfl
theorem rd_convert (P : Program) (h : H) (ρ : Operand → Option V) (s t : TypeId) (x : Operand) : rdV P h ρ (.convert s t x) = (ρ x).bind (convV P s t) := rfl
theorem rd_slice (P : Program) (h : H) (ρ : Operand → Option V) (t : TypeId) (x : Operand) (lo hi : Option Operand) : rdV P h ρ (.slice t x lo hi none) = (ρ x).bind fun u => (optO ρ lo).bind fun p => (optO ρ hi).bind fun q => sliceV P h t u p q := rfl
theorem rd_fieldAddr (P : Program) (h : H) (ρ : Operand → Option V) (t : TypeId) (x : Operand) (f : Nat) : rdV P h ρ (.fieldAddr t x f) = (ρ x).bind (fieldAddrV P t f) := rfl
theorem rd_field (P : Program) (h : H) (ρ : Operand → Option V) (t : TypeId) (x : Operand) (f : Nat) : rdV P h ρ (.field t x f) = (ρ x).bind (fieldV P t f) := rfl
theorem rd_indexAddr (P : Program) (h : H) (ρ : Operand → Option V) (t : TypeId) (x i : Operand) : rdV P h ρ (.indexAddr t x i) = (ρ x).bind fun u => (ρ i).bind fun v => indexAddrV P h t u v := rfl
theorem rd_index (P : Program) (h : H) (ρ : Operand → Option V) (t : TypeId) (x i : Operand) : rdV P h ρ (.index t x i) = (ρ x).bind fun u => (ρ i).bind fun v => indexV P t u v := rfl
theorem rd_extract (P : Program) (h : H) (ρ : Operand → Option V) (x : Operand) (i : Nat) : rdV P h ρ (.extract x i) = (ρ x).bind fun u => extractV u i := rfl
theorem rd_len (P : Program) (h : H) (ρ : Operand → Option V) (x : Operand) (t : TypeId) : rdV P h ρ (.call { callee := .builtin .len, args := #[x], argTypes := #[t] }) = (ρ x).bind (lenV P t) := rfl

end
end Go.X
end

section
set_option linter.unusedVariables false
set_option linter.unusedSimpArgs false
namespace Go.X

section
variable {P : Program} {G : Gl}

theorem New_mono {h : H} {T : Nat} {K K' : Nat → Prop} (hn : New h T K) (hk : ∀ id, K id → K' id) : New h T K' := fun id e t => hk id (hn id e t)

theorem stW_mono {h : H} {t : TypeId} {p v : V} {K K' : H → Prop} (hs : stW P h t p v K) (hk : ∀ h, K h → K' h) : stW P h t p v K' := by
  unfold stW at *
  split at hs
  · refine ob_mono hs fun o ho => ?_
    split at ho
    · exact ob_mono ho fun x hx => ob_mono hx fun x' hx' => ob_mono hx' fun y hy => ⟨hy.1, hk _ hy.2⟩
    · exact ho
  · exact hs

theorem boxW_mono {h : H} {t : TypeId} {v : V} {K K' : V → H → Prop} (hb : boxW h t v K) (hk : ∀ v h, K v h → K' v h) : boxW h t v K' := by
  rcases hb with ⟨hf, hn⟩ | ⟨e, xs, hok, hv, hn⟩
  · exact .inl ⟨hf, New_mono hn fun id hid => hk _ _ hid⟩
  · exact .inr ⟨e, xs, hok, hv, New_mono hn fun id hid => hk _ _ hid⟩

theorem opw_mono {ρ : Operand → Option V} {h : H} {K K' E : V → H → Prop} (hk : ∀ v h, K v h → K' v h) {op : Op} (ho : opw P G ρ h K E op) : opw P G ρ h K' E op := by
  cases op <;> simp only [opw] at ho ⊢ <;> first
    | exact ob_mono ho fun v hv => hk _ _ hv
    | skip
  case load => exact ob_mono ho fun p hp => ob_mono hp fun cs hcs => ob_mono hcs fun v hv => hk _ _ hv
  case store => exact ob_mono ho fun p hp => ob_mono hp fun v hv => stW_mono hv fun h' hh => hk _ _ hh
  case alloc => exact ob_mono ho fun z hz => boxW_mono hz hk
  case box => exact ob_mono ho fun z hz => boxW_mono hz hk
  case buildSlice => exact ob_mono ho fun r hr => ob_mono hr fun l hl => ⟨hl.1, New_mono hl.2 fun id hid => hk _ _ hid⟩
  case makeSlice => exact ob_mono ho fun r hr => ob_mono hr fun z hz => ob_mono hz fun u hu => ob_mono hu fun v hv => ob_mono hv fun x hx => ob_mono hx fun y hy => ⟨hy.1, New_mono hy.2 fun id hid => hk _ _ hid⟩
  case convert =>
    refine ob_mono ho fun v hv => ?_
    unfold convW at *
    split at hv
    · refine ob_mono hv fun o ho => ?_
      split at ho
      · exact ⟨ho.1, hk _ _ ho.2⟩
      · exact ho
    · split at hv
      · rename_i hs; rw [if_pos hs]; exact ob_mono hv fun r hr => hk _ _ hr
      · rename_i hs; rw [if_neg hs]; exact ob_mono hv fun r hr => ⟨hr.1, New_mono hr.2 fun id hid => hk _ _ hid⟩
    · exact ob_mono hv fun r hr => hk _ _ hr
    · exact ob_mono hv fun r hr => ⟨hr.1, ob_mono hr.2 fun ys hys => ob_mono hys fun l hl => hk _ _ hl⟩
  case panic => exact ho
  case range =>
    refine ob_mono ho fun v hv => ?_
    split at hv
    · exact ⟨hv.1, New_mono hv.2 fun id hid => hk _ _ hid⟩
    · exact hv
  case next =>
    refine ob_mono ho fun v hv => ?_
    unfold nextW at *
    split at hv
    · refine ob_mono hv fun o ho => ?_
      split at ho
      · exact ⟨fun hp => hk _ _ (ho.1 hp), fun hp => hk _ _ (ho.2 hp)⟩
      · exact ho
    · exact hv
  case call c =>
    obtain ⟨callee, args, tys⟩ := c
    cases callee with
    | invoke r m => exact ho
    | value f =>
      refine ob_mono ho fun fv hf => ob_mono hf fun ars has => ?_
      split at has
      · refine has.mono fun o h' hh => ?_
        cases o with
        | ret v => exact hk _ _ hh
        | pan v => exact hh
      · refine has.mono fun o h' hh => ?_
        cases o with
        | ret v => exact hk _ _ hh
        | pan v => exact hh
      · exact has
    | builtin b =>
      simp only at ho ⊢
      unfold builtinW at *
      split at ho
      · exact ob_mono ho fun r hr => ob_mono hr fun v hv => ob_mono hv fun y hy => ob_mono hy fun d hd => ob_mono hd fun ys hys => ⟨hys.1, New_mono hys.2 fun id hid => hk _ _ hid⟩
      · exact ob_mono ho fun v hv => ob_mono hv fun r hr hb => hk _ _ (hr hb)
      · exact ob_mono ho fun u hu => ob_mono hu fun v hv => ob_mono hv fun r hr => hk _ _ hr
      · exact ob_mono ho fun u hu => ob_mono hu fun v hv => ob_mono hv fun r hr => hk _ _ hr
      · exact ho

theorem Br_mono {t : Bool} {p q p' q' : Prop} (hb : Br t p q) (hp : p → p') (hq : q → q') : Br t p' q' := ⟨fun h => hp (hb.1 h), fun h => hq (hb.2 h)⟩

theorem gd_mono {ops : Array Oper} {o : Oper} {a : Tm} {p q p' q' : Prop} (hg : gd ops o a p q) (hp : p → p') (hq : q → q') : gd ops o a p' q' := by
  unfold gd at hg ⊢
  cases hgu : o.guard with
  | none => simp only [hgu] at hg; exact hp hg
  | some gw =>
    obtain ⟨g, want⟩ := gw
    simp only [hgu] at hg ⊢
    cases hd : (ops[g]?).bind (·.dst) with
    | none => simp only [hd] at hg; exact hq hg
    | some t =>
      simp only [hd] at hg
      refine ob_mono hg fun v hv => ?_
      split at hv
      · exact Br_mono hv hp hq
      · exact hq hv
      · exact hv

theorem regW_mono {ops : Array Oper} {N N' : Tm → H → Prop} {E : V → H → Prop} (hn : ∀ a h, N a h → N' a h) : ∀ (l : List Oper) (a : Tm) (h : H), regW P G ops N E l a h → regW P G ops N' E l a h
  | [], a, h, hw => hn _ _ hw
  | o :: l, a, h, hw => gd_mono hw (fun ho => opw_mono (fun v h' hh => regW_mono hn l _ _ hh) ho) (fun hh => regW_mono hn l _ _ hh)

theorem wp_mono' {R : Tm → H → Prop} {E : V → H → Prop} : ∀ (c : Code) {X X' : Nat → Tm → H → Prop} {N N' : Tm → H → Prop} {a : Tm} {h : H}, (∀ i a h, X i a h → X' i a h) → (∀ a h, N a h → N' a h) → wp P G R E c X N a h → wp P G R E c X' N' a h := by
  intro c
  induction c with
  | skip => intro X X' N N' a h hx hn hw; exact hn _ _ hw
  | region id ops d =>
    intro X X' N N' a h hx hn hw
    cases d with
    | false =>
      simp only [wp, Bool.false_eq_true, if_false] at hw ⊢
      exact regW_mono hn _ _ _ hw
    | true =>
      simp only [wp, if_true] at hw ⊢
      intro ro Q n μ0 I0 w0 ds hok hN hE
      exact hw ro Q n μ0 I0 w0 ds hok (fun act w a h μ I hh => hN act w a h μ I (hn _ _ hh)) hE
  | seq x y ihx ihy =>
    intro X X' N N' a h hx hn hw
    simp only [wp] at hw ⊢
    exact ihx hx (fun a h hh => ihy hx hn hh) hw
  | cond o x y ihx ihy =>
    intro X X' N N' a h hx hn hw
    simp only [wp] at hw ⊢
    refine ob_mono hw fun v hv => ?_
    split at hv
    · exact Br_mono hv (ihx hx hn) (ihy hx hn)
    · exact hv
  | block id c ih =>
    intro X X' N N' a h hx hn hw
    simp only [wp] at hw ⊢
    refine ih (fun i a h hh => ?_) hn hw
    split at hh
    · rename_i e; rw [if_pos e]; exact hn _ _ hh
    · rename_i e; rw [if_neg e]; exact hx _ _ _ hh
  | loop c ih =>
    intro X X' N N' a h hx hn hw
    simp only [wp] at hw ⊢
    obtain ⟨Inv, h0, hs⟩ := hw
    exact ⟨Inv, h0, fun n a h hi => ih hx (fun _ _ hh => hh) (hs n a h hi)⟩
  | exit i => intro X X' N N' a h hx hn hw; exact hx _ _ _ hw
  | ret => intro X X' N N' a h hx hn hw; exact hw
  | rangeFunc g ps asg body =>
    intro X X' N N' a h hx hn hw
    simp only [wp] at hw ⊢
    refine ob_mono hw fun fv hv => ?_
    split at hv
    · refine ⟨hv.1, New_mono hv.2 fun id hid n hok => (hid n hok).mono fun o h' hh => ?_⟩
      cases o with
      | pan v => exact hh
      | ret v =>
        obtain ⟨st, pe, h1, h2, h3⟩ := hh
        refine ⟨st, pe, h1, h2, ?_⟩
        split at h3
        · exact hn _ _ h3
        · exact h3
        · exact hx _ _ _ h3
        · exact h3
    · exact hv
  | _ => intro X X' N N' a h hx hn hw; exact hw

/-- A cut: the code's end is met by 'Mid', and from there on the rest is walked once. -/
theorem K_cut {c : Cx} {x : Code} {k : List Fr} {a : Tm} {h : H} (Mid : Tm → H → Prop) (h1 : K c (.code x :: .post Mid :: k) a h) (h2 : ∀ a h, Mid a h → K c k a h) : K c (.code x :: k) a h := by
  simp only [K, Xof] at h1 ⊢
  exact wp_mono' x (fun _ _ _ hh => hh) h2 h1

/-- A cut behind a branch. -/
theorem BrK_cut {t : Bool} {c : Cx} {y z : Code} {k : List Fr} {a : Tm} {h : H} (Mid : Tm → H → Prop) (h1 : t = true → K c (.code y :: .post Mid :: k) a h) (h3 : t = false → K c (.code z :: .post Mid :: k) a h) (h2 : ∀ a h, Mid a h → K c k a h) : BrK t c y z k a h :=
  BrK_intro (fun e => K_cut Mid (h1 e) h2) (fun e => K_cut Mid (h3 e) h2)

theorem K_cutn {c : Cx} {k : List Fr} (Mid : Tm → H → Prop) (h2 : ∀ a h, Mid a h → K c k a h) : ∀ (pre : List Fr),
    (∀ a h, K c (pre ++ .post Mid :: k) a h → K c (pre ++ k) a h) ∧ (∀ i a h, Xof c (pre ++ .post Mid :: k) i a h → Xof c (pre ++ k) i a h)
  | [] => ⟨fun a h hh => h2 a h (by simpa only [List.nil_append, K] using hh), fun i a h hh => by simpa only [List.nil_append, Xof] using hh⟩
  | f :: pre => by
    obtain ⟨ih1, ih2⟩ := K_cutn Mid h2 pre
    cases f with
    | code x =>
      refine ⟨fun a h hh => ?_, fun i a h hh => ?_⟩
      · simp only [List.cons_append, K] at hh ⊢
        exact wp_mono' x (fun i a h hx => ih2 i a h hx) (fun a h hn => ih1 a h hn) hh
      · simp only [List.cons_append, Xof] at hh ⊢; exact ih2 _ _ _ hh
    | blk id =>
      refine ⟨fun a h hh => ?_, fun i a h hh => ?_⟩
      · simp only [List.cons_append, K] at hh ⊢; exact ih1 _ _ hh
      · simp only [List.cons_append, Xof] at hh ⊢
        split at hh
        · rename_i e; rw [if_pos e]; exact ih1 _ _ hh
        · rename_i e; rw [if_neg e]; exact ih2 _ _ _ hh
    | ops os l =>
      refine ⟨fun a h hh => ?_, fun i a h hh => ?_⟩
      · simp only [List.cons_append, K] at hh ⊢
        exact regW_mono (fun a h hn => ih1 a h hn) _ _ _ hh
      · simp only [List.cons_append, Xof] at hh ⊢; exact ih2 _ _ _ hh
    | post N =>
      refine ⟨fun a h hh => ?_, fun i a h hh => ?_⟩
      · simp only [List.cons_append, K] at hh ⊢; exact hh
      · simp only [List.cons_append, Xof] at hh ⊢; exact ih2 _ _ _ hh
    | rend N X =>
      refine ⟨fun a h hh => ?_, fun i a h hh => ?_⟩
      · simp only [List.cons_append, K] at hh ⊢; exact hh
      · simp only [List.cons_append, Xof] at hh ⊢; exact hh

theorem gbK_cut2 {t want : Bool} {c : Cx} {op : Op} {d : Option Tmp} {f1 f2 : Fr} {k : List Fr} {a : Tm} {h : H} (Mid : Tm → H → Prop) (h1 : gbK t want c op d (f1 :: f2 :: .post Mid :: k) a h) (h2 : ∀ a h, Mid a h → K c k a h) : gbK t want c op d (f1 :: f2 :: k) a h := by
  have := (K_cutn Mid h2 [f1, f2]).1
  exact ⟨fun e => opw_mono (fun v h' hh => this _ _ hh) (h1.1 e), fun e => this _ _ (h1.2 e)⟩
theorem BrK_cut1 {t : Bool} {c : Cx} {y z : Code} {f1 : Fr} {k : List Fr} {a : Tm} {h : H} (Mid : Tm → H → Prop) (h1 : BrK t c y z (f1 :: .post Mid :: k) a h) (h2 : ∀ a h, Mid a h → K c k a h) : BrK t c y z (f1 :: k) a h := by
  exact ⟨fun e => (K_cutn Mid h2 [.code y, f1]).1 _ _ (h1.1 e), fun e => (K_cutn Mid h2 [.code z, f1]).1 _ _ (h1.2 e)⟩
theorem BrK_cut0 {t : Bool} {c : Cx} {y z : Code} {k : List Fr} {a : Tm} {h : H} (Mid : Tm → H → Prop) (h1 : BrK t c y z (.post Mid :: k) a h) (h2 : ∀ a h, Mid a h → K c k a h) : BrK t c y z k a h := by
  exact ⟨fun e => (K_cutn Mid h2 [.code y]).1 _ _ (h1.1 e), fun e => (K_cutn Mid h2 [.code z]).1 _ _ (h1.2 e)⟩

end
end Go.X
end

section
set_option linter.unusedVariables false
set_option linter.unusedSimpArgs false
namespace Go.X
open Go.RowKit

section
variable {P : Program} {G : Gl} {μ : Mu} {I : Nat → Prop} {h : H} {w w' : World}

theorem R.below (r : R G μ I h w) (hb : Below w.heap.size w w') : Ext μ I w μ I w' ∧ R G μ I h w' := by
  have hx : Ext μ I w μ I w' := ⟨fun _ _ e => e, fun _ e => e, fun b hI => hb.block b (r.imm b hI), hb.size, hb.os, hb.tape, hb.output⟩
  refine ⟨hx, fun id o e => (r.obj id o e).ext hx (fun t rb m tb => hb.block rb (r.mub id t rb m tb)), r.inj, fun b hI => Nat.lt_of_lt_of_le (r.imm b hI) hb.size,
    fun id t rb a b => Nat.lt_of_lt_of_le (r.mub id t rb a b) hb.size, r.notI, r.bound, fun g cs e => (r.glob g cs e).ext hx⟩

/-- A contract of a function that makes new blocks at most, lifted. -/
theorem lift_pure {f : FuncId} {args : List V} {v : V} (he : ∀ (ars : Array Value) (w : World), (callFunc f ars).run P w = .ok (.enter f ars) w)
    (hc : ∀ (μ : Mu) (I : Nat → Prop) (w : World) (rargs : List Value), R G μ I h w → VRs w I μ args rargs →
      ∃ rv, (∀ w I μ, VR w I μ v rv) ∧ Calls P f ⟨rargs⟩ w fun e w' => e = .returned rv ∧ Below w.heap.size w w') :
    XCalls P G f args h (fun o h' => o = .ret v ∧ h' = h) := by
  intro μ I w rargs r hv
  obtain ⟨rv, h1, h2⟩ := hc μ I w rargs r hv
  refine .inl ⟨he _ _, Calls.mono h2 ?_⟩
  rintro e w' ⟨rfl, hb⟩
  have := r.below hb
  exact ⟨_, h, μ, I, ⟨rfl, rfl⟩, this.1, this.2, h1 _ _ _⟩

/-- The same for a function without a Go body. -/
theorem lift_extern {f : FuncId} {args : List V} {v : V}
    (hc : ∀ (μ : Mu) (I : Nat → Prop) (w : World) (rargs : List Value), R G μ I h w → VRs w I μ args rargs →
      ∃ rv, (∀ w I μ, VR w I μ v rv) ∧ (callFunc f ⟨rargs⟩).run P w = .ok (.value rv) w) :
    XCalls P G f args h (fun o h' => o = .ret v ∧ h' = h) := by
  intro μ I w rargs r hv
  obtain ⟨rv, h1, h2⟩ := hc μ I w rargs r hv
  exact .inr ⟨rv, w, h2, ⟨_, h, μ, I, ⟨rfl, rfl⟩, .refl _ _ _, r, h1 _ _ _⟩⟩

theorem flat_bytesV (l : List UInt8) : flat (bytesV l) = bytesV l := by
  induction l with
  | nil => rfl
  | cons c l ih =>
    show (bV c).cells ++ flat (bytesV l) = _
    rw [ih]; rfl

theorem VRs_bytesV {l : List UInt8} {rs : List Value} (hv : VRs w I μ (bytesV l) rs) : rs = l.map fun c => Value.int .u8 (c.toNat : Int) := by
  induction l generalizing rs with
  | nil => cases hv; rfl
  | cons c l ih =>
    have hv' : VRs w I μ (V.i .u8 (c.toNat : Int) :: bytesV l) rs := hv
    cases hv' with
    | cons _ rv _ rvs h1 h2 =>
      cases h1
      rw [ih h2]; rfl

/-- A slice of bytes that nobody writes. -/
theorem im_bytes {l : List UInt8} {rv : Value} (hv : VR w I μ (.im 1 (bytesV l)) rv) :
    (∃ a cap, l = [] ∧ rv = .slice a 0 cap ∧ plainA a ∧ (a = none → cap = 0)) ∨ ∃ b o cap, rv = .slice (some ⟨b, o, none⟩) l.length cap ∧ I b ∧ l.length ≤ cap ∧ cap ≤ 9223372036854775807 ∧
      ∀ j c, l[j]? = some c → w.cell? ⟨b, o + j, none⟩ = some (.int .u8 (c.toNat : Int)) := by
  generalize hx : bytesV l = xs at hv
  cases hv with
  | imz _ a cap had had2 =>
    have : l = [] := by
      have := congrArg List.length hx
      simp [bytesV] at this
      exact List.eq_nil_of_length_eq_zero (by simpa using this)
    exact .inl ⟨a, cap, this, rfl, had, had2⟩
  | im _ _ rs b o cap hI hu hr hc hle hcm =>
    subst hx
    rw [flat_bytesV] at hr
    have hrs := VRs_bytesV hr
    refine .inr ⟨b, o, cap, by rw [bytesV_length], hI, by rw [bytesV_length] at hle; exact hle, hcm, fun j c hj => ?_⟩
    exact hc j _ (by rw [hrs]; simp [hj])

end
end Go.X
end

section
set_option linter.unusedVariables false
namespace Go.X
set_option linter.defProp false
def XL :=
  And.intro @K_skip <|
  And.intro @K_seq <|
  And.intro @K_block <|
  And.intro @K_exit <|
  And.intro @K_ret <|
  And.intro @K_nil <|
  And.intro @K_blk <|
  And.intro @K_post <|
  And.intro @K_rend <|
  And.intro @K_rf <|
  And.intro @K_cond <|
  And.intro @cndK_some <|
  And.intro @BrK_true <|
  And.intro @BrK_false <|
  And.intro @gdK_some <|
  And.intro @gdK_un <|
  And.intro @gbK_tt <|
  And.intro @gbK_ff <|
  And.intro @gbK_tf <|
  And.intro @gbK_ft <|
  And.intro @K_loop <|
  And.intro @K_region <|
  And.intro @K_draw <|
  And.intro @K_ops_nil <|
  And.intro @K_ops_none <|
  And.intro @K_ops_guard <|
  And.intro @X_blk <|
  And.intro @X_code <|
  And.intro @X_ops <|
  And.intro @X_post <|
  And.intro @X_rend <|
  And.intro @setv_some <|
  And.intro @op_move <|
  And.intro @op_assign <|
  And.intro @op_pick <|
  And.intro @op_load <|
  And.intro @op_store <|
  And.intro @stKO_some <|
  And.intro @op_alloc <|
  And.intro @op_box <|
  And.intro @op_nilCheck <|
  And.intro @op_binOp <|
  And.intro @op_unOp <|
  And.intro @op_convert <|
  And.intro @op_makeInterface <|
  And.intro @op_makeFunc <|
  And.intro @op_slice <|
  And.intro @op_fieldAddr <|
  And.intro @op_field <|
  And.intro @op_indexAddr <|
  And.intro @op_index <|
  And.intro @op_extract <|
  And.intro @op_build <|
  And.intro @op_typeAssert <|
  And.intro @op_panic <|
  And.intro @op_call <|
  And.intro @callKO_some <|
  And.intro @callKO_yl <|
  And.intro @op_len <|
  And.intro @lenKO_some <|
  And.intro @lenB_some <|
  And.intro @op_min <|
  And.intro @op_max <|
  And.intro @op_append <|
  And.intro @op_buildSlice <|
  And.intro @op_makeSlice <|
  And.intro @op_next <|
  And.intro @op_range <|
  And.intro @conv_int <|
  And.intro @qK_nil <|
  And.intro @qK_none <|
  And.intro @qK_guard <|
  And.intro @qset_some <|
  And.intro @qgd_some <|
  And.intro @qgd_un <|
  And.intro @qgb_tt <|
  And.intro @qgb_ff <|
  And.intro @qgb_tf <|
  And.intro @qgb_ft <|
  And.intro @rd_load <|
  And.intro @rd_move <|
  And.intro @rd_assign <|
  And.intro @rd_pick <|
  And.intro @rd_nilCheck <|
  And.intro @rd_binOp <|
  And.intro @rd_unOp <|
  And.intro @rd_convert <|
  And.intro @rd_slice <|
  And.intro @rd_fieldAddr <|
  And.intro @rd_field <|
  And.intro @rd_indexAddr <|
  And.intro @rd_index <|
  And.intro @rd_extract <|
  And.intro @rd_len <|
  And.intro @upd_eq <|
  And.intro @updO_some <|
  And.intro @updO_none <|
  And.intro @argTm_eq <|
  And.intro @rho_tmp <|
  And.intro @rho_const <|
  And.intro @rho_global <|
  And.intro @rho_func <|
  And.intro @bd_im <|
  And.intro @bd_s <|
  And.intro @bd_sl <|
  And.intro @set_eq <|
  And.intro @del_eq <|
  And.intro @resW_nil <|
  And.intro @resW_one <|
  And.intro @resW_two <|
  And.intro @resW_three <|
  And.intro @ob_some <|
  And.intro @ob_none <|
  And.intro @bind_some' <|
  And.intro @one_b <|
  And.intro @one_i <|
  And.intro @one_s <|
  And.intro @one_pnil <|
  And.intro @one_ptr <|
  And.intro @one_ip <|
  And.intro @one_nil <|
  And.intro @one_sl <|
  And.intro @one_im <|
  And.intro @one_mnil <|
  And.intro @one_mp <|
  And.intro @one_fn <|
  And.intro @one_nfn <|
  And.intro @one_ifc <|
  And.intro @one_nifc <|
  And.intro @setFrom_nil <|
  And.intro @setFrom_cons <|
  And.intro @cells_ag <|
  And.intro @fits_ag <|
  @cells_b
def XM :=
  And.intro @fits_b <|
  And.intro @cells_i <|
  And.intro @fits_i <|
  And.intro @cells_s <|
  And.intro @fits_s <|
  And.intro @cells_pnil <|
  And.intro @fits_pnil <|
  And.intro @cells_ptr <|
  And.intro @fits_ptr <|
  And.intro @cells_ip <|
  And.intro @fits_ip <|
  And.intro @cells_nil <|
  And.intro @fits_nil <|
  And.intro @cells_sl <|
  And.intro @fits_sl <|
  And.intro @cells_im <|
  And.intro @fits_im <|
  And.intro @cells_mnil <|
  And.intro @fits_mnil <|
  And.intro @cells_mp <|
  And.intro @fits_mp <|
  And.intro @cells_fn <|
  And.intro @fits_fn <|
  And.intro @cells_nfn <|
  And.intro @fits_nfn <|
  And.intro @cells_ifc <|
  And.intro @fits_ifc <|
  And.intro @cells_nifc <|
  And.intro @fits_nifc <|
  And.intro @ofConst.eq_1 <|
  And.intro @ofConst.eq_2 <|
  And.intro @ofConst.eq_3 <|
  And.intro @ofConst.eq_4 <|
  And.intro @ofConst.eq_5 <|
  And.intro @ofConst.eq_6 <|
  And.intro @ofConst.eq_7 <|
  And.intro @ofConst.eq_8 <|
  And.intro @ofConst.eq_9 <|
  And.intro @ofConst.eq_10 <|
  And.intro @ofConst.eq_11 <|
  And.intro @ofConsts.eq_1 <|
  And.intro @ofConsts.eq_2 <|
  And.intro @ofConstA.eq_1 <|
  And.intro @mapO.eq_1 <|
  And.intro @mapO.eq_2 <|
  And.intro @mapP.eq_1 <|
  And.intro @mapP.eq_2 <|
  And.intro @optO.eq_1 <|
  And.intro @optO.eq_2 <|
  And.intro @binP.eq_1 <|
  And.intro @binP.eq_2 <|
  And.intro @binP.eq_3 <|
  And.intro @binP.eq_4 <|
  And.intro @binP.eq_5 <|
  And.intro @isShift.eq_1 <|
  And.intro @isShift.eq_2 <|
  And.intro @isShift.eq_3 <|
  And.intro @intBin.eq_1 <|
  And.intro @intBin.eq_2 <|
  And.intro @intBin.eq_3 <|
  And.intro @intBin.eq_4 <|
  And.intro @intBin.eq_5 <|
  And.intro @intBin.eq_6 <|
  And.intro @intBin.eq_7 <|
  And.intro @intBin.eq_8 <|
  And.intro @intBin.eq_9 <|
  And.intro @intBin.eq_10 <|
  And.intro @intBin.eq_11 <|
  And.intro @intBin.eq_12 <|
  And.intro @intBin.eq_13 <|
  And.intro @intBin.eq_14 <|
  And.intro @intBin.eq_15 <|
  And.intro @intBin.eq_16 <|
  And.intro @strBin.eq_1 <|
  And.intro @strBin.eq_2 <|
  And.intro @strBin.eq_3 <|
  And.intro @strBin.eq_4 <|
  And.intro @strBin.eq_5 <|
  And.intro @strBin.eq_6 <|
  And.intro @strBin.eq_7 <|
  And.intro @strBin.eq_8 <|
  And.intro @isC.eq_1 <|
  And.intro @isC.eq_2 <|
  And.intro @shiftBin.eq_1 <|
  And.intro @shiftBin.eq_2 <|
  And.intro @shiftBin.eq_3 <|
  And.intro @unV.eq_1 <|
  And.intro @unV.eq_2 <|
  And.intro @unV.eq_3 <|
  And.intro @unV.eq_4 <|
  And.intro @convV.eq_1 <|
  And.intro @pickV.eq_1 <|
  And.intro @nilChk.eq_1 <|
  And.intro @nilChk.eq_2 <|
  And.intro @nilChk.eq_3 <|
  And.intro @nilChk.eq_4 <|
  And.intro @nilChk.eq_5 <|
  And.intro @mkIfcV.eq_1 <|
  And.intro @assertV.eq_1 <|
  And.intro @extractV.eq_1 <|
  And.intro @extractV.eq_2 <|
  And.intro @lenV.eq_1 <|
  And.intro @min2V.eq_1 <|
  And.intro @min2V.eq_2 <|
  And.intro @fieldV.eq_1 <|
  And.intro @fieldAddrV.eq_1 <|
  And.intro @indexAddrV.eq_1 <|
  And.intro @indexV.eq_1 <|
  And.intro @sliceV.eq_1 <|
  And.intro @bnd.eq_1 <|
  And.intro @bnd.eq_2 <|
  And.intro @buildV.eq_1 <|
  And.intro @fillV.eq_1 <|
  And.intro @fillV.eq_2 <|
  And.intro @noTu.eq_1 <|
  And.intro @asI.eq_1 <|
  And.intro @asI.eq_2 <|
  And.intro @eqV.eq_1 <|
  And.intro @eqV.eq_2 <|
  And.intro @eqOut.eq_1 <|
  And.intro @eqOut.eq_2 <|
  And.intro @eqOut.eq_3 <|
  And.intro @ptrCells.eq_1 <|
  And.intro @ptrCells.eq_2 <|
  And.intro @ptrCells.eq_3 <|
  And.intro @loadFrom.eq_1 <|
  And.intro @loadFrom.eq_2 <|
  And.intro @loadFrom.eq_3 <|
  And.intro @tld.eq_1 <|
  And.intro @TI.ld.eq_1 <|
  And.intro @slOf.eq_1 <|
  And.intro @isStr.eq_1 <|
  And.intro @isU8.eq_1 <|
  And.intro @zeroOf.eq_1 <|
  @srcTyB.eq_1
end Go.X
end

section
set_option linter.unusedVariables false
set_option linter.unusedSimpArgs false
namespace Go.X

/-- Two frames that part at 'ts' alone. -/
def Off (ts : List Nat) (a0 a : Tm) : Prop := ∀ t, ts.contains t = false → a t = a0 t
theorem Off.refl (ts : List Nat) (a : Tm) : Off ts a a := fun _ _ => rfl
theorem Off.upd {ts : List Nat} {a0 a : Tm} {t : Nat} {v : V} (h : Off ts a0 a) (ht : ts.contains t = true) : Off ts a0 (upd t v a) := by
  intro u hu
  unfold X.upd
  split
  · rename_i e; subst e; rw [ht] at hu; cases hu
  · exact h u hu
theorem Off.trans {ts us : List Nat} {a b c : Tm} (h : Off ts a b) (k : Off us b c) (hs : us.all ts.contains = true) : Off ts a c := by
  intro t ht
  rw [k t ?_, h t ht]
  cases hu : us.contains t with
  | false => rfl
  | true =>
    have := List.all_eq_true.1 hs t (by simpa using hu)
    rw [this] at ht; cases ht

/-- The end of a round. -/
def LO {S : Type} (ts : List Nat) (a : Tm) (st : S → Tm → H → Prop) (m : S → Nat) (s : S) : Tm → H → Prop := fun a' h' => ∃ s', m s' < m s ∧ Off ts a a' ∧ st s' a' h'
theorem LO.mk {S : Type} {ts : List Nat} {a0 : Tm} {st : S → Tm → H → Prop} {m : S → Nat} {s : S} {a : Tm} {h : H} (s' : S) (h1 : m s' < m s) (h2 : Off ts a0 a) (h3 : st s' a h) : LO ts a0 st m s a h := ⟨s', h1, h2, h3⟩
theorem loopO {c : Cx} {x : Code} {k : List Fr} {a : Tm} {h : H} (ts : List Nat) {S : Type} (st : S → Tm → H → Prop) (m : S → Nat) (s0 : S) (h0 : st s0 a h)
    (step : ∀ s a' h', Off ts a a' → st s a' h' → K c (.code x :: .post (LO ts a st m s) :: k) a' h') : loopK c x k a h :=
  loopK_intro (fun s a' h' => Off ts a a' ∧ st s a' h') m s0 ⟨.refl _ _, h0⟩ (fun s a' h' hs => step s a' h' hs.1 hs.2)

/-- A cut behind the next 'n' frames. -/
theorem K_cutAt (n : Nat) {c : Cx} {k : List Fr} {a : Tm} {h : H} (Mid : Tm → H → Prop) (h1 : K c (k.take n ++ .post Mid :: k.drop n) a h) (h2 : ∀ a h, Mid a h → K c (k.drop n) a h) : K c k a h := by
  have := (K_cutn Mid h2 (k.take n)).1 a h h1
  rwa [List.take_append_drop] at this

/-- Cuts that keep what the piece leaves alone. -/
theorem gbK_cutO (ts : List Nat) {t want : Bool} {c : Cx} {op : Op} {d : Option Tmp} {f1 f2 : Fr} {k : List Fr} {a : Tm} {h : H} (Mid : Tm → H → Prop) (h1 : gbK t want c op d (f1 :: f2 :: .post (fun a' h' => Off ts a a' ∧ Mid a' h') :: k) a h) (h2 : ∀ a' h', Off ts a a' → Mid a' h' → K c k a' h') : gbK t want c op d (f1 :: f2 :: k) a h :=
  gbK_cut2 _ h1 (fun a' h' hm => h2 a' h' hm.1 hm.2)
theorem BrK_cutO (ts : List Nat) {t : Bool} {c : Cx} {y z : Code} {k : List Fr} {a : Tm} {h : H} (Mid : Tm → H → Prop) (h1 : BrK t c y z (.post (fun a' h' => Off ts a a' ∧ Mid a' h') :: k) a h) (h2 : ∀ a' h', Off ts a a' → Mid a' h' → K c k a' h') : BrK t c y z k a h :=
  BrK_cut0 _ h1 (fun a' h' hm => h2 a' h' hm.1 hm.2)
theorem BrK_cutO1 (ts : List Nat) {t : Bool} {c : Cx} {y z : Code} {f1 : Fr} {k : List Fr} {a : Tm} {h : H} (Mid : Tm → H → Prop) (h1 : BrK t c y z (f1 :: .post (fun a' h' => Off ts a a' ∧ Mid a' h') :: k) a h) (h2 : ∀ a' h', Off ts a a' → Mid a' h' → K c k a' h') : BrK t c y z (f1 :: k) a h :=
  BrK_cut1 _ h1 (fun a' h' hm => h2 a' h' hm.1 hm.2)

/-- A store as data. -/
def stV (P : Program) (h : H) (t : TypeId) (p v : V) : Option H := match p with
  | .ptr id i f => (h id).bind fun o => match o with
    | .row e xs => (xs[i]?).bind fun x => (stE x f v).bind fun x' => (ti P t).bind fun y => if y.size = v.cells.length ∧ v.fits = true then some (h.set id (.row e (xs.set i x'))) else none
    | _ => none
  | _ => none
def stR (c : Cx) (r : Option H) (d : Option Tmp) (k : List Fr) (a : Tm) : Prop := ob r fun h' => K c k (updO d undefV a) h'
theorem stK_eq (c : Cx) (t : TypeId) (p v : V) (d : Option Tmp) (k : List Fr) (a : Tm) (h : H) : stK c t p v d k a h = stR c (stV c.P h t p v) d k a := by
  apply propext
  unfold stK stR stW stV
  cases p <;> simp only [ob_none]
  rename_i id i f
  cases h id with
  | none => simp [ob]
  | some o =>
    cases o <;> simp only [ob_some, bind_some', ob_none]
    rename_i e xs
    cases xs[i]? with
    | none => simp [ob]
    | some x =>
      simp only [ob_some, bind_some']
      cases stE x f v with
      | none => simp [ob]
      | some x' =>
        simp only [ob_some, bind_some']
        cases ti c.P t with
        | none => simp [ob]
        | some y =>
          simp only [ob_some, bind_some']
          split
          · rename_i hc; simp [ob, hc]
          · rename_i hc; simp [ob, hc]
theorem stR_some (c : Cx) (h' : H) (d : Option Tmp) (k : List Fr) (a : Tm) : stR c (some h') d k a = K c k (updO d undefV a) h' := rfl

/-- What comes behind a box, a slice of a list, a conversion to bytes: under a fresh id. -/
theorem boxK_some {c : Cx} {t : TypeId} {v : V} {d : Option Tmp} {k : List Fr} {a : Tm} {h : H} (hf : v.fits = true) (hk : ∀ id, h id = none → K c k (updO d (.ptr id 0 0) a) (h.set id (.row v.cells.length [v]))) : boxK c t (some v) d k a h := boxK_intro hf hk

theorem stE_whole {cs ds : List V} (hl : ds.length = cs.length) : stE (.ag cs) 0 (.ag ds) = some (.ag ds) := by simp [stE, hl]
theorem Off.get {ts : List Nat} {a0 a : Tm} (h : Off ts a0 a) (t : Nat) (ht : ts.contains t = false) : a t = a0 t := h t ht
theorem set_hit' (h : H) (id : Nat) (o : O) : (h.set id o) id = some o := by simp [H.set]
/-- A buffer of the function's own whose rows bear a type. -/
def BufT (T e : Nat) (h2 h : H) (v : V) (xs : List V) : Prop := (v = .nil ∧ xs = [] ∧ h = h2) ∨ ∃ i, h2 i = none ∧ tyOf i = T ∧ v = .sl i 0 xs.length ∧ h = h2.set i (.row e xs)
theorem BufT.nil (T e : Nat) (h2 : H) : BufT T e h2 h2 .nil [] := .inl ⟨rfl, rfl, rfl⟩
theorem BufT.toBuf {T e : Nat} {h2 h : H} {v : V} {xs : List V} (hb : BufT T e h2 h v xs) : Buf e h2 h v xs := by
  rcases hb with h | ⟨i, h1, _, h3⟩
  · exact .inl h
  · exact .inr ⟨i, h1, h3⟩
theorem BufT.set {T e : Nat} {h2 h : H} {v : V} {xs : List V} (hb : BufT T e h2 h v xs) {id : Nat} {o : O} (ho : h2 id = some o) (o' : O) : BufT T e (h2.set id o') (h.set id o') v xs := by
  rcases hb with ⟨rfl, rfl, rfl⟩ | ⟨i, hi, ht, rfl, rfl⟩
  · exact BufT.nil _ _ _
  · have hne : i ≠ id := by rintro rfl; rw [hi] at ho; cases ho
    refine .inr ⟨i, ?_, ht, rfl, set_comm hne⟩
    unfold H.set; rw [if_neg hne]; exact hi
theorem BufT.get {T e : Nat} {h2 h : H} {v : V} {xs : List V} (hb : BufT T e h2 h v xs) {id : Nat} {o : O} (ho : h2 id = some o) : h id = some o := hb.toBuf.get ho
theorem appK_bufT {c : Cx} {t u : TypeId} {v y : V} {d : Option Tmp} {k : List Fr} {a : Tm} {h h2 : H} {e es bs : Nat} {xs ys : List V} (hb : BufT e es h2 h v xs) (hs : slOf c.P t = some (e, es, bs)) (hy : srcV h2 es y = some ys)
    (h3 : srcTyB c.P u = true) (h4 : bs ≠ 0) (h5 : (xs.length + ys.length) * bs ≤ 140737488355328) (hk : ∀ v' h', BufT e es h2 h' v' (xs ++ ys) → K c k (updO d v' a) h') : appK c t u (some v) (some y) d k a h := by
  rcases hb with ⟨rfl, rfl, rfl⟩ | ⟨i, hi, ht, rfl, rfl⟩
  · unfold appK
    simp only [hs, ob_some, dstV, hy]
    refine ⟨⟨rfl, h3, h4, h5⟩, fun id hid hty => hk _ _ (.inr ⟨id, hid, hty, by simp, by simp⟩)⟩
  · have hy' := srcV_mono (Sub.set_fresh (.refl h2) hi (.row es xs)) hy
    unfold appK
    have hd : dstV (h2.set i (.row es xs)) es (.sl i 0 xs.length) = some (xs, h2) := by
      simp only [dstV, set_eq, if_true]
      rw [del_set hi]; simp
    simp only [hs, ob_some, hd, hy']
    refine ⟨⟨?_, h3, h4, h5⟩, fun id hid hty => ?_⟩
    · cases y <;> try rfl
      rename_i j off len
      simp only [noShare, bne_iff_ne, ne_eq]
      rintro rfl
      simp [srcV, hi] at hy
    · have : apTy e (.sl i 0 xs.length) = e := by simp [apTy, ht]
      rw [this] at hty
      exact hk _ _ (.inr ⟨id, fs hid, hty, by simp, rfl⟩)
theorem BufT.fresh {T e : Nat} {h2 h : H} {v : V} {xs : List V} (hb : BufT T e h2 h v xs) {id : Nat} (hid : h id = none) (o : O) : BufT T e (h2.set id o) (h.set id o) v xs := by
  rcases hb with ⟨rfl, rfl, rfl⟩ | ⟨i, hi, ht, rfl, rfl⟩
  · exact BufT.nil _ _ _
  · have hne : i ≠ id := by rintro rfl; simp [H.set] at hid
    refine .inr ⟨i, ?_, ht, rfl, set_comm hne⟩
    unfold H.set; rw [if_neg hne]; exact hi
theorem BufT.drop {T e : Nat} {h2 h2' h : H} {v : V} {xs : List V} (hb : BufT T e h2' h v xs) (hs : Sub h2 h2') : ∃ h', Sub h' h ∧ BufT T e h2 h' v xs := by
  rcases hb with ⟨rfl, rfl, rfl⟩ | ⟨i, hi, ht, rfl, rfl⟩
  · exact ⟨h2, hs, BufT.nil _ _ _⟩
  · exact ⟨h2.set i (.row e xs), Sub.set hs _ _, .inr ⟨i, hs.no hi, ht, rfl, rfl⟩⟩
theorem RetK_bufT {T e : Nat} {h2 h2' h : H} {v : V} {xs ys : List V} (hb : BufT T e h2' h v xs) (hs : Sub h2 h2') (he : xs = ys) : RetK (fun o h' => ∃ v', o = .ret v' ∧ BufT T e h2 h' v' ys) v h := by
  subst he
  obtain ⟨h', h1, h3⟩ := hb.drop hs
  exact RetK_keep h1 ⟨v, rfl, h3⟩
theorem Buf.shape {e : Nat} {h2 h : H} {v : V} {xs : List V} (hb : Buf e h2 h v xs) : v.one = true ∧ v.cells = [v] ∧ v.fits = true ∧ slish v = true := by
  rcases hb with ⟨rfl, _, _⟩ | ⟨i, _, rfl, _⟩ <;> exact ⟨rfl, rfl, rfl, rfl⟩
theorem lenB_buf {c : Cx} {v : V} {o : Option V} {d : Option Tmp} {k : List Fr} {a : Tm} {hh h2 h : H} {e : Nat} {xs : List V} (hb : Buf e h2 h v xs) {t : TypeId} {r : TypeId × Nat × Nat} (hs : slOf c.P t = some r) (ho : o = lenV c.P t v)
    (hk : K c k (updO d (.i .i64 xs.length) a) hh) : lenB c v o d k a hh := by
  obtain ⟨⟨x, hx, hxk⟩, _⟩ := slOf_spec hs
  have : lenV c.P t v = some (.i .i64 xs.length) := by
    simp only [lenV, hx, Option.bind_some, hxk]
    rcases hb with ⟨rfl, rfl, _⟩ | ⟨i, _, rfl, _⟩ <;> rfl
  rw [ho, this, lenB_some]
  exact fun _ => hk
theorem bslK_ty {c : Cx} {t : TypeId} {n : Nat} {l : List (Nat × V)} {d : Option Tmp} {k : List Fr} {a : Tm} {h : H} {e es bs : Nat} (hs : slOf c.P t = some (e, es, bs))
    (h1 : l.map (·.1) = List.range n) (h2 : ∀ p ∈ l, p.2.fits = true ∧ p.2.cells.length = es) (h3 : n * es ≤ 16777216) (hk : ∀ id, h id = none → tyOf id = e → K c k (updO d (.sl id 0 n) a) (h.set id (.row es (l.map (·.2))))) :
    bslK c t n (some l) d k a h := by
  unfold bslK
  simp only [hs, ob_some]
  exact ⟨⟨h1, h2, h3⟩, hk⟩
theorem RetK_nil2 {e : Nat} {h0 h : H} {x v' : V} (hs : Sub h0 h) (he : .tu [.im e [], x] = v') : RetK (fun o h' => o = .ret v' ∧ h' = h0) (.tu [.nil, x]) h :=
  RetK_freeze (S := [] ++ ([] ++ [])) (.tu _ _ _ (.cons _ _ _ _ _ _ (.nil e) (.cons _ _ _ _ _ _ (.keep x) .nil))) hs (by simp) ⟨by rw [he], rfl⟩
theorem RetK_buf2 {e : Nat} {h0 h2 h : H} {v x v' : V} {xs : List V} (hb : Buf e h2 h v xs) (hs : Sub h0 h2) (he : .tu [.im e xs, x] = v') : RetK (fun o h' => o = .ret v' ∧ h' = h0) (.tu [v, x]) h := by
  rcases hb with ⟨rfl, rfl, rfl⟩ | ⟨i, hi, rfl, rfl⟩
  · exact RetK_nil2 hs he
  · refine RetK_freeze (S := [i] ++ ([] ++ [])) (.tu _ _ _ (.cons _ _ _ _ _ _ (Fz.slice (set_hit' _ _ _) (by simp)) (.cons _ _ _ _ _ _ (.keep x) .nil))) (Sub.set_fresh hs (hs.no hi) _) (by simpa using hs.no hi) ⟨by rw [← he]; simp, rfl⟩
theorem XCalls.frz {P : Program} {G : Gl} {f : FuncId} {args args' : List V} {S : List Nat} {h h' : H} {Q : Out → H → Prop} (fz : FzL h args args' S) (hs : Sub h' h) (hS : ∀ id ∈ S, h' id = none) (hx : XCalls P G f args' h' Q) : XCalls P G f args h Q := by
  intro μ I w rargs r hv
  obtain ⟨J, h1, h2, h3⟩ := r.freeze (v := .tu args) (.tu _ _ hv) (.tu _ _ _ fz) hs hS
  cases h3 with
  | tu _ _ h3 =>
    refine (hx μ J w rargs h2 h3).mono fun e w' he => ?_
    obtain ⟨o, k, μ', I', a, b, c⟩ := he
    exact ⟨o, k, μ', I', a, h1.trans b, c⟩
/-- A call whose arguments hold rows of the caller's own that nobody writes any more. -/
theorem callK_frz {c : Cx} {f : FuncId} {args args' : List V} {S : List Nat} {d : Option Tmp} {k : List Fr} {a : Tm} {h h' : H} (fz : FzL h args args' S) (hs : Sub h' h) (hS : ∀ id ∈ S, h' id = none) (hk : callK c f args' d k a h') : callK c f args d k a h :=
  XCalls.frz fz hs hS hk
theorem FzL.two {h : H} {x v v' : V} {S : List Nat} (f : Fz h v v' S) : FzL h [x, v] [x, v'] S := by
  have := FzL.cons (h := h) x x [] [v] [v'] S (.keep x) (by have := FzL.cons (h := h) v v' S [] [] [] f .nil; simpa using this)
  simpa using this
theorem FzL.single {h : H} {v v' : V} {S : List Nat} (f : Fz h v v' S) : FzL h [v] [v'] S := by
  have := FzL.cons (h := h) v v' S [] [] [] f .nil; simpa using this
theorem call_h {c : Cx} {f : FuncId} {args : List V} {v : V} {d : Option Tmp} {k : List Fr} {a : Tm} {h : H} {p : H → Prop} (hx : XCalls c.P c.G f args h (fun o h' => o = .ret v ∧ p h')) (hk : ∀ h', p h' → K c k (updO d v a) h') : callK c f args d k a h :=
  call_mono hx fun o h' e => by obtain ⟨rfl, hp⟩ := e; exact hk h' hp
theorem call_q {c : Cx} {f : FuncId} {args : List V} {d : Option Tmp} {k : List Fr} {a : Tm} {h : H} {p : V → H → Prop} (hx : XCalls c.P c.G f args h (fun o h' => ∃ v, o = .ret v ∧ p v h')) (hk : ∀ v h', p v h' → K c k (updO d v a) h') : callK c f args d k a h :=
  call_mono hx fun o h' e => by obtain ⟨v, rfl, hp⟩ := e; exact hk v h' hp
theorem RetK_q {h : H} {v : V} {p : V → H → Prop} (hp : p v h) : RetK (fun o h' => ∃ v, o = .ret v ∧ p v h') v h := RetK_keep (.refl _) ⟨v, rfl, hp⟩

theorem bits_and (k : IntKind) (a b : Nat) (ha : a < 2 ^ k.bits) (hb : b < 2 ^ k.bits) : bitsOf .and k a b = k.wrap ((a &&& b : Nat) : Int) := by
  simp only [bitsOf]
  congr 2
  rw [BitVec.ofInt_natCast, BitVec.ofInt_natCast, BitVec.toNat_and, BitVec.toNat_ofNat, BitVec.toNat_ofNat, Nat.mod_eq_of_lt ha, Nat.mod_eq_of_lt hb]
theorem bits_or (k : IntKind) (a b : Nat) (ha : a < 2 ^ k.bits) (hb : b < 2 ^ k.bits) : bitsOf .or k a b = k.wrap ((a ||| b : Nat) : Int) := by
  simp only [bitsOf]
  congr 2
  rw [BitVec.ofInt_natCast, BitVec.ofInt_natCast, BitVec.toNat_or, BitVec.toNat_ofNat, BitVec.toNat_ofNat, Nat.mod_eq_of_lt ha, Nat.mod_eq_of_lt hb]
theorem bits_xor (k : IntKind) (a b : Nat) (ha : a < 2 ^ k.bits) (hb : b < 2 ^ k.bits) : bitsOf .xor k a b = k.wrap ((a ^^^ b : Nat) : Int) := by
  simp only [bitsOf]
  congr 2
  rw [BitVec.ofInt_natCast, BitVec.ofInt_natCast, BitVec.toNat_xor, BitVec.toNat_ofNat, BitVec.toNat_ofNat, Nat.mod_eq_of_lt ha, Nat.mod_eq_of_lt hb]
theorem u8_and (a b : Nat) (ha : a < 256) (hb : b < 256) : bitsOf .and .u8 (a : Int) (b : Int) = ((a &&& b : Nat) : Int) := by
  rw [bits_and .u8 a b ha hb, wrap_u8 (by omega)]
  have := Nat.and_lt_two_pow a (n := 8) hb
  omega
theorem u8_or (a b : Nat) (ha : a < 256) (hb : b < 256) : bitsOf .or .u8 (a : Int) (b : Int) = ((a ||| b : Nat) : Int) := by
  rw [bits_or .u8 a b ha hb, wrap_u8 (by omega)]
  have := Nat.or_lt_two_pow (n := 8) ha hb
  omega
theorem and63 {n : Int} (h0 : 0 ≤ n) (h : n < 256) : bitsOf .and .u8 n 63 = n % 64 := by
  obtain ⟨x, rfl⟩ : ∃ x : Nat, n = x := ⟨n.toNat, by omega⟩
  rw [show (63 : Int) = ((63 : Nat) : Int) by rfl, u8_and x 63 (by omega) (by omega), Nat.and_two_pow_sub_one_eq_mod x 6]; rfl
theorem orK (a i : Nat) (ha : a <<< i < 256) {n : Int} (h0 : 0 ≤ n) (h : n < 2 ^ i) (hi : i ≤ 8) : bitsOf .or .u8 ((a <<< i : Nat) : Int) n = ((a <<< i : Nat) : Int) + n := by
  obtain ⟨x, rfl⟩ : ∃ x : Nat, n = x := ⟨n.toNat, by omega⟩
  have h1 : x < 2 ^ i := by exact_mod_cast h
  have h2 : 2 ^ i ≤ 2 ^ 8 := Nat.pow_le_pow_right (by omega) hi
  rw [u8_or _ x ha (by omega), ← Nat.shiftLeft_add_eq_or_of_lt h1]; omega
theorem or128 {n : Int} (h0 : 0 ≤ n) (h : n < 64) : bitsOf .or .u8 128 n = 128 + n := orK 2 6 (by decide) h0 (by omega) (by omega)
theorem or192 {n : Int} (h0 : 0 ≤ n) (h : n < 32) : bitsOf .or .u8 192 n = 192 + n := orK 6 5 (by decide) h0 (by omega) (by omega)
theorem or224 {n : Int} (h0 : 0 ≤ n) (h : n < 16) : bitsOf .or .u8 224 n = 224 + n := orK 14 4 (by decide) h0 (by omega) (by omega)
theorem or240 {n : Int} (h0 : 0 ≤ n) (h : n < 8) : bitsOf .or .u8 240 n = 240 + n := orK 30 3 (by decide) h0 (by omega) (by omega)
theorem shr_i32 {n : Int} (k : Nat) (hk : k ≤ 32) : n.fdiv (2 ^ min k IntKind.i32.bits) = n / 2 ^ k := by
  rw [show min k IntKind.i32.bits = k by show min k 32 = k; omega, Int.fdiv_eq_ediv_of_nonneg _ (Int.le_of_lt (Int.pow_pos (by decide)))]
theorem u8mod (n : Int) : IntKind.u8.wrap n = n % 256 := by
  have hb : IntKind.u8.bits = 8 := rfl
  have hs : IntKind.u8.signed = false := rfl
  simp only [IntKind.wrap, hb, hs, Int.reducePow, Nat.reduceSub, Bool.true_and, Bool.false_and, Bool.false_eq_true, if_false, decide_eq_true_eq, ge_iff_le]
end Go.X
end

section
open Go Go.Proofs
set_option linter.unusedVariables false
set_option linter.defProp false
namespace Go.X
theorem ti2 : ti Tryz.prog 2 = some ⟨(.int .i64), 1, some (.i .i64 0), []⟩ := by kernel_rfl
theorem ti3 : ti Tryz.prog 3 = some ⟨(.int .i64), 1, some (.i .i64 0), []⟩ := by kernel_rfl
theorem ti4 : ti Tryz.prog 4 = some ⟨.bool, 1, some (.b false), []⟩ := by kernel_rfl
theorem ti5 : ti Tryz.prog 5 = some ⟨(.int .u8), 1, some (.i .u8 0), []⟩ := by kernel_rfl
theorem ti6 : ti Tryz.prog 6 = some ⟨(.int .u8), 1, some (.i .u8 0), []⟩ := by kernel_rfl
theorem ti7 : ti Tryz.prog 7 = some ⟨.st, 4, some (.ag [(.i .i64 0), (.i .i64 0), (.b false), (.i .u8 0)]), [(0, (2, 1)), (1, (3, 1)), (2, (4, 1)), (3, (6, 1))]⟩ := by kernel_rfl
theorem ti8 : ti Tryz.prog 8 = some ⟨.st, 4, some (.ag [(.i .i64 0), (.i .i64 0), (.b false), (.i .u8 0)]), [(0, (2, 1)), (1, (3, 1)), (2, (4, 1)), (3, (6, 1))]⟩ := by kernel_rfl
theorem ti9 : ti Tryz.prog 9 = some ⟨.str, 1, some (.s []), []⟩ := by kernel_rfl
theorem ti10 : ti Tryz.prog 10 = some ⟨.str, 1, some (.s []), []⟩ := by kernel_rfl
theorem ti11 : ti Tryz.prog 11 = some ⟨.str, 1, some (.s []), []⟩ := by kernel_rfl
theorem ti12 : ti Tryz.prog 12 = some ⟨(.int .u64), 1, some (.i .u64 0), []⟩ := by kernel_rfl
theorem ti13 : ti Tryz.prog 13 = some ⟨.st, 2, some (.ag [(.s []), (.i .u64 0)]), [(0, (9, 1)), (1, (12, 1))]⟩ := by kernel_rfl
theorem ti14 : ti Tryz.prog 14 = some ⟨.st, 2, some (.ag [(.s []), (.i .u64 0)]), [(0, (9, 1)), (1, (12, 1))]⟩ := by kernel_rfl
theorem ti15 : ti Tryz.prog 15 = some ⟨(.ptr 145), 1, some .pnil, []⟩ := by kernel_rfl
theorem ti16 : ti Tryz.prog 16 = some ⟨(.ptr 148), 1, some .pnil, []⟩ := by kernel_rfl
theorem ti17 : ti Tryz.prog 17 = some ⟨(.ptr 155), 1, some .pnil, []⟩ := by kernel_rfl
theorem ti18 : ti Tryz.prog 18 = some ⟨.st, 1, some (.ag [.pnil]), [(0, (17, 1))]⟩ := by kernel_rfl
theorem ti19 : ti Tryz.prog 19 = some ⟨.st, 1, some (.ag [.pnil]), [(0, (17, 1))]⟩ := by kernel_rfl
theorem ti20 : ti Tryz.prog 20 = some ⟨.ifc, 1, some .nifc, []⟩ := by kernel_rfl
theorem ti21 : ti Tryz.prog 21 = some ⟨(.int .i32), 1, some (.i .i32 0), []⟩ := by kernel_rfl
theorem ti22 : ti Tryz.prog 22 = some ⟨(.sl 5 1 1), 1, some .nil, []⟩ := by kernel_rfl
theorem ti28 : ti Tryz.prog 28 = some ⟨(.sl 33 3 24), 1, some .nil, []⟩ := by kernel_rfl
theorem ti32 : ti Tryz.prog 32 = some ⟨.st, 3, some (.ag [(.i .i64 0), (.i .i64 0), (.i .i64 0)]), [(0, (3, 1)), (1, (3, 1)), (2, (3, 1))]⟩ := by kernel_rfl
theorem ti33 : ti Tryz.prog 33 = some ⟨.st, 3, some (.ag [(.i .i64 0), (.i .i64 0), (.i .i64 0)]), [(0, (3, 1)), (1, (3, 1)), (2, (3, 1))]⟩ := by kernel_rfl
theorem ti39 : ti Tryz.prog 39 = some ⟨(.ptr 41), 1, some .pnil, []⟩ := by kernel_rfl
theorem ti40 : ti Tryz.prog 40 = some ⟨.st, 2, some (.ag [.pnil, .nil]), [(0, (39, 1)), (1, (22, 1))]⟩ := by kernel_rfl
theorem ti41 : ti Tryz.prog 41 = some ⟨.st, 2, some (.ag [.pnil, .nil]), [(0, (39, 1)), (1, (22, 1))]⟩ := by kernel_rfl
theorem ti42 : ti Tryz.prog 42 = some ⟨.ifc, 1, some .nifc, []⟩ := by kernel_rfl
theorem ti43 : ti Tryz.prog 43 = some ⟨.ifc, 1, some .nifc, []⟩ := by kernel_rfl
theorem ti56 : ti Tryz.prog 56 = some ⟨(.ptr 71), 1, some .pnil, []⟩ := by kernel_rfl
theorem ti64 : ti Tryz.prog 64 = some ⟨(.ptr 5), 1, some .pnil, []⟩ := by kernel_rfl
theorem ti70 : ti Tryz.prog 70 = some ⟨.st, 2, some (.ag [.nil, (.i .i64 0)]), [(0, (22, 1)), (1, (3, 1))]⟩ := by kernel_rfl
theorem ti71 : ti Tryz.prog 71 = some ⟨.st, 2, some (.ag [.nil, (.i .i64 0)]), [(0, (22, 1)), (1, (3, 1))]⟩ := by kernel_rfl
theorem ti72 : ti Tryz.prog 72 = some ⟨(.sl 9 1 16), 1, some .nil, []⟩ := by kernel_rfl
theorem ti73 : ti Tryz.prog 73 = some ⟨(.arr 256 5 1), 256, some (.ag [(.i .u8 0), (.i .u8 0), (.i .u8 0), (.i .u8 0), (.i .u8 0), (.i .u8 0), (.i .u8 0), (.i .u8 0), (.i .u8 0), (.i .u8 0), (.i .u8 0), (.i .u8 0), (.i .u8 0), (.i .u8 0), (.i .u8 0), (.i .u8 0), (.i .u8 0), (.i .u8 0), (.i .u8 0), (.i .u8 0), (.i .u8 0), (.i .u8 0), (.i .u8 0), (.i .u8 0), (.i .u8 0), (.i .u8 0), (.i .u8 0), (.i .u8 0), (.i .u8 0), (.i .u8 0), (.i .u8 0), (.i .u8 0), (.i .u8 0), (.i .u8 0), (.i .u8 0), (.i .u8 0), (.i .u8 0), (.i .u8 0), (.i .u8 0), (.i .u8 0), (.i .u8 0), (.i .u8 0), (.i .u8 0), (.i .u8 0), (.i .u8 0), (.i .u8 0), (.i .u8 0), (.i .u8 0), (.i .u8 0), (.i .u8 0), (.i .u8 0), (.i .u8 0), (.i .u8 0), (.i .u8 0), (.i .u8 0), (.i .u8 0), (.i .u8 0), (.i .u8 0), (.i .u8 0), (.i .u8 0), (.i .u8 0), (.i .u8 0), (.i .u8 0), (.i .u8 0), (.i .u8 0), (.i .u8 0), (.i .u8 0), (.i .u8 0), (.i .u8 0), (.i .u8 0), (.i .u8 0), (.i .u8 0), (.i .u8 0), (.i .u8 0), (.i .u8 0), (.i .u8 0), (.i .u8 0), (.i .u8 0), (.i .u8 0), (.i .u8 0), (.i .u8 0), (.i .u8 0), (.i .u8 0), (.i .u8 0), (.i .u8 0), (.i .u8 0), (.i .u8 0), (.i .u8 0), (.i .u8 0), (.i .u8 0), (.i .u8 0), (.i .u8 0), (.i .u8 0), (.i .u8 0), (.i .u8 0), (.i .u8 0), (.i .u8 0), (.i .u8 0), (.i .u8 0), (.i .u8 0), (.i .u8 0), (.i .u8 0), (.i .u8 0), (.i .u8 0), (.i .u8 0), (.i .u8 0), (.i .u8 0), (.i .u8 0), (.i .u8 0), (.i .u8 0), (.i .u8 0), (.i .u8 0), (.i .u8 0), (.i .u8 0), (.i .u8 0), (.i .u8 0), (.i .u8 0), (.i .u8 0), (.i .u8 0), (.i .u8 0), (.i .u8 0), (.i .u8 0), (.i .u8 0), (.i .u8 0), (.i .u8 0), (.i .u8 0), (.i .u8 0), (.i .u8 0), (.i .u8 0), (.i .u8 0), (.i .u8 0), (.i .u8 0), (.i .u8 0), (.i .u8 0), (.i .u8 0), (.i .u8 0), (.i .u8 0), (.i .u8 0), (.i .u8 0), (.i .u8 0), (.i .u8 0), (.i .u8 0), (.i .u8 0), (.i .u8 0), (.i .u8 0), (.i .u8 0), (.i .u8 0), (.i .u8 0), (.i .u8 0), (.i .u8 0), (.i .u8 0), (.i .u8 0), (.i .u8 0), (.i .u8 0), (.i .u8 0), (.i .u8 0), (.i .u8 0), (.i .u8 0), (.i .u8 0), (.i .u8 0), (.i .u8 0), (.i .u8 0), (.i .u8 0), (.i .u8 0), (.i .u8 0), (.i .u8 0), (.i .u8 0), (.i .u8 0), (.i .u8 0), (.i .u8 0), (.i .u8 0), (.i .u8 0), (.i .u8 0), (.i .u8 0), (.i .u8 0), (.i .u8 0), (.i .u8 0), (.i .u8 0), (.i .u8 0), (.i .u8 0), (.i .u8 0), (.i .u8 0), (.i .u8 0), (.i .u8 0), (.i .u8 0), (.i .u8 0), (.i .u8 0), (.i .u8 0), (.i .u8 0), (.i .u8 0), (.i .u8 0), (.i .u8 0), (.i .u8 0), (.i .u8 0), (.i .u8 0), (.i .u8 0), (.i .u8 0), (.i .u8 0), (.i .u8 0), (.i .u8 0), (.i .u8 0), (.i .u8 0), (.i .u8 0), (.i .u8 0), (.i .u8 0), (.i .u8 0), (.i .u8 0), (.i .u8 0), (.i .u8 0), (.i .u8 0), (.i .u8 0), (.i .u8 0), (.i .u8 0), (.i .u8 0), (.i .u8 0), (.i .u8 0), (.i .u8 0), (.i .u8 0), (.i .u8 0), (.i .u8 0), (.i .u8 0), (.i .u8 0), (.i .u8 0), (.i .u8 0), (.i .u8 0), (.i .u8 0), (.i .u8 0), (.i .u8 0), (.i .u8 0), (.i .u8 0), (.i .u8 0), (.i .u8 0), (.i .u8 0), (.i .u8 0), (.i .u8 0), (.i .u8 0), (.i .u8 0), (.i .u8 0), (.i .u8 0), (.i .u8 0), (.i .u8 0), (.i .u8 0), (.i .u8 0), (.i .u8 0), (.i .u8 0), (.i .u8 0), (.i .u8 0), (.i .u8 0), (.i .u8 0), (.i .u8 0), (.i .u8 0), (.i .u8 0), (.i .u8 0), (.i .u8 0), (.i .u8 0), (.i .u8 0)]), []⟩ := by kernel_rfl
theorem ti74 : ti Tryz.prog 74 = some ⟨(.int .u64), 1, some (.i .u64 0), []⟩ := by kernel_rfl
theorem ti75 : ti Tryz.prog 75 = some ⟨.st, 2, some (.ag [(.i .u8 0), (.i .u8 0)]), [(0, (5, 1)), (1, (5, 1))]⟩ := by kernel_rfl
theorem ti76 : ti Tryz.prog 76 = some ⟨.st, 2, some (.ag [(.i .u8 0), (.i .u8 0)]), [(0, (5, 1)), (1, (5, 1))]⟩ := by kernel_rfl
theorem ti77 : ti Tryz.prog 77 = some ⟨(.arr 16 76 2), 32, some (.ag [(.i .u8 0), (.i .u8 0), (.i .u8 0), (.i .u8 0), (.i .u8 0), (.i .u8 0), (.i .u8 0), (.i .u8 0), (.i .u8 0), (.i .u8 0), (.i .u8 0), (.i .u8 0), (.i .u8 0), (.i .u8 0), (.i .u8 0), (.i .u8 0), (.i .u8 0), (.i .u8 0), (.i .u8 0), (.i .u8 0), (.i .u8 0), (.i .u8 0), (.i .u8 0), (.i .u8 0), (.i .u8 0), (.i .u8 0), (.i .u8 0), (.i .u8 0), (.i .u8 0), (.i .u8 0), (.i .u8 0), (.i .u8 0)]), []⟩ := by kernel_rfl
theorem ti81 : ti Tryz.prog 81 = some ⟨(.arr 24 5 1), 24, some (.ag [(.i .u8 0), (.i .u8 0), (.i .u8 0), (.i .u8 0), (.i .u8 0), (.i .u8 0), (.i .u8 0), (.i .u8 0), (.i .u8 0), (.i .u8 0), (.i .u8 0), (.i .u8 0), (.i .u8 0), (.i .u8 0), (.i .u8 0), (.i .u8 0), (.i .u8 0), (.i .u8 0), (.i .u8 0), (.i .u8 0), (.i .u8 0), (.i .u8 0), (.i .u8 0), (.i .u8 0)]), []⟩ := by kernel_rfl
theorem ti82 : ti Tryz.prog 82 = some ⟨(.int .u64), 1, some (.i .u64 0), []⟩ := by kernel_rfl
theorem ti87 : ti Tryz.prog 87 = some ⟨(.int .u32), 1, some (.i .u32 0), []⟩ := by kernel_rfl
theorem ti95 : ti Tryz.prog 95 = some ⟨(.map 9 4), 1, some .mnil, []⟩ := by kernel_rfl
theorem ti99 : ti Tryz.prog 99 = some ⟨(.arr 20 82 1), 20, some (.ag [(.i .u64 0), (.i .u64 0), (.i .u64 0), (.i .u64 0), (.i .u64 0), (.i .u64 0), (.i .u64 0), (.i .u64 0), (.i .u64 0), (.i .u64 0), (.i .u64 0), (.i .u64 0), (.i .u64 0), (.i .u64 0), (.i .u64 0), (.i .u64 0), (.i .u64 0), (.i .u64 0), (.i .u64 0), (.i .u64 0)]), []⟩ := by kernel_rfl
theorem ti100 : ti Tryz.prog 100 = some ⟨(.arr 65 5 1), 65, some (.ag [(.i .u8 0), (.i .u8 0), (.i .u8 0), (.i .u8 0), (.i .u8 0), (.i .u8 0), (.i .u8 0), (.i .u8 0), (.i .u8 0), (.i .u8 0), (.i .u8 0), (.i .u8 0), (.i .u8 0), (.i .u8 0), (.i .u8 0), (.i .u8 0), (.i .u8 0), (.i .u8 0), (.i .u8 0), (.i .u8 0), (.i .u8 0), (.i .u8 0), (.i .u8 0), (.i .u8 0), (.i .u8 0), (.i .u8 0), (.i .u8 0), (.i .u8 0), (.i .u8 0), (.i .u8 0), (.i .u8 0), (.i .u8 0), (.i .u8 0), (.i .u8 0), (.i .u8 0), (.i .u8 0), (.i .u8 0), (.i .u8 0), (.i .u8 0), (.i .u8 0), (.i .u8 0), (.i .u8 0), (.i .u8 0), (.i .u8 0), (.i .u8 0), (.i .u8 0), (.i .u8 0), (.i .u8 0), (.i .u8 0), (.i .u8 0), (.i .u8 0), (.i .u8 0), (.i .u8 0), (.i .u8 0), (.i .u8 0), (.i .u8 0), (.i .u8 0), (.i .u8 0), (.i .u8 0), (.i .u8 0), (.i .u8 0), (.i .u8 0), (.i .u8 0), (.i .u8 0), (.i .u8 0)]), []⟩ := by kernel_rfl
theorem ti107 : ti Tryz.prog 107 = some ⟨(.int .i64), 1, some (.i .i64 0), []⟩ := by kernel_rfl
theorem ti110 : ti Tryz.prog 110 = some ⟨(.ptr 120), 1, some .pnil, []⟩ := by kernel_rfl
theorem ti116 : ti Tryz.prog 116 = some ⟨(.arr 32 5 1), 32, some (.ag [(.i .u8 0), (.i .u8 0), (.i .u8 0), (.i .u8 0), (.i .u8 0), (.i .u8 0), (.i .u8 0), (.i .u8 0), (.i .u8 0), (.i .u8 0), (.i .u8 0), (.i .u8 0), (.i .u8 0), (.i .u8 0), (.i .u8 0), (.i .u8 0), (.i .u8 0), (.i .u8 0), (.i .u8 0), (.i .u8 0), (.i .u8 0), (.i .u8 0), (.i .u8 0), (.i .u8 0), (.i .u8 0), (.i .u8 0), (.i .u8 0), (.i .u8 0), (.i .u8 0), (.i .u8 0), (.i .u8 0), (.i .u8 0)]), []⟩ := by kernel_rfl
theorem ti117 : ti Tryz.prog 117 = some ⟨(.arr 64 5 1), 64, some (.ag [(.i .u8 0), (.i .u8 0), (.i .u8 0), (.i .u8 0), (.i .u8 0), (.i .u8 0), (.i .u8 0), (.i .u8 0), (.i .u8 0), (.i .u8 0), (.i .u8 0), (.i .u8 0), (.i .u8 0), (.i .u8 0), (.i .u8 0), (.i .u8 0), (.i .u8 0), (.i .u8 0), (.i .u8 0), (.i .u8 0), (.i .u8 0), (.i .u8 0), (.i .u8 0), (.i .u8 0), (.i .u8 0), (.i .u8 0), (.i .u8 0), (.i .u8 0), (.i .u8 0), (.i .u8 0), (.i .u8 0), (.i .u8 0), (.i .u8 0), (.i .u8 0), (.i .u8 0), (.i .u8 0), (.i .u8 0), (.i .u8 0), (.i .u8 0), (.i .u8 0), (.i .u8 0), (.i .u8 0), (.i .u8 0), (.i .u8 0), (.i .u8 0), (.i .u8 0), (.i .u8 0), (.i .u8 0), (.i .u8 0), (.i .u8 0), (.i .u8 0), (.i .u8 0), (.i .u8 0), (.i .u8 0), (.i .u8 0), (.i .u8 0), (.i .u8 0), (.i .u8 0), (.i .u8 0), (.i .u8 0), (.i .u8 0), (.i .u8 0), (.i .u8 0), (.i .u8 0)]), []⟩ := by kernel_rfl
theorem ti119 : ti Tryz.prog 119 = some ⟨.st, 3, some (.ag [(.s []), (.s []), .nifc]), [(0, (9, 1)), (1, (9, 1)), (2, (43, 1))]⟩ := by kernel_rfl
theorem ti120 : ti Tryz.prog 120 = some ⟨.st, 3, some (.ag [(.s []), (.s []), .nifc]), [(0, (9, 1)), (1, (9, 1)), (2, (43, 1))]⟩ := by kernel_rfl
theorem ti123 : ti Tryz.prog 123 = some ⟨(.sl 125 2 16), 1, some .nil, []⟩ := by kernel_rfl
theorem ti124 : ti Tryz.prog 124 = some ⟨.st, 2, some (.ag [(.i .i64 0), (.i .i64 0)]), [(0, (3, 1)), (1, (3, 1))]⟩ := by kernel_rfl
theorem ti125 : ti Tryz.prog 125 = some ⟨.st, 2, some (.ag [(.i .i64 0), (.i .i64 0)]), [(0, (3, 1)), (1, (3, 1))]⟩ := by kernel_rfl
theorem ti127 : ti Tryz.prog 127 = some ⟨(.ptr 134), 1, some .pnil, []⟩ := by kernel_rfl
theorem ti128 : ti Tryz.prog 128 = some ⟨(.ptr 130), 1, some .pnil, []⟩ := by kernel_rfl
theorem ti129 : ti Tryz.prog 129 = some ⟨.st, 1, some (.ag [(.s [])]), [(0, (9, 1))]⟩ := by kernel_rfl
theorem ti130 : ti Tryz.prog 130 = some ⟨.st, 1, some (.ag [(.s [])]), [(0, (9, 1))]⟩ := by kernel_rfl
theorem ti131 : ti Tryz.prog 131 = some ⟨(.sl 137 3 6), 1, some .nil, []⟩ := by kernel_rfl
theorem ti132 : ti Tryz.prog 132 = some ⟨(.sl 140 3 12), 1, some .nil, []⟩ := by kernel_rfl
theorem ti133 : ti Tryz.prog 133 = some ⟨.st, 3, some (.ag [.nil, .nil, (.i .i64 0)]), [(0, (131, 1)), (1, (132, 1)), (2, (3, 1))]⟩ := by kernel_rfl
theorem ti134 : ti Tryz.prog 134 = some ⟨.st, 3, some (.ag [.nil, .nil, (.i .i64 0)]), [(0, (131, 1)), (1, (132, 1)), (2, (3, 1))]⟩ := by kernel_rfl
theorem ti135 : ti Tryz.prog 135 = some ⟨(.int .u16), 1, some (.i .u16 0), []⟩ := by kernel_rfl
theorem ti136 : ti Tryz.prog 136 = some ⟨.st, 3, some (.ag [(.i .u16 0), (.i .u16 0), (.i .u16 0)]), [(0, (135, 1)), (1, (135, 1)), (2, (135, 1))]⟩ := by kernel_rfl
theorem ti137 : ti Tryz.prog 137 = some ⟨.st, 3, some (.ag [(.i .u16 0), (.i .u16 0), (.i .u16 0)]), [(0, (135, 1)), (1, (135, 1)), (2, (135, 1))]⟩ := by kernel_rfl
theorem ti139 : ti Tryz.prog 139 = some ⟨.st, 3, some (.ag [(.i .u32 0), (.i .u32 0), (.i .u32 0)]), [(0, (87, 1)), (1, (87, 1)), (2, (87, 1))]⟩ := by kernel_rfl
theorem ti140 : ti Tryz.prog 140 = some ⟨.st, 3, some (.ag [(.i .u32 0), (.i .u32 0), (.i .u32 0)]), [(0, (87, 1)), (1, (87, 1)), (2, (87, 1))]⟩ := by kernel_rfl
theorem ti142 : ti Tryz.prog 142 = some ⟨(.ptr 137), 1, some .pnil, []⟩ := by kernel_rfl
theorem ti143 : ti Tryz.prog 143 = some ⟨(.ptr 140), 1, some .pnil, []⟩ := by kernel_rfl
theorem ti144 : ti Tryz.prog 144 = some ⟨.st, 4, some (.ag [.pnil, .pnil, .pnil, (.s [])]), [(0, (17, 1)), (1, (17, 1)), (2, (17, 1)), (3, (9, 1))]⟩ := by kernel_rfl
theorem ti145 : ti Tryz.prog 145 = some ⟨.st, 4, some (.ag [.pnil, .pnil, .pnil, (.s [])]), [(0, (17, 1)), (1, (17, 1)), (2, (17, 1)), (3, (9, 1))]⟩ := by kernel_rfl
theorem ti146 : ti Tryz.prog 146 = some ⟨(.arr 0 16 1), 0, some (.ag []), []⟩ := by kernel_rfl
theorem ti147 : ti Tryz.prog 147 = some ⟨.st, 0, some (.ag []), [(0, (146, 0))]⟩ := by kernel_rfl
theorem ti148 : ti Tryz.prog 148 = some ⟨.st, 0, some (.ag []), [(0, (146, 0))]⟩ := by kernel_rfl
theorem ti149 : ti Tryz.prog 149 = some ⟨(.int .u8), 1, some (.i .u8 0), []⟩ := by kernel_rfl
theorem ti150 : ti Tryz.prog 150 = some ⟨(.int .u8), 1, some (.i .u8 0), []⟩ := by kernel_rfl
theorem ti152 : ti Tryz.prog 152 = some ⟨(.int .i32), 1, some (.i .i32 0), []⟩ := by kernel_rfl
theorem ti153 : ti Tryz.prog 153 = some ⟨(.int .i32), 1, some (.i .i32 0), []⟩ := by kernel_rfl
theorem ti154 : ti Tryz.prog 154 = some ⟨.st, 11, some (.ag [(.i .u64 0), (.i .u64 0), (.i .u32 0), (.i .u8 0), (.i .u8 0), (.i .u8 0), (.i .u8 0), .nfn, .pnil, (.i .i32 0), (.i .i32 0)]), [(0, (12, 1)), (1, (12, 1)), (2, (87, 1)), (3, (149, 1)), (4, (5, 1)), (5, (5, 1)), (6, (150, 1)), (7, (151, 1)), (8, (64, 1)), (9, (152, 1)), (10, (153, 1))]⟩ := by kernel_rfl
theorem ti155 : ti Tryz.prog 155 = some ⟨.st, 11, some (.ag [(.i .u64 0), (.i .u64 0), (.i .u32 0), (.i .u8 0), (.i .u8 0), (.i .u8 0), (.i .u8 0), .nfn, .pnil, (.i .i32 0), (.i .i32 0)]), [(0, (12, 1)), (1, (12, 1)), (2, (87, 1)), (3, (149, 1)), (4, (5, 1)), (5, (5, 1)), (6, (150, 1)), (7, (151, 1)), (8, (64, 1)), (9, (152, 1)), (10, (153, 1))]⟩ := by kernel_rfl
def TL := And.intro ti2 <| And.intro ti3 <| And.intro ti4 <| And.intro ti5 <| And.intro ti6 <| And.intro ti7 <| And.intro ti8 <| And.intro ti9 <| And.intro ti10 <| And.intro ti11 <| And.intro ti12 <| And.intro ti13 <| And.intro ti14 <| And.intro ti15 <| And.intro ti16 <| And.intro ti17 <| And.intro ti18 <| And.intro ti19 <| And.intro ti20 <| And.intro ti21 <| And.intro ti22 <| And.intro ti28 <| And.intro ti32 <| And.intro ti33 <| And.intro ti39 <| And.intro ti40 <| And.intro ti41 <| And.intro ti42 <| And.intro ti43 <| And.intro ti56 <| And.intro ti64 <| And.intro ti70 <| And.intro ti71 <| And.intro ti72 <| And.intro ti73 <| And.intro ti74 <| And.intro ti75 <| And.intro ti76 <| And.intro ti77 <| And.intro ti81 <| And.intro ti82 <| And.intro ti87 <| And.intro ti95 <| And.intro ti99 <| And.intro ti100 <| And.intro ti107 <| And.intro ti110 <| And.intro ti116 <| And.intro ti117 <| And.intro ti119 <| And.intro ti120 <| And.intro ti123 <| And.intro ti124 <| And.intro ti125 <| And.intro ti127 <| And.intro ti128 <| And.intro ti129 <| And.intro ti130 <| And.intro ti131 <| And.intro ti132 <| And.intro ti133 <| And.intro ti134 <| And.intro ti135 <| And.intro ti136 <| And.intro ti137 <| And.intro ti139 <| And.intro ti140 <| And.intro ti142 <| And.intro ti143 <| And.intro ti144 <| And.intro ti145 <| And.intro ti146 <| And.intro ti147 <| And.intro ti148 <| And.intro ti149 <| And.intro ti150 <| And.intro ti152 <| And.intro ti153 <| And.intro ti154 <| ti155
end Go.X
end
