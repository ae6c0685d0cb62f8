/- A reading of the model's code as a plain formula: 'Sh' runs over a piece of code whose arguments are variables, and leaves a formula about numbers, strings and memory cells. No condition. -/
import Derived.WalkKit
import Derived.Deep.Quiet
import Derived.StillTail
import Derived.OrdersHeld
import Derived.KernelRfl
import Derived.Recover
namespace Go.Proofs.YtpkadliieplblaaDoor
namespace Sh

/-! ### Values by their types -/

structure Slc where
  p : Option Addr
  len : Nat
  cap : Nat
def Slc.v (s : Slc) : Value := .slice s.p s.len s.cap

inductive Ty1 where
  | int (k : IntKind) | bool | str | ptr | addr | slc | map | raw
def Ty1.T : Ty1 → Type
  | .int _ => Int | .bool => Bool | .str => ByteArray | .ptr => Option Addr | .addr => Addr | .slc => Slc | .map => Option Nat | .raw => Value
def Ty1.v : (t : Ty1) → t.T → Value
  | .int k, x => .int k x | .bool, x => .bool x | .str, x => .string x | .ptr, x => .pointer x | .addr, x => .pointer (some x) | .slc, x => Slc.v x | .map, x => .map x | .raw, x => x
def Ty1.get? : (t : Ty1) → Value → Option t.T
  | .int k, .int k' n => if k' = k then some n else none
  | .bool, .bool b => some b
  | .str, .string s => some s
  | .ptr, .pointer p => some p
  | .addr, .pointer (some p) => some p
  | .slc, .slice p l c => some ⟨p, l, c⟩
  | .map, .map m => some m
  | .raw, x => some x
  | _, _ => none

def Sig : List Ty1 → Type
  | [] => Unit
  | [t] => t.T
  | t :: u :: r => t.T × Sig (u :: r)
def Sig.cells : (ts : List Ty1) → Sig ts → List Value
  | [], _ => []
  | [t], x => [t.v x]
  | t :: u :: r, x => t.v x.1 :: Sig.cells (u :: r) x.2
def Sig.get? : (ts : List Ty1) → List Value → Option (Sig ts)
  | [], [] => some ()
  | [t], [x] => t.get? x
  | t :: u :: r, x :: xs => (t.get? x).bind fun a => (Sig.get? (u :: r) xs).bind fun b => some (a, b)
  | _, _ => none

inductive Ty where
  | one (t : Ty1)
  | agg (ts : List Ty1)
def Ty.T : Ty → Type
  | .one t => t.T
  | .agg ts => Sig ts
def Ty.v : (t : Ty) → t.T → Value
  | .one t, x => t.v x
  | .agg ts, x => .agg (Sig.cells ts x).toArray
def Ty.get? : (t : Ty) → Value → Option t.T
  | .one t, x => t.get? x
  | .agg ts, .agg cs => Sig.get? ts cs.toList
  | _, _ => none

def Sg : List Ty → Type
  | [] => Unit
  | [t] => t.T
  | t :: u :: r => t.T × Sg (u :: r)
def Sg.vals : (ts : List Ty) → Sg ts → List Value
  | [], _ => []
  | [t], x => [t.v x]
  | t :: u :: r, x => t.v x.1 :: Sg.vals (u :: r) x.2
def Sg.get? : (ts : List Ty) → List Value → Option (Sg ts)
  | [], [] => some ()
  | [t], [x] => t.get? x
  | t :: u :: r, x :: xs => (t.get? x).bind fun a => (Sg.get? (u :: r) xs).bind fun b => some (a, b)
  | _, _ => none

def tyD : TypeDesc → Ty1
  | .int k => .int k | .bool => .bool | .string => .str | .pointer _ => .ptr | .slice _ => .slc | .map _ _ => .map | _ => .raw
def isAggD : Option TypeDesc → Bool
  | some (.struct _) | some (.array _ _) => true
  | _ => false
def cellsTy (P : Program) : Nat → TypeId → List Ty1
  | 0, _ => []
  | n + 1, t => match P.underlying t with
    | some (.struct fs) => fs.toList.flatMap fun f => cellsTy P n f.type
    | some (.array len e) => (List.replicate len (cellsTy P n e)).flatten
    | some d => [tyD d]
    | none => []
/-- The type by which a value of this type is read: a struct or an array of at most 40 cells cell by cell. -/
def tyOf (P : Program) (t : TypeId) : Ty := match isAggD (P.underlying t) with
  | true => if P.cellsOf t ≤ 40 then .agg (cellsTy P 8 t) else .one .raw
  | false => match P.underlying t with
    | some d => .one (tyD d)
    | none => .one .raw

/-! ### What is known of the slots -/

abbrev Env := List (Nat × Value)
def Env.get? : Env → Nat → Option Value
  | [], _ => none
  | (t, v) :: E, n => match Nat.beq t n with
    | true => some v
    | false => Env.get? E n
def Env.rho (E : Env) : Operand → Value
  | .tmp t => match E.get? t with
    | some v => v
    | none => undef
  | .const v => v
  | .global g => .pointer (some ⟨g, 0, none⟩)
  | .func f => .func (.func f) #[] #[]
def Env.has (E : Env) : Operand → Bool
  | .tmp t => (E.get? t).isSome
  | _ => true
def Env.put (E : Env) (d : Option Tmp) (v : Value) : Env := match d with
  | some t => (t, v) :: E
  | none => E
def Env.vals (E : Env) : List Nat → Option (List Value)
  | [] => some []
  | t :: r => match E.get? t, Env.vals E r with
    | some v, some vs => some (v :: vs)
    | _, _ => none
def Env.zip : List Nat → List Value → Env
  | t :: r, v :: vs => (t, v) :: Env.zip r vs
  | _, _ => []
def Env.keep (E : Env) : List Nat → Env
  | [] => []
  | t :: r => match E.get? t with
    | some v => (t, v) :: Env.keep E r
    | none => Env.keep E r

def Br (b : Bool) (A B : Prop) : Prop := match b with
  | true => A
  | false => B

/-! ### The words of a formula -/

def CanSt (w : World) (a : Addr) : Prop := (∃ o, w.cell? a = some o) ∧ w.frozen? a = false
/-- The pointer is not nil. -/
def Nn (p : Option Addr) (K : Addr → Prop) : Prop := ∃ a, p = some a ∧ K a
/-- A cell is read. -/
def Ld {α : Type} (w : World) (a : Addr) (V : α → Value) (K : α → Prop) : Prop := ∃ x, w.cell? a = some (V x) ∧ K x
/-- A cell is read that holds the same in every world of S. -/
def LdS {α : Type} (S : World → Prop) (a : Addr) (V : α → Value) (K : α → Prop) : Prop := ∃ x, (∀ w, S w → w.cell? a = some (V x)) ∧ K x
/-- A cell is written. -/
def St (w : World) (a : Addr) (v : Value) (K : World → Prop) : Prop := CanSt w a ∧ K (w.setCell a v)
/-- A new block. -/
def Nw (w : World) (o : Obj) (K : World → Prop) : Prop := K (w.alloc o)
/-- An iterator over a string, in its block. -/
def itW (w : World) (b : Nat) (s : ByteArray) (pos : Nat) : World := { w with heap := w.heap.setIfInBounds b (.stringIter s pos) }
/-- The next character of an iterator over a string, or its end. -/
def Nx (w : World) (a : Addr) (T : Int → Int → World → Prop) (N : Prop) : Prop :=
  ∃ (s : ByteArray) (pos : Nat), a.off = 0 ∧ w.heap[a.block]? = some (.stringIter s pos) ∧ Br (decide (pos < s.size)) (T (pos : Int) ((Utf8.decode s pos).1 : Int) (itW w a.block s (pos + (Utf8.decode s pos).2))) N
/-- A name for a value. -/
def Lt {α : Type} (e : α) (K : α → Prop) : Prop := K e

/-! ### One operation -/

/-- Which functions may be entered, which of them may panic; what holds if a panic comes up. -/
structure Fx where
  ok : Nat → Bool
  may : Nat → Bool
  pk : Value → World → Prop
/-- The one panic that is under way. -/
def onePanic (v : Value) : List PanicEntry := [{ v, recovered := false }]
/-- What an operation that runs so must satisfy, if it may panic. -/
def OutP (P : Program) (pk : Value → World → Prop) (K : Value → World → Prop) : Result Next → Prop
  | .ok (.value v) w' => K v w'
  | .ok .skip w' => K undef w'
  | .ok (.enter f args) w' => Calls P f args w' fun e w'' => (∃ v, e = .returned v ∧ K v w'') ∨ ∃ v, e = .panicked (onePanic v) ∧ pk v w''
  | .halt (.panic v) w' => pk v w'
  | _ => False
/-- What an operation that runs so must satisfy. -/
def Out (P : Program) (K : Value → World → Prop) : Result Next → Prop
  | .ok (.value v) w' => K v w'
  | .ok .skip w' => K undef w'
  | .ok (.enter f args) w' => Calls P f args w' fun e w'' => ∃ v, e = .returned v ∧ K v w''
  | _ => False
/-- An operation of the model's that is left as it is. -/
def RunV (P : Program) (s : Sem Value) (w : World) (v : Value) (w' : World) : Prop := s.run P w = .ok v w'
def RunU (P : Program) (s : Sem Unit) (w : World) (w' : World) : Prop := s.run P w = .ok () w'
def exT (t : Ty) (K : Value → Prop) : Prop := ∃ x : t.T, K (t.v x)
def Rn {α : Type} (P : Program) (s : Sem Value) (w : World) (V : α → Value) (K : α → World → Prop) : Prop := ∃ x w', RunV P s w (V x) w' ∧ K x w'
def Ru (P : Program) (s : Sem Unit) (w : World) (K : World → Prop) : Prop := ∃ w', RunU P s w w' ∧ K w'
def runV (P : Program) (q : Bool) (t : TypeId) (s : Sem Value) (w : World) (K : Value → World → Prop) : Prop := match q with
  | false => Rn P s w (tyOf P t).v fun x w' => K ((tyOf P t).v x) w'
  | true => False
def runU (P : Program) (s : Sem Unit) (w : World) (K : Value → World → Prop) : Prop := Ru P s w fun w' => K undef w'

def ldL (w : World) (a : Addr) : Nat → List Ty1 → (List Value → Prop) → Prop
  | _, [], K => K []
  | i, t :: ts, K => Ld w (a.add i) t.v fun x => ldL w a (i + 1) ts fun l => K (t.v x :: l)
/-- The cells of a great struct are read. -/
def LdT (w : World) (a : Addr) : Nat → (ts : List Ty1) → (Sig ts → Prop) → Prop
  | _, [], K => K ()
  | i, [t], K => Ld w (a.add i) t.v fun x => K x
  | i, t :: u :: r, K => Ld w (a.add i) t.v fun x => LdT w a (i + 1) (u :: r) fun y => K (x, y)
def LdST (S : World → Prop) (a : Addr) : Nat → (ts : List Ty1) → (Sig ts → Prop) → Prop
  | _, [], K => K ()
  | i, [t], K => LdS S (a.add i) t.v fun x => K x
  | i, t :: u :: r, K => LdS S (a.add i) t.v fun x => LdST S a (i + 1) (u :: r) fun y => K (x, y)
/-- The cells of a great struct are written. -/
def StT (a : Addr) : Nat → (ts : List Ty1) → Sig ts → World → (World → Prop) → Prop
  | _, [], _, w, K => K w
  | i, [t], x, w, K => St w (a.add i) (t.v x) K
  | i, t :: u :: r, x, w, K => St w (a.add i) (t.v x.1) fun w' => StT a (i + 1) (u :: r) x.2 w' K
/-- The size of a type, by the table. -/
def szOf (P : Program) (t : TypeId) : Option Nat := (P.info? t).map (·.size)
def ldV (P : Program) (t : TypeId) (x : Value) (w : World) (K : Value → Prop) : Prop := match x with
  | .pointer (some a) => match P.underlying t, szOf P t with
    | some d, some n => match isAggD (some d) with
      | false => Ld w a (tyD d).v fun x => K ((tyD d).v x)
      | true => match tyOf P t with
        | .agg ts => match Nat.beq ts.length n with
          | true => ldL w a 0 ts fun l => K (.agg l.toArray)
          | false => False
        | .one _ => ∃ x : Array Value, RunV P (loadVar t a) w (.agg x) w ∧ K (.agg x)
    | _, _ => False
  | _ => False
def one1 : Value → Bool
  | .agg _ | .tuple _ => false
  | _ => true
def stL (a : Addr) : Nat → List Value → World → (World → Prop) → Prop
  | _, [], w, K => K w
  | i, v :: r, w, K => Br (one1 v) (St w (a.add i) v fun w' => stL a (i + 1) r w' K) False
def stV (P : Program) (t : TypeId) (x y : Value) (w : World) (K : World → Prop) : Prop := match x with
  | .pointer (some a) => match P.underlying t, szOf P t with
    | some d, some n => match isAggD (some d) with
      | false => match Nat.beq n 1 with
        | true => Br (one1 y) (St w a y K) False
        | false => False
      | true => match y with
        | .agg cs => match Nat.beq cs.size n with
          | true => stL a 0 cs.toList w K
          | false => False
        | _ => Ru P (storeVar t a y) w K
    | _, _ => False
  | _ => False

def isC : Operand → Bool
  | .const _ => true
  | _ => false

/-- The four bit operations on two numbers of one kind. -/
def iand (k : IntKind) (x y : Int) : Int := k.wrap ((BitVec.ofInt k.bits x &&& BitVec.ofInt k.bits y).toNat : Int)
def ior (k : IntKind) (x y : Int) : Int := k.wrap ((BitVec.ofInt k.bits x ||| BitVec.ofInt k.bits y).toNat : Int)
def ixor (k : IntKind) (x y : Int) : Int := k.wrap ((BitVec.ofInt k.bits x ^^^ BitVec.ofInt k.bits y).toNat : Int)
def iandnot (k : IntKind) (x y : Int) : Int := k.wrap ((BitVec.ofInt k.bits x &&& ~~~ BitVec.ofInt k.bits y).toNat : Int)

/-- A byte of a string. -/
def bAt (s : ByteArray) (i : Int) : Int := ((s.data.getD i.toNat 0).toNat : Int)
def Slc.cut (s : Slc) (size l h m : Nat) : Slc := ⟨if m = l then s.p else s.p.map (·.add (l * size)), h - l, m - l⟩

/-- Whether two structs of numbers, bools, strings and such structs are equal, field by field. -/
def eqFs (P : Program) : Nat → Array Value → Array Value → List Field → Option Bool
  | 0, _, _, _ => none
  | n + 1, xs, ys, fs => match fs with
    | [] => some true
    | f :: r => if f.name = "_" then none else match P.underlying f.type with
      | some (.struct fs') => match P.stoodInHeld f.type with
        | false => (eqFs P n (xs.extract f.offset (f.offset + P.cellsOf f.type)) (ys.extract f.offset (f.offset + P.cellsOf f.type)) fs'.toList).bind fun p => (eqFs P n xs ys r).map fun q => p && q
        | true => none
      | some d => match d, xs[f.offset]?, ys[f.offset]? with
        | .int _, some (.int k a), some (.int k' b) => if k = k' then (eqFs P n xs ys r).map fun q => (a == b) && q else none
        | .bool, some (.bool a), some (.bool b) => (eqFs P n xs ys r).map fun q => (a == b) && q
        | .string, some (.string a), some (.string b) => (eqFs P n xs ys r).map fun q => (a.toList == b.toList) && q
        | _, _, _ => none
      | none => none
def eqAgg (P : Program) (t : TypeId) (xs ys : Array Value) : Option Bool := match P.underlying t with
  | some (.struct fs) => match P.stoodInHeld t, P.eqGuardType P.depth t with
    | false, false => eqFs P 60 xs ys fs.toList
    | _, _ => none
  | _ => none

def binV (P : Program) (op : BinOp) (t : TypeId) (cy : Bool) (x y : Value) (K : Value → Prop) (dflt other : Prop) : Prop :=
  match op with
  | .quo => match cy, x, y with
    | false, .int k a, .int k' b => if k = k' then (b ≠ 0 ∧ K (.int k (k.wrap (a.tdiv b)))) else False
    | _, _, _ => dflt
  | .rem => match cy, x, y with
    | false, .int k a, .int k' b => if k = k' then (b ≠ 0 ∧ K (.int k (a.tmod b))) else False
    | _, _, _ => dflt
  | .shl => match cy, x, y with
    | false, .int k a, .int _ b => 0 ≤ b ∧ K (.int k (k.wrap (a * 2 ^ min b.toNat k.bits)))
    | _, _, _ => dflt
  | .shr => match cy, x, y with
    | false, .int k a, .int _ b => 0 ≤ b ∧ K (.int k (a.fdiv (2 ^ min b.toNat k.bits)))
    | _, _, _ => dflt
  | .add => match x, y with
    | .string a, .string b => ((a.size + b.size : Nat) : Int) ≤ IntKind.i64.max ∧ K (.string (a ++ b))
    | _, _ => dflt
  | .eql => match x, y with
    | .int _ _, .int _ _ => dflt
    | .string _, .string _ => dflt
    | .bool _, .bool _ => dflt
    | .pointer p, .pointer q => match cy, q, P.underlying t with
      | true, none, some (.pointer _) => K (.bool p.isNone)
      | _, _, _ => other
    | .slice p _ _, .slice q _ _ => match cy, q, P.underlying t with
      | true, none, some (.slice _) => K (.bool p.isNone)
      | _, _, _ => other
    | .map p, .map q => match cy, q, P.underlying t with
      | true, none, some (.map _ _) => K (.bool p.isNone)
      | _, _, _ => other
    | .iface _ _, .nilIface => match cy, P.underlying t with
      | true, some (.interface _) => K (.bool false)
      | _, _ => other
    | .nilIface, .nilIface => match cy, P.underlying t with
      | true, some (.interface _) => K (.bool true)
      | _, _ => other
    | .func _ _ _, .nilFunc => match cy, P.underlying t with
      | true, some (.func _ _ _) => K (.bool false)
      | _, _ => other
    | .nilFunc, .nilFunc => match cy, P.underlying t with
      | true, some (.func _ _ _) => K (.bool true)
      | _, _ => other
    | .agg xs, .agg ys => match eqAgg P t xs ys with
      | some b => K (.bool b)
      | none => other
    | _, _ => other
  | .neq => match x, y with
    | .int _ _, .int _ _ => dflt
    | .string _, .string _ => dflt
    | .bool _, .bool _ => dflt
    | .pointer p, .pointer q => match cy, q, P.underlying t with
      | true, none, some (.pointer _) => K (.bool (!p.isNone))
      | _, _, _ => other
    | .slice p _ _, .slice q _ _ => match cy, q, P.underlying t with
      | true, none, some (.slice _) => K (.bool (!p.isNone))
      | _, _, _ => other
    | .map p, .map q => match cy, q, P.underlying t with
      | true, none, some (.map _ _) => K (.bool (!p.isNone))
      | _, _, _ => other
    | .iface _ _, .nilIface => match cy, P.underlying t with
      | true, some (.interface _) => K (.bool true)
      | _, _ => other
    | .nilIface, .nilIface => match cy, P.underlying t with
      | true, some (.interface _) => K (.bool false)
      | _, _ => other
    | .func _ _ _, .nilFunc => match cy, P.underlying t with
      | true, some (.func _ _ _) => K (.bool true)
      | _, _ => other
    | .nilFunc, .nilFunc => match cy, P.underlying t with
      | true, some (.func _ _ _) => K (.bool false)
      | _, _ => other
    | .agg xs, .agg ys => match eqAgg P t xs ys with
      | some b => K (.bool (!b))
      | none => other
    | _, _ => other
  | _ => dflt

def idxV (P : Program) (t : TypeId) (cy : Bool) (x y : Value) (K : Value → Prop) (dflt : Prop) : Prop :=
  match x, y with
  | .string s, .int _ i => match P.underlying t with
    | some .string => 0 ≤ i ∧ i < s.size ∧ K (.int .u8 (bAt s i))
    | _ => dflt
  | .agg cs, .int _ i => match cy, P.underlying t with
    | false, some (.array len e) => match P.underlying e, szOf P e with
      | some d, some n => match isAggD (some d) with
        | false => 0 ≤ i ∧ i < len ∧ ∃ x : (tyD d).T, cs[i.toNat * n]? = some ((tyD d).v x) ∧ K ((tyD d).v x)
        | true => match tyOf P e with
          | .agg ts => 0 ≤ i ∧ i < len ∧ ∃ x : Sig ts, cs.extract (i.toNat * n) (i.toNat * n + n) = (Sig.cells ts x).toArray ∧ K (.agg (Sig.cells ts x).toArray)
          | .one _ => dflt
      | _, _ => dflt
    | _, _ => dflt
  | _, _ => dflt
def idxA (P : Program) (t : TypeId) (cy : Bool) (x y : Value) (K : Value → Prop) (dflt : Prop) : Prop :=
  match x, y with
  | .slice p len _, .int _ i => match P.underlying t with
    | some (.slice e) => match szOf P e with
      | some n => 0 ≤ i ∧ i < len ∧ Nn p fun a => K (.pointer (some (a.add (i.toNat * n))))
      | none => dflt
    | _ => dflt
  | .pointer (some a), .int _ i => match cy, P.underlying t with
    | false, some (.array len e) => match szOf P e with
      | some n => 0 ≤ i ∧ i < len ∧ K (.pointer (some (a.add (i.toNat * n))))
      | none => dflt
    | _, _ => dflt
  | _, _ => dflt

/-- A bound of a slice expression: absent, or a number that lies between 0 and 'top'. -/
def bnd (top : Nat) (x : Option Value) (other : Nat) (K : Nat → Prop) (dflt : Prop) : Prop := match x with
  | none => K other
  | some (.int _ i) => 0 ≤ i ∧ i ≤ top ∧ K i.toNat
  | _ => dflt
def slV (P : Program) (t : TypeId) (x : Value) (lo hi mx : Option Value) (K : Value → Prop) (dflt : Prop) : Prop :=
  match x with
  | .string s => match P.underlying t, mx with
    | some .string, none => bnd s.size hi s.size (fun h => bnd h lo 0 (fun l => K (.string (s.extract l h))) dflt) dflt
    | _, _ => dflt
  | .slice p len cap => match P.underlying t with
    | some (.slice e) => match szOf P e with
      | some n => match mx, hi with
        | some _, none => dflt
        | mx, hi => bnd cap mx cap (fun m => bnd m hi len (fun h => bnd h lo 0 (fun l => K (Slc.v (Slc.cut ⟨p, len, cap⟩ n l h m))) dflt) dflt) dflt
      | none => dflt
    | _ => dflt
  | .pointer (some a) => match P.underlying t, mx with
    | some (.array c e), none => match szOf P e with
      | some n => bnd c hi c (fun h => bnd h lo 0 (fun l => K (Slc.v (Slc.cut ⟨some a, c, c⟩ n l h c))) dflt) dflt
      | none => dflt
    | _, _ => dflt
  | _ => dflt

def callV (P : Program) (F : Fx) (g : Nat) (args : Array Value) (w : World) (K : Value → World → Prop) : Prop :=
  match F.ok g with
  | false => False
  | true => match P.funcs[g]? with
    | none => False
    | some fn => match F.may g with
      | false => Calls P g args w fun e w' => exRes (fn.resultTypes.toList.map (tyOf P)) fun l => e = .returned (retV l) ∧ K (retV l) w'
      | true => Calls P g args w fun e w' => (exRes (fn.resultTypes.toList.map (tyOf P)) fun l => e = .returned (retV l) ∧ K (retV l) w') ∨ ∃ v, e = .panicked (onePanic v) ∧ F.pk v w'
where
  exRes : List Ty → (List Value → Prop) → Prop
    | [], K => K []
    | t :: ts, K => ∃ x : t.T, exRes ts fun l => K (t.v x :: l)
  retV : List Value → Value
    | [v] => v
    | l => .tuple l.toArray

def sameKind : Value → Value → Bool
  | .int _ _, .int _ _ => true
  | .string _, .string _ => true
  | .bool _, .bool _ => true
  | _, _ => false
def fdV (P : Program) (t : TypeId) (x : Value) (f : Nat) (K : Value → Prop) (dn : Prop) : Prop := match x with
  | .pointer (some a) => match P.underlying t with
    | some (.struct fs) => match fs[f]? with
      | some f => match szOf P f.type with
        | some n => match Nat.beq n 0 with
          | false => K (.pointer (some (a.add f.offset)))
          | true => dn
        | none => dn
      | none => dn
    | _ => dn
  | _ => dn
def panicV (pk : Value → World → Prop) (x : Value) (w : World) : Prop := match x with
  | .iface t y => pk (.iface t y) w
  | _ => False
def isIfaceD : TypeDesc → Bool
  | .interface _ => true
  | _ => false
/-- A type assertion that holds. -/
def taHit (P : Program) (u : TypeId) (x : Value) : Option Value := match x with
  | .iface t v => match P.underlying u with
    | some d => match isIfaceD d, Nat.beq t u with
      | false, true => some v
      | _, _ => none
    | none => none
  | _ => none
def isInts : List Value → Bool
  | [] => true
  | .int _ _ :: r => isInts r
  | _ => false
/-- One operation, its operands known. 'q': only what reads nothing but cells and writes nothing. -/
def opV (P : Program) (F : Fx) (q : Bool) (E : Env) (o : Oper) (w : World) (K : Value → World → Prop) : Prop :=
  let dp : Prop := Out P K ((execOp E.rho o).run P w)
  let dn : Prop := match q with
    | true => False
    | false => Out P K ((execOp E.rho o).run P w)
  match o.op with
  | .move _ | .assign _ | .pick .. | .unOp .. | .extract .. | .field .. | .build .. => dp
  | .load t x => ldV P t (E.rho x) w fun v => K v w
  | .store t x y => match q with
    | true => False
    | false => stV P t (E.rho x) (E.rho y) w fun w' => K undef w'
  | .nilCheck x => match E.rho x with
    | .pointer p => Nn p fun a => K (.pointer (some a)) w
    | _ => dn
  | .fieldAddr t x f => fdV P t (E.rho x) f (fun v => K v w) dn
  | .binOp op t x y _ => binV P op t (isC y) (E.rho x) (E.rho y) (fun v => K v w) (match sameKind (E.rho x) (E.rho y) with
      | true => dp
      | false => dn)
      (runV P q o.type (do eqGuard op t x y (E.rho x) (E.rho y); binOp op t (E.rho x) (E.rho y)) w K)
  | .index t x i => idxV P t (isC i) (E.rho x) (E.rho i) (fun v => K v w) dp
  | .indexAddr t x i => idxA P t (isC i) (E.rho x) (E.rho i) (fun v => K v w) dp
  | .slice t x lo hi mx => slV P t (E.rho x) (lo.map E.rho) (hi.map E.rho) (mx.map E.rho) (fun v => K v w) dp
  | .call c => match c.callee with
    | .value f => match q, E.rho f with
      | false, .func (.func g) first captured => callV P F g ((first ++ (c.args.map E.rho)) ++ captured) w K
      | _, _ => dn
    | .builtin .append => runV P q o.type (Builtin.append_ c.argTypes o.type (c.args.map E.rho)) w K
    | .builtin .copy => runV P q o.type (Builtin.copy_ c.argTypes o.type (c.args.map E.rho)) w K
    | .builtin .len => match c.args[0]?.map E.rho with
      | some (.string _) => dp
      | some (.slice _ _ _) => dp
      | some (.map _) => runV P q o.type (Builtin.len_ c.argTypes o.type (c.args.map E.rho)) w K
      | _ => dn
    | .builtin .cap => match c.args[0]?.map E.rho with
      | some (.slice _ _ _) => dp
      | _ => dn
    | .builtin .min => match isInts (c.args.map E.rho).toList with
      | true => dp
      | false => dn
    | .builtin .max => match isInts (c.args.map E.rho).toList with
      | true => dp
      | false => dn
    | _ => dn
  | .convert src dst x => match E.rho x with
    | .int _ _ => match P.underlying dst with
      | some (.int _) => dp
      | _ => dn
    | x' => runV P q o.type (convert src dst x') w K
  | .panic x => match q with
    | false => panicV F.pk (E.rho x) w
    | true => False
  | .makeSlice t l c => runV P q o.type (Instr.makeSlice t (E.rho l) (E.rho c)) w K
  | .lookup t x i ok => match ok with
    | false => runV P q o.type (Instr.lookup t (E.rho x) (E.rho i) false) w K
    | true => match q, P.underlying t with
      | false, some (.map _ e) => exT (tyOf P e) fun v => ∃ b : Bool, ∃ w', RunV P (Instr.lookup t (E.rho x) (E.rho i) true) w (.tuple #[v, .bool b]) w' ∧ K (.tuple #[v, .bool b]) w'
      | _, _ => dn
  | .range t x => match q, E.rho x, P.underlying t with
    | false, .string s, some .string => Nw w (.stringIter s 0) fun w' => K (.pointer (some ⟨w.heap.size, 0, none⟩)) w'
    | _, _, _ => dn
  | .next it str => match q, str, E.rho it with
    | false, true, .pointer (some a) => Nx w a (fun i c w' => K (.tuple #[.bool true, .int .i64 i, .int .i32 c]) w') (K (.tuple #[.bool false]) w)
    | _, _, _ => dn
  | .mapUpdate t m k x => match q with
    | true => False
    | false => runU P (Instr.mapUpdate t (E.rho m) (E.rho k) (E.rho x)) w K
  | .typeAssert x t u ok => match ok with
    | false => runV P q u (Instr.typeAssert (E.rho x) t u false) w K
    | true => match q with
      | true => False
      | false => match taHit P u (E.rho x) with
        | some v => K (.tuple #[v, .bool true]) w
        | none => exT (tyOf P u) fun v => ∃ b : Bool, ∃ w', RunV P (Instr.typeAssert (E.rho x) t u true) w (.tuple #[v, .bool b]) w' ∧ K (.tuple #[v, .bool b]) w'
  | _ => dn

/-! ### A region -/

def gdT (ops : Array Oper) (E : Env) (o : Oper) (yes no : Env → Prop) : Prop := match o.guard with
  | none => yes E
  | some (j, want) => match (ops[j]?).bind (·.dst) with
    | some s => match E.get? s with
      | some (.bool b) => match want with
        | true => Br b (yes ((s, .bool true) :: E)) (no ((s, .bool false) :: E))
        | false => Br b (no ((s, .bool true) :: E)) (yes ((s, .bool false) :: E))
      | some (.tuple _) => no E
      | _ => False
    | none => False
def noSel : Op → Bool
  | .select .. => false
  | _ => true
def hasAll (E : Env) (op : Op) : Bool := noSel op && op.operands.toList.all E.has
/-- Operations that leave the world alone. -/
def stillOp (P : Program) : Op → Bool
  | .move _ | .assign _ | .pick .. | .load .. | .nilCheck _ | .unOp .. | .fieldAddr .. | .field .. | .index .. | .indexAddr .. | .slice .. | .extract .. | .binOp .. | .build .. => true
  | .convert src dst _ => match P.underlying src, P.underlying dst with
    | some (.int _), some (.int _) => true
    | _, _ => false
  | .call c => match c.callee with
    | .builtin .len | .builtin .cap | .builtin .min | .builtin .max => true
    | _ => false
  | _ => false
def opsT (P : Program) (F : Fx) (q : Bool) (ops : Array Oper) : List Oper → Env → World → (Env → World → Prop) → Prop
  | [], E, w, K => K E w
  | o :: r, E, w, K => gdT ops E o
      (fun E => match hasAll E o.op && (!q || stillOp P o.op) with
        | true => opV P F q E o w fun v w' => opsT P F q ops r (E.put o.dst v) w' K
        | false => False)
      (fun E => opsT P F q ops r (E.put o.dst undef) w K)

def ldLQ (S : World → Prop) (a : Addr) : Nat → List Ty1 → (List Value → Prop) → Prop
  | _, [], K => K []
  | i, t :: ts, K => LdS S (a.add i) t.v fun x => ldLQ S a (i + 1) ts fun l => K (t.v x :: l)
def ldQ (P : Program) (S : World → Prop) (t : TypeId) (x : Value) (K : Value → Prop) : Prop := match x with
  | .pointer (some a) => match P.underlying t, szOf P t with
    | some d, some n => match isAggD (some d) with
      | false => LdS S a (tyD d).v fun x => K ((tyD d).v x)
      | true => match tyOf P t with
        | .agg ts => match Nat.beq ts.length n with
          | true => ldLQ S a 0 ts fun l => K (.agg l.toArray)
          | false => False
        | .one _ => ∃ x : Array Value, (∀ w, S w → RunV P (loadVar t a) w (.agg x) w) ∧ K (.agg x)
    | _, _ => False
  | _ => False
def opQ (P : Program) (F : Fx) (S : World → Prop) (E : Env) (o : Oper) (w : World) (K : Value → Prop) : Prop := match o.op with
  | .load t x => ldQ P S t (E.rho x) K
  | _ => opV P F true E o w fun v _ => K v
/-- In which order the operations of a region are taken. 'eff i fl r': number i comes up, it alone ('effs': or one of 'more'); 'fl': what was known of the world ends with it, a new phase begins that ends with one of these. -/
inductive Od where
  | done
  | take (i : Nat) (r : Od)
  | eff (i : Nat) (fl : Option (List Nat)) (r : Od)
  | effs (i : Nat) (fl : Option (List Nat)) (r more : Od)
  | mono (js : List Nat) (r : Od)
def isLoad : Op → Bool
  | .load .. => true
  | _ => false
def isLoadAt (ops : Array Oper) (i : Nat) : Bool := match ops[i]? with
  | some o => isLoad o.op
  | none => false
/-- Is there a load before the phase ends? -/
def Od.loads (ops : Array Oper) : Od → Bool
  | .done => false
  | .take i r => isLoadAt ops i || r.loads ops
  | .eff _ (some _) _ => false
  | .eff _ none r => r.loads ops
  | .effs _ (some _) _ m => m.loads ops
  | .effs _ none r m => r.loads ops || m.loads ops
  | .mono _ r => r.loads ops
def Od.depth : Od → Nat
  | .done => 0
  | .take _ r => r.depth + 1
  | .eff _ _ r => r.depth + 1
  | .effs _ _ r m => max (r.depth + 1) m.depth
  | .mono js r => r.depth + js.length
def markL (e : List Edge) (m : Array Bool) : Array Bool := e.foldl (fun m e => match Region.binds .any e with
  | true => m.setIfInBounds e.on true
  | false => m) m
def ancL (ops : Array Oper) : Nat → Array Bool → Array Bool
  | 0, m => m
  | k + 1, m => ancL ops k (match m.getD k false, ops[k]? with
    | true, some o => markL o.after.toList m
    | _, _ => m)
/-- Number j waits for number i. -/
def anc (ops : Array Oper) (j i : Nat) : Bool := match ops[j]? with
  | some o => (ancL ops j (markL o.after.toList (Array.replicate ops.size false))).getD i false
  | none => false
def phT (lo : Bool) (w : World) (k : (World → Prop) → Prop) : Prop := match lo with
  | true => ∃ S : World → Prop, S w ∧ k S
  | false => k fun _ => True
def effT (P : Program) (F : Fx) (ops : Array Oper) (J : List Nat) (S : World → Prop) (i : Nat) (fl : Option (List Nat)) (lo : Bool) (E : Env) (w : World) (o : Oper)
    (k : (World → Prop) → Env → World → Prop) : Prop := match fl, J.contains i with
  | none, false => gdT ops E o
    (fun E => match hasAll E o.op with
      | true => opV P F false E o w fun v w' => S w' ∧ k S (E.put o.dst v) w'
      | false => False)
    (fun E => k S (E.put o.dst undef) w)
  | some _, true => gdT ops E o
    (fun E => match hasAll E o.op with
      | true => opV P F false E o w fun v w' => phT lo w' fun S => k S (E.put o.dst v) w'
      | false => False)
    (fun E => phT lo w fun S => k S (E.put o.dst undef) w)
  | _, _ => False
/-- One of the operations that come up in any order: what is known of its value. -/
structure GEntry where
  j : Nat
  dst : Nat
  ty : Ty
  G : ty.T → World → Prop
/-- The type by which such a value is kept. -/
def monoTy (P : Program) (o : Oper) : Ty := match o.op with
  | .indexAddr .. => .one .addr
  | .fieldAddr .. => .one .addr
  | _ => tyOf P o.type
def monoG (P : Program) (ops : Array Oper) (le : World → World → Prop) : List Nat → List GEntry → (List GEntry → Prop) → Prop
  | [], acc, k => k acc
  | j :: js, acc, k => match ops[j]? with
    | some o => match o.dst with
      | some d => ∃ G : (monoTy P o).T → World → Prop, (∀ x w w', le w w' → G x w → G x w') ∧ monoG P ops le js (acc ++ [⟨j, d, monoTy P o, G⟩]) k
      | none => False
    | none => False
def usesTmp (op : Op) (d : Nat) : Bool := op.operands.toList.any fun x => match x with
  | .tmp t => Nat.beq t d
  | _ => false
/-- The values that an operation looks at. -/
def depsT (o : Oper) : List GEntry → Env → World → (Env → Prop) → Prop
  | [], E, _, k => k E
  | e :: r, E, w, k => match usesTmp o.op e.dst with
    | true => ∀ x : e.ty.T, e.G x w → depsT o r (E.put (some e.dst) (e.ty.v x)) w k
    | false => depsT o r E w k
def depsAll : List GEntry → Env → World → (Env → Prop) → Prop
  | [], E, _, k => k E
  | e :: r, E, w, k => ∀ x : e.ty.T, e.G x w → depsAll r (E.put (some e.dst) (e.ty.v x)) w k
def monoI (P : Program) (F : Fx) (ops : Array Oper) (S : World → Prop) (le : World → World → Prop) (B : World → Prop) (E : Env) (all : List GEntry) : List GEntry → Prop
  | [] => True
  | e :: r => (match ops[e.j]? with
    | some o => ∀ w, S w → B w → depsT o all E w fun E' => match hasAll E' o.op with
      | true => opV P F false E' o w fun v w' => S w' ∧ B w' ∧ le w w' ∧ ∃ x : e.ty.T, v = e.ty.v x ∧ e.G x w'
      | false => False
    | none => False) ∧ monoI P F ops S le B E all r
def markJs (listed : Array Bool) : List Nat → Array Bool
  | [] => listed
  | j :: js => markJs (listed.setIfInBounds j true) js
def dstOf (ops : Array Oper) (j : Nat) : Nat := match (ops[j]?).bind (·.dst) with
  | some d => d
  | none => 0
def notIn (x : Nat) : List Nat → Bool
  | [] => true
  | y :: r => !Nat.beq x y && notIn x r
def distinct : List Nat → Bool
  | [] => true
  | x :: r => notIn x r && distinct r
def monoOk (ops : Array Oper) (listed : Array Bool) (js : List Nat) (E : Env) : Bool :=
  distinct js && distinct (js.map (dstOf ops)) &&
  (js.all fun j => match ops[j]? with
    | some o => o.guard.isNone && o.dst.isSome && !(listed.getD j true) && !(E.get? (dstOf ops j)).isSome &&
      (o.after.toList.all fun e => !Region.binds .any e || listed.getD e.on false || (js.contains e.on && Nat.blt e.on j)) &&
      (js.all fun j' => !usesTmp o.op (dstOf ops j') || o.after.toList.any fun e => Region.binds .any e && Nat.beq e.on j')
    | none => false) &&
  ((List.range ops.size).all fun k => listed.getD k true || js.contains k || js.all fun j => anc ops k j)
/-- That the operations of a region can be taken in this order: looked at once, ahead of what they do. -/
def odOk (ops : Array Oper) : Od → List Nat → List Nat → Array Bool → Bool
  | .done, pre, _, listed => pre.isEmpty && (Region.ready .any ops listed).isEmpty
  | .take i r, pre, J, listed => match ops[i]? with
    | none => false
    | some o => pre.isEmpty && (Region.free .any ops listed i && (Region.ready .any ops listed).contains i) && (!isLoad o.op || J.all fun j => anc ops j i) && odOk ops r [] J (listed.setIfInBounds i true)
  | .eff i fl r, pre, J, listed => Region.ready .any ops listed == pre ++ [i] && odOk ops r [] (fl.getD J) (listed.setIfInBounds i true)
  | .effs i fl r more, pre, J, listed => odOk ops r [] (fl.getD J) (listed.setIfInBounds i true) && odOk ops more (pre ++ [i]) J listed
  | .mono js r, pre, J, listed => pre.isEmpty && (js.all fun j => !J.contains j) && odOk ops r [] J (markJs listed js)
/-! The same with bits in place of arrays of bools, for the kernel. -/
def hasB (m i : Nat) : Bool := Nat.beq (Nat.land (Nat.shiftRight m i) 1) 1
def setB (m i : Nat) : Nat := Nat.lor m (Nat.shiftLeft 1 i)
def markB : List Edge → Nat → Nat
  | [], m => m
  | e :: r, m => match Region.binds .any e with
    | true => markB r (setB m e.on)
    | false => markB r m
def ancLB (ops : Array Oper) : Nat → Nat → Nat
  | 0, m => m
  | k + 1, m => match hasB m k, ops[k]? with
    | true, some o => ancLB ops k (markB o.after.toList m)
    | _, _ => ancLB ops k m
def ancB (ops : Array Oper) (j : Nat) : Nat := match ops[j]? with
  | some o => ancLB ops j (markB o.after.toList 0)
  | none => 0
def allHasB (m : Nat) : List Edge → Bool
  | [] => true
  | e :: r => match Region.binds .any e with
    | true => hasB m e.on && allHasB m r
    | false => allHasB m r
def readyAtB (m k : Nat) (o : Oper) : Bool := !hasB m k && allHasB m o.after.toList
def readyLB (m : Nat) : List Oper → Nat → List Nat
  | [], _ => []
  | o :: r, k => match readyAtB m k o with
    | true => k :: readyLB m r (k + 1)
    | false => readyLB m r (k + 1)
def freeLB (ops : Array Oper) (m i : Nat) (oi : Oper) : List Oper → Nat → Bool
  | [], _ => true
  | o :: r, j => (Nat.beq j i || hasB m j || (o.after.toList.any fun e => Nat.beq e.on i && Region.binds .any e) || oi.apart ops o) && freeLB ops m i oi r (j + 1)
def eqLB : List Nat → List Nat → Bool
  | [], [] => true
  | x :: r, y :: q => Nat.beq x y && eqLB r q
  | _, _ => false
def setsB (m : Nat) : List Nat → Nat
  | [] => m
  | j :: js => setsB (setB m j) js
def odOkB (ops : Array Oper) : Od → List Nat → List Nat → Nat → Bool
  | .done, pre, _, m => pre.isEmpty && (readyLB m ops.toList 0).isEmpty
  | .take i r, pre, J, m => match ops[i]? with
    | none => false
    | some o => pre.isEmpty && readyAtB m i o && freeLB ops m i o ops.toList 0 && (!isLoad o.op || J.all fun j => hasB (ancB ops j) i) && odOkB ops r [] J (setB m i)
  | .eff i fl r, pre, J, m => eqLB (readyLB m ops.toList 0) (pre ++ [i]) && odOkB ops r [] (fl.getD J) (setB m i)
  | .effs i fl r more, pre, J, m => Nat.blt i ops.size && odOkB ops r [] (fl.getD J) (setB m i) && odOkB ops more (pre ++ [i]) J m
  | .mono js r, pre, J, m => pre.isEmpty && (js.all fun j => !J.contains j && Nat.blt j ops.size) && odOkB ops r [] J (setsB m js)
def heldT (P : Program) (F : Fx) (ops : Array Oper) : Od → List Nat → (World → Prop) → Array Bool → Env → World → (Env → World → Prop) → Prop
  | .done, _, _, _, E, w, K => K E w
  | .take i r, J, S, listed, E, w, K => match ops[i]? with
    | none => False
    | some o => gdT ops E o
        (fun E => match hasAll E o.op && stillOp P o.op with
          | true => opQ P F S E o w fun v => heldT P F ops r J S (listed.setIfInBounds i true) (E.put o.dst v) w K
          | false => False)
        (fun E => heldT P F ops r J S (listed.setIfInBounds i true) (E.put o.dst undef) w K)
  | .eff i fl r, J, S, listed, E, w, K => match ops[i]? with
    | none => False
    | some o => effT P F ops J S i fl (r.loads ops) E w o fun S E w => heldT P F ops r (fl.getD J) S (listed.setIfInBounds i true) E w K
  | .effs i fl r more, J, S, listed, E, w, K => match ops[i]? with
    | none => False
    | some o => effT P F ops J S i fl (r.loads ops) E w o (fun S E w => heldT P F ops r (fl.getD J) S (listed.setIfInBounds i true) E w K) ∧ heldT P F ops more J S listed E w K
  | .mono js r, J, S, listed, E, w, K => match monoOk ops listed js E with
    | true => ∃ (le : World → World → Prop) (B : World → Prop), B w ∧ monoG P ops le js [] fun Gs =>
        monoI P F ops S le B E Gs Gs ∧ ∀ w, S w → B w → depsAll Gs E w fun E => heldT P F ops r J S (markJs listed js) E w K
    | false => False

inductive RMode where
  | seq | still | tail (n : Nat) | held (J : List Nat) (o : Od)
def regT (P : Program) (F : Fx) (m : RMode) (ops : Array Oper) (d : Bool) (E : Env) (w : World) (K : Env → World → Prop) : Prop :=
  match d, m with
  | false, .seq => opsT P F false ops ops.toList E w K
  | true, .still => match Region.lexB .any ops with
    | true => opsT P F true ops ops.toList E w.drew K
    | false => False
  | true, .tail n => match Region.lexTailB .any ops n with
    | true => opsT P F true ops (ops.toList.take n) E w.drew fun E w => opsT P F false ops (ops.toList.drop n) E w K
    | false => False
  | true, .held J o => match Region.noSelect ops && Nat.ble o.depth ops.size && odOkB ops o [] J 0 with
    | true => phT (o.loads ops) w.drew fun S => heldT P F ops o J S (Array.replicate ops.size false) E w.drew K
    | false => False
  | _, _ => False

/-! ### Code -/

inductive Plan where
  | reg (m : RMode)
  | leaf
  | seq (a b : Plan)
  | join (live : List (Nat × Ty)) (keep : List Nat) (a b : Plan)
  | cond (a b : Plan)
  | block (a : Plan)
  | loop (live : List (Nat × Ty)) (keep : List Nat) (a : Plan)

def wr (t : Nat) : Code → Bool
  | .region _ ops _ => ops.toList.any fun o => match o.dst with
    | some d => Nat.beq d t
    | none => false
  | .seq a b => wr t a || wr t b
  | .cond _ a b => wr t a || wr t b
  | .block _ a => wr t a
  | .loop a => wr t a
  | .skip | .exit _ | .ret | .label _ => false
  | _ => true
def keepOk (keep : List Nat) (c : Code) : Bool := keep.all fun t => !wr t c

def Join {σ : Type} (body : σ → World → Prop) (front : (σ → World → Prop) → Prop) : Prop :=
  ∃ J : σ → World → Prop, (∀ s w, J s w → body s w) ∧ front J
def Lp {σ : Type} (B : (σ → World → Prop) → σ → World → Prop) (s0 : σ) (w0 : World) : Prop :=
  ∃ (I : Nat → σ → World → Prop) (n0 : Nat), I n0 s0 w0 ∧ ∀ n s w, I n s w → B (fun s' w' => ∃ n', n' < n ∧ I n' s' w') s w

def stGet (live : List (Nat × Ty)) (E : Env) (K : Sg (live.map (·.2)) → Prop) : Prop :=
  match Env.vals E (live.map (·.1)) with
  | some vs => match Sg.get? (live.map (·.2)) vs with
    | some s => K s
    | none => False
  | none => False
def stPut (live : List (Nat × Ty)) (s : Sg (live.map (·.2))) : Env := Env.zip (live.map (·.1)) (Sg.vals (live.map (·.2)) s)

def codeT (P : Program) (F : Fx) : Plan → Code → Env → World → (Exit → Env → World → Prop) → Prop
  | .reg m, .region _ ops d, E, w, K => regT P F m ops d E w fun E w => K .normal E w
  | .leaf, .skip, E, w, K => K .normal E w
  | .leaf, .label _, E, w, K => K .normal E w
  | .leaf, .exit id, E, w, K => K (.exit id) E w
  | .leaf, .ret, E, w, K => K .ret E w
  | .seq p q, .seq c d, E, w, K => codeT P F p c E w fun e E w => match e with
    | .normal => codeT P F q d E w K
    | e => K e E w
  | .join live keep p q, .seq c d, E, w, K => match keepOk keep c with
    | true => Join (fun s w => codeT P F q d (stPut live s ++ Env.keep E keep) w K) fun J => codeT P F p c E w fun e E w => match e with
      | .normal => stGet live E fun s => J s w
      | e => K e E w
    | false => False
  | .cond p q, .cond x c d, E, w, K => match E.rho x with
    | .bool b => Br b (codeT P F p c E w K) (codeT P F q d E w K)
    | _ => False
  | .block p, .block id c, E, w, K => codeT P F p c E w fun e E w => match e with
    | .exit i => match Nat.beq i id with
      | true => K .normal E w
      | false => K (.exit i) E w
    | e => K e E w
  | .loop live keep p, .loop c, E, w, K => match keepOk keep c with
    | true => stGet live E fun s0 => Lp (fun R s w => codeT P F p c (stPut live s ++ Env.keep E keep) w fun e E w => match e with
      | .normal => stGet live E fun s => R s w
      | e => K e E w) s0 w
    | false => False
  | _, _, _, _, _ => False

def resT (P : Program) : List ResultVar → Env → World → (List Value → Prop) → Prop
  | [], _, _, K => K []
  | .tmp t :: r, E, w, K => match E.get? t with
    | some v => resT P r E w fun l => K (v :: l)
    | none => False
  | .cell t ty :: r, E, w, K => match E.get? t with
    | some x => ldV P ty x w fun v => resT P r E w fun l => K (v :: l)
    | none => False
def env0 : Nat → List Value → Env
  | _, [] => []
  | i, v :: r => (i, v) :: env0 (i + 1) r
/-- What a call of this function must satisfy. -/
def fnT (P : Program) (F : Fx) (pl : Plan) (fn : Func) (args : List Value) (w : World) (tys : List Ty) (R : Sg tys → World → Prop) : Prop :=
  match fn.body with
  | none => False
  | some c => codeT P F pl c (env0 0 args) w fun e E w => match e with
    | .normal => resT P fn.results.toList E w fun vs => match Sg.get? tys vs with
      | some s => R s w
      | none => False
    | .ret => resT P fn.results.toList E w fun vs => match Sg.get? tys vs with
      | some s => R s w
      | none => False
    | _ => False
/-! ### Functions that defer a call, and the calls that they defer -/

def modeOf : Option Value → FrameMode
  | none => .returning
  | some v => .panicking (onePanic v)
def modeAfter : Option Value → FrameMode
  | none => .returning
  | some v => .panicking [{ v, recovered := true }]
/-- A deferred call: it returns, and a panic that was under way is over. -/
def CallD (P : Program) (g : Nat) (args : Array Value) (u : Option Value) (w : World) (R : World → Prop) : Prop :=
  CallsD P g args (modeOf u) w fun e u' w' => e = .returned (.tuple #[]) ∧ u' = modeAfter u ∧ R w'
inductive DPlan where
  | pre (p : Plan) (r : DPlan)
  | here (keep : List Nat) (p : Plan)
def finT (P : Program) (fn : Func) (tys : List Ty) (R : Sg tys → World → Prop) (E : Env) (w : World) : Prop :=
  resT P fn.results.toList E w fun vs => match Sg.get? tys vs with
    | some s => R s w
    | none => False
def deferC : Op → Option Call
  | .defer c => some c
  | _ => none
def calleeV : Callee → Option Operand
  | .value f => some f
  | _ => none
def funcV : Value → Option (Nat × Array Value × Array Value)
  | .func (.func g) first captured => some (g, first, captured)
  | _ => none
/-- The operation that defers a call of a function. -/
def defOp (E : Env) (o : Oper) (K : Nat → Array Value → Prop) : Prop := match deferC o.op, o.guard, o.dst with
  | some c, none, none => match calleeV c.callee with
    | some f => match funcV (E.rho f), E.has f && c.args.toList.all E.has with
      | some (g, first, captured), true => K g ((first ++ (c.args.map E.rho)) ++ captured)
      | _, _ => False
    | none => False
  | _, _, _ => False
/-- A function that may be entered. -/
def enterB (P : Program) (ok : Nat → Bool) (g : Nat) : Bool := match ok g, P.funcs[g]? with
  | true, some _ => true
  | _, _ => false
def defT (P : Program) (ok may : Nat → Bool) (PR : Value → World → Prop) (fn : Func) (tys : List Ty) (R : Sg tys → World → Prop) : DPlan → Code → Env → World → Prop
  | .pre p r, .seq c d, E, w => codeT P ⟨ok, may, PR⟩ p c E w fun e E w => match e with
    | .normal => defT P ok may PR fn tys R r d E w
    | .ret => finT P fn tys R E w
    | _ => False
  | .here keep p, .seq (.region _ ops false) d, E, w => opsT P ⟨ok, may, PR⟩ false ops ops.toList.dropLast E w fun E w => match ops.toList.getLast? with
    | some o => defOp E o fun g args => match keepOk keep d && enterB P ok g with
      | true => codeT P ⟨ok, may, fun v w => CallD P g args (some v) w fun w' => finT P fn tys R (Env.keep E keep) w'⟩ p d E w fun e E w => match e with
        | .normal => CallD P g args none w fun w' => finT P fn tys R E w'
        | .ret => CallD P g args none w fun w' => finT P fn tys R E w'
        | _ => False
      | false => False
    | none => False
  | _, _, _, _ => False
/-- What a call of a function that defers must satisfy. -/
def fnTD (P : Program) (ok may : Nat → Bool) (PR : Value → World → Prop) (pl : DPlan) (fn : Func) (args : List Value) (w : World) (tys : List Ty) (R : Sg tys → World → Prop) : Prop :=
  match fn.body with
  | none => False
  | some c => defT P ok may PR fn tys R pl c (env0 0 args) w
def isRecover : Op → Bool
  | .call c => match c.callee with
    | .builtin .recover => true
    | _ => false
  | _ => false
def recV : Option Value → Value
  | none => .nilIface
  | some v => v
/-- What a deferred call must satisfy that begins with recover. -/
def fnTS (P : Program) (ok may : Nat → Bool) (pl : Plan) (fn : Func) (args : List Value) (u : Option Value) (w : World) (R : World → Prop) : Prop :=
  match fn.body with
  | some (.seq (.region _ ops false) d) => match ops.toList with
    | o :: r => match isRecover o.op, o.guard, fn.results.toList with
      | true, none, [] => opsT P ⟨ok, may, fun _ _ => False⟩ false ops r ((env0 0 args).put o.dst (recV u)) w fun E w => codeT P ⟨ok, may, fun _ _ => False⟩ pl d E w fun e _ w => match e with
        | .normal => R w
        | .ret => R w
        | _ => False
      | _, _, _ => False
    | [] => False
  | _ => False
end Sh
end Go.Proofs.YtpkadliieplblaaDoor
