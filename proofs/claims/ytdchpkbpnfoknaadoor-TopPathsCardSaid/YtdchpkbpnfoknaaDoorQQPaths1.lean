/- A reading of the model's code as a plain formula: 'Sh' runs over a piece of code whose arguments are variables, and leaves a formula about numbers, strings and memory cells. No condition. -/
import Derived.WalkKit
import Derived.Deep.Quiet
import Derived.StillTail
import Derived.OrdersHeld
import Derived.KernelRfl
import Derived.Recover
import Derived.Laws.Panics
namespace Go.Proofs.YtdchpkbpnfoknaaDoor
namespace Sh

/-! ### Values by their types -/

structure Slc where
  p : Option Addr
  len : Nat
  cap : Nat
def Slc.v (s : Slc) : Value := .slice s.p s.len s.cap

inductive Ty1 where
  | int (k : IntKind) | bool | str | ptr | addr | slc | map | raw
def Ty1.T : Ty1 → Type
  | .int _ => Int | .bool => Bool | .str => ByteArray | .ptr => Option Addr | .addr => Addr | .slc => Slc | .map => Option Nat | .raw => Value
def Ty1.v : (t : Ty1) → t.T → Value
  | .int k, x => .int k x | .bool, x => .bool x | .str, x => .string x | .ptr, x => .pointer x | .addr, x => .pointer (some x) | .slc, x => Slc.v x | .map, x => .map x | .raw, x => x
def Ty1.get? : (t : Ty1) → Value → Option t.T
  | .int k, .int k' n => if k' = k then some n else none
  | .bool, .bool b => some b
  | .str, .string s => some s
  | .ptr, .pointer p => some p
  | .addr, .pointer (some p) => some p
  | .slc, .slice p l c => some ⟨p, l, c⟩
  | .map, .map m => some m
  | .raw, x => some x
  | _, _ => none

def Sig : List Ty1 → Type
  | [] => Unit
  | [t] => t.T
  | t :: u :: r => t.T × Sig (u :: r)
def Sig.cells : (ts : List Ty1) → Sig ts → List Value
  | [], _ => []
  | [t], x => [t.v x]
  | t :: u :: r, x => t.v x.1 :: Sig.cells (u :: r) x.2
def Sig.get? : (ts : List Ty1) → List Value → Option (Sig ts)
  | [], [] => some ()
  | [t], [x] => t.get? x
  | t :: u :: r, x :: xs => (t.get? x).bind fun a => (Sig.get? (u :: r) xs).bind fun b => some (a, b)
  | _, _ => none

inductive Ty where
  | one (t : Ty1)
  | agg (ts : List Ty1)
def Ty.T : Ty → Type
  | .one t => t.T
  | .agg ts => Sig ts
def Ty.v : (t : Ty) → t.T → Value
  | .one t, x => t.v x
  | .agg ts, x => .agg (Sig.cells ts x).toArray
def Ty.get? : (t : Ty) → Value → Option t.T
  | .one t, x => t.get? x
  | .agg ts, .agg cs => Sig.get? ts cs.toList
  | _, _ => none

def Sg : List Ty → Type
  | [] => Unit
  | [t] => t.T
  | t :: u :: r => t.T × Sg (u :: r)
def Sg.vals : (ts : List Ty) → Sg ts → List Value
  | [], _ => []
  | [t], x => [t.v x]
  | t :: u :: r, x => t.v x.1 :: Sg.vals (u :: r) x.2
def Sg.get? : (ts : List Ty) → List Value → Option (Sg ts)
  | [], [] => some ()
  | [t], [x] => t.get? x
  | t :: u :: r, x :: xs => (t.get? x).bind fun a => (Sg.get? (u :: r) xs).bind fun b => some (a, b)
  | _, _ => none

def tyD : TypeDesc → Ty1
  | .int k => .int k | .bool => .bool | .string => .str | .pointer _ => .ptr | .slice _ => .slc | .map _ _ => .map | _ => .raw
def isAggD : Option TypeDesc → Bool
  | some (.struct _) | some (.array _ _) => true
  | _ => false
def cellsTy (P : Program) : Nat → TypeId → List Ty1
  | 0, _ => []
  | n + 1, t => match P.underlying t with
    | some (.struct fs) => fs.toList.flatMap fun f => cellsTy P n f.type
    | some (.array len e) => (List.replicate len (cellsTy P n e)).flatten
    | some d => [tyD d]
    | none => []
/-- The type by which a value of this type is read: a struct or an array of at most 40 cells cell by cell. -/
def tyOf (P : Program) (t : TypeId) : Ty := match isAggD (P.underlying t) with
  | true => if P.cellsOf t ≤ 40 then .agg (cellsTy P 8 t) else .one .raw
  | false => match P.underlying t with
    | some d => .one (tyD d)
    | none => .one .raw

/-! ### What is known of the slots -/

abbrev Env := List (Nat × Value)
def Env.get? : Env → Nat → Option Value
  | [], _ => none
  | (t, v) :: E, n => match Nat.beq t n with
    | true => some v
    | false => Env.get? E n
def Env.rho (E : Env) : Operand → Value
  | .tmp t => match E.get? t with
    | some v => v
    | none => undef
  | .const v => v
  | .global g => .pointer (some ⟨g, 0, none⟩)
  | .func f => .func (.func f) #[] #[]
def Env.has (E : Env) : Operand → Bool
  | .tmp t => (E.get? t).isSome
  | _ => true
def Env.put (E : Env) (d : Option Tmp) (v : Value) : Env := match d with
  | some t => (t, v) :: E
  | none => E
def Env.vals (E : Env) : List Nat → Option (List Value)
  | [] => some []
  | t :: r => match E.get? t, Env.vals E r with
    | some v, some vs => some (v :: vs)
    | _, _ => none
def Env.zip : List Nat → List Value → Env
  | t :: r, v :: vs => (t, v) :: Env.zip r vs
  | _, _ => []
def Env.keep (E : Env) : List Nat → Env
  | [] => []
  | t :: r => match E.get? t with
    | some v => (t, v) :: Env.keep E r
    | none => Env.keep E r

def Br (b : Bool) (A B : Prop) : Prop := match b with
  | true => A
  | false => B

/-! ### The words of a formula -/

def CanSt (w : World) (a : Addr) : Prop := (∃ o, w.cell? a = some o) ∧ w.frozen? a = false
/-- The pointer is not nil. -/
def Nn (p : Option Addr) (K : Addr → Prop) : Prop := ∃ a, p = some a ∧ K a
/-- A cell is read. -/
def Ld {α : Type} (w : World) (a : Addr) (V : α → Value) (K : α → Prop) : Prop := ∃ x, w.cell? a = some (V x) ∧ K x
/-- A cell is read that holds the same in every world of S. -/
def LdS {α : Type} (S : World → Prop) (a : Addr) (V : α → Value) (K : α → Prop) : Prop := ∃ x, (∀ w, S w → w.cell? a = some (V x)) ∧ K x
/-- A cell is written. -/
def St (w : World) (a : Addr) (v : Value) (K : World → Prop) : Prop := CanSt w a ∧ K (w.setCell a v)
/-- A new block. -/
def Nw (w : World) (o : Obj) (K : World → Prop) : Prop := K (w.alloc o)
/-- An iterator over a string, in its block. -/
def itW (w : World) (b : Nat) (s : ByteArray) (pos : Nat) : World := { w with heap := w.heap.setIfInBounds b (.stringIter s pos) }
/-- The next character of an iterator over a string, or its end. -/
def Nx (w : World) (a : Addr) (T : Int → Int → World → Prop) (N : Prop) : Prop :=
  ∃ (s : ByteArray) (pos : Nat), a.off = 0 ∧ w.heap[a.block]? = some (.stringIter s pos) ∧ Br (decide (pos < s.size)) (T (pos : Int) ((Utf8.decode s pos).1 : Int) (itW w a.block s (pos + (Utf8.decode s pos).2))) N
/-- A name for a value. -/
def Lt {α : Type} (e : α) (K : α → Prop) : Prop := K e

/-! ### One operation -/

/-- Which functions may be entered, which of them may panic; what holds if a panic comes up. -/
structure Fx where
  ok : Nat → Bool
  may : Nat → Bool
  pk : Value → World → Prop
/-- The one panic that is under way. -/
def onePanic (v : Value) : List PanicEntry := [{ v, recovered := false }]
/-- What an operation that runs so must satisfy, if it may panic. -/
def OutP (P : Program) (pk : Value → World → Prop) (K : Value → World → Prop) : Result Next → Prop
  | .ok (.value v) w' => K v w'
  | .ok .skip w' => K undef w'
  | .ok (.enter f args) w' => Calls P f args w' fun e w'' => (∃ v, e = .returned v ∧ K v w'') ∨ ∃ v, e = .panicked (onePanic v) ∧ pk v w''
  | .halt (.panic v) w' => pk v w'
  | _ => False
/-- What an operation that runs so must satisfy. -/
def Out (P : Program) (K : Value → World → Prop) : Result Next → Prop
  | .ok (.value v) w' => K v w'
  | .ok .skip w' => K undef w'
  | .ok (.enter f args) w' => Calls P f args w' fun e w'' => ∃ v, e = .returned v ∧ K v w''
  | _ => False
/-- An operation of the model's that is left as it is. -/
def RunV (P : Program) (s : Sem Value) (w : World) (v : Value) (w' : World) : Prop := s.run P w = .ok v w'
def RunU (P : Program) (s : Sem Unit) (w : World) (w' : World) : Prop := s.run P w = .ok () w'
def exT (t : Ty) (K : Value → Prop) : Prop := ∃ x : t.T, K (t.v x)
def Rn {α : Type} (P : Program) (s : Sem Value) (w : World) (V : α → Value) (K : α → World → Prop) : Prop := ∃ x w', RunV P s w (V x) w' ∧ K x w'
def Ru (P : Program) (s : Sem Unit) (w : World) (K : World → Prop) : Prop := ∃ w', RunU P s w w' ∧ K w'
def runV (P : Program) (q : Bool) (t : TypeId) (s : Sem Value) (w : World) (K : Value → World → Prop) : Prop := match q with
  | false => Rn P s w (tyOf P t).v fun x w' => K ((tyOf P t).v x) w'
  | true => False
def runU (P : Program) (s : Sem Unit) (w : World) (K : Value → World → Prop) : Prop := Ru P s w fun w' => K undef w'

def ldL (w : World) (a : Addr) : Nat → List Ty1 → (List Value → Prop) → Prop
  | _, [], K => K []
  | i, t :: ts, K => Ld w (a.add i) t.v fun x => ldL w a (i + 1) ts fun l => K (t.v x :: l)
/-- The cells of a great struct are read. -/
def LdT (w : World) (a : Addr) : Nat → (ts : List Ty1) → (Sig ts → Prop) → Prop
  | _, [], K => K ()
  | i, [t], K => Ld w (a.add i) t.v fun x => K x
  | i, t :: u :: r, K => Ld w (a.add i) t.v fun x => LdT w a (i + 1) (u :: r) fun y => K (x, y)
def LdST (S : World → Prop) (a : Addr) : Nat → (ts : List Ty1) → (Sig ts → Prop) → Prop
  | _, [], K => K ()
  | i, [t], K => LdS S (a.add i) t.v fun x => K x
  | i, t :: u :: r, K => LdS S (a.add i) t.v fun x => LdST S a (i + 1) (u :: r) fun y => K (x, y)
/-- The cells of a great struct are written. -/
def StT (a : Addr) : Nat → (ts : List Ty1) → Sig ts → World → (World → Prop) → Prop
  | _, [], _, w, K => K w
  | i, [t], x, w, K => St w (a.add i) (t.v x) K
  | i, t :: u :: r, x, w, K => St w (a.add i) (t.v x.1) fun w' => StT a (i + 1) (u :: r) x.2 w' K
/-- The size of a type, by the table. -/
def szOf (P : Program) (t : TypeId) : Option Nat := (P.info? t).map (·.size)
def ldV (P : Program) (t : TypeId) (x : Value) (w : World) (K : Value → Prop) : Prop := match x with
  | .pointer (some a) => match P.underlying t, szOf P t with
    | some d, some n => match isAggD (some d) with
      | false => Ld w a (tyD d).v fun x => K ((tyD d).v x)
      | true => match tyOf P t with
        | .agg ts => match Nat.beq ts.length n with
          | true => ldL w a 0 ts fun l => K (.agg l.toArray)
          | false => False
        | .one _ => ∃ x : Array Value, RunV P (loadVar t a) w (.agg x) w ∧ K (.agg x)
    | _, _ => False
  | _ => False
def one1 : Value → Bool
  | .agg _ | .tuple _ => false
  | _ => true
def stL (a : Addr) : Nat → List Value → World → (World → Prop) → Prop
  | _, [], w, K => K w
  | i, v :: r, w, K => Br (one1 v) (St w (a.add i) v fun w' => stL a (i + 1) r w' K) False
def stV (P : Program) (t : TypeId) (x y : Value) (w : World) (K : World → Prop) : Prop := match x with
  | .pointer (some a) => match P.underlying t, szOf P t with
    | some d, some n => match isAggD (some d) with
      | false => match Nat.beq n 1 with
        | true => Br (one1 y) (St w a y K) False
        | false => False
      | true => match y with
        | .agg cs => match Nat.beq cs.size n with
          | true => stL a 0 cs.toList w K
          | false => False
        | _ => Ru P (storeVar t a y) w K
    | _, _ => False
  | _ => False

def isC : Operand → Bool
  | .const _ => true
  | _ => false

/-- The four bit operations on two numbers of one kind. -/
def iand (k : IntKind) (x y : Int) : Int := k.wrap ((BitVec.ofInt k.bits x &&& BitVec.ofInt k.bits y).toNat : Int)
def ior (k : IntKind) (x y : Int) : Int := k.wrap ((BitVec.ofInt k.bits x ||| BitVec.ofInt k.bits y).toNat : Int)
def ixor (k : IntKind) (x y : Int) : Int := k.wrap ((BitVec.ofInt k.bits x ^^^ BitVec.ofInt k.bits y).toNat : Int)
def iandnot (k : IntKind) (x y : Int) : Int := k.wrap ((BitVec.ofInt k.bits x &&& ~~~ BitVec.ofInt k.bits y).toNat : Int)

/-- A byte of a string. -/
def bAt (s : ByteArray) (i : Int) : Int := ((s.data.getD i.toNat 0).toNat : Int)
def Slc.cut (s : Slc) (size l h m : Nat) : Slc := ⟨if m = l then s.p else s.p.map (·.add (l * size)), h - l, m - l⟩

/-- Whether two structs of numbers, bools, strings and such structs are equal, field by field. -/
def eqFs (P : Program) : Nat → Array Value → Array Value → List Field → Option Bool
  | 0, _, _, _ => none
  | n + 1, xs, ys, fs => match fs with
    | [] => some true
    | f :: r => if f.name = "_" then none else match P.underlying f.type with
      | some (.struct fs') => match P.stoodInHeld f.type with
        | false => (eqFs P n (xs.extract f.offset (f.offset + P.cellsOf f.type)) (ys.extract f.offset (f.offset + P.cellsOf f.type)) fs'.toList).bind fun p => (eqFs P n xs ys r).map fun q => p && q
        | true => none
      | some d => match d, xs[f.offset]?, ys[f.offset]? with
        | .int _, some (.int k a), some (.int k' b) => if k = k' then (eqFs P n xs ys r).map fun q => (a == b) && q else none
        | .bool, some (.bool a), some (.bool b) => (eqFs P n xs ys r).map fun q => (a == b) && q
        | .string, some (.string a), some (.string b) => (eqFs P n xs ys r).map fun q => (a.toList == b.toList) && q
        | _, _, _ => none
      | none => none
def eqAgg (P : Program) (t : TypeId) (xs ys : Array Value) : Option Bool := match P.underlying t with
  | some (.struct fs) => match P.stoodInHeld t, P.eqGuardType P.depth t with
    | false, false => eqFs P 60 xs ys fs.toList
    | _, _ => none
  | _ => none

def binV (P : Program) (op : BinOp) (t : TypeId) (cy : Bool) (x y : Value) (K : Value → Prop) (dflt other : Prop) : Prop :=
  match op with
  | .quo => match cy, x, y with
    | false, .int k a, .int k' b => if k = k' then (b ≠ 0 ∧ K (.int k (k.wrap (a.tdiv b)))) else False
    | _, _, _ => dflt
  | .rem => match cy, x, y with
    | false, .int k a, .int k' b => if k = k' then (b ≠ 0 ∧ K (.int k (a.tmod b))) else False
    | _, _, _ => dflt
  | .shl => match cy, x, y with
    | false, .int k a, .int _ b => 0 ≤ b ∧ K (.int k (k.wrap (a * 2 ^ min b.toNat k.bits)))
    | _, _, _ => dflt
  | .shr => match cy, x, y with
    | false, .int k a, .int _ b => 0 ≤ b ∧ K (.int k (a.fdiv (2 ^ min b.toNat k.bits)))
    | _, _, _ => dflt
  | .add => match x, y with
    | .string a, .string b => ((a.size + b.size : Nat) : Int) ≤ IntKind.i64.max ∧ K (.string (a ++ b))
    | _, _ => dflt
  | .eql => match x, y with
    | .int _ _, .int _ _ => dflt
    | .string _, .string _ => dflt
    | .bool _, .bool _ => dflt
    | .pointer p, .pointer q => match cy, q, P.underlying t with
      | true, none, some (.pointer _) => K (.bool p.isNone)
      | _, _, _ => other
    | .slice p _ _, .slice q _ _ => match cy, q, P.underlying t with
      | true, none, some (.slice _) => K (.bool p.isNone)
      | _, _, _ => other
    | .map p, .map q => match cy, q, P.underlying t with
      | true, none, some (.map _ _) => K (.bool p.isNone)
      | _, _, _ => other
    | .iface _ _, .nilIface => match cy, P.underlying t with
      | true, some (.interface _) => K (.bool false)
      | _, _ => other
    | .nilIface, .nilIface => match cy, P.underlying t with
      | true, some (.interface _) => K (.bool true)
      | _, _ => other
    | .func _ _ _, .nilFunc => match cy, P.underlying t with
      | true, some (.func _ _ _) => K (.bool false)
      | _, _ => other
    | .nilFunc, .nilFunc => match cy, P.underlying t with
      | true, some (.func _ _ _) => K (.bool true)
      | _, _ => other
    | .agg xs, .agg ys => match eqAgg P t xs ys with
      | some b => K (.bool b)
      | none => other
    | _, _ => other
  | .neq => match x, y with
    | .int _ _, .int _ _ => dflt
    | .string _, .string _ => dflt
    | .bool _, .bool _ => dflt
    | .pointer p, .pointer q => match cy, q, P.underlying t with
      | true, none, some (.pointer _) => K (.bool (!p.isNone))
      | _, _, _ => other
    | .slice p _ _, .slice q _ _ => match cy, q, P.underlying t with
      | true, none, some (.slice _) => K (.bool (!p.isNone))
      | _, _, _ => other
    | .map p, .map q => match cy, q, P.underlying t with
      | true, none, some (.map _ _) => K (.bool (!p.isNone))
      | _, _, _ => other
    | .iface _ _, .nilIface => match cy, P.underlying t with
      | true, some (.interface _) => K (.bool true)
      | _, _ => other
    | .nilIface, .nilIface => match cy, P.underlying t with
      | true, some (.interface _) => K (.bool false)
      | _, _ => other
    | .func _ _ _, .nilFunc => match cy, P.underlying t with
      | true, some (.func _ _ _) => K (.bool true)
      | _, _ => other
    | .nilFunc, .nilFunc => match cy, P.underlying t with
      | true, some (.func _ _ _) => K (.bool false)
      | _, _ => other
    | .agg xs, .agg ys => match eqAgg P t xs ys with
      | some b => K (.bool (!b))
      | none => other
    | _, _ => other
  | _ => dflt

def idxV (P : Program) (t : TypeId) (cy : Bool) (x y : Value) (K : Value → Prop) (dflt : Prop) : Prop :=
  match x, y with
  | .string s, .int _ i => match P.underlying t with
    | some .string => 0 ≤ i ∧ i < s.size ∧ K (.int .u8 (bAt s i))
    | _ => dflt
  | .agg cs, .int _ i => match cy, P.underlying t with
    | false, some (.array len e) => match P.underlying e, szOf P e with
      | some d, some n => match isAggD (some d) with
        | false => 0 ≤ i ∧ i < len ∧ ∃ x : (tyD d).T, cs[i.toNat * n]? = some ((tyD d).v x) ∧ K ((tyD d).v x)
        | true => match tyOf P e with
          | .agg ts => 0 ≤ i ∧ i < len ∧ ∃ x : Sig ts, cs.extract (i.toNat * n) (i.toNat * n + n) = (Sig.cells ts x).toArray ∧ K (.agg (Sig.cells ts x).toArray)
          | .one _ => dflt
      | _, _ => dflt
    | _, _ => dflt
  | _, _ => dflt
def idxA (P : Program) (t : TypeId) (cy : Bool) (x y : Value) (K : Value → Prop) (dflt : Prop) : Prop :=
  match x, y with
  | .slice p len _, .int _ i => match P.underlying t with
    | some (.slice e) => match szOf P e with
      | some n => 0 ≤ i ∧ i < len ∧ Nn p fun a => K (.pointer (some (a.add (i.toNat * n))))
      | none => dflt
    | _ => dflt
  | .pointer (some a), .int _ i => match cy, P.underlying t with
    | false, some (.array len e) => match szOf P e with
      | some n => 0 ≤ i ∧ i < len ∧ K (.pointer (some (a.add (i.toNat * n))))
      | none => dflt
    | _, _ => dflt
  | _, _ => dflt

/-- A bound of a slice expression: absent, or a number that lies between 0 and 'top'. -/
def bnd (top : Nat) (x : Option Value) (other : Nat) (K : Nat → Prop) (dflt : Prop) : Prop := match x with
  | none => K other
  | some (.int _ i) => 0 ≤ i ∧ i ≤ top ∧ K i.toNat
  | _ => dflt
def slV (P : Program) (t : TypeId) (x : Value) (lo hi mx : Option Value) (K : Value → Prop) (dflt : Prop) : Prop :=
  match x with
  | .string s => match P.underlying t, mx with
    | some .string, none => bnd s.size hi s.size (fun h => bnd h lo 0 (fun l => K (.string (s.extract l h))) dflt) dflt
    | _, _ => dflt
  | .slice p len cap => match P.underlying t with
    | some (.slice e) => match szOf P e with
      | some n => match mx, hi with
        | some _, none => dflt
        | mx, hi => bnd cap mx cap (fun m => bnd m hi len (fun h => bnd h lo 0 (fun l => K (Slc.v (Slc.cut ⟨p, len, cap⟩ n l h m))) dflt) dflt) dflt
      | none => dflt
    | _ => dflt
  | .pointer (some a) => match P.underlying t, mx with
    | some (.array c e), none => match szOf P e with
      | some n => bnd c hi c (fun h => bnd h lo 0 (fun l => K (Slc.v (Slc.cut ⟨some a, c, c⟩ n l h c))) dflt) dflt
      | none => dflt
    | _, _ => dflt
  | _ => dflt

def callV (P : Program) (F : Fx) (g : Nat) (args : Array Value) (w : World) (K : Value → World → Prop) : Prop :=
  match F.ok g with
  | false => False
  | true => match P.funcs[g]? with
    | none => False
    | some fn => match F.may g with
      | false => Calls P g args w fun e w' => exRes (fn.resultTypes.toList.map (tyOf P)) fun l => e = .returned (retV l) ∧ K (retV l) w'
      | true => Calls P g args w fun e w' => (exRes (fn.resultTypes.toList.map (tyOf P)) fun l => e = .returned (retV l) ∧ K (retV l) w') ∨ ∃ v, e = .panicked (onePanic v) ∧ F.pk v w'
where
  exRes : List Ty → (List Value → Prop) → Prop
    | [], K => K []
    | t :: ts, K => ∃ x : t.T, exRes ts fun l => K (t.v x :: l)
  retV : List Value → Value
    | [v] => v
    | l => .tuple l.toArray

def sameKind : Value → Value → Bool
  | .int _ _, .int _ _ => true
  | .string _, .string _ => true
  | .bool _, .bool _ => true
  | _, _ => false
def fdV (P : Program) (t : TypeId) (x : Value) (f : Nat) (K : Value → Prop) (dn : Prop) : Prop := match x with
  | .pointer (some a) => match P.underlying t with
    | some (.struct fs) => match fs[f]? with
      | some f => match szOf P f.type with
        | some n => match Nat.beq n 0 with
          | false => K (.pointer (some (a.add f.offset)))
          | true => dn
        | none => dn
      | none => dn
    | _ => dn
  | _ => dn
def panicV (pk : Value → World → Prop) (x : Value) (w : World) : Prop := match x with
  | .iface t y => pk (.iface t y) w
  | _ => False
def isIfaceD : TypeDesc → Bool
  | .interface _ => true
  | _ => false
/-- A type assertion that holds. -/
def taHit (P : Program) (u : TypeId) (x : Value) : Option Value := match x with
  | .iface t v => match P.underlying u with
    | some d => match isIfaceD d, Nat.beq t u with
      | false, true => some v
      | _, _ => none
    | none => none
  | _ => none
def isInts : List Value → Bool
  | [] => true
  | .int _ _ :: r => isInts r
  | _ => false
/-- One operation, its operands known. 'q': only what reads nothing but cells and writes nothing. -/
def opV (P : Program) (F : Fx) (q : Bool) (E : Env) (o : Oper) (w : World) (K : Value → World → Prop) : Prop :=
  let dp : Prop := Out P K ((execOp E.rho o).run P w)
  let dn : Prop := match q with
    | true => False
    | false => Out P K ((execOp E.rho o).run P w)
  match o.op with
  | .move _ | .assign _ | .pick .. | .unOp .. | .extract .. | .field .. | .build .. => dp
  | .load t x => ldV P t (E.rho x) w fun v => K v w
  | .store t x y => match q with
    | true => False
    | false => stV P t (E.rho x) (E.rho y) w fun w' => K undef w'
  | .nilCheck x => match E.rho x with
    | .pointer p => Nn p fun a => K (.pointer (some a)) w
    | _ => dn
  | .fieldAddr t x f => fdV P t (E.rho x) f (fun v => K v w) dn
  | .binOp op t x y _ => binV P op t (isC y) (E.rho x) (E.rho y) (fun v => K v w) (match sameKind (E.rho x) (E.rho y) with
      | true => dp
      | false => dn)
      (runV P q o.type (do eqGuard op t x y (E.rho x) (E.rho y); binOp op t (E.rho x) (E.rho y)) w K)
  | .index t x i => idxV P t (isC i) (E.rho x) (E.rho i) (fun v => K v w) dp
  | .indexAddr t x i => idxA P t (isC i) (E.rho x) (E.rho i) (fun v => K v w) dp
  | .slice t x lo hi mx => slV P t (E.rho x) (lo.map E.rho) (hi.map E.rho) (mx.map E.rho) (fun v => K v w) dp
  | .call c => match c.callee with
    | .value f => match q, E.rho f with
      | false, .func (.func g) first captured => callV P F g ((first ++ (c.args.map E.rho)) ++ captured) w K
      | _, _ => dn
    | .builtin .append => runV P q o.type (Builtin.append_ c.argTypes o.type (c.args.map E.rho)) w K
    | .builtin .copy => runV P q o.type (Builtin.copy_ c.argTypes o.type (c.args.map E.rho)) w K
    | .builtin .len => match c.args[0]?.map E.rho with
      | some (.string _) => dp
      | some (.slice _ _ _) => dp
      | some (.map _) => runV P q o.type (Builtin.len_ c.argTypes o.type (c.args.map E.rho)) w K
      | _ => dn
    | .builtin .cap => match c.args[0]?.map E.rho with
      | some (.slice _ _ _) => dp
      | _ => dn
    | .builtin .min => match isInts (c.args.map E.rho).toList with
      | true => dp
      | false => dn
    | .builtin .max => match isInts (c.args.map E.rho).toList with
      | true => dp
      | false => dn
    | _ => dn
  | .convert src dst x => match E.rho x with
    | .int _ _ => match P.underlying dst with
      | some (.int _) => dp
      | _ => dn
    | x' => runV P q o.type (convert src dst x') w K
  | .panic x => match q with
    | false => panicV F.pk (E.rho x) w
    | true => False
  | .makeSlice t l c => runV P q o.type (Instr.makeSlice t (E.rho l) (E.rho c)) w K
  | .lookup t x i ok => match ok with
    | false => runV P q o.type (Instr.lookup t (E.rho x) (E.rho i) false) w K
    | true => match q, P.underlying t with
      | false, some (.map _ e) => exT (tyOf P e) fun v => ∃ b : Bool, ∃ w', RunV P (Instr.lookup t (E.rho x) (E.rho i) true) w (.tuple #[v, .bool b]) w' ∧ K (.tuple #[v, .bool b]) w'
      | _, _ => dn
  | .range t x => match q, E.rho x, P.underlying t with
    | false, .string s, some .string => Nw w (.stringIter s 0) fun w' => K (.pointer (some ⟨w.heap.size, 0, none⟩)) w'
    | _, _, _ => dn
  | .next it str => match q, str, E.rho it with
    | false, true, .pointer (some a) => Nx w a (fun i c w' => K (.tuple #[.bool true, .int .i64 i, .int .i32 c]) w') (K (.tuple #[.bool false]) w)
    | _, _, _ => dn
  | .mapUpdate t m k x => match q with
    | true => False
    | false => runU P (Instr.mapUpdate t (E.rho m) (E.rho k) (E.rho x)) w K
  | .typeAssert x t u ok => match ok with
    | false => runV P q u (Instr.typeAssert (E.rho x) t u false) w K
    | true => match q with
      | true => False
      | false => match taHit P u (E.rho x) with
        | some v => K (.tuple #[v, .bool true]) w
        | none => exT (tyOf P u) fun v => ∃ b : Bool, ∃ w', RunV P (Instr.typeAssert (E.rho x) t u true) w (.tuple #[v, .bool b]) w' ∧ K (.tuple #[v, .bool b]) w'
  | _ => dn

/-! ### A region -/

def gdT (ops : Array Oper) (E : Env) (o : Oper) (yes no : Env → Prop) : Prop := match o.guard with
  | none => yes E
  | some (j, want) => match (ops[j]?).bind (·.dst) with
    | some s => match E.get? s with
      | some (.bool b) => match want with
        | true => Br b (yes ((s, .bool true) :: E)) (no ((s, .bool false) :: E))
        | false => Br b (no ((s, .bool true) :: E)) (yes ((s, .bool false) :: E))
      | some (.tuple _) => no E
      | _ => False
    | none => False
def noSel : Op → Bool
  | .select .. => false
  | _ => true
def hasAll (E : Env) (op : Op) : Bool := noSel op && op.operands.toList.all E.has
/-- Operations that leave the world alone. -/
def stillOp (P : Program) : Op → Bool
  | .move _ | .assign _ | .pick .. | .load .. | .nilCheck _ | .unOp .. | .fieldAddr .. | .field .. | .index .. | .indexAddr .. | .slice .. | .extract .. | .binOp .. | .build .. => true
  | .convert src dst _ => match P.underlying src, P.underlying dst with
    | some (.int _), some (.int _) => true
    | _, _ => false
  | .call c => match c.callee with
    | .builtin .len | .builtin .cap | .builtin .min | .builtin .max => true
    | _ => false
  | _ => false
def opsT (P : Program) (F : Fx) (q : Bool) (ops : Array Oper) : List Oper → Env → World → (Env → World → Prop) → Prop
  | [], E, w, K => K E w
  | o :: r, E, w, K => gdT ops E o
      (fun E => match hasAll E o.op && (!q || stillOp P o.op) with
        | true => opV P F q E o w fun v w' => opsT P F q ops r (E.put o.dst v) w' K
        | false => False)
      (fun E => opsT P F q ops r (E.put o.dst undef) w K)

def ldLQ (S : World → Prop) (a : Addr) : Nat → List Ty1 → (List Value → Prop) → Prop
  | _, [], K => K []
  | i, t :: ts, K => LdS S (a.add i) t.v fun x => ldLQ S a (i + 1) ts fun l => K (t.v x :: l)
def ldQ (P : Program) (S : World → Prop) (t : TypeId) (x : Value) (K : Value → Prop) : Prop := match x with
  | .pointer (some a) => match P.underlying t, szOf P t with
    | some d, some n => match isAggD (some d) with
      | false => LdS S a (tyD d).v fun x => K ((tyD d).v x)
      | true => match tyOf P t with
        | .agg ts => match Nat.beq ts.length n with
          | true => ldLQ S a 0 ts fun l => K (.agg l.toArray)
          | false => False
        | .one _ => ∃ x : Array Value, (∀ w, S w → RunV P (loadVar t a) w (.agg x) w) ∧ K (.agg x)
    | _, _ => False
  | _ => False
def opQ (P : Program) (F : Fx) (S : World → Prop) (E : Env) (o : Oper) (w : World) (K : Value → Prop) : Prop := match o.op with
  | .load t x => ldQ P S t (E.rho x) K
  | _ => opV P F true E o w fun v _ => K v
/-- In which order the operations of a region are taken. 'eff i fl r': number i comes up, it alone ('effs': or one of 'more'); 'fl': what was known of the world ends with it, a new phase begins that ends with one of these. -/
inductive Od where
  | done
  | take (i : Nat) (r : Od)
  | eff (i : Nat) (fl : Option (List Nat)) (r : Od)
  | effs (i : Nat) (fl : Option (List Nat)) (r more : Od)
  | mono (js : List Nat) (r : Od)
def isLoad : Op → Bool
  | .load .. => true
  | _ => false
def isLoadAt (ops : Array Oper) (i : Nat) : Bool := match ops[i]? with
  | some o => isLoad o.op
  | none => false
/-- Is there a load before the phase ends? -/
def Od.loads (ops : Array Oper) : Od → Bool
  | .done => false
  | .take i r => isLoadAt ops i || r.loads ops
  | .eff _ (some _) _ => false
  | .eff _ none r => r.loads ops
  | .effs _ (some _) _ m => m.loads ops
  | .effs _ none r m => r.loads ops || m.loads ops
  | .mono _ r => r.loads ops
def Od.depth : Od → Nat
  | .done => 0
  | .take _ r => r.depth + 1
  | .eff _ _ r => r.depth + 1
  | .effs _ _ r m => max (r.depth + 1) m.depth
  | .mono js r => r.depth + js.length
def markL (e : List Edge) (m : Array Bool) : Array Bool := e.foldl (fun m e => match Region.binds .any e with
  | true => m.setIfInBounds e.on true
  | false => m) m
def ancL (ops : Array Oper) : Nat → Array Bool → Array Bool
  | 0, m => m
  | k + 1, m => ancL ops k (match m.getD k false, ops[k]? with
    | true, some o => markL o.after.toList m
    | _, _ => m)
/-- Number j waits for number i. -/
def anc (ops : Array Oper) (j i : Nat) : Bool := match ops[j]? with
  | some o => (ancL ops j (markL o.after.toList (Array.replicate ops.size false))).getD i false
  | none => false
def phT (lo : Bool) (w : World) (k : (World → Prop) → Prop) : Prop := match lo with
  | true => ∃ S : World → Prop, S w ∧ k S
  | false => k fun _ => True
def effT (P : Program) (F : Fx) (ops : Array Oper) (J : List Nat) (S : World → Prop) (i : Nat) (fl : Option (List Nat)) (lo : Bool) (E : Env) (w : World) (o : Oper)
    (k : (World → Prop) → Env → World → Prop) : Prop := match fl, J.contains i with
  | none, false => gdT ops E o
    (fun E => match hasAll E o.op with
      | true => opV P F false E o w fun v w' => S w' ∧ k S (E.put o.dst v) w'
      | false => False)
    (fun E => k S (E.put o.dst undef) w)
  | some _, true => gdT ops E o
    (fun E => match hasAll E o.op with
      | true => opV P F false E o w fun v w' => phT lo w' fun S => k S (E.put o.dst v) w'
      | false => False)
    (fun E => phT lo w fun S => k S (E.put o.dst undef) w)
  | _, _ => False
/-- One of the operations that come up in any order: what is known of its value. -/
structure GEntry where
  j : Nat
  dst : Nat
  ty : Ty
  G : ty.T → World → Prop
/-- The type by which such a value is kept. -/
def monoTy (P : Program) (o : Oper) : Ty := match o.op with
  | .indexAddr .. => .one .addr
  | .fieldAddr .. => .one .addr
  | _ => tyOf P o.type
def monoG (P : Program) (ops : Array Oper) (le : World → World → Prop) : List Nat → List GEntry → (List GEntry → Prop) → Prop
  | [], acc, k => k acc
  | j :: js, acc, k => match ops[j]? with
    | some o => match o.dst with
      | some d => ∃ G : (monoTy P o).T → World → Prop, (∀ x w w', le w w' → G x w → G x w') ∧ monoG P ops le js (acc ++ [⟨j, d, monoTy P o, G⟩]) k
      | none => False
    | none => False
def usesTmp (op : Op) (d : Nat) : Bool := op.operands.toList.any fun x => match x with
  | .tmp t => Nat.beq t d
  | _ => false
/-- The values that an operation looks at. -/
def depsT (o : Oper) : List GEntry → Env → World → (Env → Prop) → Prop
  | [], E, _, k => k E
  | e :: r, E, w, k => match usesTmp o.op e.dst with
    | true => ∀ x : e.ty.T, e.G x w → depsT o r (E.put (some e.dst) (e.ty.v x)) w k
    | false => depsT o r E w k
def depsAll : List GEntry → Env → World → (Env → Prop) → Prop
  | [], E, _, k => k E
  | e :: r, E, w, k => ∀ x : e.ty.T, e.G x w → depsAll r (E.put (some e.dst) (e.ty.v x)) w k
def monoI (P : Program) (F : Fx) (ops : Array Oper) (S : World → Prop) (le : World → World → Prop) (B : World → Prop) (E : Env) (all : List GEntry) : List GEntry → Prop
  | [] => True
  | e :: r => (match ops[e.j]? with
    | some o => ∀ w, S w → B w → depsT o all E w fun E' => match hasAll E' o.op with
      | true => opV P F false E' o w fun v w' => S w' ∧ B w' ∧ le w w' ∧ ∃ x : e.ty.T, v = e.ty.v x ∧ e.G x w'
      | false => False
    | none => False) ∧ monoI P F ops S le B E all r
def markJs (listed : Array Bool) : List Nat → Array Bool
  | [] => listed
  | j :: js => markJs (listed.setIfInBounds j true) js
def dstOf (ops : Array Oper) (j : Nat) : Nat := match (ops[j]?).bind (·.dst) with
  | some d => d
  | none => 0
def notIn (x : Nat) : List Nat → Bool
  | [] => true
  | y :: r => !Nat.beq x y && notIn x r
def distinct : List Nat → Bool
  | [] => true
  | x :: r => notIn x r && distinct r
def monoOk (ops : Array Oper) (listed : Array Bool) (js : List Nat) (E : Env) : Bool :=
  distinct js && distinct (js.map (dstOf ops)) &&
  (js.all fun j => match ops[j]? with
    | some o => o.guard.isNone && o.dst.isSome && !(listed.getD j true) && !(E.get? (dstOf ops j)).isSome &&
      (o.after.toList.all fun e => !Region.binds .any e || listed.getD e.on false || (js.contains e.on && Nat.blt e.on j)) &&
      (js.all fun j' => !usesTmp o.op (dstOf ops j') || o.after.toList.any fun e => Region.binds .any e && Nat.beq e.on j')
    | none => false) &&
  ((List.range ops.size).all fun k => listed.getD k true || js.contains k || js.all fun j => anc ops k j)
/-- That the operations of a region can be taken in this order: looked at once, ahead of what they do. -/
def odOk (ops : Array Oper) : Od → List Nat → List Nat → Array Bool → Bool
  | .done, pre, _, listed => pre.isEmpty && (Region.ready .any ops listed).isEmpty
  | .take i r, pre, J, listed => match ops[i]? with
    | none => false
    | some o => pre.isEmpty && (Region.free .any ops listed i && (Region.ready .any ops listed).contains i) && (!isLoad o.op || J.all fun j => anc ops j i) && odOk ops r [] J (listed.setIfInBounds i true)
  | .eff i fl r, pre, J, listed => Region.ready .any ops listed == pre ++ [i] && odOk ops r [] (fl.getD J) (listed.setIfInBounds i true)
  | .effs i fl r more, pre, J, listed => odOk ops r [] (fl.getD J) (listed.setIfInBounds i true) && odOk ops more (pre ++ [i]) J listed
  | .mono js r, pre, J, listed => pre.isEmpty && (js.all fun j => !J.contains j) && odOk ops r [] J (markJs listed js)
/-! The same with bits in place of arrays of bools, for the kernel. -/
def hasB (m i : Nat) : Bool := Nat.beq (Nat.land (Nat.shiftRight m i) 1) 1
def setB (m i : Nat) : Nat := Nat.lor m (Nat.shiftLeft 1 i)
def markB : List Edge → Nat → Nat
  | [], m => m
  | e :: r, m => match Region.binds .any e with
    | true => markB r (setB m e.on)
    | false => markB r m
def ancLB (ops : Array Oper) : Nat → Nat → Nat
  | 0, m => m
  | k + 1, m => match hasB m k, ops[k]? with
    | true, some o => ancLB ops k (markB o.after.toList m)
    | _, _ => ancLB ops k m
def ancB (ops : Array Oper) (j : Nat) : Nat := match ops[j]? with
  | some o => ancLB ops j (markB o.after.toList 0)
  | none => 0
def allHasB (m : Nat) : List Edge → Bool
  | [] => true
  | e :: r => match Region.binds .any e with
    | true => hasB m e.on && allHasB m r
    | false => allHasB m r
def readyAtB (m k : Nat) (o : Oper) : Bool := !hasB m k && allHasB m o.after.toList
def readyLB (m : Nat) : List Oper → Nat → List Nat
  | [], _ => []
  | o :: r, k => match readyAtB m k o with
    | true => k :: readyLB m r (k + 1)
    | false => readyLB m r (k + 1)
def freeLB (ops : Array Oper) (m i : Nat) (oi : Oper) : List Oper → Nat → Bool
  | [], _ => true
  | o :: r, j => (Nat.beq j i || hasB m j || (o.after.toList.any fun e => Nat.beq e.on i && Region.binds .any e) || oi.apart ops o) && freeLB ops m i oi r (j + 1)
def eqLB : List Nat → List Nat → Bool
  | [], [] => true
  | x :: r, y :: q => Nat.beq x y && eqLB r q
  | _, _ => false
def setsB (m : Nat) : List Nat → Nat
  | [] => m
  | j :: js => setsB (setB m j) js
def odOkB (ops : Array Oper) : Od → List Nat → List Nat → Nat → Bool
  | .done, pre, _, m => pre.isEmpty && (readyLB m ops.toList 0).isEmpty
  | .take i r, pre, J, m => match ops[i]? with
    | none => false
    | some o => pre.isEmpty && readyAtB m i o && freeLB ops m i o ops.toList 0 && (!isLoad o.op || J.all fun j => hasB (ancB ops j) i) && odOkB ops r [] J (setB m i)
  | .eff i fl r, pre, J, m => eqLB (readyLB m ops.toList 0) (pre ++ [i]) && odOkB ops r [] (fl.getD J) (setB m i)
  | .effs i fl r more, pre, J, m => Nat.blt i ops.size && odOkB ops r [] (fl.getD J) (setB m i) && odOkB ops more (pre ++ [i]) J m
  | .mono js r, pre, J, m => pre.isEmpty && (js.all fun j => !J.contains j && Nat.blt j ops.size) && odOkB ops r [] J (setsB m js)
def heldT (P : Program) (F : Fx) (ops : Array Oper) : Od → List Nat → (World → Prop) → Array Bool → Env → World → (Env → World → Prop) → Prop
  | .done, _, _, _, E, w, K => K E w
  | .take i r, J, S, listed, E, w, K => match ops[i]? with
    | none => False
    | some o => gdT ops E o
        (fun E => match hasAll E o.op && stillOp P o.op with
          | true => opQ P F S E o w fun v => heldT P F ops r J S (listed.setIfInBounds i true) (E.put o.dst v) w K
          | false => False)
        (fun E => heldT P F ops r J S (listed.setIfInBounds i true) (E.put o.dst undef) w K)
  | .eff i fl r, J, S, listed, E, w, K => match ops[i]? with
    | none => False
    | some o => effT P F ops J S i fl (r.loads ops) E w o fun S E w => heldT P F ops r (fl.getD J) S (listed.setIfInBounds i true) E w K
  | .effs i fl r more, J, S, listed, E, w, K => match ops[i]? with
    | none => False
    | some o => effT P F ops J S i fl (r.loads ops) E w o (fun S E w => heldT P F ops r (fl.getD J) S (listed.setIfInBounds i true) E w K) ∧ heldT P F ops more J S listed E w K
  | .mono js r, J, S, listed, E, w, K => match monoOk ops listed js E with
    | true => ∃ (le : World → World → Prop) (B : World → Prop), B w ∧ monoG P ops le js [] fun Gs =>
        monoI P F ops S le B E Gs Gs ∧ ∀ w, S w → B w → depsAll Gs E w fun E => heldT P F ops r J S (markJs listed js) E w K
    | false => False

inductive RMode where
  | seq | still | tail (n : Nat) | held (J : List Nat) (o : Od)
def regT (P : Program) (F : Fx) (m : RMode) (ops : Array Oper) (d : Bool) (E : Env) (w : World) (K : Env → World → Prop) : Prop :=
  match d, m with
  | false, .seq => opsT P F false ops ops.toList E w K
  | true, .still => match Region.lexB .any ops with
    | true => opsT P F true ops ops.toList E w.drew K
    | false => False
  | true, .tail n => match Region.lexTailB .any ops n with
    | true => opsT P F true ops (ops.toList.take n) E w.drew fun E w => opsT P F false ops (ops.toList.drop n) E w K
    | false => False
  | true, .held J o => match Region.noSelect ops && Nat.ble o.depth ops.size && odOkB ops o [] J 0 with
    | true => phT (o.loads ops) w.drew fun S => heldT P F ops o J S (Array.replicate ops.size false) E w.drew K
    | false => False
  | _, _ => False

/-! ### Code -/

inductive Plan where
  | reg (m : RMode)
  | leaf
  | seq (a b : Plan)
  | join (live : List (Nat × Ty)) (keep : List Nat) (a b : Plan)
  | cond (a b : Plan)
  | block (a : Plan)
  | loop (live : List (Nat × Ty)) (keep : List Nat) (a : Plan)

def wr (t : Nat) : Code → Bool
  | .region _ ops _ => ops.toList.any fun o => match o.dst with
    | some d => Nat.beq d t
    | none => false
  | .seq a b => wr t a || wr t b
  | .cond _ a b => wr t a || wr t b
  | .block _ a => wr t a
  | .loop a => wr t a
  | .skip | .exit _ | .ret | .label _ => false
  | _ => true
def keepOk (keep : List Nat) (c : Code) : Bool := keep.all fun t => !wr t c

def Join {σ : Type} (body : σ → World → Prop) (front : (σ → World → Prop) → Prop) : Prop :=
  ∃ J : σ → World → Prop, (∀ s w, J s w → body s w) ∧ front J
def Lp {σ : Type} (B : (σ → World → Prop) → σ → World → Prop) (s0 : σ) (w0 : World) : Prop :=
  ∃ (I : Nat → σ → World → Prop) (n0 : Nat), I n0 s0 w0 ∧ ∀ n s w, I n s w → B (fun s' w' => ∃ n', n' < n ∧ I n' s' w') s w

def stGet (live : List (Nat × Ty)) (E : Env) (K : Sg (live.map (·.2)) → Prop) : Prop :=
  match Env.vals E (live.map (·.1)) with
  | some vs => match Sg.get? (live.map (·.2)) vs with
    | some s => K s
    | none => False
  | none => False
def stPut (live : List (Nat × Ty)) (s : Sg (live.map (·.2))) : Env := Env.zip (live.map (·.1)) (Sg.vals (live.map (·.2)) s)

def codeT (P : Program) (F : Fx) : Plan → Code → Env → World → (Exit → Env → World → Prop) → Prop
  | .reg m, .region _ ops d, E, w, K => regT P F m ops d E w fun E w => K .normal E w
  | .leaf, .skip, E, w, K => K .normal E w
  | .leaf, .label _, E, w, K => K .normal E w
  | .leaf, .exit id, E, w, K => K (.exit id) E w
  | .leaf, .ret, E, w, K => K .ret E w
  | .seq p q, .seq c d, E, w, K => codeT P F p c E w fun e E w => match e with
    | .normal => codeT P F q d E w K
    | e => K e E w
  | .join live keep p q, .seq c d, E, w, K => match keepOk keep c with
    | true => Join (fun s w => codeT P F q d (stPut live s ++ Env.keep E keep) w K) fun J => codeT P F p c E w fun e E w => match e with
      | .normal => stGet live E fun s => J s w
      | e => K e E w
    | false => False
  | .cond p q, .cond x c d, E, w, K => match E.rho x with
    | .bool b => Br b (codeT P F p c E w K) (codeT P F q d E w K)
    | _ => False
  | .block p, .block id c, E, w, K => codeT P F p c E w fun e E w => match e with
    | .exit i => match Nat.beq i id with
      | true => K .normal E w
      | false => K (.exit i) E w
    | e => K e E w
  | .loop live keep p, .loop c, E, w, K => match keepOk keep c with
    | true => stGet live E fun s0 => Lp (fun R s w => codeT P F p c (stPut live s ++ Env.keep E keep) w fun e E w => match e with
      | .normal => stGet live E fun s => R s w
      | e => K e E w) s0 w
    | false => False
  | _, _, _, _, _ => False

def resT (P : Program) : List ResultVar → Env → World → (List Value → Prop) → Prop
  | [], _, _, K => K []
  | .tmp t :: r, E, w, K => match E.get? t with
    | some v => resT P r E w fun l => K (v :: l)
    | none => False
  | .cell t ty :: r, E, w, K => match E.get? t with
    | some x => ldV P ty x w fun v => resT P r E w fun l => K (v :: l)
    | none => False
def env0 : Nat → List Value → Env
  | _, [] => []
  | i, v :: r => (i, v) :: env0 (i + 1) r
/-- What a call of this function must satisfy. -/
def fnT (P : Program) (F : Fx) (pl : Plan) (fn : Func) (args : List Value) (w : World) (tys : List Ty) (R : Sg tys → World → Prop) : Prop :=
  match fn.body with
  | none => False
  | some c => codeT P F pl c (env0 0 args) w fun e E w => match e with
    | .normal => resT P fn.results.toList E w fun vs => match Sg.get? tys vs with
      | some s => R s w
      | none => False
    | .ret => resT P fn.results.toList E w fun vs => match Sg.get? tys vs with
      | some s => R s w
      | none => False
    | _ => False
/-! ### Functions that defer a call, and the calls that they defer -/

def modeOf : Option Value → FrameMode
  | none => .returning
  | some v => .panicking (onePanic v)
def modeAfter : Option Value → FrameMode
  | none => .returning
  | some v => .panicking [{ v, recovered := true }]
/-- A deferred call: it returns, and a panic that was under way is over. -/
def CallD (P : Program) (g : Nat) (args : Array Value) (u : Option Value) (w : World) (R : World → Prop) : Prop :=
  CallsD P g args (modeOf u) w fun e u' w' => e = .returned (.tuple #[]) ∧ u' = modeAfter u ∧ R w'
inductive DPlan where
  | pre (p : Plan) (r : DPlan)
  | here (keep : List Nat) (p : Plan)
def finT (P : Program) (fn : Func) (tys : List Ty) (R : Sg tys → World → Prop) (E : Env) (w : World) : Prop :=
  resT P fn.results.toList E w fun vs => match Sg.get? tys vs with
    | some s => R s w
    | none => False
def deferC : Op → Option Call
  | .defer c => some c
  | _ => none
def calleeV : Callee → Option Operand
  | .value f => some f
  | _ => none
def funcV : Value → Option (Nat × Array Value × Array Value)
  | .func (.func g) first captured => some (g, first, captured)
  | _ => none
/-- The operation that defers a call of a function. -/
def defOp (E : Env) (o : Oper) (K : Nat → Array Value → Prop) : Prop := match deferC o.op, o.guard, o.dst with
  | some c, none, none => match calleeV c.callee with
    | some f => match funcV (E.rho f), E.has f && c.args.toList.all E.has with
      | some (g, first, captured), true => K g ((first ++ (c.args.map E.rho)) ++ captured)
      | _, _ => False
    | none => False
  | _, _, _ => False
/-- A function that may be entered. -/
def enterB (P : Program) (ok : Nat → Bool) (g : Nat) : Bool := match ok g, P.funcs[g]? with
  | true, some _ => true
  | _, _ => false
def defT (P : Program) (ok may : Nat → Bool) (PR : Value → World → Prop) (fn : Func) (tys : List Ty) (R : Sg tys → World → Prop) : DPlan → Code → Env → World → Prop
  | .pre p r, .seq c d, E, w => codeT P ⟨ok, may, PR⟩ p c E w fun e E w => match e with
    | .normal => defT P ok may PR fn tys R r d E w
    | .ret => finT P fn tys R E w
    | _ => False
  | .here keep p, .seq (.region _ ops false) d, E, w => opsT P ⟨ok, may, PR⟩ false ops ops.toList.dropLast E w fun E w => match ops.toList.getLast? with
    | some o => defOp E o fun g args => match keepOk keep d && enterB P ok g with
      | true => codeT P ⟨ok, may, fun v w => CallD P g args (some v) w fun w' => finT P fn tys R (Env.keep E keep) w'⟩ p d E w fun e E w => match e with
        | .normal => CallD P g args none w fun w' => finT P fn tys R E w'
        | .ret => CallD P g args none w fun w' => finT P fn tys R E w'
        | _ => False
      | false => False
    | none => False
  | _, _, _, _ => False
/-- What a call of a function that defers must satisfy. -/
def fnTD (P : Program) (ok may : Nat → Bool) (PR : Value → World → Prop) (pl : DPlan) (fn : Func) (args : List Value) (w : World) (tys : List Ty) (R : Sg tys → World → Prop) : Prop :=
  match fn.body with
  | none => False
  | some c => defT P ok may PR fn tys R pl c (env0 0 args) w
def isRecover : Op → Bool
  | .call c => match c.callee with
    | .builtin .recover => true
    | _ => false
  | _ => false
def recV : Option Value → Value
  | none => .nilIface
  | some v => v
/-- What a deferred call must satisfy that begins with recover. -/
def fnTS (P : Program) (ok may : Nat → Bool) (pl : Plan) (fn : Func) (args : List Value) (u : Option Value) (w : World) (R : World → Prop) : Prop :=
  match fn.body with
  | some (.seq (.region _ ops false) d) => match ops.toList with
    | o :: r => match isRecover o.op, o.guard, fn.results.toList with
      | true, none, [] => opsT P ⟨ok, may, fun _ _ => False⟩ false ops r ((env0 0 args).put o.dst (recV u)) w fun E w => codeT P ⟨ok, may, fun _ _ => False⟩ pl d E w fun e _ w => match e with
        | .normal => R w
        | .ret => R w
        | _ => False
      | _, _, _ => False
    | [] => False
  | _ => False
end Sh
end Go.Proofs.YtdchpkbpnfoknaaDoor

/- The formula of 'Sh' implies the model's own account of the code. No condition. -/
namespace Go.Proofs.YtdchpkbpnfoknaaDoor
namespace Sh

/-! ### Types -/

theorem Ty1.get?_v : ∀ (t : Ty1) (v : Value) (x : t.T), t.get? v = some x → t.v x = v
  | .int k, v, x, h => by
    cases v <;> simp only [Ty1.get?] at h <;> try (cases h; done)
    rename_i k' n
    by_cases e : k' = k
    · rw [if_pos e] at h; cases h; subst e; rfl
    · rw [if_neg e] at h; cases h
  | .bool, v, x, h => by cases v <;> simp only [Ty1.get?] at h <;> cases h <;> rfl
  | .str, v, x, h => by cases v <;> simp only [Ty1.get?] at h <;> cases h <;> rfl
  | .ptr, v, x, h => by cases v <;> simp only [Ty1.get?] at h <;> cases h <;> rfl
  | .addr, v, x, h => by
    cases v with
    | pointer p =>
      cases p with
      | none => cases h
      | some a => cases h; rfl
    | _ => cases h
  | .slc, v, x, h => by cases v <;> simp only [Ty1.get?] at h <;> cases h <;> rfl
  | .map, v, x, h => by cases v <;> simp only [Ty1.get?] at h <;> cases h <;> rfl
  | .raw, v, x, h => by simp only [Ty1.get?] at h; cases h; rfl

theorem Sig.get?_cells (ts : List Ty1) : ∀ (vs : List Value) (x : Sig ts), Sig.get? ts vs = some x → Sig.cells ts x = vs := by
  induction ts with
  | nil => intro vs x h; cases vs with
    | nil => rfl
    | cons _ _ => cases h
  | cons t ts ih => cases ts with
    | nil => intro vs x h; cases vs with
      | nil => cases h
      | cons v vs => cases vs with
        | nil => exact congrArg (fun y => [y]) (Ty1.get?_v _ _ _ h)
        | cons _ _ => cases h
    | cons u r => intro vs x h; cases vs with
      | nil => cases h
      | cons v vs =>
        obtain ⟨a, ha, h1⟩ := Option.bind_eq_some_iff.1 h
        obtain ⟨b, hb, h2⟩ := Option.bind_eq_some_iff.1 h1
        rw [← Option.some.inj h2]
        show t.v a :: Sig.cells (u :: r) b = v :: vs
        rw [Ty1.get?_v _ _ _ ha, ih _ _ hb]

theorem Ty.get?_v (t : Ty) (v : Value) (x : t.T) (h : t.get? v = some x) : t.v x = v := by
  cases t with
  | one t => exact Ty1.get?_v _ _ _ h
  | agg ts =>
    cases v with
    | agg cs =>
      show Value.agg (Sig.cells ts x).toArray = _
      rw [Sig.get?_cells _ _ _ h]
    | _ => exact nomatch (show (none : Option (Sig ts)) = some x from h)

theorem Sg.get?_vals (ts : List Ty) : ∀ (vs : List Value) (x : Sg ts), Sg.get? ts vs = some x → Sg.vals ts x = vs := by
  induction ts with
  | nil => intro vs x h; cases vs with
    | nil => rfl
    | cons _ _ => cases h
  | cons t ts ih => cases ts with
    | nil => intro vs x h; cases vs with
      | nil => cases h
      | cons v vs => cases vs with
        | nil => exact congrArg (fun y => [y]) (Ty.get?_v _ _ _ h)
        | cons _ _ => cases h
    | cons u r => intro vs x h; cases vs with
      | nil => cases h
      | cons v vs =>
        obtain ⟨a, ha, h1⟩ := Option.bind_eq_some_iff.1 h
        obtain ⟨b, hb, h2⟩ := Option.bind_eq_some_iff.1 h1
        rw [← Option.some.inj h2]
        show t.v a :: Sg.vals (u :: r) b = v :: vs
        rw [Ty.get?_v _ _ _ ha, ih _ _ hb]

theorem Br_elim {b : Bool} {A B : Prop} (h : Br b A B) : (b = true ∧ A) ∨ (b = false ∧ B) := by
  cases b
  · exact .inr ⟨rfl, h⟩
  · exact .inl ⟨rfl, h⟩
theorem Br_ite (b : Bool) (A B : Prop) : Br b A B = if b = true then A else B := by cases b <;> rfl
theorem beq_eq {a b : Nat} (h : Nat.beq a b = true) : a = b := by simpa using h

/-! ### Slots -/

structure Fits (N : Nat) (E : Env) (a : Act) : Prop where
  size : a.tmps.size = N
  get : ∀ t v, E.get? t = some v → t < N ∧ a.tmps.getD t undef = v

theorem getD_set_eq {α : Type} (xs : Array α) (i : Nat) (v d : α) (h : i < xs.size) : (xs.setIfInBounds i v).getD i d = v := by
  simp [Array.getD, h]
theorem getD_set_ne' {α : Type} (xs : Array α) {i j : Nat} (v d : α) (h : i ≠ j) : (xs.setIfInBounds i v).getD j d = xs.getD j d := by
  simp only [Array.getD_eq_getD_getElem?, Array.getElem?_setIfInBounds]
  rw [if_neg h]

theorem Fits.cons {N : Nat} {E : Env} {a : Act} {d : Nat} {v : Value} (h : Fits N E a) (hd : d < N) (hv : a.tmps.getD d undef = v) : Fits N ((d, v) :: E) a := by
  refine ⟨h.size, fun t u hu => ?_⟩
  simp only [Env.get?] at hu
  split at hu
  · rename_i hb
    cases hu
    rw [← beq_eq hb]; exact ⟨hd, hv⟩
  · exact h.get t u hu
theorem Fits.put {N : Nat} {E : Env} {a : Act} {d : Option Tmp} {v : Value} (h : Fits N E a) (hd : ∀ t, d = some t → t < N) : Fits N (E.put d v) (a.put d v) := by
  cases d with
  | none => exact h
  | some t =>
    refine ⟨by simp [Act.put, h.size], fun u x hx => ?_⟩
    simp only [Env.put, Env.get?] at hx
    split at hx
    · rename_i hb
      cases hx
      have := beq_eq hb
      subst this
      exact ⟨hd _ rfl, getD_set_eq _ _ _ _ (by rw [h.size]; exact hd _ rfl)⟩
    · rename_i hb
      have hne : t ≠ u := fun e => by subst e; simp at hb
      exact ⟨(h.get u x hx).1, by simp only [Act.put]; rw [getD_set_ne' _ _ _ hne]; exact (h.get u x hx).2⟩
theorem put_defers {a : Act} {d : Option Tmp} {v : Value} : (a.put d v).defers = a.defers := by
  cases d <;> rfl
theorem put_frame {a : Act} {d : Option Tmp} {v : Value} {t : Nat} (h : d ≠ some t) : (a.put d v).tmps.getD t undef = a.tmps.getD t undef := by
  cases d with
  | none => rfl
  | some u => simp only [Act.put]; rw [getD_set_ne' _ _ _ (fun e => h (by rw [e]))]
theorem Fits.rho {N : Nat} {E : Env} {a : Act} (h : Fits N E a) {x : Operand} (hx : E.has x = true) : a.eval x = E.rho x := by
  cases x with
  | tmp t =>
    simp only [Env.has, Option.isSome_iff_exists] at hx
    obtain ⟨v, hv⟩ := hx
    simp only [Act.eval, Env.rho, hv]
    exact (h.get t v hv).2
  | _ => rfl
theorem hasAll_exec {N : Nat} {E : Env} {a : Act} (h : Fits N E a) {o : Oper} (hx : hasAll E o.op = true) : execOp a.eval o = execOp E.rho o := by
  simp only [hasAll, Bool.and_eq_true, List.all_eq_true] at hx
  refine execOp_congr o (fun cs b e => ?_) fun x hm => h.rho (hx.2 x (by simpa using hm))
  rw [e] at hx
  simp [noSel] at hx

/-! ### One operation -/

section
variable {P : Program} {F : Fx} {E : Env} {w : World} {K : Value → World → Prop}

theorem out_value {s : Sem Value} {v : Value} {w' : World} (h : s.run P w = .ok v w') (hk : K v w') : Out P K ((do pure (Next.value (← s)) : Sem Next).run P w) := by
  simp only [Sem.run_bind, h, Result.andThen_ok, Sem.run_pure, Out]; exact hk
theorem out_unit {s : Sem Unit} {w' : World} (h : s.run P w = .ok () w') (hk : K undef w') : Out P K ((do s; pure Next.skip : Sem Next).run P w) := by
  simp only [Sem.run_bind, h, Result.andThen_ok, Sem.run_pure, Out]; exact hk

theorem run_isAgg {t : TypeId} {d : TypeDesc} (h : P.underlying t = some d) : (isAgg t).run P w = .ok (isAggD (some d)) w := by
  simp only [isAgg, Sem.run_bind, run_underlying h, Result.andThen_ok]
  cases d <;> rfl
theorem szOf_info {t : TypeId} {n : Nat} (h : szOf P t = some n) : ∃ i, P.info? t = some i ∧ i.size = n := by
  simpa [szOf] using h
theorem run_size {t : TypeId} {n : Nat} (h : szOf P t = some n) : (sizeOf t).run P w = .ok n w := by
  obtain ⟨i, hi, rfl⟩ := szOf_info h
  simp [sizeOf, run_typeInfo w hi]
theorem run_loadOne {a : Addr} {v : Value} (h : w.cell? a = some v) : (load a).run P w = .ok v w := by
  simp [load, Sem.run, h]

theorem ldL_run {a : Addr} {K : List Value → Prop} : ∀ (ts : List Ty1) (i : Nat), ldL w a i ts K → ∃ l : List Value, l.length = ts.length ∧ (∀ j v, l[j]? = some v → w.cell? (a.add (i + j)) = some v) ∧ K l
  | [], _, h => ⟨[], rfl, by simp, h⟩
  | t :: ts, i, h => by
    obtain ⟨x, hx, hr⟩ := h
    obtain ⟨l, h1, h2, h3⟩ := ldL_run ts (i + 1) hr
    refine ⟨t.v x :: l, by simp [h1], fun j v hj => ?_, h3⟩
    cases j with
    | zero => simp at hj; subst hj; simpa using hx
    | succ j => have := h2 j v (by simpa using hj); rw [show i + (j + 1) = i + 1 + j by omega]; exact this

theorem ldV_run {t : TypeId} {x : Value} {K : Value → Prop} (h : ldV P t x w K) : ∃ v, (Instr.loadAt t x).run P w = .ok v w ∧ K v := by
  unfold ldV at h
  split at h
  · rename_i a
    have e : ∀ v, (loadVar t a).run P w = .ok v w → (Instr.loadAt t (.pointer (some a))).run P w = .ok v w := fun v hv => by
      simp only [Instr.loadAt, Instr.sureAddr, Sem.run_bind, Sem.run_pure, Result.andThen_ok]; exact hv
    split at h
    · rename_i d n hd hn
      have ha := run_isAgg (P := P) (w := w) hd
      split at h
      · rename_i hf
        obtain ⟨x, hx, hk⟩ := h
        refine ⟨_, e _ ?_, hk⟩
        simp only [loadVar, Sem.run_bind, ha, hf, Result.andThen_ok, Bool.false_eq_true, if_false, run_loadOne hx]
      · rename_i ht
        split at h
        · rename_i ts _
          split at h
          · rename_i hlen
            obtain ⟨l, h1, h2, h3⟩ := ldL_run ts 0 h
            refine ⟨_, e _ ?_, h3⟩
            have hl : l.length = n := by rw [h1]; exact beq_eq hlen
            have := run_loadCells_list (P := P) w a l (fun j v hj => by simpa using h2 j v hj)
            simp only [loadVar, Sem.run_bind, ha, ht, Result.andThen_ok, if_true, run_size hn, ← hl, this, Sem.run_pure]
          · exact h.elim
        · obtain ⟨x, hx, hk⟩ := h
          exact ⟨.agg x, e _ hx, hk⟩
    · exact h.elim
  · exact h.elim

theorem run_storeOne {a : Addr} {v : Value} (h : CanSt w a) (hv : one1 v = true) : (store a v).run P w = .ok () (w.setCell a v) := by
  obtain ⟨⟨o, ho⟩, hf⟩ := h
  cases v <;> simp [one1] at hv <;> simp [store, Sem.run, ho, hf]
theorem stL_run {a : Addr} {K : World → Prop} : ∀ (vs : List Value) (i : Nat) (w : World), stL a i vs w K → ∃ w', (storeCells a vs i).run P w = .ok () w' ∧ K w'
  | [], _, w, h => ⟨w, by simp [storeCells], h⟩
  | v :: r, i, w, h => by
    rcases Br_elim h with ⟨hv, hc, hr⟩ | ⟨_, hn⟩
    · obtain ⟨w', h1, h2⟩ := stL_run r (i + 1) _ hr
      exact ⟨w', by simp only [storeCells, Sem.run_bind, run_storeOne hc hv, Result.andThen_ok]; exact h1, h2⟩
    · exact hn.elim
theorem stV_run {t : TypeId} {x y : Value} {K : World → Prop} (h : stV P t x y w K) : ∃ w', (Instr.storeAt t x y).run P w = .ok () w' ∧ K w' := by
  unfold stV at h
  split at h
  · rename_i a
    have e : ∀ w', (storeVar t a y).run P w = .ok () w' → (Instr.storeAt t (.pointer (some a)) y).run P w = .ok () w' := fun v hv => by
      simp only [Instr.storeAt, Instr.sureAddr, Sem.run_bind, Sem.run_pure, Result.andThen_ok]; exact hv
    split at h
    · rename_i d n hd hn
      split at h
      · split at h
        · rename_i hn1
          rcases Br_elim h with ⟨hv, hc, hk⟩ | ⟨_, hf⟩
          · refine ⟨_, e _ ?_, hk⟩
            have h1 : y.cells = #[y] := by cases y <;> simp [one1] at hv <;> rfl
            have h2 : n = 1 := beq_eq hn1
            subst h2
            have hs : (store (a.add 0) y).run P w = .ok () (w.setCell a y) := by simpa [Addr.add] using run_storeOne (P := P) hc hv
            simp only [storeVar, Sem.run_bind, run_size hn, Result.andThen_ok, h1]
            simp [storeCells, hs]
          · exact hf.elim
        · exact h.elim
      · split at h
        · rename_i cs
          split at h
          · rename_i hlen
            obtain ⟨w', h1, h2⟩ := stL_run (P := P) _ _ _ h
            refine ⟨w', e _ ?_, h2⟩
            have hl : cs.size = n := beq_eq hlen
            simp only [storeVar, Sem.run_bind, run_size hn, Result.andThen_ok, Value.cells, hl]
            simpa using h1
          · exact h.elim
        · obtain ⟨w', h1, h2⟩ := h
          exact ⟨w', e _ h1, h2⟩
    · exact h.elim
  · exact h.elim

theorem runV_out {t : TypeId} {s : Sem Value} (h : runV P false t s w K) : Out P K ((do pure (Next.value (← s)) : Sem Next).run P w) := by
  obtain ⟨x, w', hr, hk⟩ := h
  exact out_value hr hk
theorem runU_out {s : Sem Unit} (h : runU P s w K) : Out P K ((do s; pure Next.skip : Sem Next).run P w) := by
  obtain ⟨w', hr, hk⟩ := h
  exact out_unit hr hk
end
end Sh
end Go.Proofs.YtdchpkbpnfoknaaDoor

/- One operation: the formula of 'Sh' implies what the model's operation does. Condition: the functions that may be called have a body. -/
namespace Go.Proofs.YtdchpkbpnfoknaaDoor
namespace Sh

/-- It leaves the world alone, and what it yields does not hang on the world. -/
def Pu {α : Type} (s : Sem α) : Prop := ∀ (P : Program) (w : World) (x : α) (w' : World), s.run P w = .ok x w' → w' = w ∧ ∀ w2, s.run P w2 = .ok x w2

theorem Pu.pure {α : Type} (a : α) : Pu (Pure.pure a : Sem α) := by
  intro P w x w' h
  simp only [Sem.run_pure, Result.ok.injEq] at h
  obtain ⟨rfl, rfl⟩ := h
  exact ⟨rfl, fun _ => rfl⟩
theorem Pu.never {α : Type} {s : Sem α} (h : ∀ P w, ∃ x w', s.run P w = .halt x w') : Pu s := by
  intro P w x w' hr
  obtain ⟨y, w'', hy⟩ := h P w
  rw [hy] at hr
  cases hr
theorem Pu.stuck {α : Type} (t : String) : Pu (Go.stuck t : Sem α) := Pu.never fun _ w => ⟨_, w, rfl⟩
theorem Pu.unsupported {α : Type} (t : Unsupported) : Pu (Go.unsupported t : Sem α) := Pu.never fun _ w => ⟨_, w, rfl⟩
theorem Pu.bounds {α : Type} (k : IntKind) (x y : Int) (c : BoundsCode) : Pu (boundsPanic k x y c : Sem α) := Pu.never fun P w => by
  obtain ⟨s, w', h⟩ := run_boundsPanic (P := P) (w := w) (α := α) k x y c
  exact ⟨_, w', h⟩
theorem Pu.bind {α β : Type} {s : Sem α} {f : α → Sem β} (h : Pu s) (hf : ∀ a, Pu (f a)) : Pu (s >>= f) := by
  intro P w x w' hr
  simp only [Sem.run_bind] at hr
  cases e : s.run P w with
  | halt y w'' => rw [e] at hr; simp [Result.andThen] at hr
  | ok a w'' =>
    rw [e] at hr
    simp only [Result.andThen_ok] at hr
    obtain ⟨rfl, h1⟩ := h P w a w'' e
    obtain ⟨rfl, h2⟩ := hf a P w'' x w' hr
    exact ⟨rfl, fun w2 => by simp only [Sem.run_bind, h1 w2, Result.andThen_ok, h2 w2]⟩
theorem Pu.program : Pu Go.program := by
  intro P w x w' h
  simp only [run_program, Result.ok.injEq] at h
  obtain ⟨rfl, rfl⟩ := h
  exact ⟨rfl, fun _ => rfl⟩
theorem Pu.error {α : Type} (m : String) : Pu (runtimePanic (.error m) : Sem α) := Pu.never fun _ w => ⟨_, w, rfl⟩
theorem Pu.typeInfo (t : TypeId) : Pu (Go.typeInfo t) := Pu.bind Pu.program fun _ => by
  split
  · exact Pu.pure _
  · exact Pu.stuck _
theorem Pu.underlying (t : TypeId) : Pu (Go.underlying t) := Pu.bind Pu.program fun _ => by
  split
  · exact Pu.pure _
  · exact Pu.stuck _
theorem Pu.zeroValue (t : TypeId) : Pu (Go.zeroValue t) := by
  unfold Go.zeroValue
  refine Pu.bind (Pu.typeInfo t) fun i => ?_
  split
  · exact Pu.pure _
  · first | exact Pu.stuck _ | exact Pu.unsupported _
theorem Pu.sizeOf (t : TypeId) : Pu (Go.sizeOf t) := Pu.bind (Pu.typeInfo t) fun _ => Pu.pure _
theorem Pu.isAgg (t : TypeId) : Pu (Go.isAgg t) := Pu.bind (Pu.underlying t) fun d => by split <;> exact Pu.pure _
theorem Pu.part (t : TypeId) (cs : Array Value) (o : Nat) : Pu (Go.part t cs o) := Pu.bind (Pu.isAgg t) fun b => by
  split
  · exact Pu.bind (Pu.sizeOf t) fun _ => Pu.pure _
  · split
    · exact Pu.pure _
    · exact Pu.stuck _
theorem Pu.asIntOf (v : Value) : Pu (Go.asIntOf v) := by
  unfold Go.asIntOf
  split
  · exact Pu.pure _
  · exact Pu.unsupported _
  · exact Pu.stuck _
theorem Pu.ite {α : Type} {c : Prop} [Decidable c] {s t : Sem α} (h : Pu s) (k : Pu t) : Pu (if c then s else t) := by
  split
  · exact h
  · exact k

section
variable {P : Program} {F : Fx} {E : Env} {w : World} {K : Value → World → Prop}

theorem pu_out {s : Sem Value} (hs : Pu s) (h : Out P K ((do pure (Next.value (← s)) : Sem Next).run P w)) :
    ∃ v, (∀ w2, (do pure (Next.value (← s)) : Sem Next).run P w2 = .ok (.value v) w2) ∧ K v w := by
  simp only [Sem.run_bind] at h ⊢
  cases e : s.run P w with
  | halt y w'' => rw [e] at h; exact h.elim
  | ok v w'' =>
    rw [e] at h
    obtain ⟨rfl, h1⟩ := hs P w v w'' e
    exact ⟨v, fun w2 => by rw [h1 w2]; rfl, h⟩

theorem out_of_pu {s : Sem Next} (h : ∃ v, (∀ w2, s.run P w2 = .ok (.value v) w2) ∧ K v w) : Out P K (s.run P w) := by
  obtain ⟨v, h1, h2⟩ := h
  rw [h1 w]; exact h2

theorem pu_binInt (op : BinOp) (t : TypeId) (x y : Operand) (k k' : IntKind) (a b : Int) : Pu (do eqGuard op t x y (.int k a) (.int k' b); binOp op t (.int k a) (.int k' b)) := by
  refine Pu.bind ?_ fun _ => ?_
  · cases op <;> exact Pu.pure _
  · cases op <;> simp only [binOp] <;> (try (refine Pu.ite (Pu.stuck _) ?_)) <;>
      first
      | exact Pu.pure _
      | exact Pu.stuck _
      | (simp only [Op.intArith]; exact Pu.pure _)
      | (simp only [Op.intDiv]; exact Pu.ite (Pu.error _) (Pu.pure _))
      | (simp only [Op.intBits]; exact Pu.pure _)
      | (simp only [Op.intCmp]; first | exact Pu.pure _ | exact Pu.stuck _)
      | (simp only [Op.shift]; exact Pu.ite (Pu.error _) (Pu.pure _))
theorem pu_binStr (op : BinOp) (t : TypeId) (x y : Operand) (a b : ByteArray) : Pu (do eqGuard op t x y (.string a) (.string b); binOp op t (.string a) (.string b)) := by
  refine Pu.bind ?_ fun _ => ?_
  · cases op <;> exact Pu.pure _
  · cases op <;> simp only [binOp, Op.stringOp] <;> first | exact Pu.pure _ | exact Pu.stuck _ | exact Pu.ite (Pu.unsupported _) (Pu.pure _)
theorem pu_equalInBool (n : Nat) (t : TypeId) (a b : Bool) : Pu (Op.equalIn (n + 1) t (.bool a) (.bool b)) := by
  simp only [Op.equalIn]
  refine Pu.bind (Pu.underlying t) fun d => ?_
  cases d <;> first | exact Pu.pure _ | exact Pu.stuck _
theorem pu_equalBool (t : TypeId) (a b : Bool) : Pu (Op.equal t (.bool a) (.bool b)) := pu_equalInBool 9999 t a b
theorem pu_binBool (op : BinOp) (t : TypeId) (x y : Operand) (a b : Bool) : Pu (do eqGuard op t x y (.bool a) (.bool b); binOp op t (.bool a) (.bool b)) := by
  refine Pu.bind ?_ fun _ => ?_
  · cases op <;> exact Pu.pure _
  · cases op <;> simp only [binOp] <;> first | exact Pu.stuck _ | exact Pu.bind (pu_equalBool t a b) fun _ => Pu.pure _
theorem pu_bin {op : BinOp} {t : TypeId} {x y : Operand} {a b : Value} (h : sameKind a b = true) : Pu (do eqGuard op t x y a b; binOp op t a b) := by
  cases a <;> cases b <;> simp only [sameKind, Bool.false_eq_true] at h
  · exact pu_binBool _ _ _ _ _ _
  · exact pu_binInt _ _ _ _ _ _ _ _
  · exact pu_binStr _ _ _ _ _ _
theorem pu_unary (op : UnOp) (x : Value) : Pu (Op.unary op x) := by
  unfold Op.unary
  split <;> first | exact Pu.pure _ | exact Pu.stuck _ | exact Pu.unsupported _ | skip
theorem pu_extract (t : Value) (i : Nat) : Pu (Instr.extract t i) := by
  unfold Instr.extract
  split
  · split
    · exact Pu.pure _
    · exact Pu.stuck _
  · exact Pu.stuck _
theorem pu_field (t : TypeId) (x : Value) (f : Nat) : Pu (Instr.field t x f) := by
  unfold Instr.field
  refine Pu.bind (Pu.underlying t) fun d => ?_
  split
  · split
    · refine Pu.bind ?_ fun _ => Pu.part _ _ _
      unfold asAgg
      split
      · exact Pu.pure _
      · exact Pu.stuck _
    · exact Pu.stuck _
  · exact Pu.stuck _
theorem Pu.mapL {α β : Type} {f : α → Sem β} (hf : ∀ a, Pu (f a)) : ∀ l : List α, Pu (l.mapM f)
  | [] => by rw [List.mapM_nil]; exact Pu.pure _
  | a :: l => by rw [List.mapM_cons]; exact Pu.bind (hf a) fun _ => Pu.bind (Pu.mapL hf l) fun _ => Pu.pure _
theorem Pu.mapA {α β : Type} {f : α → Sem β} (hf : ∀ a, Pu (f a)) (l : Array α) : Pu (l.mapM f) := by
  rw [Array.mapM_eq_mapM_toList]
  exact Pu.bind (Pu.mapL hf _) fun _ => Pu.pure _
theorem pu_build (t : TypeId) (parts : Array (Nat × Value)) : Pu (Instr.build t parts) := by
  unfold Instr.build
  refine Pu.bind (Pu.zeroValue t) fun z => Pu.bind (Pu.underlying t) fun d => ?_
  split
  · refine Pu.bind (Pu.mapA (fun f => Pu.bind (Pu.sizeOf _) fun _ => Pu.pure _) _) fun places => ?_
    split
    · exact Pu.pure _
    · exact Pu.stuck _
  · refine Pu.bind (Pu.sizeOf _) fun n => ?_
    split
    · exact Pu.pure _
    · exact Pu.stuck _
  · exact Pu.stuck _
theorem pu_index (t : TypeId) (x i : Value) : Pu (Instr.index t x i) := by
  unfold Instr.index
  refine Pu.bind (Pu.asIntOf i) fun ki => ?_
  obtain ⟨k, n⟩ := ki
  refine Pu.bind (Pu.underlying t) fun d => ?_
  split
  · exact Pu.ite (Pu.bind (Pu.sizeOf _) fun _ => Pu.part _ _ _) (Pu.bounds _ _ _ _)
  · split
    · exact Pu.pure _
    · exact Pu.bounds _ _ _ _
  · exact Pu.stuck _
theorem pu_sure (x : Value) : Pu (Instr.sureAddr x) := by
  unfold Instr.sureAddr
  split
  · exact Pu.pure _
  · exact Pu.stuck _
theorem pu_indexAt (t : TypeId) (x i : Value) : Pu (Instr.indexAt t x i) := by
  unfold Instr.indexAt
  refine Pu.bind (Pu.asIntOf i) fun ki => ?_
  obtain ⟨k, n⟩ := ki
  refine Pu.bind (Pu.underlying t) fun d => ?_
  have tail : ∀ (base : Option Addr) (len : Nat) (elem : TypeId), Pu (do
      let tiny := len ≤ 1 && (match ← Go.underlying t with | .array .. => true | _ => false)
      match base with
      | some a =>
        if 0 ≤ n ∧ n < len then pure (Value.pointer (some (a.add (n.toNat * (← Go.sizeOf elem)))))
        else if tiny then Go.unsupported (.noEntry "op/indexAddr.an index out of range at an array of length 0 or 1 (ledger 616)")
        else boundsPanic k n len .index
      | none => boundsPanic k n 0 .index) := by
    intro base len elem
    refine Pu.bind (Pu.underlying t) fun d2 => ?_
    cases base with
    | none => exact Pu.bounds _ _ _ _
    | some a =>
      refine Pu.ite (Pu.bind (Pu.sizeOf _) fun _ => Pu.pure _) ?_
      exact Pu.ite (Pu.unsupported _) (Pu.bounds _ _ _ _)
  dsimp only
  split
  · exact Pu.bind (pu_sure _) fun _ => Pu.bind (Pu.pure _) fun bl => tail bl.1 bl.2.1 bl.2.2
  · exact Pu.bind (Pu.pure _) fun bl => tail bl.1 bl.2.1 bl.2.2
  · exact Pu.bind (Pu.stuck _) fun bl => tail bl.1 bl.2.1 bl.2.2
theorem pu_bound (x : Value) (y : Nat) (c : BoundsCode) : Pu (Instr.sliceBound x y c) := by
  unfold Instr.sliceBound
  refine Pu.bind (Pu.asIntOf x) fun ki => ?_
  obtain ⟨k, n⟩ := ki
  exact Pu.ite (Pu.pure _) (Pu.bounds _ _ _ _)
theorem pu_bounds (s : Bool) (l c : Nat) (lo hi mx : Option Value) : Pu (Instr.sliceBounds s l c lo hi mx) := by
  unfold Instr.sliceBounds
  have t3 : ∀ (m h l : Nat), Pu (Pure.pure (l, h, m) : Sem (Nat × Nat × Nat)) := fun _ _ _ => Pu.pure _
  have t2 : ∀ (m h : Nat), Pu (do
      let l ← match lo with
        | some v => Instr.sliceBound v h (if mx.isSome then .slice3C else .sliceB)
        | none => pure 0
      pure (l, h, m)) := by
    intro m h
    cases lo with
    | none => exact Pu.bind (Pu.pure _) fun _ => t3 _ _ _
    | some v => exact Pu.bind (pu_bound _ _ _) fun _ => t3 _ _ _
  cases mx with
  | none => cases hi with
    | none => exact Pu.bind (Pu.pure _) fun m => Pu.bind (Pu.pure _) fun h => t2 m h
    | some v => exact Pu.bind (Pu.pure _) fun m => Pu.bind (pu_bound _ _ _) fun h => t2 m h
  | some u => cases hi with
    | none => exact Pu.bind (pu_bound _ _ _) fun m => Pu.bind (Pu.stuck _) fun h => t2 m h
    | some v => exact Pu.bind (pu_bound _ _ _) fun m => Pu.bind (pu_bound _ _ _) fun h => t2 m h
theorem Pu.asAddr (v : Value) : Pu (Go.asAddr v) := by
  unfold Go.asAddr
  split
  · exact Pu.pure _
  · exact Pu.never fun P w => ⟨_, w, rfl⟩
  · exact Pu.stuck _
theorem pu_slice (t : TypeId) (x : Value) (lo hi mx : Option Value) : Pu (Instr.slice t x lo hi mx) := by
  unfold Instr.slice
  refine Pu.bind (Pu.underlying t) fun d => ?_
  split
  · split
    · exact Pu.stuck _
    · exact Pu.bind (pu_bounds _ _ _ _ _ _) fun _ => Pu.pure _
  · exact Pu.bind (pu_bounds _ _ _ _ _ _) fun _ => Pu.bind (Pu.sizeOf _) fun _ => Pu.pure _
  · refine Pu.bind (Pu.asAddr _) fun a => Pu.bind (Pu.underlying _) fun d2 => ?_
    split
    · exact Pu.bind (pu_bounds _ _ _ _ _ _) fun _ => Pu.bind (Pu.sizeOf _) fun _ => Pu.pure _
    · exact Pu.stuck _
  · exact Pu.stuck _
theorem pu_sliceAt (t : TypeId) (x : Value) (lo hi mx : Option Value) : Pu (Instr.sliceAt t x lo hi mx) := by
  unfold Instr.sliceAt
  refine Pu.bind (Pu.underlying t) fun d => ?_
  split
  · exact Pu.bind (pu_sure _) fun a => Pu.bind (pu_bounds _ _ _ _ _ _) fun _ => Pu.bind (Pu.sizeOf _) fun _ => Pu.pure _
  · exact pu_slice _ _ _ _ _
end
end Sh
end Go.Proofs.YtdchpkbpnfoknaaDoor

/- One operation, all kinds: the formula of 'Sh' implies what the model's operation does. Condition: the functions that may be called have a body. -/
namespace Go.Proofs.YtdchpkbpnfoknaaDoor
namespace Sh
section
variable {P : Program} {F : Fx} {E : Env} {w : World} {K : Value → World → Prop}

theorem pu_lenStr (ts : Array TypeId) (t : TypeId) (args : Array Value) (s : ByteArray) (h : args[0]? = some (.string s)) : Pu (Builtin.len_ ts t args) := by
  unfold Builtin.len_
  cases h1 : ts[0]? with
  | none => exact Pu.stuck _
  | some t0 =>
    simp only [h]
    refine Pu.bind (Pu.underlying _) fun d => ?_
    cases d <;> first | exact Pu.pure _ | exact Pu.stuck _ | (refine Pu.bind (Pu.underlying _) fun d2 => ?_; cases d2 <;> first | exact Pu.pure _ | exact Pu.stuck _)
theorem pu_lenSlc (ts : Array TypeId) (t : TypeId) (args : Array Value) (p : Option Addr) (l c : Nat) (h : args[0]? = some (.slice p l c)) : Pu (Builtin.len_ ts t args) := by
  unfold Builtin.len_
  cases h1 : ts[0]? with
  | none => exact Pu.stuck _
  | some t0 =>
    simp only [h]
    refine Pu.bind (Pu.underlying _) fun d => ?_
    cases d <;> first | exact Pu.pure _ | exact Pu.stuck _ | (refine Pu.bind (Pu.underlying _) fun d2 => ?_; cases d2 <;> first | exact Pu.pure _ | exact Pu.stuck _)
theorem pu_capSlc (ts : Array TypeId) (t : TypeId) (args : Array Value) (p : Option Addr) (l c : Nat) (h : args[0]? = some (.slice p l c)) : Pu (Builtin.cap_ ts t args) := by
  unfold Builtin.cap_
  cases h1 : ts[0]? with
  | none => exact Pu.stuck _
  | some t0 =>
    simp only [h]
    refine Pu.bind (Pu.underlying _) fun d => ?_
    cases d <;> first | exact Pu.pure _ | exact Pu.stuck _ | (refine Pu.bind (Pu.underlying _) fun d2 => ?_; cases d2 <;> first | exact Pu.pure _ | exact Pu.stuck _)
theorem isInts_cons {v : Value} {r : List Value} (h : isInts (v :: r) = true) : (∃ k n, v = .int k n) ∧ isInts r = true := by
  cases v <;> simp only [isInts, Bool.false_eq_true] at h
  exact ⟨⟨_, _, rfl⟩, h⟩
theorem pu_minFold : ∀ (r : List Value) (k : IntKind) (n : Int), isInts r = true → Pu (r.foldlM Builtin.min2 (.int k n))
  | [], _, _, _ => Pu.pure _
  | v :: r, k, n, h => by
    obtain ⟨⟨k', n', rfl⟩, h2⟩ := isInts_cons h
    simp only [List.foldlM_cons, Builtin.min2, pure_bind]
    exact pu_minFold r _ _ h2
theorem pu_maxFold : ∀ (r : List Value) (k : IntKind) (n : Int), isInts r = true → Pu (r.foldlM Builtin.max2 (.int k n))
  | [], _, _, _ => Pu.pure _
  | v :: r, k, n, h => by
    obtain ⟨⟨k', n', rfl⟩, h2⟩ := isInts_cons h
    simp only [List.foldlM_cons, Builtin.max2, pure_bind]
    exact pu_maxFold r _ _ h2
theorem pu_min (ts : Array TypeId) (t : TypeId) (args : Array Value) (h : isInts args.toList = true) : Pu (Builtin.min_ ts t args) := by
  unfold Builtin.min_
  generalize args.toList = l at h
  cases l with
  | nil => exact Pu.stuck _
  | cons v r =>
    obtain ⟨⟨k, n, rfl⟩, h2⟩ := isInts_cons h
    exact pu_minFold r k n h2
theorem pu_max (ts : Array TypeId) (t : TypeId) (args : Array Value) (h : isInts args.toList = true) : Pu (Builtin.max_ ts t args) := by
  unfold Builtin.max_
  generalize args.toList = l at h
  cases l with
  | nil => exact Pu.stuck _
  | cons v r =>
    obtain ⟨⟨k, n, rfl⟩, h2⟩ := isInts_cons h
    exact pu_maxFold r k n h2

/-- What an operation that only computes leaves. -/
def Qv (P : Program) (s : Sem Next) (w : World) (K : Value → World → Prop) : Prop := ∃ v, (∀ w2, s.run P w2 = .ok (.value v) w2) ∧ K v w

theorem qv_pure {v : Value} (h : Out P K ((Pure.pure (Next.value v) : Sem Next).run P w)) : Qv P (Pure.pure (Next.value v)) w K := ⟨v, fun _ => rfl, h⟩
theorem qv_of {s : Sem Value} (hs : Pu s) (h : Out P K ((do pure (Next.value (← s)) : Sem Next).run P w)) : Qv P (do pure (Next.value (← s))) w K := pu_out hs h
/-- A value that this computation yields in every world. -/
theorem qv_val {s : Sem Value} {v : Value} (hs : ∀ w2, s.run P w2 = .ok v w2) (h : K v w) : Qv P (do pure (Next.value (← s))) w K :=
  ⟨v, fun w2 => by simp only [Sem.run_bind, hs w2, Result.andThen_ok, Sem.run_pure], h⟩

theorem convert_int {src dst : TypeId} {k k' : IntKind} {n : Int} (h : P.underlying dst = some (.int k')) (w : World) :
    (convert src dst (.int k n)).run P w = (do let _ ← underlying src; pure (Value.int k' (k'.wrap n)) : Sem Value).run P w := by
  unfold convert
  simp only [Sem.run_bind]
  cases (underlying src).run P w with
  | halt => rfl
  | ok d w' =>
    simp only [Result.andThen_ok, run_underlying h, Conv.intToInt]
theorem qv_convert {src dst : TypeId} {k k' : IntKind} {n : Int} (hu : P.underlying dst = some (.int k'))
    (h : Out P K ((do pure (Next.value (← convert src dst (.int k n))) : Sem Next).run P w)) : Qv P (do pure (Next.value (← convert src dst (.int k n)))) w K := by
  have e : ∀ w, (do pure (Next.value (← convert src dst (.int k n))) : Sem Next).run P w = (do pure (Next.value (← (do let _ ← underlying src; pure (Value.int k' (k'.wrap n)) : Sem Value))) : Sem Next).run P w := fun w => by
    simp only [Sem.run_bind, convert_int hu]
  rw [e] at h
  obtain ⟨v, h1, h2⟩ := pu_out (Pu.bind (Pu.underlying src) fun _ => Pu.pure _) h
  exact ⟨v, fun w2 => by rw [e]; exact h1 w2, h2⟩

section
variable {G : Prop}
theorem equalIn_ptr {t e : TypeId} (hu : P.underlying t = some (.pointer e)) (p : Option Addr) (w : World) : (Op.equal t (.pointer p) (.pointer none)).run P w = .ok p.isNone w := by
  show (Op.equalIn (9999 + 1) t (.pointer p) (.pointer none)).run P w = _
  generalize 9999 = n
  simp only [Op.equalIn, Sem.run_bind, run_underlying hu, Result.andThen_ok]
  cases p <;> rfl
theorem equalIn_slc {t e : TypeId} (hu : P.underlying t = some (.slice e)) (p : Option Addr) (l c l' c' : Nat) (w : World) : (Op.equal t (.slice p l c) (.slice none l' c')).run P w = .ok p.isNone w := by
  show (Op.equalIn (9999 + 1) t (.slice p l c) (.slice none l' c')).run P w = _
  generalize 9999 = n
  simp only [Op.equalIn, Sem.run_bind, run_underlying hu, Result.andThen_ok]
  cases p <;> rfl
theorem equalIn_iface {t : TypeId} {ms : Array (String × TypeId)} (hu : P.underlying t = some (.interface ms)) (u : TypeId) (v : Value) (w : World) : (Op.equal t (.iface u v) .nilIface).run P w = .ok false w := by
  show (Op.equalIn (9999 + 1) t (.iface u v) .nilIface).run P w = _
  generalize 9999 = n
  simp only [Op.equalIn, Sem.run_bind, run_underlying hu, Result.andThen_ok]
  rfl
theorem equalIn_nil {t : TypeId} {ms : Array (String × TypeId)} (hu : P.underlying t = some (.interface ms)) (w : World) : (Op.equal t .nilIface .nilIface).run P w = .ok true w := by
  show (Op.equalIn (9999 + 1) t .nilIface .nilIface).run P w = _
  generalize 9999 = n
  simp only [Op.equalIn, Sem.run_bind, run_underlying hu, Result.andThen_ok]
  rfl
theorem equalIn_func {t : TypeId} {a b c} (hu : P.underlying t = some (.func a b c)) (f : Fn) (x y : Array Value) (w : World) : (Op.equal t (.func f x y) .nilFunc).run P w = .ok false w := by
  show (Op.equalIn (9999 + 1) t (.func f x y) .nilFunc).run P w = _
  generalize 9999 = n
  simp only [Op.equalIn, Sem.run_bind, run_underlying hu, Result.andThen_ok]
  rfl
theorem equalIn_nilFunc {t : TypeId} {a b c} (hu : P.underlying t = some (.func a b c)) (w : World) : (Op.equal t .nilFunc .nilFunc).run P w = .ok true w := by
  show (Op.equalIn (9999 + 1) t .nilFunc .nilFunc).run P w = _
  generalize 9999 = n
  simp only [Op.equalIn, Sem.run_bind, run_underlying hu, Result.andThen_ok]
  rfl
theorem isC_spec {y : Operand} (h : isC y = true) : ∃ v, y = .const v := by
  cases y <;> first | exact ⟨_, rfl⟩ | cases h
theorem equalIn_map {t a b : TypeId} (hu : P.underlying t = some (.map a b)) (p : Option Nat) (w : World) : (Op.equal t (.map p) (.map none)).run P w = .ok p.isNone w := by
  show (Op.equalIn (9999 + 1) t (.map p) (.map none)).run P w = _
  generalize 9999 = n
  simp only [Op.equalIn, Sem.run_bind, run_underlying hu, Result.andThen_ok]
  cases p <;> rfl

theorem run_sizeOf' {t : TypeId} {d : TypeDesc} (h : P.underlying t = some d) (w : World) : (sizeOf t).run P w = .ok (P.cellsOf t) w := by
  unfold Program.underlying at h
  split at h <;> rename_i hi
  · exact run_sizeOf w hi
  · exact run_sizeOf w hi
  · cases h
theorem run_part_struct {t : TypeId} {fs : Array Field} (hu : P.underlying t = some (.struct fs)) (cs : Array Value) (off : Nat) (w : World) : (part t cs off).run P w = .ok (.agg (cs.extract off (off + P.cellsOf t))) w := by
  simp only [part, Sem.run_bind, run_isAgg hu, Result.andThen_ok, isAggD, if_true, run_sizeOf' hu, Sem.run_pure]
theorem run_eqFs : ∀ (n d : Nat) (xs ys : Array Value) (fs : List Field) (b : Bool), n ≤ d → eqFs P n xs ys fs = some b → ∀ w, (Op.eqFields (d + 1) xs ys fs).run P w = .ok b w
  | 0, _, _, _, _, _, _, h, w => by cases h
  | n + 1, d, xs, ys, [], b, _, h, w => by simp only [eqFs, Option.some.injEq] at h; subst h; rfl
  | n + 1, d, xs, ys, f :: r, b, hnd, h, w => by
    have step : ∀ (x y : Value) (c : Bool) (q : Bool), (∀ w, (part f.type xs f.offset).run P w = .ok x w) → (∀ w, (part f.type ys f.offset).run P w = .ok y w) → f.name ≠ "_" →
        (∀ w, (Op.equalIn (d + 1) f.type x y).run P w = .ok c w) → eqFs P n xs ys r = some q → (Op.eqFields (d + 1) xs ys (f :: r)).run P w = .ok (c && q) w := by
      intro x y c q hx hy hn he hq
      have ih := run_eqFs n d xs ys r q (by omega) hq w
      simp only [Op.eqFields, if_pos hn, Sem.run_bind, hx, hy, he, Result.andThen_ok]
      cases c
      · simp
      · simpa using ih
    have hp : isAggD (P.underlying f.type) = false → (∃ d, P.underlying f.type = some d) → ∀ (cs : Array Value) (v : Value), cs[f.offset]? = some v → ∀ w, (part f.type cs f.offset).run P w = .ok v w := fun ha hd cs v hv w => by
      obtain ⟨d, hd⟩ := hd
      rw [hd] at ha
      simp only [part, Sem.run_bind, run_isAgg hd, ha, Result.andThen_ok, Bool.false_eq_true, if_false, hv, Sem.run_pure]
    simp only [eqFs] at h
    split at h
    · cases h
    · rename_i hn
      split at h
      · rename_i fs' hu
        split at h
        · rename_i hst
          obtain ⟨p, hp', h2⟩ := Option.bind_eq_some_iff.1 h
          obtain ⟨q, hq, rfl⟩ := Option.map_eq_some_iff.1 h2
          refine step _ _ p q (run_part_struct hu xs _) (run_part_struct hu ys _) hn (fun w => ?_) hq
          have hf : P.fieldsOf f.type = fs' := by simp only [Program.fieldsOf, hu]
          rw [run_equalIn_struct w d f.type _ _ (by rw [hf]; exact hu) hst, hf]
          cases n with
          | zero => cases hp'
          | succ n =>
            obtain ⟨d', rfl⟩ : ∃ d', d = d' + 1 := ⟨d - 1, by omega⟩
            exact run_eqFs (n + 1) d' _ _ _ _ (by omega) hp' w
        · cases h
      · rename_i dd hns hu
        split at h
        · rename_i k0 k a k' b' hx hy
          split at h
          · rename_i e
            subst e
            obtain ⟨q, hq, rfl⟩ := Option.map_eq_some_iff.1 h
            exact step _ _ _ q (hp (by rw [hu]; rfl) ⟨_, hu⟩ _ _ hx) (hp (by rw [hu]; rfl) ⟨_, hu⟩ _ _ hy) hn (fun w => run_equalIn_int w _ _ _ _ _ _ hu) hq
          · cases h
        · rename_i a b' hx hy
          obtain ⟨q, hq, rfl⟩ := Option.map_eq_some_iff.1 h
          exact step _ _ _ q (hp (by rw [hu]; rfl) ⟨_, hu⟩ _ _ hx) (hp (by rw [hu]; rfl) ⟨_, hu⟩ _ _ hy) hn (fun w => run_equalIn_bool' w _ _ _ _ hu) hq
        · rename_i a b' hx hy
          obtain ⟨q, hq, rfl⟩ := Option.map_eq_some_iff.1 h
          exact step _ _ _ q (hp (by rw [hu]; rfl) ⟨_, hu⟩ _ _ hx) (hp (by rw [hu]; rfl) ⟨_, hu⟩ _ _ hy) hn (fun w => run_equalIn_string w _ _ _ _ hu) hq
        · cases h
      · cases h
theorem eqAgg_run {t : TypeId} {xs ys : Array Value} {b : Bool} (h : eqAgg P t xs ys = some b) : P.eqGuardType P.depth t = false ∧ ∀ w, (Op.equalIn 10000 t (.agg xs) (.agg ys)).run P w = .ok b w := by
  unfold eqAgg at h
  split at h
  · rename_i fs hu
    split at h
    · rename_i h1 h2
      refine ⟨h2, fun w => ?_⟩
      have hf : P.fieldsOf t = fs := by simp only [Program.fieldsOf, hu]
      show (Op.equalIn (9999 + 1) t (.agg xs) (.agg ys)).run P w = _
      rw [run_equalIn_struct w 9999 t xs ys (by rw [hf]; exact hu) h1, hf]
      exact run_eqFs 60 9998 _ _ _ _ (by decide) h w
    · cases h
  · cases h

theorem binV_elim {op : BinOp} {t : TypeId} {x y : Operand} {a b : Value} {D O : Prop} (h : binV P op t (isC y) a b (fun v => K v w) D O) (hD : D → G) (hO : O → G)
    (hq : Qv P (do pure (Next.value (← (do eqGuard op t x y a b; binOp op t a b)))) w K → G) : G := by
  have qv : ∀ v, (∀ w2, (do eqGuard op t x y a b; binOp op t a b : Sem Value).run P w2 = .ok v w2) → K v w → G := fun v h1 h2 => hq (qv_val h1 h2)
  unfold binV at h
  split at h
  · split at h
    · split at h
      · rename_i e
        subst e
        exact qv _ (fun w2 => by simp [eqGuard, binOp, Op.intDiv, h.1]) h.2
      · exact h.elim
    · exact hD h
  · split at h
    · split at h
      · rename_i e
        subst e
        exact qv _ (fun w2 => by simp [eqGuard, binOp, Op.intDiv, h.1]) h.2
      · exact h.elim
    · exact hD h
  · split at h
    · refine qv _ (fun w2 => ?_) h.2
      have := h.1
      simp [eqGuard, binOp, Op.shift, Int.not_lt.2 this]
    · exact hD h
  · split at h
    · refine qv _ (fun w2 => ?_) h.2
      have := h.1
      simp [eqGuard, binOp, Op.shift, Int.not_lt.2 this]
    · exact hD h
  · split at h
    · refine qv _ (fun w2 => ?_) h.2
      have := h.1
      have h2 : ¬ (((_ : ByteArray).size + (_ : ByteArray).size : Nat) : Int) > IntKind.i64.max := Int.not_lt.2 this
      simp only [eqGuard, binOp, Op.stringOp, Sem.run_bind]
      show (Sem.run P (if _ then _ else _) w2) = _
      rw [if_neg h2]
      rfl
    · exact hD h
  · split at h
    · exact hD h
    · exact hD h
    · exact hD h
    · split at h
      · rename_i hu
        exact qv _ (fun w2 => by simp only [eqGuard, binOp, Sem.run_bind, Sem.run_pure]; simp [equalIn_ptr hu]) h
      · exact hO h
    · split at h
      · rename_i hu
        exact qv _ (fun w2 => by simp only [eqGuard, binOp, Sem.run_bind, Sem.run_pure]; simp [equalIn_slc hu]) h
      · exact hO h
    · split at h
      · rename_i hu
        exact qv _ (fun w2 => by simp only [eqGuard, binOp, Sem.run_bind, Sem.run_pure]; simp [equalIn_map hu]) h
      · exact hO h
    · split at h
      · rename_i hc hu
        exact qv _ (fun w2 => by simp only [eqGuard, binOp, Sem.run_bind, Sem.run_pure]; simp [equalIn_iface hu]) h
      · exact hO h
    · split at h
      · rename_i hc hu
        obtain ⟨c, rfl⟩ := isC_spec hc
        exact qv _ (fun w2 => by simp only [eqGuard, binOp, Sem.run_bind, Sem.run_pure]; simp [equalIn_nil hu]) h
      · exact hO h
    · split at h
      · rename_i hc hu
        exact qv _ (fun w2 => by simp only [eqGuard, binOp, Sem.run_bind, Sem.run_pure]; simp [equalIn_func hu]) h
      · exact hO h
    · split at h
      · rename_i hc hu
        exact qv _ (fun w2 => by simp only [eqGuard, binOp, Sem.run_bind, Sem.run_pure]; simp [equalIn_nilFunc hu]) h
      · exact hO h
    · split at h
      · rename_i b hb
        obtain ⟨h1, h2⟩ := eqAgg_run hb
        exact qv _ (fun w2 => by simp only [Sem.run_bind, run_eqGuard_agg w2 _ _ _ _ _ _ h1, Result.andThen_ok, run_eql_struct, h2]) h
      · exact hO h
    · exact hO h
  · split at h
    · exact hD h
    · exact hD h
    · exact hD h
    · split at h
      · rename_i hu
        exact qv _ (fun w2 => by simp only [eqGuard, binOp, Sem.run_bind, Sem.run_pure]; simp [equalIn_ptr hu]) h
      · exact hO h
    · split at h
      · rename_i hu
        exact qv _ (fun w2 => by simp only [eqGuard, binOp, Sem.run_bind, Sem.run_pure]; simp [equalIn_slc hu]) h
      · exact hO h
    · split at h
      · rename_i hu
        exact qv _ (fun w2 => by simp only [eqGuard, binOp, Sem.run_bind, Sem.run_pure]; simp [equalIn_map hu]) h
      · exact hO h
    · split at h
      · rename_i hc hu
        exact qv _ (fun w2 => by simp only [eqGuard, binOp, Sem.run_bind, Sem.run_pure]; simp [equalIn_iface hu]) h
      · exact hO h
    · split at h
      · rename_i hc hu
        obtain ⟨c, rfl⟩ := isC_spec hc
        exact qv _ (fun w2 => by simp only [eqGuard, binOp, Sem.run_bind, Sem.run_pure]; simp [equalIn_nil hu]) h
      · exact hO h
    · split at h
      · rename_i hc hu
        exact qv _ (fun w2 => by simp only [eqGuard, binOp, Sem.run_bind, Sem.run_pure]; simp [equalIn_func hu]) h
      · exact hO h
    · split at h
      · rename_i hc hu
        exact qv _ (fun w2 => by simp only [eqGuard, binOp, Sem.run_bind, Sem.run_pure]; simp [equalIn_nilFunc hu]) h
      · exact hO h
    · split at h
      · rename_i b hb
        obtain ⟨h1, h2⟩ := eqAgg_run hb
        exact qv _ (fun w2 => by simp only [Sem.run_bind, run_eqGuard_agg w2 _ _ _ _ _ _ h1, Result.andThen_ok, run_neq_struct, h2]) h
      · exact hO h
    · exact hO h
  · exact hD h



theorem fdV_elim {t : TypeId} {x : Value} {f : Nat} {D : Prop} (h : fdV P t x f (fun v => K v w) D) (hD : D → G)
    (hq : Qv P (do pure (Next.value (← Instr.fieldAt t x f))) w K → G) : G := by
  unfold fdV at h
  split at h
  · split at h
    · rename_i fs hu
      split at h
      · rename_i fd hf
        split at h
        · rename_i n hn
          split at h
          · rename_i hb
            have hne : n ≠ 0 := fun e => by subst e; simp at hb
            refine hq (qv_val (fun w2 => ?_) h)
            simp only [Instr.fieldAt, Sem.run_bind, run_underlying hu, Result.andThen_ok, hf, Instr.sureAddr, Sem.run_pure, fieldPlace, run_size hn, if_neg hne]
          · exact hD h
        · exact hD h
      · exact hD h
    · exact hD h
  · exact hD h

theorem idxV_elim {t : TypeId} {c : Bool} {x y : Value} {D : Prop} (h : idxV P t c x y (fun v => K v w) D) (hD : D → G)
    (hq : Qv P (do pure (Next.value (← Instr.index t x y))) w K → G) : G := by
  unfold idxV at h
  split at h
  · rename_i s k i
    split at h
    · rename_i hu
      obtain ⟨h1, h2, hk⟩ := h
      refine hq (qv_val (fun w2 => ?_) hk)
      have hlt : i.toNat < s.size := by omega
      have hlt' : i.toNat < s.data.size := hlt
      have hg : s[i.toNat]? = some (s.data.getD i.toNat 0) := by
        rw [getElem?_pos s i.toNat hlt]
        simp only [Array.getD, hlt', dif_pos]
        rfl
      simp only [Instr.index, asIntOf, Sem.run_bind, Sem.run_pure, Result.andThen_ok, run_underlying hu, if_pos h1, hg, bAt]
    · exact hD h
  · rename_i cs k i
    split at h
    · rename_i len e hu
      split at h
      · rename_i d n hd hn
        split at h
        · rename_i hag
          obtain ⟨h1, h2, v, hv, hk⟩ := h
          refine hq (qv_val (fun w2 => ?_) hk)
          simp only [Instr.index, asIntOf, Sem.run_bind, Sem.run_pure, Result.andThen_ok, run_underlying hu, if_pos (And.intro h1 h2), run_size hn, part, run_isAgg hd, hag, Bool.false_eq_true, if_false, hv]
        · rename_i hag
          split at h
          · obtain ⟨h1, h2, v, hv, hk⟩ := h
            refine hq (qv_val (fun w2 => ?_) hk)
            simp only [Instr.index, asIntOf, Sem.run_bind, Sem.run_pure, Result.andThen_ok, run_underlying hu, if_pos (And.intro h1 h2), run_size hn, part, run_isAgg hd, hag, if_true, hv]
          · exact hD h
      · exact hD h
    · exact hD h
  · exact hD h

theorem idxA_elim {t : TypeId} {c : Bool} {x y : Value} {D : Prop} (h : idxA P t c x y (fun v => K v w) D) (hD : D → G)
    (hq : Qv P (do pure (Next.value (← Instr.indexAt t x y))) w K → G) : G := by
  unfold idxA at h
  split at h
  · rename_i p len cap k i
    split at h
    · rename_i e hu
      split at h
      · rename_i n hn
        obtain ⟨h1, h2, a, rfl, hk⟩ := h
        refine hq (qv_val (fun w2 => ?_) hk)
        simp only [Instr.indexAt, asIntOf, Sem.run_bind, Sem.run_pure, Result.andThen_ok, run_underlying hu, if_pos (And.intro h1 h2), run_size hn]
      · exact hD h
    · exact hD h
  · rename_i a k i
    split at h
    · rename_i len e hu
      split at h
      · rename_i n hn
        obtain ⟨h1, h2, hk⟩ := h
        refine hq (qv_val (fun w2 => ?_) hk)
        simp only [Instr.indexAt, Instr.sureAddr, asIntOf, Sem.run_bind, Sem.run_pure, Result.andThen_ok, run_underlying hu, if_pos (And.intro h1 h2), run_size hn]
      · exact hD h
    · exact hD h
  · exact hD h

theorem bnd_elim {top : Nat} {x : Option Value} {other : Nat} {K' : Nat → Prop} {D : Prop} (h : bnd top x other K' D) (hD : D → G)
    (hn : x = none → K' other → G) (hs : ∀ k i, x = some (.int k i) → 0 ≤ i → i ≤ top → K' i.toNat → G) : G := by
  unfold bnd at h
  split at h
  · exact hn rfl h
  · exact hs _ _ rfl h.1 h.2.1 h.2.2
  · exact hD h
theorem run_bound {k : IntKind} {i : Int} {y : Nat} {c : BoundsCode} {w : World} (h1 : 0 ≤ i) (h2 : i ≤ y) : (Instr.sliceBound (.int k i) y c).run P w = .ok i.toNat w := by
  simp only [Instr.sliceBound, asIntOf, Sem.run_bind, Sem.run_pure, Result.andThen_ok, if_pos (And.intro h1 h2)]

theorem slV_elim {t : TypeId} {x : Value} {lo hi mx : Option Value} {D : Prop} (h : slV P t x lo hi mx (fun v => K v w) D) (hD : D → G)
    (hq : Qv P (do pure (Next.value (← Instr.sliceAt t x lo hi mx))) w K → G) : G := by
  unfold slV at h
  split at h
  · rename_i s
    split at h
    · rename_i hu
      refine bnd_elim h hD (fun e1 ha => bnd_elim ha hD (fun e2 hb => ?_) fun k i e2 g1 g2 hb => ?_) fun k' i' e1 g3 g4 ha => bnd_elim ha hD (fun e2 hb => ?_) fun k i e2 g1 g2 hb => ?_
      all_goals
        subst e1 e2
        refine hq (qv_val (fun w2 => ?_) hb)
        simp only [Instr.sliceAt, Instr.slice, Instr.sliceBounds, Sem.run_bind, run_underlying hu, Result.andThen_ok, Option.isSome_none, Bool.false_eq_true, if_false, Sem.run_pure]
        first | done | rw [run_bound g3 g4, Result.andThen_ok, run_bound g1 g2]; rfl | rw [run_bound g3 g4]; rfl | rw [run_bound g1 g2]; rfl
    · exact hD h
  · rename_i p len cap
    split at h
    · rename_i e hu
      split at h
      · rename_i n hn
        split at h
        · exact hD h
        · rename_i mx hi hno
          refine bnd_elim h hD (fun e0 hz => ?_) fun k0 i0 e0 g5 g6 hz => ?_
          · refine bnd_elim hz hD (fun e1 ha => bnd_elim ha hD (fun e2 hb => ?_) fun k i e2 g1 g2 hb => ?_) fun k' i' e1 g3 g4 ha => bnd_elim ha hD (fun e2 hb => ?_) fun k i e2 g1 g2 hb => ?_
            all_goals
              subst e0 e1 e2
              refine hq (qv_val (fun w2 => ?_) hb)
              simp only [Instr.sliceAt, Instr.slice, Instr.sliceBounds, Sem.run_bind, run_underlying hu, Result.andThen_ok, Option.isSome_none, Bool.false_eq_true, if_false, Sem.run_pure]
              first | (rw [run_size hn]; rfl) | (rw [run_bound g3 g4, Result.andThen_ok, run_bound g1 g2, Result.andThen_ok, Result.andThen_ok, run_size hn]; rfl) | (rw [run_bound g3 g4, Result.andThen_ok, Result.andThen_ok, run_size hn]; rfl) | (rw [run_bound g1 g2, Result.andThen_ok, Result.andThen_ok, run_size hn]; rfl)
          · refine bnd_elim hz hD (fun e1 _ => ?_) fun k' i' e1 g3 g4 ha => bnd_elim ha hD (fun e2 hb => ?_) fun k i e2 g1 g2 hb => ?_
            · subst e0 e1
              exact (hno _ rfl rfl).elim
            all_goals
              subst e0 e1 e2
              refine hq (qv_val (fun w2 => ?_) hb)
              simp only [Instr.sliceAt, Instr.slice, Instr.sliceBounds, Sem.run_bind, run_underlying hu, Result.andThen_ok, Option.isSome_some, if_true, Sem.run_pure]
              first | (rw [run_bound g5 g6, Result.andThen_ok, run_bound g3 g4, Result.andThen_ok, run_bound g1 g2, Result.andThen_ok, Result.andThen_ok, run_size hn]; rfl) | (rw [run_bound g5 g6, Result.andThen_ok, run_bound g3 g4, Result.andThen_ok, Result.andThen_ok, run_size hn]; rfl)
      · exact hD h
    · exact hD h
  · rename_i a
    split at h
    · rename_i c e hu
      split at h
      · rename_i n hn
        refine bnd_elim h hD (fun e1 ha => bnd_elim ha hD (fun e2 hb => ?_) fun k i e2 g1 g2 hb => ?_) fun k' i' e1 g3 g4 ha => bnd_elim ha hD (fun e2 hb => ?_) fun k i e2 g1 g2 hb => ?_
        all_goals
          subst e1 e2
          refine hq (qv_val (fun w2 => ?_) hb)
          simp only [Instr.sliceAt, Instr.sureAddr, Instr.sliceBounds, Sem.run_bind, run_underlying hu, Result.andThen_ok, Option.isSome_none, Bool.false_eq_true, if_false, Sem.run_pure, Slc.v, Slc.cut, Option.map_some]
          first | (rw [run_size hn]; simp only [Result.andThen_ok]; split <;> rfl) | (rw [run_bound g3 g4, Result.andThen_ok, run_bound g1 g2, Result.andThen_ok, Result.andThen_ok, run_size hn]; simp only [Result.andThen_ok]; split <;> rfl) | (rw [run_bound g3 g4, Result.andThen_ok, Result.andThen_ok, run_size hn]; simp only [Result.andThen_ok]; split <;> rfl) | (rw [run_bound g1 g2, Result.andThen_ok, Result.andThen_ok, run_size hn]; simp only [Result.andThen_ok]; split <;> rfl)
      · exact hD h
    · exact hD h
  · exact hD h
end
end
end Sh
end Go.Proofs.YtdchpkbpnfoknaaDoor

/- Regions, code and whole functions: the formula of 'Sh' implies the model's own account. Conditions: the functions that may be called have a body; every slot lies inside the frame. -/
namespace Go.Proofs.YtdchpkbpnfoknaaDoor
namespace Sh
section
variable {P : Program} {F : Fx} {E : Env} {w : World} {K : Value → World → Prop}

/-- The functions that 'F' admits may be entered. -/
def CallsOk (P : Program) (F : Nat → Bool) : Prop := ∀ g fn, F g = true → P.funcs[g]? = some fn → fn.body.isSome = true ∧ fn.name ≠ "runtime.NumGoroutine"

theorem exRes_elim {tys : List Ty} : ∀ {K' : List Value → Prop}, callV.exRes tys K' → ∃ l, K' l := by
  induction tys with
  | nil => intro K' h; exact ⟨[], h⟩
  | cons t ts ih => intro K' h; obtain ⟨x, hx⟩ := h; obtain ⟨l, hl⟩ := ih hx; exact ⟨_, hl⟩

theorem Out.toP {pk : Value → World → Prop} {r : Result Next} (h : Out P K r) : OutP P pk K r := by
  cases r with
  | halt x w => exact h.elim
  | ok n w =>
    cases n <;> try exact h.elim
    case value v => exact h
    case skip => exact h
    case enter f args => exact Calls.mono h fun e w' he => .inl he
theorem callV_out (hF : CallsOk P F.ok) {g : Nat} {args : Array Value} (h : callV P F g args w K) : OutP P F.pk K ((callFunc g args).run P w) := by
  unfold callV at h
  split at h
  · exact h.elim
  · rename_i hg
    split at h
    · exact h.elim
    · rename_i fn hfn
      obtain ⟨hb, hn⟩ := hF g fn hg hfn
      have hb' : fn.body.isNone = false := by cases hx : fn.body <;> simp_all
      have hn' : (fn.name == "runtime.NumGoroutine") = false := by simpa using hn
      simp only [callFunc, Sem.run_bind, run_program, Result.andThen_ok, hfn, hn', hb', Bool.false_eq_true, if_false, Sem.run_pure, OutP]
      split at h
      · refine h.mono fun e w' he => ?_
        obtain ⟨l, h1, h2⟩ := exRes_elim he
        exact .inl ⟨_, h1, h2⟩
      · refine h.mono fun e w' he => ?_
        rcases he with he | he
        · obtain ⟨l, h1, h2⟩ := exRes_elim he
          exact .inl ⟨_, h1, h2⟩
        · exact .inr he

theorem qv_pick {c a b : Value} (h : Out P K ((do pure (Next.value (if ← asBool c then a else b)) : Sem Next).run P w)) : Qv P (do pure (Next.value (if ← asBool c then a else b))) w K := by
  cases c with
  | bool t => exact ⟨_, fun _ => rfl, h⟩
  | _ => exact h.elim

theorem qv_call {c : Call} {b : Builtin} {t : TypeId} {s : Sem Value} (hc : c.callee = .builtin b)
    (hb : ∀ consts, builtin b c.argTypes t consts (c.args.map E.rho) = (do pure (Next.value (← s)))) (hs : Pu s)
    (h : Out P K ((do let d ← resolve E.rho c t; invoke d.target d.args : Sem Next).run P w)) : Qv P (do let d ← resolve E.rho c t; invoke d.target d.args) w K := by
  have e : (do let d ← resolve E.rho c t; invoke d.target d.args : Sem Next) = (do pure (Next.value (← s))) := by
    simp only [resolve, hc, pure_bind, invoke, hb]
  rw [e] at h ⊢
  exact qv_of hs h

theorem arg0 {xs : Array Operand} {v : Value} (h : xs[0]?.map E.rho = some v) : (xs.map E.rho)[0]? = some v := by simpa using h

/-- What a call of a builtin that only computes leaves. -/
theorem callQ {c : Call} {t : TypeId} {D : Prop} (hD : D → Qv P (do let d ← resolve E.rho c t; invoke d.target d.args) w K)
    (h : match c.callee with
      | .builtin .len => (match c.args[0]?.map E.rho with
        | some (.string _) => Out P K ((do let d ← resolve E.rho c t; invoke d.target d.args : Sem Next).run P w)
        | some (.slice _ _ _) => Out P K ((do let d ← resolve E.rho c t; invoke d.target d.args : Sem Next).run P w)
        | _ => D)
      | .builtin .cap => (match c.args[0]?.map E.rho with
        | some (.slice _ _ _) => Out P K ((do let d ← resolve E.rho c t; invoke d.target d.args : Sem Next).run P w)
        | _ => D)
      | .builtin .min => (match isInts (c.args.map E.rho).toList with
        | true => Out P K ((do let d ← resolve E.rho c t; invoke d.target d.args : Sem Next).run P w)
        | false => D)
      | .builtin .max => (match isInts (c.args.map E.rho).toList with
        | true => Out P K ((do let d ← resolve E.rho c t; invoke d.target d.args : Sem Next).run P w)
        | false => D)
      | _ => D) : Qv P (do let d ← resolve E.rho c t; invoke d.target d.args) w K := by
  split at h
  · rename_i hc
    split at h
    · rename_i ha; exact qv_call hc (fun _ => rfl) (pu_lenStr _ _ _ _ (arg0 ha)) h
    · rename_i ha; exact qv_call hc (fun _ => rfl) (pu_lenSlc _ _ _ _ _ _ (arg0 ha)) h
    · exact hD h
  · rename_i hc
    split at h
    · rename_i ha; exact qv_call hc (fun _ => rfl) (pu_capSlc _ _ _ _ _ _ (arg0 ha)) h
    · exact hD h
  · rename_i hc
    split at h
    · rename_i ha; exact qv_call hc (fun _ => rfl) (pu_min _ _ _ ha) h
    · exact hD h
  · rename_i hc
    split at h
    · rename_i ha; exact qv_call hc (fun _ => rfl) (pu_max _ _ _ ha) h
    · exact hD h
  · exact hD h

theorem out_val {v : Value} {w' : World} (h : K v w') : Out P K (.ok (.value v) w') := h
attribute [local irreducible] Out

theorem opV_q {o : Oper} (hs : stillOp P o.op = true) (hl : ∀ t x, o.op ≠ .load t x) (h : opV P F true E o w K) : Qv P (execOp E.rho o) w K := by
  obtain ⟨dst, op, type, pos, after, guard⟩ := o
  simp only [opV] at h
  simp only at hs hl
  cases op <;> simp only [stillOp, Bool.false_eq_true] at hs <;> simp only at h
  case move x => exact qv_pure h
  case assign x => exact qv_pure h
  case pick c a b => exact qv_pick h
  case load t x => exact (hl t x rfl).elim
  case nilCheck x =>
    split at h
    · rename_i p hx
      obtain ⟨a, rfl, hk⟩ := h
      exact ⟨_, fun _ => by simp only [execOp, hx]; rfl, hk⟩
    · exact h.elim
  case binOp op t x y yt =>
    refine binV_elim h (fun hd => ?_) (fun ho => ho.elim) id
    split at hd
    · rename_i hk
      exact qv_of (pu_bin hk) hd
    · exact hd.elim
  case unOp op t x => exact qv_of (pu_unary _ _) h
  case convert src dst x =>
    split at h
    · rename_i k n hx
      split at h
      · rename_i k' hu
        simp only [execOp, hx] at h ⊢
        exact qv_convert hu h
      · exact h.elim
    · exact h.elim
  case slice t x lo hi mx => exact slV_elim h (fun hd => qv_of (pu_sliceAt _ _ _ _ _) hd) id
  case fieldAddr t x f => exact fdV_elim h (fun hd => hd.elim) id
  case field t x f => exact qv_of (pu_field _ _ _) h
  case build t ps => exact qv_of (pu_build _ _) h
  case indexAddr t x i => exact idxA_elim h (fun hd => qv_of (pu_indexAt _ _ _) hd) id
  case index t x i => exact idxV_elim h (fun hd => qv_of (pu_index _ _ _) hd) id
  case extract t i => exact qv_of (pu_extract _ _) h
  case call c =>
    refine callQ (D := False) (fun h => h.elim) ?_
    split at h <;> first
      | exact h.elim
      | (rename_i hc; simp only [hc]; exact h)
      | (split at h <;> exact h.elim)
      | (rename_i hc; simp only [hc]; split at h <;> first | exact h.elim | (rename_i ha; simp only [ha]; exact h))

theorem qv_out {s : Sem Next} (h : Qv P s w K) : Out P K (s.run P w) := out_of_pu h

theorem out_builtin {c : Call} {b : Builtin} {t : TypeId} {s : Sem Value} (hc : c.callee = .builtin b)
    (hb : ∀ consts, builtin b c.argTypes t consts (c.args.map E.rho) = (do pure (Next.value (← s))))
    (h : Out P K ((do pure (Next.value (← s)) : Sem Next).run P w)) : Out P K ((do let d ← resolve E.rho c t; invoke d.target d.args : Sem Next).run P w) := by
  have e : (do let d ← resolve E.rho c t; invoke d.target d.args : Sem Next) = (do pure (Next.value (← s))) := by
    simp only [resolve, hc, pure_bind, invoke, hb]
  rw [e]; exact h

theorem taHit_spec {u : TypeId} {x v : Value} (h : taHit P u x = some v) : ∃ t, x = .iface t v ∧ ∃ d, P.underlying u = some d ∧ isIfaceD d = false ∧ t = u := by
  unfold taHit at h
  split at h
  · rename_i t y
    split at h
    · rename_i d hd
      split at h
      · rename_i h1 h2
        cases h
        exact ⟨t, rfl, d, hd, h1, Nat.eq_of_beq_eq_true h2⟩
      · cases h
    · cases h
  · cases h
theorem nx_out {a : Addr} {ty : TypeId} (h : Nx w a (fun i c w' => K (.tuple #[.bool true, .int .i64 i, .int .i32 c]) w') (K (.tuple #[.bool false]) w)) : ∃ v w', (Instr.next (.pointer (some a)) true ty).run P w = .ok v w' ∧ K v w' := by
  obtain ⟨s, pos, ho, hb, hc⟩ := h
  obtain ⟨b, o, sp⟩ := a
  simp only at ho hb hc
  subst ho
  by_cases hp : pos < s.size
  · rw [decide_eq_true hp] at hc
    refine ⟨_, _, ?_, hc⟩
    simp [Instr.next, getObj, setObj, Sem.run, hb, hp, goInt, itW]
  · rw [decide_eq_false hp] at hc
    refine ⟨_, _, ?_, hc⟩
    simp [Instr.next, getObj, Sem.run, hb, hp]
theorem opV_out (hF : CallsOk P F.ok) {o : Oper} (h : opV P F false E o w K) : OutP P F.pk K ((execOp E.rho o).run P w) := by
  obtain ⟨dst, op, type, pos, after, guard⟩ := o
  simp only [opV] at h
  cases op <;> simp only at h <;> try exact Out.toP h
  case load t x =>
    obtain ⟨v, h1, h2⟩ := ldV_run h
    exact Out.toP (out_value h1 h2)
  case store t x y =>
    obtain ⟨w', h1, h2⟩ := stV_run h
    exact Out.toP (out_unit h1 h2)
  case nilCheck x =>
    split at h
    · rename_i p hx
      obtain ⟨a, rfl, hk⟩ := h
      simp only [execOp, hx]; exact Out.toP (out_val hk)
    · exact Out.toP h
  case binOp op t x y yt =>
    refine Out.toP (binV_elim h (fun hd => ?_) (fun ho => runV_out ho) (fun h => qv_out h))
    split at hd <;> exact hd
  case convert src dst x =>
    split at h
    · split at h <;> exact Out.toP h
    · exact Out.toP (runV_out h)
  case makeSlice t l c => exact Out.toP (runV_out h)
  case slice t x lo hi mx => exact Out.toP (slV_elim h id (fun h => qv_out h))
  case fieldAddr t x f => exact Out.toP (fdV_elim h id (fun h => qv_out h))
  case indexAddr t x i => exact Out.toP (idxA_elim h id (fun h => qv_out h))
  case index t x i => exact Out.toP (idxV_elim h id (fun h => qv_out h))
  case lookup t x i ok =>
    split at h
    · exact Out.toP (runV_out h)
    · split at h
      · obtain ⟨x, b, w', hr, hk⟩ := h
        exact Out.toP (out_value hr hk)
      · exact Out.toP h
  case panic x =>
    unfold panicV at h
    split at h
    · rename_i t y hx
      simp only [execOp, hx]
      exact h
    · exact h.elim
  case range t x =>
    split at h
    · rename_i s hq hx hu
      refine Out.toP (out_value (w' := w.alloc (.stringIter s 0)) ?_ h)
      rw [hx]
      simp [Instr.range, run_underlying hu]
    · exact Out.toP h
  case next it str =>
    split at h
    · rename_i a hq hx
      obtain ⟨v, w', h1, h2⟩ := nx_out (P := P) (ty := type) h
      refine Out.toP (out_value (w' := w') ?_ h2)
      rw [hx]
      exact h1
    · exact Out.toP h
  case mapUpdate t m k x => exact Out.toP (runU_out h)
  case typeAssert x t u ok =>
    split at h
    · exact Out.toP (runV_out h)
    · split at h
      · rename_i v hv
        refine Out.toP (out_value (w' := w) ?_ h)
        obtain ⟨y, hx, d, hu, hi, hy⟩ := taHit_spec hv
        rw [hx]
        simp only [Instr.typeAssert, Sem.run_bind, run_underlying hu, Result.andThen_ok]
        subst hy
        clear h hv hF
        cases d <;> simp_all [isIfaceD]
      · obtain ⟨x, b, w', hr, hk⟩ := h
        exact Out.toP (out_value hr hk)
  case call c =>
    split at h
    · rename_i f hc
      split at h
      · rename_i g first captured _ hf
        have e : (do let d ← resolve E.rho c type; invoke d.target d.args : Sem Next) = callFunc g ((first ++ (c.args.map E.rho)) ++ captured) := by
          simp only [resolve, hc, hf, Deferred.ofValue, pure_bind, invoke]
        show OutP P F.pk K ((do let d ← resolve E.rho c type; invoke d.target d.args : Sem Next).run P w)
        rw [e]
        exact callV_out hF h
      · exact Out.toP h
    · rename_i hc; exact Out.toP (out_builtin hc (fun _ => rfl) (runV_out h))
    · rename_i hc; exact Out.toP (out_builtin hc (fun _ => rfl) (runV_out h))
    · rename_i hc
      split at h
      · exact Out.toP h
      · exact Out.toP h
      · exact Out.toP (out_builtin hc (fun _ => rfl) (runV_out h))
      · exact Out.toP h
    · split at h <;> exact Out.toP h
    · split at h <;> exact Out.toP h
    · split at h <;> exact Out.toP h
    · exact Out.toP h
end
end Sh
end Go.Proofs.YtdchpkbpnfoknaaDoor
