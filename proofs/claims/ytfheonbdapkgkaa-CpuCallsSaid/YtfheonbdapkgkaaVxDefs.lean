/- The executor: what it does with operations, regions, code. (Only definitions.) -/
import Derived.Test.YtfheonbdapkgkaaVxBase
namespace Go.Vx
open Go

/-! ### What an execution comes to; the words for scalars, kept apart so that a tool can stop at them -/
inductive Out where
  | ret (v : Value) (h : Heap)
  | pan (v : Value) (h : Heap)

abbrev RR := Option Out

structure Ops where
  br : Bool → RR → RR → RR
  nv : Value → (Value → RR) → RR
  nh : Heap → (Heap → RR) → RR
  add : Int → Int → Int
  sub : Int → Int → Int
  mul : Int → Int → Int
  tdiv : Int → Int → Int
  tmod : Int → Int → Int
  wrap : IntKind → Int → Int
  bits : BinOp → IntKind → Int → Int → Int
  shl : IntKind → Int → Int → Int
  shr : IntKind → Int → Int → Int
  eq : Int → Int → Bool
  lt : Int → Int → Bool
  le : Int → Int → Bool
  not : Bool → Bool
  and : Bool → Bool → Bool
  beq : Bool → Bool → Bool
  ite : Bool → Int → Int → Int
  sel : List Int → Nat → Int
  nlt : Nat → Nat → Bool
  nat : Int → Nat
  seq : ByteArray → ByteArray → Bool

def shlI (k : IntKind) (x y : Int) : Int := k.wrap (x * 2 ^ (min y.toNat k.bits))
def shrI (k : IntKind) (x y : Int) : Int := x.fdiv (2 ^ (min y.toNat k.bits))

def std : Ops where
  br b x y := cond b x y
  nv v k := k v
  nh h k := k h
  add a b := a + b
  sub a b := a - b
  mul a b := a * b
  tdiv a b := a.tdiv b
  tmod a b := a.tmod b
  wrap k a := k.wrap a
  bits op k a b := Go.bits op k a b
  shl := shlI
  shr := shrI
  eq a b := a == b
  lt a b := decide (a < b)
  le a b := decide (a ≤ b)
  not b := !b
  and a b := a && b
  beq a b := a == b
  ite c a b := bif c then a else b
  sel l i := l.getD i 0
  nlt a b := decide (a < b)
  nat := Int.toNat
  seq a b := a == b

/-! ### Plain words -/
mutual
/-- a literal that no renaming changes -/
def constV : Value → Bool
  | .pointer none => true
  | .slice none _ _ => true
  | .map none => true
  | .bool _ => true
  | .int _ _ => true
  | .float _ _ => true
  | .complex _ _ _ => true
  | .string _ => true
  | .nilFunc => true
  | .nilIface => true
  | .agg ⟨l⟩ => constL l
  | .tuple ⟨l⟩ => constL l
  | .iface _ v => constV v
  | .func _ ⟨f⟩ ⟨c⟩ => constL f && constL c
  | _ => false
def constL : List Value → Bool
  | [] => true
  | v :: l => constV v && constL l
end

def nth {α : Type} : List α → Nat → Option α
  | [], _ => none
  | x :: _, 0 => some x
  | _ :: l, n + 1 => nth l n

def setN {α : Type} : List α → Nat → α → List α
  | [], _, _ => []
  | _ :: l, 0, y => y :: l
  | x :: l, n + 1, y => x :: setN l n y

/-- is i the number j? -/
def neq (S : Ops) (j i : Nat) : Bool := S.and (S.not (S.nlt i j)) (S.nlt i (j + 1))
def setI (S : Ops) : List Int → Nat → Nat → Int → List Int
  | [], _, _, _ => []
  | x :: l, j, i, y => S.ite (neq S j i) y x :: setI S l (j + 1) i y

/-- the numbers at the head of a row of cells, as long as they are of one kind -/
def ints (kd : IntKind) : List Value → List Int
  | .int k n :: l => bif decide (k = kd) then n :: ints kd l else []
  | _ => []

def vadd (a : Addr) (n : Nat) : Addr := { a with off := a.off + n }

def evS (t : List Value) : Operand → Option Value
  | .tmp i => nth t i
  | .const v => bif constV v then some v else none
  | .func f => some (.func (.func f) #[] #[])
  | .global _ => none

def evL (t : List Value) : List Operand → Option (List Value)
  | [] => some []
  | x :: l => match evS t x with
    | none => none
    | some v => match evL t l with
      | none => none
      | some vs => some (v :: vs)

/-! ### Types -/
section
variable (S : Ops) (P : Program)
def und (t : TypeId) : Option TypeDesc := P.underlying t
def szT (t : TypeId) : Option Nat := (P.info? t).map (·.size)
def aggT (t : TypeId) : Bool := match P.underlying t with
  | some (.struct _) => true
  | some (.array _ _) => true
  | _ => false

def partV (t : TypeId) (cs : List Value) (off : Nat) : Option Value :=
  match P.underlying t with
  | none => none
  | some _ => bif aggT P t then (szT P t).map (fun n => .agg ⟨(cs.drop off).take n⟩) else nth (cs.drop off) 0

def loadH (H : Heap) (a : Addr) (n : Nat) : Option (Bool × List Value) :=
  match nth H a.block with
  | some (.cells c _) =>
    match a.spot with
    | none => let l := (c.drop a.off).take n; bif l.length == n then some (true, l) else none
    | some i =>
      bif n == 1 then
        match c.drop a.off with
        | .int kd x :: l => let xs := ints kd (.int kd x :: l); some (S.nlt i xs.length, [.int kd (S.sel xs i)])
        | l => (nth l i).map fun v => (true, [v])
      else none
  | some (.row _ m f _) =>
    let i := a.spot.getD 0
    let l := ((f i).drop a.off).take n
    bif l.length == n then some (S.nlt i m, l) else none
  | _ => none

def storeH (H : Heap) (a : Addr) (vs : List Value) : Option (Bool × Heap) :=
  bif vs.all Value.oneCell' then
    match nth H a.block with
    | some (.cells c e) =>
      match a.spot with
      | none => bif decide (a.off + vs.length ≤ c.length) then some (true, setN H a.block (.cells (c.take a.off ++ vs ++ c.drop (a.off + vs.length)) e)) else none
      | some i =>
        match vs, c.drop a.off with
        | [.int kd y], .int kd' x :: l =>
          bif decide (kd = kd') then
            let xs := ints kd (.int kd' x :: l)
            some (S.nlt i xs.length, setN H a.block (.cells (c.take a.off ++ (setI S xs 0 i y).map (.int kd ·) ++ c.drop (a.off + xs.length)) e))
          else none
        | [v], l => bif decide (i < l.length) then some (true, setN H a.block (.cells (c.take a.off ++ setN l i v) e)) else none
        | _, _ => none
    | _ => none
  else none

/-! ### Values -/
/-- == of structs and arrays, cell by cell as their types say -/
def eqV : Nat → TypeId → Value → Value → Option Bool
  | 0, _, _, _ => none
  | d + 1, t, x, y =>
    match P.underlying t, x, y with
    | some .bool, .bool a, .bool b => some (S.beq a b)
    | some (.int _), .int k a, .int k' b => bif decide (k = k') then some (S.eq a b) else none
    | some .string, .string a, .string b => some (S.seq a b)
    | some (.pointer _), .pointer none, .pointer b => some b.isNone
    | some (.pointer _), .pointer (some _), .pointer none => some false
    | some (.slice _), .slice none _ _, .slice b _ _ => some b.isNone
    | some (.slice _), .slice (some _) _ _, .slice none _ _ => some false
    | some (.map _ _), .map none, .map b => some b.isNone
    | some (.map _ _), .map (some _), .map none => some false
    | some (.func _ _ _), .nilFunc, .nilFunc => some true
    | some (.func _ _ _), .nilFunc, .func _ _ _ => some false
    | some (.func _ _ _), .func _ _ _, .nilFunc => some false
    | some (.interface _), .nilIface, .nilIface => some true
    | some (.interface _), .nilIface, .iface _ _ => some false
    | some (.interface _), .iface _ _, .nilIface => some false
    | some (.struct fs), .agg xs, .agg ys =>
      bif P.stoodInHeld t then none else
      fs.toList.foldr (fun f acc =>
        bif f.name == "_" then acc else
        match partV P f.type xs.toList f.offset, partV P f.type ys.toList f.offset with
        | some u, some v => match eqV d f.type u v, acc with
          | some b, some c => some (S.and b c)
          | _, _ => none
        | _, _ => none) (some true)
    | some (.array n e), .agg xs, .agg ys =>
      match szT P e with
      | none => none
      | some s => (List.range n).foldr (fun i acc =>
        match partV P e xs.toList (i * s), partV P e ys.toList (i * s) with
        | some u, some v => match eqV d e u v, acc with
          | some b, some c => some (S.and b c)
          | _, _ => none
        | _, _ => none) (some true)
    | _, _, _ => none

def eqTop (t : TypeId) (x y : Value) : Option Bool :=
  match x, y with
  | .agg _, .agg _ => bif P.eqGuardType P.depth t then none else eqV S P 12 t x y
  | .nilIface, .nilIface => none
  | x, y => eqV S P 2 t x y

/-- binary operators: a condition that must hold, and the value -/
def binV (op : BinOp) (t : TypeId) (x y : Value) : Option (Bool × Value) :=
  match op, x, y with
  | .shl, .int k a, .int _ b => some (S.le 0 b, .int k (S.shl k a b))
  | .shr, .int k a, .int _ b => some (S.le 0 b, .int k (S.shr k a b))
  | op, .int k a, .int k' b =>
    bif decide (k = k') then
      match op with
      | .add => some (true, .int k (S.wrap k (S.add a b)))
      | .sub => some (true, .int k (S.wrap k (S.sub a b)))
      | .mul => some (true, .int k (S.wrap k (S.mul a b)))
      | .quo => some (S.not (S.eq b 0), .int k (S.wrap k (S.tdiv a b)))
      | .rem => some (S.not (S.eq b 0), .int k (S.tmod a b))
      | .and => some (true, .int k (S.bits .and k a b))
      | .or => some (true, .int k (S.bits .or k a b))
      | .xor => some (true, .int k (S.bits .xor k a b))
      | .andNot => some (true, .int k (S.bits .andNot k a b))
      | .eql => some (true, .bool (S.eq a b))
      | .neq => some (true, .bool (S.not (S.eq a b)))
      | .lss => some (true, .bool (S.lt a b))
      | .leq => some (true, .bool (S.le a b))
      | .gtr => some (true, .bool (S.lt b a))
      | .geq => some (true, .bool (S.le b a))
      | _ => none
    else none
  | .eql, x, y => (eqTop S P t x y).map fun b => (true, .bool b)
  | .neq, x, y => (eqTop S P t x y).map fun b => (true, .bool (S.not b))
  | _, _, _ => none

def unV (op : UnOp) (x : Value) : Option Value :=
  match op, x with
  | .neg, .int k n => some (.int k (S.wrap k (S.sub 0 n)))
  | .xor, .int k n => some (.int k (S.bits .xor k (if k.signed then -1 else k.max) n))
  | .not, .bool b => some (.bool (S.not b))
  | _, _ => none

def fillV (place : Nat → Option (Nat × Nat)) (cells : List Value) : List (Nat × Value) → Option (List Value)
  | [] => some cells
  | (i, v) :: rest =>
    match place i with
    | none => none
    | some (off, size) =>
      let vs := v.cells.toList
      bif vs.length == size && decide (off + size ≤ cells.length) then fillV place (cells.take off ++ vs ++ cells.drop (off + size)) rest else none

def zeroL (t : TypeId) : Option (List Value) :=
  match (P.info? t).bind (·.zero) with
  | none => none
  | some z => bif constV z then some z.cells.toList else none

def zeroV (t : TypeId) : Option Value :=
  match (P.info? t).bind (·.zero) with
  | none => none
  | some z => bif constV z then some z else none

def placesL : List Field → Option (List (Nat × Nat))
  | [] => some []
  | f :: fs => match szT P f.type with
    | none => none
    | some n => match placesL fs with
      | none => none
      | some l => some ((f.offset, n) :: l)

def buildV (t : TypeId) (parts : List (Nat × Value)) : Option Value :=
  match zeroL P t with
  | none => none
  | some zero =>
    match P.underlying t with
    | some (.struct fields) =>
      match placesL P fields.toList with
      | none => none
      | some pl => (fillV (fun i => nth pl i) zero parts).map fun cs => .agg ⟨cs⟩
    | some (.array _ elem) =>
      match szT P elem with
      | none => none
      | some s => (fillV (fun i => some (i * s, s)) zero parts).map fun cs => .agg ⟨cs⟩
    | _ => none

def repL (z : List Value) : Nat → List Value
  | 0 => []
  | n + 1 => z ++ repL z n

def evParts (t : List Value) : List (Nat × Operand) → Option (List (Nat × Value))
  | [] => some []
  | (i, x) :: l => match evS t x with
    | none => none
    | some v => match evParts t l with
      | none => none
      | some r => some ((i, v) :: r)

def fieldAddrV (s : TypeId) (x : Value) (f : Nat) : Option Value :=
  match P.underlying s, x with
  | some (.struct fields), .pointer (some a) =>
    match nth fields.toList f with
    | some fd => match szT P fd.type with
      | some n => bif n == 0 then none else some (.pointer (some (vadd a fd.offset)))
      | none => none
    | none => none
  | _, _ => none

def indexAddrV (H : Heap) (t : TypeId) (x ix : Value) : Option (Bool × Value) :=
  match P.underlying t, x, ix with
  | some (.array len e), .pointer (some a), .int _ i =>
    match szT P e with
    | none => none
    | some s =>
      let ok := S.and (S.le 0 i) (S.lt i len)
      match nth H a.block, a.spot with
      | some (.cells _ _), none => bif s == 1 then some (ok, .pointer (some { a with spot := some (S.nat i) })) else some (ok, .pointer (some (vadd a (S.nat i * s))))
      | some (.row _ _ _ _), _ => some (ok, .pointer (some (vadd a (S.nat i * s))))
      | _, _ => none
  | some (.slice e), .slice (some a) len _, .int _ i =>
    match szT P e with
    | none => none
    | some s =>
      let ok := S.and (S.le 0 i) (S.lt i len)
      match nth H a.block, a.spot with
      | some (.cells _ _), none => bif s == 1 then some (ok, .pointer (some { a with spot := some (S.nat i) })) else some (ok, .pointer (some (vadd a (S.nat i * s))))
      | some (.row s' _ _ _), sp => bif s == s' && a.off == 0 then some (ok, .pointer (some { a with spot := some (sp.getD 0 + S.nat i) })) else none
      | _, _ => none
  | _, _, _ => none

/-- an element of a row of cells -/
def elemV (e : TypeId) (s : Nat) (l : List Value) (i : Nat) : Option (Bool × Value) :=
  match l with
  | .int kd n :: l' =>
    bif s == 1 && !aggT P e && (P.underlying e).isSome then
      let xs := ints kd (.int kd n :: l')
      some (S.nlt i xs.length, .int kd (S.sel xs i))
    else (partV P e (.int kd n :: l') (i * s)).map fun v => (true, v)
  | l => (partV P e l (i * s)).map fun v => (true, v)

def indexV (t : TypeId) (x ix : Value) : Option (Bool × Value) :=
  match P.underlying t, x, ix with
  | some (.array len e), .agg cs, .int _ i =>
    match szT P e with
    | none => none
    | some s => (elemV S P e s cs.toList (S.nat i)).map fun (b, v) => (S.and (S.and (S.le 0 i) (S.lt i len)) b, v)
  | _, _, _ => none

/-- a variable of a type, loaded -/
def loadV (H : Heap) (ty : TypeId) (ad : Addr) : Option (Bool × Value) :=
  bif aggT P ty then
    match szT P ty with
    | none => none
    | some n => (loadH S H ad n).map fun (b, l) => (b, .agg ⟨l⟩)
  else match P.underlying ty with
    | none => none
    | some _ => (loadH S H ad 1).bind fun (b, l) => (nth l 0).map fun v => (b, v)

def findMethod : List Method → String → Option Method
  | [], _ => none
  | m :: l, n => bif m.name == n then some m else findMethod l n

/-- a method of an interface value: the function, its receiver -/
def methodOf (recv : Value) (name : String) : Option (FuncId × Value) :=
  match recv with
  | .iface t v => match P.info? t with
    | some i => match findMethod i.methods.toList name with
      | some m => match m.path.toList, m.func, P.underlying t with
        | [], some (f, true), some (.pointer _) => some (f, v)
        | [], some (_, _), some (.pointer _) => none
        | [], some (f, false), some _ => some (f, v)
        | _, _, _ => none
      | none => none
    | none => none
  | _ => none

def isC : Operand → Bool
  | .const _ => true
  | _ => false
/-- nil, compared with the literal nil -/
def nilNil (op : BinOp) (ty : TypeId) (x y : Operand) : Option (Bool × Value) :=
  bif isC x || isC y then match P.underlying ty with
    | some (.interface _) => match op with
      | .eql => some (true, .bool true)
      | .neq => some (true, .bool false)
      | _ => none
    | _ => none
  else none

/-- the operations that only read: a condition, and the value -/
def valOp (H : Heap) (t : List Value) (o : Oper) : Option (Bool × Value) :=
  match o.op with
  | .move x => (evS t x).map fun v => (true, v)
  | .assign x => (evS t x).map fun v => (true, v)
  | .build ty parts => match evParts t parts.toList with
    | none => none
    | some ps => (buildV P ty ps).map fun v => (true, v)
  | .load ty a => match evS t a with
    | some (.pointer (some ad)) => loadV S P H ty ad
    | _ => none
  | .nilCheck x => match evS t x with
    | some (.pointer (some a)) => some (true, .pointer (some a))
    | some (.iface ty v) => some (true, .iface ty v)
    | some (.func (.func f) a c) => some (true, .func (.func f) a c)
    | some (.func (.method n) ⟨[.iface ty v]⟩ c) => bif (methodOf P (.iface ty v) n).isSome then some (true, .func (.method n) ⟨[.iface ty v]⟩ c) else none
    | _ => none
  | .binOp op ty x y _ => match evS t x, evS t y with
    | some u, some v => match u, v with
      | .nilIface, .nilIface => nilNil P op ty x y
      | u, v => binV S P op ty u v
    | _, _ => none
  | .unOp op _ x => (evS t x).bind fun v => (unV S op v).map fun v => (true, v)
  | .convert src dst x => match evS t x, P.underlying src, P.underlying dst with
    | some (.int _ n), some _, some (.int k) => some (true, .int k (S.wrap k n))
    | _, _, _ => none
  | .makeInterface ty x => match P.underlying ty, evS t x with
    | some (.interface _), _ => none
    | some _, some v => some (true, .iface ty v)
    | _, _ => none
  | .makeFunc fn first captured => match evL t first.toList, evL t captured.toList with
    | some f, some c => some (true, .func fn ⟨f⟩ ⟨c⟩)
    | _, _ => none
  | .fieldAddr s x f => (evS t x).bind fun v => (fieldAddrV P s v f).map fun v => (true, v)
  | .field s x f => match P.underlying s, evS t x with
    | some (.struct fields), some (.agg cs) => match nth fields.toList f with
      | some fd => (partV P fd.type cs.toList fd.offset).map fun v => (true, v)
      | none => none
    | _, _ => none
  | .indexAddr ty x ix => match evS t x, evS t ix with
    | some u, some v => indexAddrV S P H ty u v
    | _, _ => none
  | .index ty x ix => match evS t x, evS t ix with
    | some u, some v => indexV S P ty u v
    | _, _ => none
  | .extract x i => match evS t x with
    | some (.tuple vs) => (nth vs.toList i).map fun v => (true, v)
    | _ => none
  | .typeAssert x _ asserted ok => match P.underlying asserted, evS t x with
    | some (.interface _), _ => none
    | some _, some (.iface ty v) => bif ty == asserted then some (true, bif ok then .tuple #[v, .bool true] else v) else (bif ok then (zeroV P asserted).map fun z => (true, .tuple #[z, .bool false]) else none)
    | _, _ => none
  | _ => none

/-- the operations that write: a condition, the value, the heap behind -/
def heapOp (H : Heap) (t : List Value) (o : Oper) : Option (Bool × Value × Heap) :=
  match o.op with
  | .alloc ty => (zeroL P ty).map fun cs => (true, .pointer (some ⟨H.length, 0, none⟩), H ++ [.cells cs ty])
  | .box ty x => (evS t x).map fun v => (true, .pointer (some ⟨H.length, 0, none⟩), H ++ [.cells v.cells.toList ty])
  | .store ty a x => match evS t a, evS t x, szT P ty with
    | some (.pointer (some ad)), some v, some n =>
      let cs := v.cells.toList
      bif cs.length == n then (storeH S H ad cs).map fun (b, H') => (b, undef, H') else none
    | _, _, _ => none
  | .buildSlice ty len parts => match P.underlying ty, evParts t parts.toList with
    | some (.slice e), some ps => match szT P e, zeroL P e with
      | some s, some z => bif decide (len * s ≤ 4096) && decide (0 < s) && z.length == s then
          (fillV (fun i => some (i * s, s)) (repL z len) ps).map fun cs => (true, .slice (some ⟨H.length, 0, none⟩) len len, H ++ [.cells cs e])
        else none
      | _, _ => none
    | _, _ => none
  | _ => none

/-! ### Calls -/
inductive CR where
  | ret (v : Value) (h : Option Heap)
  | pan (v : Value) (h : Option Heap)

/-- what a contract says: the data decide, leaf by leaf -/
inductive CT where
  | leaf (r : CR)
  | br (b : Bool) (x y : CT)
  | fail

def CT.run : CT → Option CR
  | .leaf r => some r
  | .br b x y => cond b x.run y.run
  | .fail => none

abbrev Table := FuncId → List Value → Heap → CT

abbrev Entry := FuncId × (List Value → Heap → CT)
def tab : List Entry → Table
  | [], _, _, _ => .fail
  | (g, c) :: l, f, args, H => cond (Nat.beq g f) (c args H) (tab l f args H)

inductive OpR where
  | val (v : Value) (h : Option Heap)
  | pan (v : Value) (h : Option Heap)

def CR.op : CR → OpR
  | .ret v h => .val v h
  | .pan v h => .pan v h

def ctK (S : Ops) (k : OpR → RR) : CT → RR
  | .leaf r => k r.op
  | .br b x y => S.br b (ctK S k x) (ctK S k y)
  | .fail => none

def callable (f : FuncId) : Bool := match P.funcs[f]? with
  | some fn => !(fn.name == "runtime.NumGoroutine") && fn.body.isSome
  | none => false

/-- the function that is called, its arguments -/
def target (t : List Value) (c : Call) : Option (FuncId × List Value) :=
  match evL t c.args.toList with
  | none => none
  | some args => match c.callee with
    | .value f => match evS t f with
      | some (.func (.func g) first captured) => some (g, first.toList ++ args ++ captured.toList)
      | _ => none
    | .invoke recv name => match evS t recv with
      | some v => (methodOf P v name).map fun (f, x) => (f, x :: args)
      | none => none
    | .builtin _ => none

/-- the elements of a row of cells -/
def cellsF (s : Nat) (c : List Value) (i : Nat) : List Value := (c.drop (i * s)).take s
/-- the elements of one, then those of the other -/
def rowApp (f : Nat → List Value) (n : Nat) (g : Nat → List Value) (i : Nat) : List Value := bif decide (i < n) then f i else g (i - n)

/-- what is appended: how many, which -/
def appSrc (H : Heap) (s : Nat) (v : Value) : Option (Bool × Nat × (Nat → List Value)) :=
  match v with
  | .slice none 0 0 => some (true, 0, fun _ => [])
  | .slice (some ⟨k, 0, none⟩) m _ => match nth H k with
    | some (.cells c _) => bif Nat.beq (m * s) c.length && okL (fun _ => false) c && c.all Value.oneCell' then some (true, m, cellsF s c) else none
    | some (.row s' n f _) => bif Nat.beq s' s then some (S.nlt m (n + 1), m, f) else none
    | _ => none
  | _ => none

def isB (k : Nat) : Value → Bool
  | .slice (some a) _ _ => Nat.beq a.block k
  | _ => false

/-- append: a condition, how many more, the slice behind, the heap behind, if it is any -/
def appendV (H : Heap) (tys : List TypeId) (sv xv : Value) : Option (Bool × Nat × Value × Heap) :=
  match tys with
  | [t, u] => bif Nat.beq t u then match P.underlying t with
    | some (.slice e) => match P.info? e with
      | some i => match i.zero with
        | some z => bif Nat.beq z.cells.size i.size && Nat.blt 0 i.size && Nat.blt 0 i.bytes then
            match appSrc S H i.size xv with
            | some (b, m, g) => match sv with
              | .slice none 0 0 => some (S.and b (S.nlt (m * i.bytes) 140737488355329), m, .slice (some ⟨H.length, 0, none⟩) m 0, H ++ [.row i.size m g e])
              | .slice (some ⟨k, 0, none⟩) n 0 => match nth H k with
                | some (.row s' n' f e') => bif Nat.beq s' i.size && Nat.beq e' e && !isB k xv then
                    some (S.and (S.and b (neq S n n')) (S.nlt ((n + m) * i.bytes) 140737488355329), m, .slice (some ⟨H.length, 0, none⟩) (n + m) 0, setN H k .gone ++ [.row i.size (n + m) (rowApp f n g) e])
                  else none
                | _ => none
              | _ => none
            | none => none
          else none
        | none => none
      | none => none
    | _ => none
    else none
  | _ => none

def minL (k : IntKind) (a : Int) : List Value → Option Int
  | [] => some a
  | .int k' b :: l => bif decide (k = k') then minL k (S.ite (S.lt b a) b a) l else none
  | _ => none

def builtinV (b : Builtin) (ty : List TypeId) (args : List Value) : Option Value :=
  match b, ty, args with
  | .len, [t], [x] => match P.underlying t, x with
    | some (.slice _), .slice _ n _ => some (.int .i64 n)
    | some .string, .string s => some (.int .i64 s.size)
    | some (.array n _), _ => some (.int .i64 n)
    | _, _ => none
  | .min, _, .int k a :: l => (minL S k a l).map fun n => .int k n
  | _, _, _ => none

end

/-! ### The executor -/
structure St where
  t : List Value
  h : Heap

inductive KE where
  | normal
  | exit (id : Nat)
  | ret
  | pan (v : Value)

section
variable (S : Ops) (P : Program) (G : Table)

def stepOp (st : St) (o : Oper) (k : OpR → RR) : RR :=
  match o.op with
  | .pick c a b => match evS st.t c with
    | some (.bool x) => S.br x (match evS st.t a with | some v => k (.val v none) | none => none) (match evS st.t b with | some v => k (.val v none) | none => none)
    | _ => none
  | .panic x => match evS st.t x with
    | some (.iface t v) => k (.pan (.iface t v) none)
    | _ => none
  | .call c => match c.callee with
    | .builtin .append => match evL st.t c.args.toList with
      | some [sv, xv] => match appendV S P st.h c.argTypes.toList sv xv with
        | some (b, m, v, h) => S.br b (S.br (S.nlt 0 m) (k (.val v (some h))) (k (.val sv none))) none
        | none => none
      | _ => none
    | .builtin b => match evL st.t c.args.toList with
      | some args => match builtinV S P b c.argTypes.toList args with
        | some v => k (.val v none)
        | none => none
      | none => none
    | _ => match target P st.t c with
      | some (f, args) => cond (callable P f) (ctK S k (G f args st.h)) none
      | none => none
  | _ => match valOp S P st.h st.t o with
    | some (b, v) => S.br b (k (.val v none)) none
    | none => match heapOp S P st.h st.t o with
      | some (b, v, h) => S.br b (k (.val v (some h))) none
      | none => none

def putT (t : List Value) (dst : Option Tmp) (v : Value) : List Value := match dst with
  | some d => setN t d v
  | none => t

/-- is the operation wanted? what its guard says -/
inductive Gd where
  | go
  | skip
  | ask (d : Nat) (b : Bool) (want : Bool)

def guardS (ops : List Oper) (t : List Value) (o : Oper) : Option Gd :=
  match o.guard with
  | none => some .go
  | some (j, want) => match nth ops j with
    | none => none
    | some oj => match oj.dst with
      | none => none
      | some d => match nth t d with
        | some (.bool b) => some (.ask d b want)
        | some _ => some .skip
        | none => none

/-- the guard decides; behind it its slot holds what was decided -/
def guarded (g : Option Gd) (t : List Value) (go skip : List Value → RR) : RR :=
  match g with
  | none => none
  | some .go => go t
  | some .skip => skip t
  | some (.ask d b want) => S.br b (cond want (go (setN t d (.bool true))) (skip (setN t d (.bool true)))) (cond want (skip (setN t d (.bool false))) (go (setN t d (.bool false))))

def execOps (ops : List Oper) : List Oper → St → (KE → St → RR) → RR
  | [], st, k => k .normal st
  | o :: rest, st, k =>
    guarded S (guardS ops st.t o) st.t
      (fun t => stepOp S P G ⟨t, st.h⟩ o fun
        | .val v h => S.nv v fun v => match h with
          | none => execOps ops rest ⟨putT t o.dst v, st.h⟩ k
          | some h => S.nh h fun h => execOps ops rest ⟨putT t o.dst v, h⟩ k
        | .pan v h => k (.pan v) ⟨t, h.getD st.h⟩)
      (fun t => execOps ops rest ⟨putT t o.dst undef, st.h⟩ k)

/-! A region that draws its order: the operations in the order of the text, each over what it may touch alone. -/
mutual
def ids : Value → List Nat
  | .pointer (some a) => [a.block]
  | .slice (some a) _ _ => [a.block]
  | .map (some m) => [m]
  | .func _ ⟨f⟩ ⟨c⟩ => idsL f ++ idsL c
  | .iface _ v => ids v
  | .agg ⟨l⟩ => idsL l
  | .tuple ⟨l⟩ => idsL l
  | _ => []
def idsL : List Value → List Nat
  | [] => []
  | v :: l => ids v ++ idsL l
end

def idsB : Blk → List Nat
  | .cells c _ => idsL c
  | _ => []

def mem (k : Nat) : List Nat → Bool
  | [] => false
  | x :: l => cond (Nat.beq x k) true (mem k l)

def idsAt (H : Heap) : List Nat → List Nat
  | [] => []
  | k :: l => (match nth H k with | some B => idsB B | none => []) ++ idsAt H l

def reach (H : Heap) : Nat → List Nat → List Nat
  | 0, l => l
  | n + 1, l => reach H n (l ++ (idsAt H l).filter fun k => !mem k l)

/-- the blocks that an operation may touch -/
def footOf (st : St) (o : Oper) : List Nat :=
  match o.op with
  | .load _ a => match evS st.t a with | some v => ids v | none => []
  | .store _ a _ => match evS st.t a with | some v => ids v | none => []
  | .indexAddr _ a _ => match evS st.t a with | some v => ids v | none => []
  | .call c => match c.callee with
    | .builtin _ => match evL st.t c.args.toList with
      | some args => idsL args
      | none => []
    | _ => match target P st.t c with
      | some (_, args) => reach st.h 4 (idsL args)
      | none => []
  | _ => []

structure Ent where
  fp : List Nat
  wr : Bool
  lo : Nat
  hi : Nat
  said : List Nat

/-- the numbers of the operations that an operation waits for, itself among them -/
def waitsGo : List Oper → List (List Nat) → List (List Nat)
  | [], acc => acc
  | o :: l, acc => waitsGo l (acc ++ [acc.length :: (o.after.toList.filter (Region.binds .any)).foldr (fun e l => (nth acc e.on).getD [] ++ l) []])
def waits (ops : List Oper) : List (List Nat) := waitsGo ops []

/-- where one has panicked: its number, its value, what stands behind it -/
abbrev Pan := Nat × Value × St

/-- does it wait for the one that has panicked? -/
def blocked (w : List (List Nat)) (i : Nat) (pn : Option Pan) : Bool := match pn with
  | some (j, _, _) => mem j ((nth w i).getD [])
  | none => false

def execDraw (ops : List Oper) (w : List (List Nat)) : List Oper → St → List Ent → Option Pan → (List Ent → Option Pan → St → RR) → RR
  | [], st, tr, pn, k => k tr pn st
  | o :: rest, st, tr, pn, k =>
    let n := st.h.length
    cond (blocked w tr.length pn) (execDraw ops w rest st (⟨[], false, n, n, []⟩ :: tr) pn k)
    (guarded S (guardS ops st.t o) st.t
      (fun t =>
        let fp := footOf P ⟨t, st.h⟩ o
        stepOp S P G ⟨t, restrict (fun k => mem k fp) st.h⟩ o fun
        | .val v h => S.nv v fun v => match h with
          | none => execDraw ops w rest ⟨putT t o.dst v, st.h⟩ (⟨fp, false, n, n, fp ++ ids v⟩ :: tr) pn k
          | some h => S.nh (merge (fun k => mem k fp || !decide (k < n)) st.h h) fun h =>
              execDraw ops w rest ⟨putT t o.dst v, h⟩ (⟨fp, true, n, h.length, fp ++ ids v ++ idsAt h fp ++ idsAt h (List.range' n (h.length - n))⟩ :: tr) pn k
        | .pan v h => match pn with
          | some _ => none
          | none => S.nv v fun v => S.nh (merge (fun k => mem k fp) st.h (h.getD (restrict (fun k => mem k fp) st.h))) fun h =>
              execDraw ops w rest ⟨t, st.h⟩ (⟨fp, true, n, n, []⟩ :: tr) (some (tr.length, v, ⟨t, h⟩)) k)
      (fun t => execDraw ops w rest ⟨putT t o.dst undef, st.h⟩ (⟨[], false, n, n, []⟩ :: tr) pn k))

def meets (a b : List Nat) : Bool := a.any fun k => mem k b

def looks (ops : List Oper) (o : Oper) : List Nat :=
  (o.op.operands.toList.filterMap fun | .tmp t => some t | _ => none) ++
  (match o.guard with
   | some (g, _) => match nth ops g with
     | some og => match og.dst with | some d => [d] | none => []
     | none => []
   | none => [])

/-- may the two stand in either order? -/
def free (ops : List Oper) (x y : Oper) (a b : Ent) : Bool :=
  (match x.dst with | some d => !mem d (looks ops y) && (match y.dst with | some e => !Nat.beq d e | none => true) | none => true) &&
  (match y.dst with | some d => !mem d (looks ops x) | none => true) &&
  !((a.wr || b.wr) && meets a.fp b.fp)

/-- what an operation's results name: blocks that were there, or that it or what it waits for has made -/
def saidOk (n0 : Nat) (ents : List Ent) (w : List Nat) (e : Ent) : Bool :=
  e.said.all fun k => Nat.blt k n0 || w.any fun i => match nth ents i with | some a => Nat.ble a.lo k && Nat.blt k a.hi | none => false

def noSel (o : Oper) : Bool := match o.op with | .select _ _ => false | _ => true
def isJ (pj : Option Nat) (i : Nat) : Bool := match pj with | some j => Nat.beq i j | none => false
def badJ (w : List (List Nat)) (pj : Option Nat) (i : Nat) : Bool := match pj with | some j => mem j ((nth w i).getD []) | none => false
def quietJ (w : List (List Nat)) (pj : Option Nat) (i : Nat) (e : Ent) : Bool := match pj with
  | some j => mem i ((nth w j).getD []) || (!e.wr && Nat.beq e.lo e.hi)
  | none => true

def drawOk (n0 : Nat) (ops : List Oper) (w : List (List Nat)) (tr : List Ent) (pj : Option Nat) : Bool :=
  let ents := tr.reverse
  (List.range ops.length).all fun i => match nth ops i, nth ents i with
    | some oi, some ei =>
      noSel oi && oi.after.toList.all (fun e => !Region.binds .any e || Nat.blt e.on i) &&
      (badJ w pj i || (saidOk n0 ents ((nth w i).getD []) ei && quietJ w pj i ei)) &&
      ((badJ w pj i && !isJ pj i) || (List.range i).all fun x => mem x ((nth w i).getD []) || (badJ w pj x && !isJ pj x) || match nth ops x, nth ents x with
        | some ox, some ex => free ops ox oi ex ei
        | _, _ => false)
    | _, _ => false

def iter (body : St → (KE → St → RR) → RR) : Nat → St → (KE → St → RR) → RR
  | 0, _, _ => none
  | n + 1, st, k => body st fun e st' => match e with
    | .normal => iter body n st' k
    | e => k e st'

def exec (N : Nat) : Code → St → (KE → St → RR) → RR
  | .skip, st, k => k .normal st
  | .region _ ops false, st, k => execOps S P G ops.toList ops.toList st k
  | .region _ ops true, st, k => execDraw S P G ops.toList (waits ops.toList) ops.toList st [] none fun tr pn st' => match pn with
    | none => cond (drawOk st.h.length ops.toList (waits ops.toList) tr none) (k .normal st') none
    | some (j, v, st'') => cond (drawOk st.h.length ops.toList (waits ops.toList) tr (some j)) (k (.pan v) st'') none
  | .seq a b, st, k => exec N a st fun e st' => match e with
    | .normal => exec N b st' k
    | e => k e st'
  | .cond c a b, st, k => match evS st.t c with
    | some (.bool x) => S.br x (exec N a st k) (exec N b st k)
    | _ => none
  | .block id c, st, k => exec N c st fun e st' => match e with
    | .exit j => bif j == id then k .normal st' else k (.exit j) st'
    | e => k e st'
  | .loop c, st, k => iter (exec N c) N st k
  | .exit id, st, k => k (.exit id) st
  | .ret, st, k => k .ret st
  | _, _, _ => none

def resV (st : St) : List ResultVar → Option (List Value)
  | [] => some []
  | .tmp t :: l => match nth st.t t, resV st l with
    | some v, some vs => some (v :: vs)
    | _, _ => none
  | .cell t ty :: l => match nth st.t t with
    | some (.pointer (some ad)) => match loadV S P st.h ty ad, resV st l with
      | some (true, v), some vs => some (v :: vs)
      | _, _ => none
    | _ => none

end

/-! ### What is told of a function: some of its blocks, under numbers of their own -/
mutual
def mv (m : Nat → Nat) : Value → Value
  | .pointer (some a) => .pointer (some { a with block := m a.block })
  | .slice (some a) l c => .slice (some { a with block := m a.block }) l c
  | .map (some k) => .map (some (m k))
  | .func fn ⟨f⟩ ⟨c⟩ => .func fn ⟨mvL m f⟩ ⟨mvL m c⟩
  | .iface t v => .iface t (mv m v)
  | .agg ⟨l⟩ => .agg ⟨mvL m l⟩
  | .tuple ⟨l⟩ => .tuple ⟨mvL m l⟩
  | .pointer none => .pointer none
  | .slice none l c => .slice none l c
  | .map none => .map none
  | .bool b => .bool b
  | .int k n => .int k n
  | .float k n => .float k n
  | .complex k a b => .complex k a b
  | .string s => .string s
  | .chan r => .chan r
  | .nilFunc => .nilFunc
  | .nilIface => .nilIface
def mvL (m : Nat → Nat) : List Value → List Value
  | [] => []
  | v :: l => mv m v :: mvL m l
end

def mvB (m : Nat → Nat) : Blk → Blk
  | .cells c e => .cells (mvL m c) e
  | B => B

def idx (k : Nat) : List Nat → Nat
  | [] => 0
  | x :: l => cond (Nat.beq x k) 0 (idx k l + 1)

def pickH (m : Nat → Nat) (h : Heap) : List Nat → Option Heap
  | [] => some []
  | k :: l => match nth h k, pickH m h l with
    | some B, some r => some (mvB m B :: r)
    | _, _ => none

def okBb (p : Nat → Bool) : Blk → Bool
  | .cells c _ => okL p c
  | _ => true

def okKs (p : Nat → Bool) (h : Heap) : List Nat → Bool
  | [] => true
  | k :: l => (match nth h k with | some B => okBb p B | none => false) && okKs p h l

def nodupB : List Nat → Bool
  | [] => true
  | k :: l => !mem k l && nodupB l

/-- the list begins with i, i + 1, .., n of them -/
def begins : Nat → Nat → List Nat → Bool
  | _, 0, _ => true
  | i, n + 1, k :: l => Nat.beq k i && begins (i + 1) n l
  | _, _ + 1, [] => false

def finish (n : Nat) (ks : List Nat) (mk : Value → Heap → Out) (v : Value) (h : Heap) : RR :=
  cond (okV (fun k => mem k ks) v && okKs (fun k => mem k ks) h ks && nodupB ks && begins 0 n ks)
    (match pickH (fun k => idx k ks) h ks with
     | some h' => some (mk (mv (fun k => idx k ks) v) h')
     | none => none) none

def one (vs : List Value) : Value := match vs with | [v] => v | vs => .tuple ⟨vs⟩

section
variable (S : Ops) (P : Program) (G : Table)

/-- the blocks that can be reached, each once: those that were there, then others -/
def addAll : List Nat → List Nat → List Nat
  | [], l => l
  | x :: xs, l => addAll xs (cond (mem x l) l (l ++ [x]))
def reachN (h : Heap) : Nat → List Nat → List Nat
  | 0, l => l
  | n + 1, l => reachN h n (addAll (idsAt h l) l)
def ksAuto (n : Nat) (v : Value) (h : Heap) : List Nat := reachN h 6 (addAll (ids v) (List.range n))

/-- a function's body, from these arguments, over these blocks; 'ks': the blocks that are told of behind it -/
def runBody (N : Nat) (fn : Func) (args : List Value) (H : Heap) (ks : Value → Heap → List Nat) : RR :=
  match fn.body with
  | none => none
  | some c => exec S P G N c ⟨args ++ List.replicate (fn.ntmps - args.length) undef, H⟩ fun e st => match e with
    | .normal => match resV S P st fn.results.toList with
      | some vs => S.nv (one vs) fun v => finish H.length (ks v st.h) .ret v st.h
      | none => none
    | .ret => match resV S P st fn.results.toList with
      | some vs => S.nv (one vs) fun v => finish H.length (ks v st.h) .ret v st.h
      | none => none
    | .pan v => finish H.length (ks v st.h) .pan v st.h
    | .exit _ => none
end
end Go.Vx
