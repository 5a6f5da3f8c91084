/- Definitions: a function that defers; contracts that are had by running. -/
import Derived.Test.YtfheonbdapkgkaaVxStrict
namespace Go.Vx
open Go

def seqs : List Code → Code → Code
  | [], d => d
  | c :: l, d => .seq c (seqs l d)

section
variable (S : Ops) (P : Program) (G : Table)

def execs (N : Nat) : List Code → St → (St → RR) → RR
  | [], st, k => k st
  | c :: l, st, k => exec S P G N c st fun e st' => match e with
    | .normal => execs N l st' k
    | _ => none

/-- behind the recovery -/
def recovered (N n : Nat) (C : Code) (ks : Value → Heap → List Nat) (st : St) : RR :=
  exec S P G N C st fun e st' => match e with
    | .normal => finish n (ks (.tuple ⟨[]⟩) st'.h) .ret (.tuple ⟨[]⟩) st'.h
    | _ => none

/-- 'pre'; then a closure (number fd, of the slots caps) is made in the slot df and deferred; then B; the closure asks recover into its slot rt, then C -/
def runDefer (N : Nat) (fn : Func) (pre : List Code) (B : Code) (fd : FuncId) (fnd : Func) (C : Code) (df : Nat) (caps : List Operand) (rt : Nat) (args : List Value) (H : Heap) (ks : Value → Heap → List Nat) : RR :=
  execs S P G N pre ⟨args ++ List.replicate (fn.ntmps - args.length) undef, H⟩ fun st =>
    match evL st.t caps, nth st.t df with
    | some cs, some _ => exec S P G N B ⟨setN st.t df (.func (.func fd) ⟨[]⟩ ⟨cs⟩), st.h⟩ fun e st2 => match e with
      | .normal => recovered S P G N H.length C ks ⟨setN (cs ++ List.replicate (fnd.ntmps - cs.length) undef) rt .nilIface, st2.h⟩
      | .pan v => recovered S P G N H.length C ks ⟨setN (cs ++ List.replicate (fnd.ntmps - cs.length) undef) rt v, st2.h⟩
      | _ => none
    | _, _ => none
end

mutual
def eqv : Value → Value → Bool
  | .int k n, .int k' n' => decide (k = k') && decide (n = n')
  | .bool b, .bool b' => b == b'
  | .pointer none, .pointer none => true
  | .pointer (some ⟨b, o, none⟩), .pointer (some ⟨b', o', none⟩) => Nat.beq b b' && Nat.beq o o'
  | .slice none l c, .slice none l' c' => Nat.beq l l' && Nat.beq c c'
  | .slice (some ⟨b, o, none⟩) l c, .slice (some ⟨b', o', none⟩) l' c' => Nat.beq b b' && Nat.beq o o' && Nat.beq l l' && Nat.beq c c'
  | .nilIface, .nilIface => true
  | .nilFunc, .nilFunc => true
  | .iface t v, .iface t' v' => Nat.beq t t' && eqv v v'
  | .agg ⟨l⟩, .agg ⟨l'⟩ => eqvL l l'
  | .tuple ⟨l⟩, .tuple ⟨l'⟩ => eqvL l l'
  | _, _ => false
def eqvL : List Value → List Value → Bool
  | [], [] => true
  | v :: l, v' :: l' => eqv v v' && eqvL l l'
  | _, _ => false
end

def sameB : Blk → Blk → Bool
  | .gone, .gone => true
  | .cells c e, .cells c' e' => eqvL c c' && Nat.beq e e'
  | .row s n f e, .row s' n' f' e' => Nat.beq s s' && Nat.beq n n' && Nat.beq e e' && (List.range n).all fun i => eqvL (f i) (f' i)
  | _, _ => false
def sameH : Heap → Heap → Bool
  | [], [] => true
  | B :: H, B' :: H' => sameB B B' && sameH H H'
  | _, _ => false

/-- what came out, as a contract: where nothing has changed, that is said -/
def toCT (H : Heap) : RR → CT
  | some (.ret v h) => forceV v fun v => forceH h fun h => cond (sameH H h) (.leaf (.ret v none)) (.leaf (.ret v (some h)))
  | some (.pan v h) => forceV v fun v => forceH h fun h => cond (sameH H h) (.leaf (.pan v none)) (.leaf (.pan v (some h)))
  | none => .fail

/-- a function that is run where it is called -/
def autoRun (P : Program) (N : Nat) (G : Table) (f : FuncId) (args : List Value) (H : Heap) : CT :=
  match P.funcs[f]? with
  | some fn => forceL args fun args => forceH H fun H => toCT H (runBody strict P G N fn args H (ksAuto H.length))
  | none => .fail

/-- layer by layer: 'sp' says some functions another way -/
def auto (P : Program) (N : Nat) (sp : Table → Table) (isSp : FuncId → Bool) : Nat → Table
  | 0 => fun _ _ _ => .fail
  | d + 1 => fun f args H => cond (isSp f) (sp (auto P N sp isSp d) f args H) (autoRun P N (auto P N sp isSp d) f args H)

end Go.Vx
