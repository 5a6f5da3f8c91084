/- Answers of one shape: what a function answers, read from what its run comes to. -/
import Derived.Test.YtfheonbdapkgkaaVxLift
namespace Go.Vx
open Go

structure Kind where
  α : Type
  out : α → Out
  rd : Out → α

def Fits (K : Kind) (r : RR) : Prop := ∃ o, r = some o ∧ o = K.out (K.rd o)
theorem fits_leaf {K : Kind} {o : Out} (h : o = K.out (K.rd o)) : Fits K (some o) := ⟨o, rfl, h⟩
theorem fits_br {K : Kind} {c : Bool} {x y : RR} (hx : Fits K x) (hy : Fits K y) : Fits K (cond c x y) := by cases c <;> assumption
theorem fits_if {K : Kind} {c : Bool} {x y : RR} (hx : c = true → Fits K x) (hy : c = false → Fits K y) : Fits K (cond c x y) := by
  cases c
  · exact hy rfl
  · exact hx rfl
theorem fits_ob {K : Kind} {c : Bool} {x y : RR} (h : c = true) (hx : Fits K x) : Fits K (cond c x y) := by subst h; exact hx

def outOf (r : RR) : Out := r.getD (.ret undef [])
def Kind.of (K : Kind) (r : RR) : K.α := K.rd (outOf r)
theorem Fits.eq {K : Kind} {r : RR} (h : Fits K r) : r = some (K.out (K.of r)) := by
  obtain ⟨o, rfl, ho⟩ := h
  exact congrArg some ho

def EntryOK (P : Program) (e : Entry) : Prop := ∀ args H c, (e.2 args H).run = some c → okH H → okL (below H.length) args = true → CallsOK P e.1 args H c ∧ c.ok H

theorem tab_ok {P : Program} : ∀ {l : List Entry}, (∀ e ∈ l, EntryOK P e) → TableOK P (tab l)
  | [], _ => fun f args H c hc => by cases hc
  | (g, k) :: l, h => by
    intro f args H c hc hH ha
    unfold tab at hc
    cases hf : Nat.beq g f with
    | false => rw [hf] at hc; exact tab_ok (l := l) (fun e he => h e (by simp [he])) f args H c hc hH ha
    | true =>
      rw [hf] at hc
      obtain rfl := Nat.eq_of_beq_eq_true hf
      exact h (g, k) (by simp) args H c hc hH ha

theorem tab_nil {P : Program} : ∀ e ∈ ([] : List Entry), EntryOK P e := fun e h => by cases h
theorem tab_cons {P : Program} {e : Entry} {l : List Entry} (h : EntryOK P e) (hl : ∀ x ∈ l, EntryOK P x) : ∀ x ∈ e :: l, EntryOK P x := by
  intro x hx
  rcases List.mem_cons.1 hx with rfl | hx
  · exact h
  · exact hl x hx

/-- what came out of the run is what the entry says -/
theorem run_ok {P : Program} {l : List Entry} (hl : ∀ e ∈ l, EntryOK P e) (hm : P.follows .mixedOrders = true) {N : Nat} {f : FuncId} {fn : Func} (hf : P.funcs[f]? = some fn) {args : List Value} {H : Heap}
    {o : Out} (h : runBody std P (liftT (tab l)) N fn args H (ksAuto H.length) = some o) (hH : okH H) (ha : okL (below H.length) args = true) : CallsOK P f args H o.cr ∧ o.cr.ok H :=
  body_sound (liftT_ok (tab_ok hl)) hm hf h hH ha

/-- a heap that comes out as it went in -/
theorem keep_ok {P : Program} {f : FuncId} {args : List Value} {H : Heap} {v : Value} (h : CallsOK P f args H (Out.ret v H).cr ∧ (Out.ret v H).cr.ok H) : CallsOK P f args H (.ret v none) ∧ (CR.ret v none).ok H := h

def sel (p : FuncId → Bool) (A B : Table) : Table := fun f args H => cond (p f) (A f args H) (B f args H)
theorem sel_ok {P : Program} {p : FuncId → Bool} {A B : Table} (hA : TableOK P A) (hB : TableOK P B) : TableOK P (sel p A B) := by
  intro f args H c hc
  unfold sel at hc
  cases hp : p f with
  | true => rw [hp] at hc; exact hA f args H c hc
  | false => rw [hp] at hc; exact hB f args H c hc

/-- the same, behind which the heap stands so -/
def Kind.at (K : Kind) (H : Heap) : Kind := ⟨K.α, fun a => match K.out a with
  | .ret v _ => .ret v H
  | .pan v _ => .pan v H, K.rd⟩

def intOf : Value → Int
  | .int _ a => a
  | _ => 0
def boolOf : Value → Bool
  | .bool b => b
  | _ => false
def valOf : Out → Value
  | .ret v _ => v
  | .pan v _ => v
def kInt (k : IntKind) : Kind := ⟨Int, fun a => .ret (.int k a) [], fun o => intOf (valOf o)⟩
def kBool : Kind := ⟨Bool, fun a => .ret (.bool a) [], fun o => boolOf (valOf o)⟩
def kVal {α : Type} (f : α → Value) (g : Value → α) : Kind := ⟨α, fun a => .ret (f a) [], fun o => g (valOf o)⟩
def cellsL : Value → List Value
  | .agg ⟨l⟩ => l
  | .tuple ⟨l⟩ => l
  | _ => []
def cellI (l : List Value) (i : Nat) : Int := intOf ((nth l i).getD undef)
def cellB (l : List Value) (i : Nat) : Bool := boolOf ((nth l i).getD undef)
end Go.Vx
