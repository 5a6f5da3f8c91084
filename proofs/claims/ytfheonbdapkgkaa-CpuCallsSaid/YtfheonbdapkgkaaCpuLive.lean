/- What the chapter's example needs of the program: the function that defers (f29), by its parts; contracts that are had by running. -/
import Derived.Test.YtfheonbdapkgkaaVxLift
import Derived.KernelRfl
import Derived.Test.YtfheonbdapkgkaaChecked
namespace Go.Vx
open Go Go.Proofs

theorem mixed : Try.prog.follows .mixedOrders = true := Checked.mixed (C := Try.checked)

def preOf : Code → List Code × Code
  | .seq a (.seq (.region i #[o1, o2] false) b) => ([a], .seq (.region i #[o1, o2] false) b)
  | .seq a b => ((a :: (preOf b).1), (preOf b).2)
  | c => ([], c)
def sndOf : Code → Code
  | .seq _ b => b
  | c => c
def regOf : Code → Nat × List Oper
  | .seq (.region i ops _) _ => (i, ops.toList)
  | _ => (0, [])
noncomputable def bodyOf (f : Func) : Code := f.body.getD .skip
noncomputable def d29 : Code := (preOf (bodyOf Try.f29)).2
noncomputable def pre29 : List Code := (preOf (bodyOf Try.f29)).1
noncomputable def b29 : Code := sndOf d29
noncomputable def c35 : Code := sndOf (bodyOf Try.f35)
def oper0 : Oper := { dst := none, op := .panic (.tmp 0), type := 0, pos := "", after := #[], guard := none }
def call0 : Call := { callee := .builtin .recover, args := #[], argTypes := #[] }
def callOf (o : Oper) : Call := match o.op with
  | .call c => c
  | .defer c => c
  | _ => call0
noncomputable def o29 (i : Nat) : Oper := (nth (regOf d29).2 i).getD oper0
noncomputable def o35 : Oper := (nth (regOf (bodyOf Try.f35)).2 0).getD oper0
noncomputable def sp29 (G : Table) : Table := fun _ args H => toCT H (runDefer strict Try.prog G 40 Try.f29 pre29 b29 35 Try.f35 c35 34 [.tmp 8, .tmp 4, .tmp 7] 7 args H (ksAuto H.length))
def is29 (f : FuncId) : Bool := Nat.beq f 29
noncomputable def Glive (d : Nat) : Table := auto Try.prog 40 sp29 is29 d
theorem sp29_ok (G : Table) (hG : TableOK Try.prog G) : ∀ f args H x, is29 f = true → (sp29 G f args H).run = some x → okH H → okL (below H.length) args = true → CallsOK Try.prog f args H x ∧ x.ok H := by
  intro f args H x hf hx hH ha
  obtain rfl := Nat.eq_of_beq_eq_true hf
  unfold sp29 at hx
  rw [strict_eq] at hx
  refine toCT_sound hx hH fun out ho => ?_
  exact defer_sound (id1 := (regOf d29).1) (o1 := o29 0) (o2 := o29 1) (c2 := callOf (o29 1)) (id2 := (regOf (bodyOf Try.f35)).1) (o3 := o35) (c3 := callOf o35)
    hG mixed Try.func29 (pre := pre29) (B := b29) (C := c35) (fd := 35) (fnd := Try.f35) (df := 34) (rt := 7) (caps := [.tmp 8, .tmp 4, .tmp 7]) (by kernel_rfl) rfl Try.func35 (by kernel_rfl) (by kernel_rfl) rfl
    (by kernel_rfl) (by kernel_rfl) (by kernel_rfl) (by kernel_rfl) (by kernel_rfl) (by kernel_rfl) (by kernel_rfl) (by kernel_rfl) (by kernel_rfl) (by kernel_rfl) (by kernel_rfl) (by kernel_rfl) (by kernel_rfl) ho hH ha
theorem glive_ok (d : Nat) : TableOK Try.prog (Glive d) := auto_ok mixed sp29_ok d
end Go.Vx
