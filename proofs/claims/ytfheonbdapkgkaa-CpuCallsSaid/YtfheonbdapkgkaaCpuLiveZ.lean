/- The chapter's example comes out right. -/
import Derived.Test.YtfheonbdapkgkaaCpuLives
import Derived.Test.YtfheonbdapkgkaaVxKind
namespace Go.Vx
open Go Go.Proofs
def is13 (f : FuncId) : Bool := Nat.beq f 13
noncomputable def lvT : Table := sel is13 (liftT (memos [lv1, lv2, lv3, lv4, lv5] (tab []))) (Glive 11)
theorem lvT_ok : TableOK Try.prog lvT := by
  refine sel_ok (liftT_ok (memos_ok (tab_ok tab_nil) fun x hx => ?_)) (glive_ok 11)
  simp only [List.mem_cons, List.not_mem_nil, or_false] at hx
  rcases hx with rfl | rfl | rfl | rfl | rfl
  · exact lv1_ok
  · exact lv2_ok
  · exact lv3_ok
  · exact lv4_ok
  · exact lv5_ok
theorem live_run : runBody strict Try.prog lvT 40 Try.f10 [] [] (ksAuto 0) = some (.ret (.bool true) []) := by kernel_rfl
def e10 : Entry := (10, fun args H => match args, H with
  | [], [] => .leaf (.ret (.bool true) none)
  | _, _ => .fail)
theorem ok10 : EntryOK Try.prog e10 := by
  intro args H c hc hH ha
  unfold e10 at hc
  dsimp only at hc
  split at hc
  · simp only [CT.run, Option.some.injEq] at hc
    subst hc
    exact keep_ok (body_sound lvT_ok mixed Try.func10 (by rw [← strict_eq]; exact live_run) hH ha)
  · cases hc
end Go.Vx
