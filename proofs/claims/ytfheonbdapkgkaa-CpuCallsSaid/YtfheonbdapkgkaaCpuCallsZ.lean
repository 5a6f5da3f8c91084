/- CpuCalls holds: whatever the state, the number and the word: a supervisor call, and the return behind it, leave all as it was but LR and SPSR of SVC, and the PC 4 further; an undefined word likewise. No condition. -/
import Derived.Test.YtfheonbdapkgkaaCpuD3
import Derived.Test.YtfheonbdapkgkaaCpuPassedZ
namespace Go.Vx
open Go Go.Proofs Go.Proofs.Ytfheonbdapkgkaa Go.ChangeShapes Go.WideShapes Go.ChangeAt Go.RowKit

theorem all6 : ∀ e ∈ [e9 gpS LD, e10, e11, e20 D20, e22 M22, e21 M21, e12, e13 al4 w120 (nd D20) (np D20 M21 M22) (sv D20) add4 priv m28, e14i, e15c is1 is3 okm cutR], EntryOK Try.prog e :=
  tab_cons (ok9 ok31) (tab_cons ok10 (tab_cons ok11 (tab_cons okD20 (tab_cons ok22 (tab_cons ok21 (tab_cons ok12 (tab_cons okD13 (tab_cons ok14i (tab_cons okD15 tab_nil)))))))))

set_option maxRecDepth 100000 in
theorem walk6 {s : Sta} {n w : Int} (hs : wfS s) (hw : u32 w) (W : World) : Calls Try.prog 6 #[stV s, .int .u32 n, .int .u32 w] W fun e w' => e = .returned (.bool true) ∧ W.keptBut w' (fun _ => False) := by
  have hr := run_ok all6 mixed Try.func6 ((r6 gpS LD D20 M21 M22 al4 w120 (nd D20) (np D20 M21 M22) (sv D20) add4 priv m28 s n w is1 is3 okm cutR).trans (law6 (wf28 hs) (wf29 hs) hw)) (fun B hB => by simp at hB) rfl
  exact calls_true hr.1 (fun r => rfl) (fun _ => rfl) rfl W

set_option maxRecDepth 100000 in
theorem lifted6 (os : Os) (started : os.Started) (H : Type) (enc : TypeId × Value → H) :
    ReturnsInHanded {} Try.checked os 6 .any (Rows.cpuCallsSpec.pre6 enc Try.prog Try.f6 Rows.cpuCallsRow.domain false) (Rows.cpuCallsSpec.post enc Try.prog Try.f6 false true false false) := by
  refine returnsInHanded_of_change (C := Try.checked) own started (by kernel_rfl) Try.func6
    (ChangeSpec.witness6 (enc := enc) (C := Try.checked) false ⟨#[], #[stV staZ, .int .u32 0, .int .u32 0], []⟩ 8 (by kernel_rfl) (by kernel_rfl) (by kernel_rfl) (by kernel_rfl)) ?_
  intro W base args ds gs before hval0 hW hcnd _
  have hval : ∀ (j : Nat) t v, Try.f6.params[j]? = some t → args[j]? = some v → Value.okWide Try.prog W .any base t v := hval0
  have hW' := hW
  obtain ⟨p, q, hA0, hV, rfl, hfz, hnd⟩ := hW
  have hA : DataW.TrodAll enc Try.prog W 0 (fun _ => true) true Try.f6.params.toList args.toList ds p := hA0
  rw [Try.params6] at hA hval
  obtain ⟨v0, vs0, d0, ds0, p0, q0, hargs, rfl, rfl, h0, r0⟩ := trodAll_cons hA
  obtain ⟨v1, vs1, d1, ds1, p1, q1, rfl, rfl, rfl, h1, r1⟩ := trodAll_cons r0
  obtain ⟨v2, vs2, d2, ds2, p2, q2, rfl, rfl, rfl, h2, r2⟩ := trodAll_cons r1
  obtain ⟨rfl, rfl, rfl⟩ := trodAll_nil r2
  obtain rfl : args = #[v0, v1, v2] := by cases args; simp_all
  obtain ⟨rfl, rfl⟩ := trodVars_none hV
  obtain ⟨s, rfl, rfl, hs⟩ := open_state (hval 0 26 v0 rfl rfl) h0
  obtain ⟨a1, rfl, rfl, rfl, w1⟩ := open_int Try.underlying22 (hval 1 22 v1 rfl rfl) h1
  obtain ⟨a2, rfl, rfl, rfl, w2⟩ := open_int Try.underlying22 (hval 2 22 v2 rfl rfl) h2
  clear hA0 hval0
  simp only [List.append_nil] at hW'
  have hb := bounds_u32 w2
  refine (walk6 hs ⟨hb.1, by omega⟩ W).mono fun e W' ⟨he, hg⟩ => ?_
  subst he
  exact ⟨_, rfl, _, _, [], [], [], [], hW', (trodAll_cons_mk (shut_bool Try.underlying4 _) trodAll_mk0), (trodAll_cons_mk (flat_Trod flat26 h0) (trodAll_cons_mk (shut_int Try.underlying22 w1) (trodAll_cons_mk (shut_int Try.underlying22 w2) trodAll_mk0))), rfl,
    World.keptBut_mono (fun p hp => hp.elim) hg, fun h => by cases h⟩
end Go.Vx

namespace Go.Proofs.Ytfheonbdapkgkaa.calls
open Go Go.Proofs Go.Vx Go.ChangeShapes Go.WideShapes Go.ChangeAt Go.RowKit
theorem over : Rows.cpuCallsRow.holds Try.pinned (OpenSpec.ofChange Rows.cpuCallsSpec) :=
  OpenClaim.holds_of_wide 6 Try.f6 rfl rfl rfl rfl rfl rfl rfl ⟨rfl, rfl, rfl, rfl, rfl⟩ rfl rfl rfl rfl rfl (by kernel_rfl) Try.func6 (by kernel_rfl)
    (of_decide_eq_true (by kernel_rfl)) (by unfold Func.isWrapper; first | (rw [if_pos (by decide +kernel)]; kernel_rfl) | (rw [if_neg (by decide +kernel)]; exact ⟨rfl, rfl⟩))
    (fun os started H enc _ => lifted6 os started H enc)

theorem cpuCalls_holds : Rows.CpuCallsSaid := over
#print axioms cpuCalls_holds
end Go.Proofs.Ytfheonbdapkgkaa.calls
