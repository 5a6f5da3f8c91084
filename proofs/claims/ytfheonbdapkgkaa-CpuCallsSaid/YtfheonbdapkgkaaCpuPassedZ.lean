/- CpuPassed holds: whatever the state and the word: a word that says something, under a condition that does not hold, moves the PC alone. No condition. -/
import Derived.Test.YtfheonbdapkgkaaCpuD2
import Derived.Test.YtfheonbdapkgkaaCpuE1
namespace Go.Vx
open Go Go.Proofs Go.Proofs.Ytfheonbdapkgkaa Go.ChangeShapes Go.WideShapes Go.ChangeAt Go.RowKit

/-- a call that needs nothing of the heap: it returns that, and leaves all that was there as it was -/
theorem calls_true {f : FuncId} {args : List Value} {v : Value} (h : CallsOK Try.prog f args [] (.ret v (some []))) (ha : ∀ r : Env, args.map (ren r) = args) (hv : ∀ r : Env, ren r v = v) (hok : okL (below 0) args = true) (W : World) :
    Calls Try.prog f args.toArray W fun e w' => e = .returned v ∧ W.keptBut w' (fun _ => False) := by
  have h0 := h (fun _ => ⟨0, 1, none⟩) (fun _ _ => False) W ⟨fun k B hk => by simp at hk, fun i j x hi => by simp at hi⟩ (fun B hB => by simp at hB) hok
  rw [ha] at h0
  refine h0.mono ?_
  rintro e w' ⟨r', F', ht, _, he⟩
  refine ⟨by rw [he, hv], ht.os, ht.output, fun i hi => ?_⟩
  rw [ht.keep i hi fun k hk => by simp at hk]
  cases W.heap[i]? with
  | none => rfl
  | some o => cases o with
    | cells c t fr => exact ⟨rfl, rfl, rfl, fun _ _ => rfl⟩
    | map es clock => exact .inr ⟨rfl, rfl⟩
    | _ => rfl

theorem ren_state (r : Env) (s : Sta) : ren r (stV s) = stV s := rfl

theorem wf28 {s : Sta} (h : wfS s) : u32 s.s28 := h s.s28 (by simp [staAll])
theorem wf29 {s : Sta} (h : wfS s) : u32 s.s29 := h s.s29 (by simp [staAll])

theorem all5 : ∀ e ∈ [e9 gpS LD, e10, e11, e20 D20, e22 M22, e21 M21, e12, e13 al4 w120 (nd D20) (np D20 M21 M22) (sv D20) add4 priv m28, e14i], EntryOK Try.prog e :=
  tab_cons (ok9 ok31) (tab_cons ok10 (tab_cons ok11 (tab_cons okD20 (tab_cons ok22 (tab_cons ok21 (tab_cons ok12 (tab_cons okD13 (tab_cons ok14i tab_nil))))))))

set_option maxRecDepth 100000 in
theorem walk5 {s : Sta} {w : Int} (hs : wfS s) (hw : u32 w) (W : World) : Calls Try.prog 5 #[stV s, .int .u32 w] W fun e w' => e = .returned (.bool true) ∧ W.keptBut w' (fun _ => False) := by
  have hr := run_ok all5 mixed Try.func5 ((r5 gpS LD D20 M21 M22 al4 w120 (nd D20) (np D20 M21 M22) (sv D20) add4 priv m28 s w).trans (law5 (wf28 hs) hw)) (fun B hB => by simp at hB) rfl
  exact calls_true hr.1 (fun r => rfl) (fun _ => rfl) rfl W

theorem own : ownKnob Try.prog.godebug = none := by kernel_rfl


set_option maxRecDepth 100000 in
theorem lifted5 (os : Os) (started : os.Started) (H : Type) (enc : TypeId × Value → H) :
    ReturnsInHanded {} Try.checked os 5 .any (Rows.cpuPassedSpec.pre6 enc Try.prog Try.f5 Rows.cpuPassedRow.domain false) (Rows.cpuPassedSpec.post enc Try.prog Try.f5 false true false false) := by
  refine returnsInHanded_of_change (C := Try.checked) own started (by kernel_rfl) Try.func5
    (ChangeSpec.witness6 (enc := enc) (C := Try.checked) false ⟨#[], #[stV staZ, .int .u32 0], []⟩ 8 (by kernel_rfl) (by kernel_rfl) (by kernel_rfl) (by kernel_rfl)) ?_
  intro W base args ds gs before hval0 hW hcnd _
  have hval : ∀ (j : Nat) t v, Try.f5.params[j]? = some t → args[j]? = some v → Value.okWide Try.prog W .any base t v := hval0
  have hW' := hW
  obtain ⟨p, q, hA0, hV, rfl, hfz, hnd⟩ := hW
  have hA : DataW.TrodAll enc Try.prog W 0 (fun _ => true) true Try.f5.params.toList args.toList ds p := hA0
  rw [Try.params5] at hA hval
  obtain ⟨v0, vs0, d0, ds0, p0, q0, hargs, rfl, rfl, h0, r0⟩ := trodAll_cons hA
  obtain ⟨v1, vs1, d1, ds1, p1, q1, rfl, rfl, rfl, h1, r1⟩ := trodAll_cons r0
  obtain ⟨rfl, rfl, rfl⟩ := trodAll_nil r1
  obtain rfl : args = #[v0, v1] := by cases args; simp_all
  obtain ⟨rfl, rfl⟩ := trodVars_none hV
  obtain ⟨s, rfl, rfl, hs⟩ := open_state (hval 0 26 v0 rfl rfl) h0
  obtain ⟨a1, rfl, rfl, rfl, w1⟩ := open_int Try.underlying22 (hval 1 22 v1 rfl rfl) h1
  clear hA0 hval0
  simp only [List.append_nil] at hW'
  have hb := bounds_u32 w1
  refine (walk5 hs ⟨hb.1, by omega⟩ W).mono fun e W' ⟨he, hg⟩ => ?_
  subst he
  exact ⟨_, rfl, _, _, [], [], [], [], hW', (trodAll_cons_mk (shut_bool Try.underlying4 _) trodAll_mk0), (trodAll_cons_mk (flat_Trod flat26 h0) (trodAll_cons_mk (shut_int Try.underlying22 w1) trodAll_mk0)), rfl, World.keptBut_mono (fun p hp => hp.elim) hg, fun h => by cases h⟩
end Go.Vx

namespace Go.Proofs.Ytfheonbdapkgkaa.passed
open Go Go.Proofs Go.Vx Go.ChangeShapes Go.WideShapes Go.ChangeAt Go.RowKit
theorem over : Rows.cpuPassedRow.holds Try.pinned (OpenSpec.ofChange Rows.cpuPassedSpec) :=
  OpenClaim.holds_of_wide 5 Try.f5 rfl rfl rfl rfl rfl rfl rfl ⟨rfl, rfl, rfl, rfl, rfl⟩ rfl rfl rfl rfl rfl (by kernel_rfl) Try.func5 (by kernel_rfl)
    (of_decide_eq_true (by kernel_rfl)) (by unfold Func.isWrapper; first | (rw [if_pos (by decide +kernel)]; kernel_rfl) | (rw [if_neg (by decide +kernel)]; exact ⟨rfl, rfl⟩))
    (fun os started H enc _ => lifted5 os started H enc)

theorem cpuPassed_holds : Rows.CpuPassedSaid := over
#print axioms cpuPassed_holds
end Go.Proofs.Ytfheonbdapkgkaa.passed
