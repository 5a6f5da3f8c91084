/- A function that defers one closure, which recovers. -/
import Derived.Test.YtfheonbdapkgkaaVxExec
import Derived.Test.YtfheonbdapkgkaaVxRun
import Derived.Recover
namespace Go.Vx
open Go

section
variable {P : Program} {G : Table}

theorem execs_sound (hG : TableOK P G) (hm : P.follows .mixedOrders = true) {N : Nat} : ∀ {l : List Code} {st : St} {k : St → RR} {out : Out}, execs std P G N l st k = some out → OkSt st →
    ∃ st', k st' = some out ∧ OkSt st' ∧ st.h.length ≤ st'.h.length ∧ ∀ (d : Code) (r : Env) (F : Foot) (a : Act) (w : World), Sees r st.t a → Sat r F st.h w → ∀ Q : Exit → Act → World → Prop,
      (∀ r' F' a' w', Tr r F st.h.length w r' F' st'.h.length w' → Sees r' st'.t a' → Sat r' F' st'.h w' → a'.defers = a.defers → d.wp P Q a' w') → (seqs l d).wp P Q a w
  | [], st, k, out, h, hok => ⟨st, h, hok, Nat.le_refl _, fun d r F a w ha hS Q hQ => hQ r F a w (Tr.refl _ _ _ _) ha hS rfl⟩
  | c :: l, st, k, out, h, hok => by
    unfold execs at h
    obtain ⟨e, st1, h1, h2, h3⟩ := exec_sound hG hm N c h hok
    cases e with
    | normal =>
      obtain ⟨st', g1, g2, g3, g4⟩ := execs_sound hG hm h1 h2.ok
      refine ⟨st', g1, g2, Nat.le_trans h2.len g3, fun d r F a w ha hS Q hQ => wp_seq ?_⟩
      refine h3 r F a w ha hS _ fun r' F' a' w' ht ha' hS' hd => ?_
      exact g4 d r' F' a' w' (ha' rfl) hS' Q fun r2 F2 a2 w2 ht2 ha2 hS2 hd2 => hQ r2 F2 a2 w2 (ht.trans ht2) ha2 hS2 (hd2.trans hd)
    | exit id => cases h1
    | ret => cases h1
    | pan v => cases h1

theorem defer_sound (hG : TableOK P G) (hm : P.follows .mixedOrders = true) {N : Nat} {f fd : FuncId} {fn fnd : Func} {pre : List Code} {B C : Code} {df rt : Nat} {caps : List Operand}
    {o1 o2 o3 : Oper} {c2 c3 : Call} {id1 id2 : Nat} {args : List Value} {H : Heap} {ks : Value → Heap → List Nat} {out : Out}
    (hf : P.funcs[f]? = some fn) (hb : fn.body = some (seqs pre (.seq (.region id1 #[o1, o2] false) B))) (hres : fn.results = #[])
    (hfd : P.funcs[fd]? = some fnd) (hcd : callable P fd = true) (hbd : fnd.body = some (.seq (.region id2 #[o3] false) C)) (hresd : fnd.results = #[])
    (h1 : o1.op = .makeFunc (.func fd) #[] caps.toArray) (h1d : o1.dst = some df) (h1g : o1.guard = none)
    (h2 : o2.op = .defer c2) (h2c : c2.callee = .value (.tmp df)) (h2a : c2.args = #[]) (h2d : o2.dst = none) (h2g : o2.guard = none)
    (h3 : o3.op = .call c3) (h3c : c3.callee = .builtin .recover) (h3a : c3.args = #[]) (h3d : o3.dst = some rt) (h3g : o3.guard = none)
    (h : runDefer std P G N fn pre B fd fnd C df caps rt args H ks = some out) (hH : okH H) (hargs : okL (below H.length) args = true) : CallsOK P f args H out.cr ∧ out.cr.ok H := by
  unfold runDefer at h
  have hok : OkSt ⟨args ++ List.replicate (fn.ntmps - args.length) undef, H⟩ := ⟨hH, fun v hv => by
    rcases List.mem_append.1 hv with hv | hv
    · exact okL_iff.1 hargs v hv
    · rw [(List.mem_replicate.1 hv).2]; rfl⟩
  obtain ⟨st, k1, ok1, le1, run1⟩ := execs_sound hG hm h hok
  have start : ∀ r : Env, Sees r (args ++ List.replicate (fn.ntmps - args.length) undef) { tmps := (args.map (ren r)).toArray ++ Array.replicate (fn.ntmps - (args.map (ren r)).toArray.size) undef, defers := [] } := by
    intro r
    simp only [Sees, Array.toList_append, Array.toList_replicate, List.map_append, List.map_replicate, ren_undef, List.size_toArray, List.length_map]
  split at k1
  rotate_left
  · cases k1
  · rename_i cs _ hcs hdfs
    have hcsok : okL (below st.h.length) cs = true := evL_ok ok1.t hcs
    have ok1' : OkSt ⟨setN st.t df (.func (.func fd) ⟨[]⟩ ⟨cs⟩), st.h⟩ := ⟨ok1.h, putT_ok ok1.t (by rw [okV_func]; simp [okL, hcsok]) (some df)⟩
    obtain ⟨e, st2, k2, g2, run2⟩ := exec_sound hG hm N B k1 ok1'
    -- what the closure does
    have closure : ∀ (x : Value), okV (below st2.h.length) x = true → recovered std P G N H.length C ks ⟨setN (cs ++ List.replicate (fnd.ntmps - cs.length) undef) rt x, st2.h⟩ = some out →
        out.cr.ok H ∧ ∀ (r : Env) (F : Foot) (w : World) (r2 : Env) (F2 : Foot) (w2 : World), Tr r F H.length w r2 F2 st2.h.length w2 → Sat r2 F2 st2.h w2 → ∀ (u u' : FrameMode),
          (∀ c₀ : Frame, c₀.mode = u → ∀ css, (match recoverD (c₀ :: css) with | some (v, cs') => v = ren r2 x ∧ cs' = { c₀ with mode := u' } :: css | none => ren r2 x = .nilIface ∧ u' = u)) →
          CallsD P fd (cs.map (ren r2)).toArray u w2 fun e u'' w' => u'' = u' ∧ ∃ v, e = .returned v ∧ ∃ r3 F3, Tr r F H.length w r3 F3 (out.cr.heap H).length w' ∧ Sat r3 F3 (out.cr.heap H) w' ∧ out.cr.ends r3 (.returned (.tuple #[])) := by
      intro x hx hrec
      unfold recovered at hrec
      have okC : OkSt ⟨setN (cs ++ List.replicate (fnd.ntmps - cs.length) undef) rt x, st2.h⟩ := ⟨g2.ok.h, by
        refine putT_ok (dst := some rt) (fun v hv => ?_) hx
        rcases List.mem_append.1 hv with hv | hv
        · exact okV_mono (below_mono g2.len) v (okL_iff.1 hcsok v hv)
        · rw [(List.mem_replicate.1 hv).2]; rfl⟩
      obtain ⟨e3, st3, k3, g3, run3⟩ := exec_sound hG hm N C hrec okC
      cases e3 with
      | normal =>
        obtain ⟨v', h', rfl, hn, hokh, hokv, hmove⟩ := finish_sound k3 g3.ok.h
        refine ⟨⟨hokh, hn, hokv⟩, fun r F w r2 F2 w2 ht2 hS2 u u' hu => ?_⟩
        refine callsD_of_wpS hfd hbd fun c₀ css hc₀ => wpS_seq (wpS_region ?_)
        have hu := hu c₀ hc₀ css
        have hrun : ∀ a : Act, (execOp a.eval o3).run P w2 = .ok .recover w2 := by
          intro a
          simp [execOp, h3, resolve, h3c, h3a, invoke, builtin]
        have hwant : ∀ t : Array Value, Region.wanted o3 (yielded #[o3] t) = true := fun t => by simp [Region.wanted, h3g]
        let a0 : Act := { tmps := (cs.map (ren r2)).toArray ++ Array.replicate (fnd.ntmps - (cs.map (ren r2)).toArray.size) undef, defers := [] }
        have hsee : Sees r2 (setN (cs ++ List.replicate (fnd.ntmps - cs.length) undef) rt x) (a0.put o3.dst (ren r2 x)) := by
          rw [h3d]
          refine putT_sees (t := cs ++ List.replicate (fnd.ntmps - cs.length) undef) (a := a0) ?_ (some rt) x
          simp only [a0, Sees, Array.toList_append, Array.toList_replicate, List.map_append, List.map_replicate, ren_undef, List.size_toArray, List.length_map]
        have main : ∀ cs' : List Frame, cs' = { c₀ with mode := u' } :: css → C.wpS P (bodyPostS P fnd c₀ css fun e u'' w' => u'' = u' ∧ ∃ v, e = .returned v ∧ ∃ r3 F3,
            Tr r F H.length w r3 F3 (Out.cr (.ret v' h') |>.heap H).length w' ∧ Sat r3 F3 (Out.cr (.ret v' h') |>.heap H) w' ∧ (Out.cr (.ret v' h')).ends r3 (.returned (.tuple #[]))) (a0.put o3.dst (ren r2 x)) cs' w2 := by
          rintro cs' rfl
          refine wpS_of_wp (run3 r2 F2 _ w2 hsee hS2 _ fun r3 F3 a3 w3 ht3 ha3 hS3 hd3 => ?_)
          obtain ⟨r4, F4, ht4, hS4, hr4⟩ := hmove r F w r3 F3 w3 (ht2.trans ht3) hS3
          refine ⟨by rw [hd3, put_defers], u', rfl, .tuple #[], by simp [results, hresd], rfl, _, rfl, r4, F4, ht4, hS4, ?_⟩
          simp only [Out.cr, CR.ends, hr4]; rfl
        show wpOpsS P #[o3] _ [0] a0 (c₀ :: css) w2
        simp only [wpOpsS, List.getElem?_toArray, List.getElem?_cons_zero, hwant, if_true, hrun]
        split
        · rename_i v cs' hrd
          rw [hrd] at hu
          obtain ⟨hv, hcs'⟩ := hu
          rw [hv]
          exact main cs' hcs'
        · rename_i hrd
          rw [hrd] at hu
          obtain ⟨hv, hcs'⟩ := hu
          rw [← hv]
          refine main _ ?_
          rw [hcs', ← hc₀]
      | exit id => cases k3
      | ret => cases k3
      | pan v => cases k3
    -- the last part
    have fin : ∀ (x : Value), okV (below st2.h.length) x = true → recovered std P G N H.length C ks ⟨setN (cs ++ List.replicate (fnd.ntmps - cs.length) undef) rt x, st2.h⟩ = some out →
        (e = .normal ∧ x = .nilIface ∨ e = .pan x) → CallsOK P f args H out.cr ∧ out.cr.ok H := by
      intro x hx hrec hex
      obtain ⟨hcrok, hcl⟩ := closure x hx hrec
      refine ⟨fun r F w hS _ _ => ?_, hcrok⟩
      refine calls_of_wp_defers hf hb (run1 _ r F _ w (start r) hS _ fun r1 F1 a1 w1 ht1 ha1 hS1 hd1 => wp_seq (wp_region_list ?_))
      show wpList P #[o1, o2] _ [o1, o2] a1 w1
      have hcsr : caps.toArray.map a1.eval = (cs.map (ren r1)).toArray := Array.ext' (by simpa using evL_sound ha1 hcs)
      have hrun1 : (execOp a1.eval o1).run P w1 = .ok (.value (ren r1 (.func (.func fd) ⟨[]⟩ ⟨cs⟩))) w1 := by
        simp [execOp, h1, hcsr, Instr.makeFunc, ren_func]
      have ha1' := putT_sees ha1 (some df) (.func (.func fd) ⟨[]⟩ ⟨cs⟩)
      have htl : df < st.t.length := by rw [nth_eq] at hdfs; exact (List.getElem?_eq_some_iff.1 hdfs).1
      have hev : (a1.put (some df) (ren r1 (.func (.func fd) ⟨[]⟩ ⟨cs⟩))).eval (.tmp df) = .func (.func fd) #[] (cs.map (ren r1)).toArray := by
        have h0 : evS (putT st.t (some df) (.func (.func fd) ⟨[]⟩ ⟨cs⟩)) (.tmp df) = some (.func (.func fd) ⟨[]⟩ ⟨cs⟩) := by
          simp [evS, nth_eq, putT, setN_eq, htl]
        rw [evS_sound ha1' h0, ren_func]; rfl
      have hrun2 : (execOp (a1.put (some df) (ren r1 (.func (.func fd) ⟨[]⟩ ⟨cs⟩))).eval o2).run P w1 = .ok (.defer { target := .fn (.func fd) (cs.map (ren r1)).toArray, args := #[] }) w1 := by
        simp [execOp, h2, resolve, h2c, h2a, hev, Deferred.ofValue]
      unfold wpList
      rw [if_pos (by simp [Region.wanted, h1g])]
      refine .inl ?_
      unfold Oper.wp
      rw [hrun1]
      show wpList P #[o1, o2] _ [o2] (a1.put o1.dst (ren r1 (.func (.func fd) ⟨[]⟩ ⟨cs⟩))) w1
      rw [h1d]
      unfold wpList
      rw [if_pos (by simp [Region.wanted, h2g])]
      refine .inl ?_
      unfold Oper.wp
      rw [hrun2, Oper.upon_defer, h2d]
      refine run2 r1 F1 { (a1.put (some df) (ren r1 (.func (.func fd) ⟨[]⟩ ⟨cs⟩))) with defers := { target := .fn (.func fd) (cs.map (ren r1)).toArray, args := #[] } :: (a1.put (some df) (ren r1 (.func (.func fd) ⟨[]⟩ ⟨cs⟩))).defers }
        w1 ha1' hS1 _ fun r2 F2 a2 w2 ht2 ha2 hS2 hd2 => ?_
      have hdef : a2.defers = [{ target := .fn (.func fd) (cs.map (ren r1)).toArray, args := #[] }] := by
        rw [hd2]
        show _ :: (a1.put _ _).defers = _
        rw [put_defers, hd1]
      have hcsr2 : (cs.map (ren r1)).toArray = (cs.map (ren r2)).toArray := by
        rw [← renL_map, ← renL_map, renL_congr (fun k hk => (ht2.env k (below_iff.1 hk)).symm) cs hcsok]
      have hinv : (invoke (.fn (.func fd) (cs.map (ren r1)).toArray) #[]).run P w2 = .ok (.enter fd (cs.map (ren r2)).toArray) w2 := by
        rw [← hcsr2]
        simp [invoke, callFunc_run hcd]
      rcases hex with ⟨rfl, rfl⟩ | rfl
      · show Leaves P fn a2.tmps _ a2.defers .returning w2
        rw [hdef]
        refine leaves_cons (by simp) hinv ((hcl r F w r2 F2 w2 (ht1.trans ht2) hS2 .returning .returning fun c₀ hc css => ?_).mono ?_)
        · simp [recoverD, hc, ren]
        · rintro e' u'' w' ⟨rfl, v, rfl, r3, F3, ht3, hS3, hen⟩
          exact ⟨.tuple #[], by simp [results, hres], r3, F3, ht3, hS3, hen⟩
      · show Leaves P fn a2.tmps _ a2.defers (.panicking [{ v := ren r2 x, recovered := false }]) w2
        rw [hdef]
        refine leaves_cons (by simp) hinv ((hcl r F w r2 F2 w2 (ht1.trans ht2) hS2 _ (.panicking [{ v := ren r2 x, recovered := true }]) fun c₀ hc css => ?_).mono ?_)
        · simp [recoverD, hc]
        · rintro e' u'' w' ⟨rfl, v, rfl, r3, F3, ht3, hS3, hen⟩
          exact ⟨.tuple #[], by simp [results, hres], r3, F3, ht3, hS3, hen⟩
    cases e with
    | normal => exact fin .nilIface rfl k2 (.inl ⟨rfl, rfl⟩)
    | pan v => exact fin v (g2.pan v rfl) k2 (.inr rfl)
    | exit id => cases k2
    | ret => cases k2
end
end Go.Vx
