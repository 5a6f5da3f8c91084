/- Soundness of the executor, and of a whole function. -/
import Derived.Test.YtfheonbdapkgkaaVxDraw
import Derived.Test.YtfheonbdapkgkaaVxMove
namespace Go.Vx
open Go

section
variable {P : Program} {G : Table}

theorem Runs.mono {X Y : (Exit → Act → World → Prop) → Act → World → Prop} {st : St} {e : KE} {st' : St} (h : Runs X st e st') (hXY : ∀ Q a w, X Q a w → Y Q a w) : Runs Y st e st' :=
  fun r F a w ha hS Q hQ => hXY _ _ _ (h r F a w ha hS Q hQ)

theorem iter_sound {c : Code} {body : St → (KE → St → RR) → RR}
    (hb : ∀ {st : St} {k : KE → St → RR} {out : Out}, body st k = some out → OkSt st → ∃ e st', k e st' = some out ∧ Good st e st' ∧ Runs (fun Q a w => c.wp P Q a w) st e st') :
    ∀ (n : Nat) {st : St} {k : KE → St → RR} {out : Out}, iter body n st k = some out → OkSt st →
      ∃ e st', k e st' = some out ∧ Good st e st' ∧ e ≠ .normal ∧ Runs (fun Q a w => Code.rounds P c Q n a w) st e st'
  | 0, _, _, _, h, _ => by cases h
  | n + 1, st, k, out, h, hok => by
    unfold iter at h
    obtain ⟨e, st1, h1, h2, h3⟩ := hb h hok
    have leave : ∀ e', e = e' → e' ≠ .normal → k e' st1 = some out → (∀ (Q : Exit → Act → World → Prop) r a w, Q (e'.conc r) a w → Exit.then (Code.rounds P c Q n) Q (e'.conc r) a w) →
        ∃ e st', k e st' = some out ∧ Good st e st' ∧ e ≠ .normal ∧ Runs (fun Q a w => Code.rounds P c Q (n + 1) a w) st e st' := by
      rintro e' rfl hne hk hth
      refine ⟨e, st1, hk, h2, hne, fun r F a w ha hS Q hQ => ?_⟩
      exact h3 r F a w ha hS _ fun r' F' a' w' ht ha' hS' hd => hth Q r' a' w' (hQ r' F' a' w' ht ha' hS' hd)
    cases e with
    | normal =>
      obtain ⟨e2, st2, k2, g2, n2, r2⟩ := iter_sound hb n h1 h2.ok
      refine ⟨e2, st2, k2, ⟨g2.ok, Nat.le_trans h2.len g2.len, g2.pan⟩, n2, fun r F a w ha hS Q hQ => ?_⟩
      refine h3 r F a w ha hS _ fun r' F' a' w' ht ha' hS' hd => ?_
      exact r2 r' F' a' w' (ha' rfl) hS' Q fun r3 F3 a3 w3 ht3 ha3 hS3 hd3 => hQ r3 F3 a3 w3 (ht.trans ht3) ha3 hS3 (hd3.trans hd)
    | exit id => exact leave _ rfl (by simp) h1 (fun _ _ _ _ h => h)
    | ret => exact leave _ rfl (by simp) h1 (fun _ _ _ _ h => h)
    | pan v => exact leave _ rfl (by simp) h1 (fun _ _ _ _ h => h)

theorem exec_sound (hG : TableOK P G) (hm : P.follows .mixedOrders = true) (N : Nat) : ∀ (c : Code) {st : St} {k : KE → St → RR} {out : Out}, exec std P G N c st k = some out → OkSt st →
    ∃ e st', k e st' = some out ∧ Good st e st' ∧ Runs (fun Q a w => c.wp P Q a w) st e st' := by
  intro c
  induction c with
  | skip => exact fun h hok => ⟨.normal, _, h, ⟨hok, Nat.le_refl _, (by intro v hv; cases hv)⟩, fun r F a w ha hS Q hQ => wp_skip (hQ r F a w (Tr.refl _ _ _ _) (fun _ => ha) hS rfl)⟩
  | region id ops draw =>
    intro st k out h hok
    cases draw with
    | false =>
      obtain ⟨e, st', h1, h2, h3⟩ := execOps_sound hG h hok
      exact ⟨e, st', h1, h2, h3.mono fun Q a w hw => wp_region_list (by simpa using hw)⟩
    | true => exact draw_sound hG hm h hok
  | seq x y ihx ihy =>
    intro st k out h hok
    obtain ⟨e, st1, h1, h2, h3⟩ := ihx h hok
    have leave : ∀ e', e = e' → e' ≠ .normal → k e' st1 = some out → (∀ (Q : Exit → Act → World → Prop) r a w, Q (e'.conc r) a w → Exit.then (y.wp P Q) Q (e'.conc r) a w) →
        ∃ e st', k e st' = some out ∧ Good st e st' ∧ Runs (fun Q a w => (Code.seq x y).wp P Q a w) st e st' := by
      rintro e' rfl _ hk hth
      refine ⟨e, st1, hk, h2, fun r F a w ha hS Q hQ => wp_seq ?_⟩
      exact h3 r F a w ha hS _ fun r' F' a' w' ht ha' hS' hd => hth Q r' a' w' (hQ r' F' a' w' ht ha' hS' hd)
    cases e with
    | normal =>
      obtain ⟨e2, st2, k2, g2, r2⟩ := ihy h1 h2.ok
      refine ⟨e2, st2, k2, ⟨g2.ok, Nat.le_trans h2.len g2.len, g2.pan⟩, fun r F a w ha hS Q hQ => wp_seq ?_⟩
      refine h3 r F a w ha hS _ fun r' F' a' w' ht ha' hS' hd => ?_
      exact r2 r' F' a' w' (ha' rfl) hS' Q fun r3 F3 a3 w3 ht3 ha3 hS3 hd3 => hQ r3 F3 a3 w3 (ht.trans ht3) ha3 hS3 (hd3.trans hd)
    | exit id => exact leave _ rfl (by simp) h1 (fun _ _ _ _ h => h)
    | ret => exact leave _ rfl (by simp) h1 (fun _ _ _ _ h => h)
    | pan v => exact leave _ rfl (by simp) h1 (fun _ _ _ _ h => h)
  | cond c x y ihx ihy =>
    intro st k out h hok
    simp only [exec] at h
    split at h
    · rename_i b hc
      cases b with
      | true =>
        obtain ⟨e, st1, h1, h2, h3⟩ := ihx (show exec std P G N x st k = some out from h) hok
        exact ⟨e, st1, h1, h2, fun r F a w ha hS Q hQ => wp_cond_true (evS_sound ha hc) (h3 r F a w ha hS Q hQ)⟩
      | false =>
        obtain ⟨e, st1, h1, h2, h3⟩ := ihy (show exec std P G N y st k = some out from h) hok
        exact ⟨e, st1, h1, h2, fun r F a w ha hS Q hQ => wp_cond_false (evS_sound ha hc) (h3 r F a w ha hS Q hQ)⟩
    · cases h
  | block id x ihx =>
    intro st k out h hok
    obtain ⟨e, st1, h1, h2, h3⟩ := ihx h hok
    cases e with
    | normal => exact ⟨.normal, st1, h1, h2, fun r F a w ha hS Q hQ => wp_block (h3 r F a w ha hS _ hQ)⟩
    | exit j =>
      dsimp only at h1
      cases hj : j == id with
      | true =>
        rw [hj] at h1
        refine ⟨.normal, st1, h1, ⟨h2.ok, h2.len, by intro v hv; cases hv⟩, fun r F a w ha hS Q hQ => wp_block (h3 r F a w ha hS _ fun r' F' a' w' ht ha' hS' hd => ?_)⟩
        have hj' : j = id := by simpa using hj
        show (if j = id then Q .normal a' w' else Q (.exit j) a' w')
        rw [if_pos hj']
        exact hQ r' F' a' w' ht ha' hS' hd
      | false =>
        rw [hj] at h1
        refine ⟨.exit j, st1, h1, h2, fun r F a w ha hS Q hQ => wp_block (h3 r F a w ha hS _ fun r' F' a' w' ht ha' hS' hd => ?_)⟩
        have hj' : ¬ j = id := by simpa using hj
        show (if j = id then Q .normal a' w' else Q (.exit j) a' w')
        rw [if_neg hj']
        exact hQ r' F' a' w' ht ha' hS' hd
    | ret => exact ⟨.ret, st1, h1, h2, fun r F a w ha hS Q hQ => wp_block (h3 r F a w ha hS _ hQ)⟩
    | pan v => exact ⟨.pan v, st1, h1, h2, fun r F a w ha hS Q hQ => wp_block (h3 r F a w ha hS _ hQ)⟩
  | loop x ihx =>
    intro st k out h hok
    obtain ⟨e, st1, h1, h2, _, h3⟩ := iter_sound (fun h hok => ihx h hok) N h hok
    exact ⟨e, st1, h1, h2, h3.mono fun Q a w hw => wp_loop_rounds N hw⟩
  | exit id => exact fun h hok => ⟨.exit id, _, h, ⟨hok, Nat.le_refl _, (by intro v hv; cases hv)⟩, fun r F a w ha hS Q hQ => wp_exit (hQ r F a w (Tr.refl _ _ _ _) (fun _ => ha) hS rfl)⟩
  | ret => exact fun h hok => ⟨.ret, _, h, ⟨hok, Nat.le_refl _, (by intro v hv; cases hv)⟩, fun r F a w ha hS Q hQ => wp_ret (hQ r F a w (Tr.refl _ _ _ _) (fun _ => ha) hS rfl)⟩
  | rangeFunc => intro st k out h; cases h
  | scope => intro st k out h; cases h
  | label => intro st k out h; cases h
  | goto => intro st k out h; cases h
  | refuse => intro st k out h; cases h

/-! ### A whole function -/
def resF (tmps : Array Value) : ResultVar → Sem Value
  | .tmp t => pure (tmps.getD t undef)
  | .cell a t => do loadVar t (← asAddr (tmps.getD a undef))

theorem resV_sound {r : Env} {F : Foot} {st : St} {a : Act} {w : World} (ha : Sees r st.t a) (hS : Sat r F st.h w) : ∀ {l : List ResultVar} {vs : List Value}, resV std P st l = some vs →
    (l.mapM (resF a.tmps)).run P w = .ok (vs.map (ren r)) w
  | [], vs, h => by simp only [resV, Option.some.injEq] at h; subst h; rfl
  | .tmp t :: l, vs, h => by
    simp only [resV] at h
    cases hv : nth st.t t with
    | none => simp [hv] at h
    | some v =>
      cases hl : resV std P st l with
      | none => simp [hv, hl] at h
      | some ws =>
        simp only [hv, hl, Option.some.injEq] at h
        subst h
        have he : a.tmps.getD t undef = ren r v := evS_sound (x := .tmp t) ha hv
        have ih := resV_sound ha hS hl
        simp only [List.mapM_cons, resF, he, pure_bind, Sem.run_bind, ih, Result.andThen_ok, Sem.run_pure, List.map_cons]
  | .cell t ty :: l, vs, h => by
    simp only [resV] at h
    split at h
    · rename_i ad hv
      split at h
      · rename_i v ws hlv hl
        simp only [Option.some.injEq] at h
        subst h
        have he : a.tmps.getD t undef = ren r (.pointer (some ad)) := evS_sound (x := .tmp t) ha hv
        have ih := resV_sound ha hS hl
        have := loadV_sound (P := P) hS hlv
        have ea : asAddr (.pointer (some (renAd r ad))) = pure (renAd r ad) := rfl
        simp only [List.mapM_cons, resF, he, ren, ea, pure_bind, Sem.run_bind, this, ih, Result.andThen_ok, Sem.run_pure, List.map_cons]
      · cases h
    · cases h

theorem resV_ok {st : St} (hok : OkSt st) : ∀ {l : List ResultVar} {vs : List Value}, resV std P st l = some vs → okL (below st.h.length) vs = true
  | [], vs, h => by simp only [resV, Option.some.injEq] at h; subst h; rfl
  | .tmp t :: l, vs, h => by
    simp only [resV] at h
    cases hv : nth st.t t with
    | none => simp [hv] at h
    | some v =>
      cases hl : resV std P st l with
      | none => simp [hv, hl] at h
      | some ws =>
        simp only [hv, hl, Option.some.injEq] at h
        subst h
        rw [nth_eq] at hv
        simp [okL, hok.t v (List.mem_of_getElem? hv), resV_ok hok hl]
  | .cell t ty :: l, vs, h => by
    simp only [resV] at h
    split at h
    · split at h
      · rename_i v ws hlv hl
        simp only [Option.some.injEq] at h
        subst h
        simp [okL, loadV_ok hok.h hlv, resV_ok hok hl]
      · cases h
    · cases h

theorem results_sound {r : Env} {F : Foot} {st : St} {a : Act} {w : World} (ha : Sees r st.t a) (hS : Sat r F st.h w) {fn : Func} {vs : List Value} (h : resV std P st fn.results.toList = some vs) :
    (results fn a.tmps).run P w = .ok (ren r (one vs)) w := by
  have := resV_sound ha hS h
  show (do let vs ← fn.results.mapM (resF a.tmps); pure (if h : vs.size = 1 then vs[0] else .tuple vs) : Sem Value).run P w = _
  simp only [Array.mapM_eq_mapM_toList, Sem.run_bind, this, Result.andThen_ok, Sem.run_map]
  match vs with
  | [] => simp [one, ren, renL]
  | [v] => simp [one]
  | v :: u :: l => simp [one, ren, renL, renL_map]

/-- what a body comes to, as a contract's answer -/
def Out.cr : Out → CR
  | .ret v h => .ret v (some h)
  | .pan v h => .pan v (some h)

theorem one_ok {p : Nat → Bool} {vs : List Value} (h : okL p vs = true) : okV p (one vs) = true := by
  match vs with
  | [] => rfl
  | [v] =>
    simp only [okL, Bool.and_true] at h
    exact h
  | v :: u :: l => exact h

theorem mem_iff {k : Nat} : ∀ {l : List Nat}, mem k l = true ↔ k ∈ l
  | [] => by simp [mem]
  | x :: l => by
    simp only [mem, List.mem_cons]
    by_cases h : x = k
    · subst h; simp
    · have : Nat.beq x k = false := by rw [← Bool.not_eq_true, Nat.beq_eq]; exact h
      rw [this]
      simp only [cond_false, mem_iff (l := l)]
      constructor
      · exact .inr
      · rintro (rfl | h')
        · exact (h rfl).elim
        · exact h'

theorem idx_get {k : Nat} : ∀ {l : List Nat}, k ∈ l → l[idx k l]? = some k
  | [], h => by cases h
  | x :: l, h => by
    simp only [idx]
    by_cases hx : x = k
    · subst hx; simp
    · have : Nat.beq x k = false := by rw [← Bool.not_eq_true, Nat.beq_eq]; exact hx
      rw [this]
      simp only [cond_false, List.getElem?_cons_succ]
      refine idx_get ?_
      rcases List.mem_cons.1 h with rfl | h
      · exact (hx rfl).elim
      · exact h
theorem nodup_of {l : List Nat} (h : nodupB l = true) : l.Nodup := by
  induction l with
  | nil => simp
  | cons k l ih =>
    simp only [nodupB, Bool.and_eq_true, Bool.not_eq_true'] at h
    refine List.nodup_cons.2 ⟨fun hk => ?_, ih h.2⟩
    rw [← mem_iff, h.1] at hk; cases hk
theorem begins_get : ∀ {n i : Nat} {l : List Nat}, begins i n l = true → ∀ j, j < n → l[j]? = some (i + j)
  | 0, _, _, _, j, hj => by omega
  | n + 1, i, [], h, _, _ => by simp [begins] at h
  | n + 1, i, k :: l, h, j, hj => by
    simp only [begins, Bool.and_eq_true] at h
    have hk : k = i := by simpa using h.1
    subst hk
    cases j with
    | zero => simp
    | succ j =>
      have := begins_get h.2 j (by omega)
      simp only [List.getElem?_cons_succ, this]
      congr 1; omega
theorem pickH_get {m : Nat → Nat} {h : Heap} : ∀ {l : List Nat} {h' : Heap}, pickH m h l = some h' → h'.length = l.length ∧ ∀ (i k : Nat), l[i]? = some k → ∃ B, h[k]? = some B ∧ h'[i]? = some (mvB m B)
  | [], h', hp => by simp only [pickH, Option.some.injEq] at hp; subst hp; simp
  | k :: l, h', hp => by
    simp only [pickH] at hp
    split at hp
    · rename_i B r hB hr
      simp only [Option.some.injEq] at hp
      subst hp
      obtain ⟨h1, h2⟩ := pickH_get hr
      refine ⟨by simp [h1], fun i k' hi => ?_⟩
      cases i with
      | zero => simp only [List.getElem?_cons_zero, Option.some.injEq] at hi; subst hi; exact ⟨B, by rw [← nth_eq]; exact hB, rfl⟩
      | succ i => simpa using h2 i k' (by simpa using hi)
    · cases hp
theorem okKs_get {p : Nat → Bool} {h : Heap} : ∀ {l : List Nat}, okKs p h l = true → ∀ k ∈ l, ∃ B, h[k]? = some B ∧ okBb p B = true
  | [], _, k, hk => by cases hk
  | x :: l, ho, k, hk => by
    simp only [okKs, Bool.and_eq_true] at ho
    rcases List.mem_cons.1 hk with rfl | hk
    · cases hn : nth h k with
      | none => rw [hn] at ho; exact absurd ho.1 (by simp)
      | some B => rw [hn] at ho; exact ⟨B, by rw [← nth_eq]; exact hn, ho.1⟩
    · exact okKs_get ho.2 k hk
theorem okB_of {p q : Nat → Bool} {B : Blk} (h : okB q B) (hb : okBb p B = true) : okB p B := by
  cases B with
  | cells c e => exact hb
  | _ => exact h

theorem finish_sound {n : Nat} {ks : List Nat} {mk : Value → Heap → Out} {v : Value} {h : Heap} {out : Out} (hf : finish n ks mk v h = some out) (hH : okH h) :
    ∃ v' h', out = mk v' h' ∧ n ≤ h'.length ∧ okH h' ∧ okV (below h'.length) v' = true ∧
      ∀ (r : Env) (F : Foot) (w : World) (r' : Env) (F' : Foot) (w' : World), Tr r F n w r' F' h.length w' → Sat r' F' h w' →
        ∃ r2 F2, Tr r F n w r2 F2 h'.length w' ∧ Sat r2 F2 h' w' ∧ ren r2 v' = ren r' v := by
  unfold finish at hf
  cases hc : (okV (fun k => mem k ks) v && okKs (fun k => mem k ks) h ks && nodupB ks && begins 0 n ks) with
  | false => simp only [hc, cond_false, reduceCtorEq] at hf
  | true =>
    simp only [hc, cond_true] at hf
    simp only [Bool.and_eq_true] at hc
    obtain ⟨⟨⟨hv, hks⟩, hnd⟩, hbe⟩ := hc
    cases hp : pickH (fun k => idx k ks) h ks with
    | none => simp [hp] at hf
    | some h' =>
      simp only [hp, Option.some.injEq] at hf
      obtain ⟨hl, hg⟩ := pickH_get hp
      have hnd := nodup_of hnd
      have hidx : ∀ k, mem k ks = true → idx k ks < h'.length ∧ ks[idx k ks]? = some k := fun k hk => by
        have := idx_get (mem_iff.1 hk)
        exact ⟨by rw [hl]; exact (List.getElem?_eq_some_iff.1 this).1, this⟩
      have hpre := begins_get hbe
      have hn : n ≤ h'.length := by
        rw [hl]
        rcases Nat.eq_zero_or_pos n with h0 | h0
        · omega
        · have := (List.getElem?_eq_some_iff.1 (hpre (n - 1) (by omega))).1; omega
      have hinv : ∀ i k, ks[i]? = some k → idx k ks = i := fun i k hi => by
        have hk : k ∈ ks := List.mem_of_getElem? hi
        have := idx_get hk
        exact ((List.getElem?_inj (i := i) (j := idx k ks) (List.getElem?_eq_some_iff.1 hi).1 hnd).1 (hi.trans this.symm)).symm
      have hokm : ∀ q : Nat → Bool, (∀ k, mem k ks = true → q (idx k ks) = true) → ∀ B ∈ h', okB q B := by
        intro q hq B hB
        obtain ⟨i, hi⟩ := List.getElem?_of_mem hB
        have hil : i < ks.length := by rw [← hl]; exact (List.getElem?_eq_some_iff.1 hi).1
        obtain ⟨B0, hB0, hB1⟩ := hg i _ (List.getElem?_eq_getElem hil)
        rw [hi] at hB1
        cases hB1
        rw [okB_mv]
        obtain ⟨B2, hB2, hB3⟩ := okKs_get hks _ (List.getElem_mem hil)
        rw [hB0] at hB2
        cases hB2
        exact okB_mono hq B0 (okB_of (hH B0 (List.mem_of_getElem? hB0)) hB3)
      refine ⟨_, h', hf.symm, hn, hokm _ (fun k hk => below_iff.2 (hidx k hk).1), ?_, fun r F w r' F' w' ht hS => ?_⟩
      · rw [okV_mv]; exact okV_mono (fun k hk => below_iff.2 (hidx k hk).1) v hv
      · have hr2 : ∀ k, mem k ks = true → r' k = r' ((ks[idx k ks]?).getD 0) := fun k hk => by rw [(hidx k hk).2]; rfl
        refine ⟨fun i => r' ((ks[i]?).getD 0), fun i => F' ((ks[i]?).getD 0), ⟨fun k hk => ?_, hn, ht.size, ht.keep, fun i x hi hx => ?_, ht.os, ht.tape, ht.output⟩, ⟨fun i B hi => ?_, fun i j x hi hj hx hy => ?_⟩, ?_⟩
        · have hk' := hpre k hk
          simp only [hk', Option.getD_some, Nat.zero_add]
          exact ht.env k hk
        · obtain ⟨B0, hB0, _⟩ := hg i _ (List.getElem?_eq_getElem (show i < ks.length by omega))
          refine ht.fresh _ x ?_ hx
          rw [List.getElem?_eq_getElem (show i < ks.length by omega), Option.getD_some]
          exact (List.getElem?_eq_some_iff.1 hB0).1
        · have hil : i < ks.length := by rw [← hl]; exact (List.getElem?_eq_some_iff.1 hi).1
          have hik := List.getElem?_eq_getElem hil
          obtain ⟨B0, hB0, hB1⟩ := hg i _ hik
          rw [hi] at hB1
          cases hB1
          obtain ⟨B2, hB2, hB3⟩ := okKs_get hks _ (List.getElem_mem hil)
          rw [hB0] at hB2
          cases hB2
          have hb := okB_of (hH B0 (List.mem_of_getElem? hB0)) hB3
          have hi2 := hinv i _ hik
          have := (holds_mv (r := fun i => r' ((ks[i]?).getD 0)) (m := fun k => idx k ks) (fp := F' ((ks[i]?).getD 0)) (k := ks[i]) (w := w') (okB_row hb)).2
            (holds_move (hS.1 _ B0 hB0) hb (by simp [hi2, hik]) hr2 (fun _ _ => rfl) |> fun h => by simpa [hik] using h)
          simpa [hi2] using this
        · have hil : i < ks.length := by omega
          have hjl : j < ks.length := by omega
          obtain ⟨Bi, hBi, _⟩ := hg i _ (List.getElem?_eq_getElem hil)
          obtain ⟨Bj, hBj, _⟩ := hg j _ (List.getElem?_eq_getElem hjl)
          dsimp only at hx hy
          rw [List.getElem?_eq_getElem hil, Option.getD_some] at hx
          rw [List.getElem?_eq_getElem hjl, Option.getD_some] at hy
          have := hS.2 _ _ x (List.getElem?_eq_some_iff.1 hBi).1 (List.getElem?_eq_some_iff.1 hBj).1 hx hy
          exact (List.getElem?_inj (i := i) (j := j) hil hnd).1 (by rw [List.getElem?_eq_getElem hil, List.getElem?_eq_getElem hjl, this])
        · rw [ren_mv]
          exact (ren_congr hr2 v hv).symm

/-- **A function**: what the executor says of its body is so. -/
theorem body_sound (hG : TableOK P G) (hm : P.follows .mixedOrders = true) {N : Nat} {f : FuncId} {fn : Func} (hf : P.funcs[f]? = some fn) {args : List Value} {H : Heap} {ks : Value → Heap → List Nat} {out : Out}
    (h : runBody std P G N fn args H ks = some out) (hH : okH H) (hargs : okL (below H.length) args = true) : CallsOK P f args H out.cr ∧ out.cr.ok H := by
  unfold runBody at h
  cases hb : fn.body with
  | none => simp [hb] at h
  | some c =>
    simp only [hb] at h
    have hok : OkSt ⟨args ++ List.replicate (fn.ntmps - args.length) undef, H⟩ := ⟨hH, fun v hv => by
      rcases List.mem_append.1 hv with hv | hv
      · exact okL_iff.1 hargs v hv
      · rw [(List.mem_replicate.1 hv).2]; rfl⟩
    obtain ⟨e, st, h1, h2, h3⟩ := exec_sound hG hm N c h hok
    have start : ∀ r : Env, Sees r (args ++ List.replicate (fn.ntmps - args.length) undef) { tmps := (args.map (ren r)).toArray ++ Array.replicate (fn.ntmps - (args.map (ren r)).toArray.size) undef, defers := [] } := by
      intro r
      simp only [Sees, Array.toList_append, Array.toList_replicate, List.map_append, List.map_replicate, ren_undef, List.size_toArray, List.length_map]
    have fin : ∀ (mk : Value → Heap → Out) (v : Value) (cr : CR → Prop), finish H.length (ks v st.h) mk v st.h = some out → (∀ v h, (mk v h).cr.heap H = h ∧ (mk v h).cr.value = v) →
        (∀ (r r' : Env) (a' : Act) (w' : World) (F' : Foot), (e.live = true → Sees r' st.t a') → Sat r' F' st.h w' → a'.defers = [] → ∀ R : Ending → World → Prop,
          (∀ e, (∀ v' h' r2, ren r2 v' = ren r' v → (mk v' h').cr.ends r2 e) → R e w') → bodyPost P fn R (e.conc r') a' w') →
        CallsOK P f args H out.cr ∧ out.cr.ok H := by
      intro mk v _ hfin hmk hpost
      obtain ⟨v', h', rfl, hn, hokh, hokv, hmove⟩ := finish_sound hfin h2.ok.h
      obtain ⟨e1, e2⟩ := hmk v' h'
      refine ⟨fun r F w hS _ _ => ?_, by rw [CR.ok, e1, e2]; exact ⟨hokh, hn, hokv⟩⟩
      refine calls_of_wp hf hb (h3 r F _ w (start r) hS _ fun r' F' a' w' ht ha' hS' hd => ?_)
      obtain ⟨r2, F2, ht2, hS2, hr2⟩ := hmove r F w r' F' w' ht hS'
      refine hpost r r' a' w' F' ha' hS' hd _ fun e he => ?_
      rw [e1]
      exact ⟨r2, F2, ht2, hS2, he v' h' r2 hr2⟩
    have ret : ∀ (hret : e = .normal ∨ e = .ret), (match resV std P st fn.results.toList with
        | some vs => std.nv (one vs) fun v => finish H.length (ks v st.h) .ret v st.h
        | none => none) = some out → CallsOK P f args H out.cr ∧ out.cr.ok H := by
      intro hret hx
      split at hx
      · rename_i vs hvs
        refine fin .ret (one vs) (fun _ => True) hx (fun _ _ => ⟨rfl, rfl⟩) fun r r' a' w' F' ha' hS' hd R hR => ?_
        have hres := results_sound (ha' (by rcases hret with rfl | rfl <;> rfl)) hS' hvs
        have : a'.defers = [] ∧ ∃ v, (results fn a'.tmps).run P w' = .ok v w' ∧ R (.returned v) w' :=
          ⟨hd, _, hres, hR _ fun v' h' r2 hr2 => by simp only [Out.cr, CR.ends, hr2]⟩
        rcases hret with rfl | rfl <;> exact this
      · cases hx
    cases e with
    | normal => exact ret (.inl rfl) h1
    | ret => exact ret (.inr rfl) h1
    | pan v =>
      refine fin .pan v (fun _ => True) h1 (fun _ _ => ⟨rfl, rfl⟩) fun r r' a' w' F' ha' hS' hd R hR => ?_
      exact ⟨hd, hR _ fun v' h' r2 hr2 => by simp only [Out.cr, CR.ends, hr2]⟩
    | exit id => cases h1
end
end Go.Vx
