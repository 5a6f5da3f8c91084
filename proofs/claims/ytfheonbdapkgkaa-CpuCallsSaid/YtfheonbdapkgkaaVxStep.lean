/- Soundness of one operation, of a region that keeps its order. -/
import Derived.Test.YtfheonbdapkgkaaVxCall
import Derived.Test.YtfheonbdapkgkaaVxApp
import Derived.Tactics
namespace Go.Vx
open Go

def OpR.heap (H : Heap) : OpR → Heap
  | .val _ h => h.getD H
  | .pan _ h => h.getD H
def OpR.value : OpR → Value
  | .val v _ => v
  | .pan v _ => v
def OpR.ok (H : Heap) (c : OpR) : Prop := okH (c.heap H) ∧ H.length ≤ (c.heap H).length ∧ okV (below (c.heap H).length) c.value = true
def OpR.cont (next : Act → World → Prop) (Q : Exit → Act → World → Prop) (o : Oper) (a : Act) (r : Env) (w : World) : OpR → Prop
  | .val v _ => next (a.put o.dst (ren r v)) w
  | .pan v _ => Q (.panic [{ v := ren r v, recovered := false }]) a w

structure OkSt (st : St) : Prop where
  h : okH st.h
  t : okT st.h.length st.t

section
variable {P : Program} {G : Table}

theorem ctK_run {k : OpR → RR} {out : Out} : ∀ {c : CT}, ctK std k c = some out → ∃ x, c.run = some x ∧ k x.op = some out
  | .leaf r, h => ⟨r, rfl, h⟩
  | .br b x y, h => by
    cases b
    · exact ctK_run (c := y) h
    · exact ctK_run (c := x) h
  | .fail, h => by cases h

theorem stepOp_sound (hG : TableOK P G) {st : St} {o : Oper} {k : OpR → RR} {out : Out} (h : stepOp std P G st o k = some out) (hok : OkSt st) :
    ∃ c : OpR, k c = some out ∧ c.ok st.h ∧ ∀ (r : Env) (F : Foot) (a a2 : Act) (w : World), Sees r st.t a → Sat r F st.h w → execOp a2.eval o = execOp a.eval o → ∀ (next : Act → World → Prop) (Q : Exit → Act → World → Prop),
      (∀ r' F' w', Tr r F st.h.length w r' F' (c.heap st.h).length w' → Sat r' F' (c.heap st.h) w' → c.cont next Q o a2 r' w') → o.wp P a2 w next Q := by
  have val : ∀ v : Value, k (.val v none) = some out → okV (below st.h.length) v = true →
      (∀ (r : Env) (F : Foot) (a : Act) (w : World), Sees r st.t a → Sat r F st.h w → (execOp a.eval o).run P w = .ok (.value (ren r v)) w) →
      ∃ c : OpR, k c = some out ∧ c.ok st.h ∧ ∀ (r : Env) (F : Foot) (a a2 : Act) (w : World), Sees r st.t a → Sat r F st.h w → execOp a2.eval o = execOp a.eval o → ∀ (next : Act → World → Prop) (Q : Exit → Act → World → Prop),
        (∀ r' F' w', Tr r F st.h.length w r' F' (c.heap st.h).length w' → Sat r' F' (c.heap st.h) w' → c.cont next Q o a2 r' w') → o.wp P a2 w next Q := by
    intro v hk hv hrun
    refine ⟨.val v none, hk, ⟨hok.h, Nat.le_refl _, hv⟩, fun r F a a2 w ha hS he next Q hn => ?_⟩
    unfold Oper.wp
    rw [he, hrun r F a w ha hS]
    exact hn r F w (Tr.refl _ _ _ _) hS
  unfold stepOp at h
  split at h
  · -- pick
    rename_i c x y hop
    split at h
    · rename_i b hc
      have two : ∀ z, (match evS st.t z with | some v => k (.val v none) | none => none) = some out → (∀ r a, Sees r st.t a → a.eval c = .bool b ∧ (if b then a.eval x else a.eval y) = a.eval z) →
          ∃ c : OpR, k c = some out ∧ c.ok st.h ∧ ∀ (r : Env) (F : Foot) (a a2 : Act) (w : World), Sees r st.t a → Sat r F st.h w → execOp a2.eval o = execOp a.eval o → ∀ (next : Act → World → Prop) (Q : Exit → Act → World → Prop),
            (∀ r' F' w', Tr r F st.h.length w r' F' (c.heap st.h).length w' → Sat r' F' (c.heap st.h) w' → c.cont next Q o a2 r' w') → o.wp P a2 w next Q := by
        intro z hz hb
        split at hz
        · rename_i v hv
          refine val v hz (evS_ok hok.t hv) (fun r F a w ha _ => ?_)
          obtain ⟨h1, h2⟩ := hb r a ha
          simp only [execOp, hop, h1, asBool, pure_bind, Sem.run_pure, h2, evS_sound ha hv]
        · cases hz
      cases b with
      | true => exact two x h (fun r a ha => ⟨evS_sound ha hc, by simp⟩)
      | false => exact two y h (fun r a ha => ⟨evS_sound ha hc, by simp⟩)
    · cases h
  · -- panic
    rename_i x hop
    split at h
    · rename_i t v hx
      refine ⟨.pan (.iface t v) none, h, ⟨hok.h, Nat.le_refl _, evS_ok hok.t hx⟩, fun r F a a2 w ha hS he next Q hn => ?_⟩
      have := hn r F w (Tr.refl _ _ _ _) hS
      unfold Oper.wp
      have hrun : (execOp a.eval o).run P w = .halt (.panic (ren r (.iface t v))) w := by
        simp [execOp, hop, evS_sound ha hx, ren, Instr.panic]
      rw [he, hrun]
      exact this
    · cases h
  · -- call
    rename_i c hop
    split at h
    · rename_i hcb
      split at h
      · rename_i sv xv hargs
        split at h
        · rename_i b m v H' hv
          cases b with
          | false => cases h
          | true =>
            have h : (bif std.nlt 0 m then k (.val v (some H')) else k (.val sv none)) = some out := h
            have hrun : ∀ (r : Env) (a : Act) (w w' : World) (u : Value), Sees r st.t a → (Builtin.append_ c.argTypes o.type #[ren r sv, ren r xv]).run P w = .ok u w' →
                (execOp a.eval o).run P w = .ok (.value u) w' := by
              intro r a w w' u ha hu
              have hargs' : c.args.map a.eval = #[ren r sv, ren r xv] := Array.ext' (by simpa using evL_sound ha hargs)
              simp [execOp, hop, resolve, hargs', hcb, invoke, builtin, hu]
            have hsv : okV (below st.h.length) sv = true := okL_iff.1 (evL_ok hok.t hargs) sv (by simp)
            by_cases hm : 0 < m
            · have hk : k (.val v (some H')) = some out := by simpa [std, hm] using h
              have hex : okH H' ∧ st.h.length ≤ H'.length ∧ okV (below H'.length) v = true := appendV_ok hok.h hv
              refine ⟨.val v (some H'), hk, ⟨hex.1, hex.2.1, hex.2.2⟩, fun r F a a2 w ha hS he next Q hn => ?_⟩
              obtain ⟨r', F', w', h1, h2, h3⟩ := (appendV_sound (P := P) (ty := o.type) hS hok.h hv).1 hm
              unfold Oper.wp
              rw [he, hrun r a w w' _ ha h1]
              exact hn r' F' w' h2 h3
            · have hk : k (.val sv none) = some out := by simpa [std, hm] using h
              refine val sv hk hsv (fun r F a w ha hS => ?_)
              exact hrun r a w w _ ha ((appendV_sound (P := P) (ty := o.type) hS hok.h hv).2.1 hm)
        · cases h
      · cases h
    · rename_i b _ hcb
      split at h
      · rename_i args hargs
        split at h
        · rename_i v hv
          refine val v h (builtinV_ok hv) (fun r F a w ha _ => ?_)
          have := builtinV_sound (P := P) (w := w) ha hcb (ty := o.type) hargs hv
          simpa [execOp, hop] using this
        · cases h
      · cases h
    · split at h
      · rename_i f args ht
        cases hf : callable P f with
        | false => simp [hf] at h
        | true =>
          simp only [hf, cond_true] at h
          obtain ⟨x, hx, hk⟩ := ctK_run h
          obtain ⟨h1, h2⟩ := hG f args st.h x hx hok.h (target_ok hok.t ht)
          refine ⟨x.op, hk, by cases x <;> exact h2, fun r F a a2 w ha hS he next Q hn => ?_⟩
          have hrun := target_sound (P := P) (w := w) ha (ty := o.type) ht hf
          unfold Oper.wp
          have hrun' : (execOp a.eval o).run P w = .ok (.enter f (args.map (ren r)).toArray) w := by simpa [execOp, hop] using hrun
          rw [he, hrun', Oper.upon_enter]
          refine (h1 r F w hS hok.h (target_ok hok.t ht)).mono ?_
          rintro e w' ⟨r', F', ht', hS', hen⟩
          cases x with
          | ret v hh =>
            simp only [CR.ends] at hen
            subst hen
            exact hn r' F' w' ht' hS'
          | pan v hh =>
            simp only [CR.ends] at hen
            subst hen
            exact hn r' F' w' ht' hS'
      · cases h
  · split at h
    · rename_i b v hv
      cases b with
      | false => cases h
      | true => exact val v h (valOp_ok hok.h hok.t hv) (fun r F a w ha hS => valOp_sound hS ha hv)
    · split at h
      · rename_i b v H' hv
        cases b with
        | false => cases h
        | true =>
          obtain ⟨h1, h2, h3⟩ := heapOp_ok hok.h hok.t hv
          refine ⟨.val v (some H'), h, ⟨h1, h2, h3⟩, fun r F a a2 w ha hS he next Q hn => ?_⟩
          obtain ⟨r', F', w', x, hrun, hx, ht, hS'⟩ := heapOp_sound (P := P) hS hok.h hok.t ha hv
          have := hn r' F' w' ht hS'
          unfold Oper.wp
          rw [he, hrun]
          rcases hx with rfl | ⟨rfl, rfl⟩
          · exact this
          · exact this
      · cases h

/-! ### Guards -/
theorem setN_self {t : List Value} {d : Nat} {v : Value} (h : nth t d = some v) : setN t d v = t := by
  rw [nth_eq] at h
  rw [setN_eq]
  obtain ⟨h1, h2⟩ := List.getElem?_eq_some_iff.1 h
  rw [← h2]; simp

theorem guarded_sound {ops : List Oper} {t : List Value} {o : Oper} {go skip : List Value → RR} {out : Out} (h : guarded std (guardS ops t o) t go skip = some out) :
    (go t = some out ∧ ∀ r a, Sees r t a → Region.wanted o (yielded ops.toArray a.tmps) = true) ∨
    (skip t = some out ∧ ∀ r a, Sees r t a → Region.wanted o (yielded ops.toArray a.tmps) = false) := by
  unfold guarded at h
  have hy : ∀ (j d : Nat) (oj : Oper) (v : Value), nth ops j = some oj → oj.dst = some d → nth t d = some v → ∀ r a, Sees r t a →
      yielded ops.toArray a.tmps j = match ren r v with | .bool b => some b | _ => none := by
    intro j d oj v h1 h2 h3 r a ha
    rw [nth_eq] at h1 h3
    have : a.tmps[d]? = some (ren r v) := by
      rw [← Array.getElem?_toList, show a.tmps.toList = t.map (ren r) from ha, List.getElem?_map, h3]; rfl
    simp only [yielded, List.getElem?_toArray, h1, Option.bind_some, h2, this]
    cases ren r v <;> rfl
  cases hg : o.guard with
  | none =>
    simp only [guardS, hg] at h
    exact .inl ⟨h, fun r a _ => by simp [Region.wanted, hg]⟩
  | some gd =>
    obtain ⟨j, want⟩ := gd
    simp only [guardS, hg] at h
    cases hj : nth ops j with
    | none => simp [hj] at h
    | some oj =>
      cases hd : oj.dst with
      | none => simp [hj, hd] at h
      | some d =>
        cases hv : nth t d with
        | none => simp [hj, hd, hv] at h
        | some v =>
          have hy' := hy j d oj v hj hd hv
          by_cases hb : ∃ b, v = .bool b
          · obtain ⟨b, rfl⟩ := hb
            simp only [hj, hd, hv] at h
            have hw : ∀ r a, Sees r t a → Region.wanted o (yielded ops.toArray a.tmps) = (b == want) := by
              intro r a ha
              have := hy' r a ha
              simp only [ren] at this
              simp only [Region.wanted, hg, this]
              cases b <;> cases want <;> rfl
            have hs := setN_self hv
            cases b <;> cases want <;> simp only [std, cond_true, cond_false, hs] at h
            · exact .inl ⟨h, fun r a ha => by rw [hw r a ha]; rfl⟩
            · exact .inr ⟨h, fun r a ha => by rw [hw r a ha]; rfl⟩
            · exact .inr ⟨h, fun r a ha => by rw [hw r a ha]; rfl⟩
            · exact .inl ⟨h, fun r a ha => by rw [hw r a ha]; rfl⟩
          · have h' : skip t = some out := by
              cases v <;> first | exact (hb ⟨_, rfl⟩).elim | (simp only [hj, hd, hv] at h; exact h)
            refine .inr ⟨h', fun r a ha => ?_⟩
            have := hy' r a ha
            simp only [Region.wanted, hg, this]
            cases v <;> first
              | exact (hb ⟨_, rfl⟩).elim
              | rfl
              | (rename_i x; cases x <;> rfl)
              | (rename_i x y z; cases x <;> rfl)
              | (rename_i x y z; cases y; cases z; rfl)
              | (rename_i x; cases x; rfl)

theorem putT_sees {r : Env} {t : List Value} {a : Act} (ha : Sees r t a) (dst : Option Tmp) (v : Value) : Sees r (putT t dst v) (a.put dst (ren r v)) := by
  cases dst with
  | none => exact ha
  | some d =>
    have ha' : a.tmps.toList = t.map (ren r) := ha
    simp only [Sees, putT, Act.put, setN_eq, List.map_set, Array.toList_setIfInBounds, ha']
theorem Sees.mono {n : Nat} {r r' : Env} {t : List Value} {a : Act} (ha : Sees r t a) (ht : okT n t) (hr : ∀ k, k < n → r' k = r k) : Sees r' t a := by
  unfold Sees at *
  rw [ha, ← renL_map, ← renL_map]
  exact renL_congr (fun k hk => (hr k (below_iff.1 hk)).symm) t (okL_iff.2 ht)
theorem putT_ok {n : Nat} {t : List Value} (ht : okT n t) {v : Value} (hv : okV (below n) v = true) (dst : Option Tmp) : okT n (putT t dst v) := by
  cases dst with
  | none => exact ht
  | some d =>
    intro u hu
    simp only [putT, setN_eq] at hu
    rcases List.mem_or_eq_of_mem_set hu with hu | rfl
    · exact ht u hu
    · exact hv
theorem put_defers (a : Act) (dst : Option Tmp) (v : Value) : (a.put dst v).defers = a.defers := by cases dst <;> rfl

def KE.conc (r : Env) : KE → Exit
  | .normal => .normal
  | .exit id => .exit id
  | .ret => .ret
  | .pan v => .panic [{ v := ren r v, recovered := false }]

/-- are the slots known behind it? -/
def KE.live : KE → Bool
  | .pan _ => false
  | _ => true

/-- what an execution promises -/
def Runs (X : (Exit → Act → World → Prop) → Act → World → Prop) (st : St) (e : KE) (st' : St) : Prop :=
  ∀ (r : Env) (F : Foot) (a : Act) (w : World), Sees r st.t a → Sat r F st.h w → ∀ Q : Exit → Act → World → Prop,
    (∀ r' F' a' w', Tr r F st.h.length w r' F' st'.h.length w' → (e.live = true → Sees r' st'.t a') → Sat r' F' st'.h w' → a'.defers = a.defers → Q (e.conc r') a' w') → X Q a w

structure Good (st : St) (e : KE) (st' : St) : Prop where
  ok : OkSt st'
  len : st.h.length ≤ st'.h.length
  pan : ∀ v, e = .pan v → okV (below st'.h.length) v = true

theorem execOps_sound (hG : TableOK P G) {ops : List Oper} : ∀ {l : List Oper} {st : St} {k : KE → St → RR} {out : Out}, execOps std P G ops l st k = some out → OkSt st →
    ∃ e st', k e st' = some out ∧ Good st e st' ∧ Runs (fun Q => wpList P ops.toArray Q l) st e st'
  | [], st, k, out, h, hok => ⟨.normal, st, h, ⟨hok, Nat.le_refl _, (by intro v hv; cases hv)⟩, fun r F a w ha hS Q hQ => hQ r F a w (Tr.refl _ _ _ _) (fun _ => ha) hS rfl⟩
  | o :: l, st, k, out, h, hok => by
    unfold execOps at h
    rcases guarded_sound h with ⟨h, hw⟩ | ⟨h, hw⟩
    · obtain ⟨c, hk, hc, hwp⟩ := stepOp_sound hG h hok
      have cont : ∀ (v : Value) (H : Heap), okH H → st.h.length ≤ H.length → okV (below H.length) v = true → execOps std P G ops l ⟨putT st.t o.dst v, H⟩ k = some out →
          (∀ (r : Env) (F : Foot) (a : Act) (w : World), Sees r st.t a → Sat r F st.h w → ∀ (next : Act → World → Prop) (Q : Exit → Act → World → Prop),
            (∀ r' F' w', Tr r F st.h.length w r' F' H.length w' → Sat r' F' H w' → next (a.put o.dst (ren r' v)) w') → o.wp P a w next Q) →
          ∃ e st', k e st' = some out ∧ Good st e st' ∧ Runs (fun Q => wpList P ops.toArray Q (o :: l)) st e st' := by
        intro v H hH hle hv hex hwp'
        have hok' : OkSt ⟨putT st.t o.dst v, H⟩ := ⟨hH, putT_ok (okT_mono hle hok.t) hv o.dst⟩
        obtain ⟨e, st', h1, h2, h4⟩ := execOps_sound hG hex hok'
        refine ⟨e, st', h1, ⟨h2.ok, Nat.le_trans hle h2.len, h2.pan⟩, fun r F a w ha hS Q hQ => ?_⟩
        show wpList P ops.toArray Q (o :: l) a w
        unfold wpList
        rw [if_pos (hw r a ha)]
        refine .inl (hwp' r F a w ha hS _ _ fun r' F' w' ht hS' => ?_)
        refine h4 r' F' _ w' (putT_sees (ha.mono hok.t ht.env) o.dst v) hS' Q fun r2 F2 a2 w2 ht2 ha2 hS2 hd2 => ?_
        exact hQ r2 F2 a2 w2 (ht.trans ht2) ha2 hS2 (by rw [hd2, put_defers])
      cases c with
      | val v hh =>
        cases hh with
        | none => exact cont v st.h hc.1 hc.2.1 hc.2.2 hk (fun r F a w ha hS next Q hn => hwp r F a a w ha hS rfl next Q hn)
        | some H => exact cont v H hc.1 hc.2.1 hc.2.2 hk (fun r F a w ha hS next Q hn => hwp r F a a w ha hS rfl next Q hn)
      | pan v hh =>
        refine ⟨.pan v, _, hk, ⟨⟨hc.1, okT_mono hc.2.1 hok.t⟩, hc.2.1, fun u hu => by cases hu; exact hc.2.2⟩, fun r F a w ha hS Q hQ => ?_⟩
        show wpList P ops.toArray Q (o :: l) a w
        unfold wpList
        rw [if_pos (hw r a ha)]
        exact .inl (hwp r F a a w ha hS rfl _ _ fun r' F' w' ht hS' => hQ r' F' a w' ht (fun _ => ha.mono hok.t ht.env) hS' rfl)
    · obtain ⟨e, st', h1, h2, h4⟩ := execOps_sound hG h ⟨hok.h, putT_ok hok.t (okV_undef _) o.dst⟩
      refine ⟨e, st', h1, ⟨h2.ok, h2.len, h2.pan⟩, fun r F a w ha hS Q hQ => ?_⟩
      show wpList P ops.toArray Q (o :: l) a w
      unfold wpList
      rw [if_neg (by rw [hw r a ha]; simp)]
      refine h4 r F _ w (by have := putT_sees ha o.dst undef; rwa [ren_undef] at this) hS Q fun r2 F2 a2 w2 ht2 ha2 hS2 hd2 => ?_
      exact hQ r2 F2 a2 w2 ht2 ha2 hS2 (by rw [hd2, put_defers])
end
end Go.Vx
