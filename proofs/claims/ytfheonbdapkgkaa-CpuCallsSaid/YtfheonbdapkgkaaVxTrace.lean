/- A region that draws its order: what the run in the order of the text tells of each operation. -/
import Derived.Test.YtfheonbdapkgkaaVxStep
namespace Go.Vx
open Go

mutual
theorem ids_ok {p : Nat → Bool} : ∀ v : Value, (∀ k ∈ ids v, p k = true) → okV p v = true
  | .pointer (some a), h => h _ (by simp [ids])
  | .slice (some a) l c, h => h _ (by simp [ids])
  | .map (some m), h => h _ (by simp [ids])
  | .func fn ⟨f⟩ ⟨c⟩, h => by
    simp only [okV, Bool.and_eq_true]
    exact ⟨idsL_ok f fun k hk => h k (by simp [ids, hk]), idsL_ok c fun k hk => h k (by simp [ids, hk])⟩
  | .iface t v, h => ids_ok v fun k hk => h k (by simpa [ids] using hk)
  | .agg ⟨l⟩, h => idsL_ok l fun k hk => h k (by simpa [ids] using hk)
  | .tuple ⟨l⟩, h => idsL_ok l fun k hk => h k (by simpa [ids] using hk)
  | .pointer none, _ => rfl
  | .slice none _ _, _ => rfl
  | .map none, _ => rfl
  | .bool _, _ => rfl
  | .int _ _, _ => rfl
  | .float _ _, _ => rfl
  | .complex _ _ _, _ => rfl
  | .string _, _ => rfl
  | .chan _, _ => rfl
  | .nilFunc, _ => rfl
  | .nilIface, _ => rfl
theorem idsL_ok {p : Nat → Bool} : ∀ l : List Value, (∀ k ∈ idsL l, p k = true) → okL p l = true
  | [], _ => rfl
  | v :: l, h => by
    simp only [okL, Bool.and_eq_true]
    exact ⟨ids_ok v fun k hk => h k (by simp [idsL, hk]), idsL_ok l fun k hk => h k (by simp [idsL, hk])⟩
end

theorem memB_iff {k : Nat} : ∀ {l : List Nat}, mem k l = true ↔ k ∈ l
  | [] => by simp [mem]
  | x :: l => by
    simp only [mem, List.mem_cons]
    by_cases h : x = k
    · subst h; simp
    · have : Nat.beq x k = false := by rw [← Bool.not_eq_true, Nat.beq_eq]; exact h
      rw [this]
      simp only [cond_false, memB_iff (l := l)]
      constructor
      · exact .inr
      · rintro (rfl | h')
        · exact (h rfl).elim
        · exact h'

theorem idsAt_mem {h : Heap} {k x : Nat} {B : Blk} (hB : h[k]? = some B) (hx : x ∈ idsB B) : ∀ {l : List Nat}, k ∈ l → x ∈ idsAt h l
  | [], hk => by cases hk
  | y :: l, hk => by
    simp only [idsAt, List.mem_append]
    rcases List.mem_cons.1 hk with rfl | hk
    · left; rw [nth_eq, hB]; exact hx
    · right; exact idsAt_mem hB hx hk

structure DStep (P : Program) (ops : List Oper) (o : Oper) (s : St) (e : Ent) (s' : St) : Prop where
  lo : e.lo = s.h.length
  hi : e.hi = s'.h.length
  le : e.lo ≤ e.hi
  same : ∀ k, k < e.lo → ¬ (e.wr = true ∧ mem k e.fp = true) → s'.h[k]? = s.h[k]?
  ok : OkSt s
  ok' : OkSt s'
  step : ∃ v, s'.t = putT s.t o.dst v ∧
    (∀ p : Nat → Bool, (∀ k ∈ e.said, p k = true) → okV p v = true ∧ ∀ k B, s'.h[k]? = some B → (mem k e.fp = true ∧ e.wr = true ∨ e.lo ≤ k) → okB p B) ∧
    ((v = undef ∧ e.wr = false ∧ e.lo = e.hi ∧ e.fp = [] ∧ ∀ r a, Sees r s.t a → Region.wanted o (yielded ops.toArray a.tmps) = false) ∨
     ((∀ r a, Sees r s.t a → Region.wanted o (yielded ops.toArray a.tmps) = true) ∧ (∀ k, mem k e.fp = true → k ∈ e.said) ∧ ∃ hr : Heap, hr.length = e.hi ∧ okH hr ∧
        (∀ k, k < e.hi → (mem k e.fp = true ∨ e.lo ≤ k) → hr[k]? = s'.h[k]?) ∧
        ∀ (r : Env) (F : Foot) (a a2 : Act) (w : World), Sees r s.t a → Sat r F (restrict (fun k => mem k e.fp) s.h) w → execOp a2.eval o = execOp a.eval o →
          ∀ (next : Act → World → Prop) (Q : Exit → Act → World → Prop),
          (∀ r' F' w', Tr r F e.lo w r' F' e.hi w' → Sat r' F' hr w' → next (a2.put o.dst (ren r' v)) w') → o.wp P a2 w next Q))

/-- a step that panics -/
structure PStep (P : Program) (ops : List Oper) (o : Oper) (s : St) (v : Value) (z : St) : Prop where
  ok : OkSt s
  okz : OkSt z
  le : s.h.length ≤ z.h.length
  okv : okV (below z.h.length) v = true
  wanted : ∀ r a, Sees r s.t a → Region.wanted o (yielded ops.toArray a.tmps) = true
  sem : ∀ (r : Env) (F : Foot) (a a2 : Act) (w : World), Sees r s.t a → Sat r F s.h w → execOp a2.eval o = execOp a.eval o →
    ∀ (next : Act → World → Prop) (Q : Exit → Act → World → Prop),
      (∀ r' F' w', Tr r F s.h.length w r' F' z.h.length w' → Sat r' F' z.h w' → Q (.panic [{ v := ren r' v, recovered := false }]) a2 w') → o.wp P a2 w next Q

/-- the steps one behind the other: of each its state ahead, its entry -/
inductive Trace (P : Program) (ops : List Oper) (w : List (List Nat)) : Nat → Option Pan → List Oper → St → List (St × Ent) → Option Pan → St → Prop where
  | nil (i : Nat) (pn : Option Pan) (s : St) : Trace P ops w i pn [] s [] pn s
  | cons {i : Nat} {pn pn' : Option Pan} {o : Oper} {l : List Oper} {s s1 s' : St} {e : Ent} {L : List (St × Ent)} : blocked w i pn = false → DStep P ops o s e s1 →
      Trace P ops w (i + 1) pn l s1 L pn' s' → Trace P ops w i pn (o :: l) s ((s, e) :: L) pn' s'
  | skip {i : Nat} {pn pn' : Option Pan} {o : Oper} {l : List Oper} {s s' : St} {e : Ent} {L : List (St × Ent)} : blocked w i pn = true →
      Trace P ops w (i + 1) pn l s L pn' s' → Trace P ops w i pn (o :: l) s ((s, e) :: L) pn' s'
  | pan {i : Nat} {pn' : Option Pan} {o : Oper} {l : List Oper} {s s' z : St} {v : Value} {e : Ent} {L : List (St × Ent)} : PStep P ops o s v z →
      Trace P ops w (i + 1) (some (i, v, z)) l s L pn' s' → Trace P ops w i none (o :: l) s ((s, e) :: L) pn' s'

section
variable {P : Program} {G : Table}

theorem okH_restrict {H : Heap} (h : okH H) (p : Nat → Bool) : okH (restrict p H) := by
  intro B hB
  rw [restrict_length]
  obtain ⟨k, hk⟩ := List.getElem?_of_mem hB
  rw [restrict_get] at hk
  cases hH : H[k]? with
  | none => simp [hH] at hk
  | some B0 =>
    simp only [hH, Option.map_some, Option.some.injEq] at hk
    cases hp : p k <;> rw [hp] at hk <;> subst hk
    · trivial
    · exact h B0 (List.mem_of_getElem? hH)

theorem execDraw_trace (hG : TableOK P G) {ops : List Oper} {w : List (List Nat)} : ∀ {l : List Oper} {st : St} {tr : List Ent} {pn : Option Pan} {k : List Ent → Option Pan → St → RR} {out : Out},
    execDraw std P G ops w l st tr pn k = some out → OkSt st →
    ∃ L pn' st', k ((L.map (·.2)).reverse ++ tr) pn' st' = some out ∧ OkSt st' ∧ Trace P ops w tr.length pn l st L pn' st'
  | [], st, tr, pn, k, out, h, hok => ⟨[], pn, st, h, hok, .nil _ _ st⟩
  | o :: l, st, tr, pn, k, out, h, hok => by
    unfold execDraw at h
    dsimp only at h
    cases hbl : blocked w tr.length pn with
    | true =>
      simp only [hbl, cond_true] at h
      obtain ⟨L, pn', st', h1, h2, h3⟩ := execDraw_trace hG h hok
      exact ⟨(st, _) :: L, pn', st', by simpa using h1, h2, .skip hbl h3⟩
    | false =>
    simp only [hbl, cond_false] at h
    have go : ∀ (e : Ent) (s1 : St), execDraw std P G ops w l s1 (e :: tr) pn k = some out → DStep P ops o st e s1 →
        ∃ L pn' st', k ((L.map (·.2)).reverse ++ tr) pn' st' = some out ∧ OkSt st' ∧ Trace P ops w tr.length pn (o :: l) st L pn' st' := by
      intro e s1 hx hd
      obtain ⟨L, pn', st', h1, h2, h3⟩ := execDraw_trace hG hx hd.ok'
      exact ⟨(st, e) :: L, pn', st', by simpa using h1, h2, .cons hbl hd h3⟩
    rcases guarded_sound h with ⟨h, hw⟩ | ⟨h, hw⟩
    · have hokr : OkSt ⟨st.t, restrict (fun k => mem k (footOf P ⟨st.t, st.h⟩ o)) st.h⟩ := ⟨okH_restrict hok.h _, by rw [restrict_length]; exact hok.t⟩
      obtain ⟨c, hk, hc, hwp⟩ := stepOp_sound hG h hokr
      generalize hfp : footOf P ⟨st.t, st.h⟩ o = fp at *
      cases c with
      | pan v hh =>
        dsimp only at hk
        split at hk
        · cases hk
        · have hk : execDraw std P G ops w l ⟨st.t, st.h⟩ (⟨fp, true, st.h.length, st.h.length, []⟩ :: tr) (some (tr.length, v, ⟨st.t, merge (fun k => mem k fp) st.h (hh.getD (restrict (fun k => mem k fp) st.h))⟩)) k = some out := hk
          obtain ⟨L, pn', st', h1, h2, h3⟩ := execDraw_trace hG hk hok
          refine ⟨(st, _) :: L, pn', st', by simpa using h1, h2, .pan ?_ h3⟩
          obtain ⟨hH, hle, hv⟩ := hc
          have e1 : (OpR.heap (restrict (fun k => mem k fp) st.h) (.pan v hh)) = hh.getD (restrict (fun k => mem k fp) st.h) := rfl
          rw [restrict_length, e1] at hle
          rw [e1] at hH hv
          have hwp' := hwp
          rw [e1, restrict_length] at hwp'
          generalize hh.getD (restrict (fun k => mem k fp) st.h) = H at *
          have hml : (merge (fun k => mem k fp) st.h H).length = H.length := merge_length _ _ _
          have hokm : okH (merge (fun k => mem k fp) st.h H) := by
            intro B hB
            rw [hml]
            obtain ⟨j, hj⟩ := List.getElem?_of_mem hB
            have hjl : j < H.length := by have := (List.getElem?_eq_some_iff.1 hj).1; omega
            rw [merge_get, List.getElem?_eq_getElem hjl] at hj
            simp only [Option.map_some, Option.some.injEq] at hj
            have hBj := hH _ (List.getElem_mem hjl)
            cases hm : mem j fp with
            | true => rw [hm] at hj; subst hj; exact hBj
            | false =>
              rw [hm] at hj
              simp only [cond_false] at hj
              by_cases hjs : j < st.h.length
              · rw [List.getElem?_eq_getElem hjs] at hj
                subst hj
                exact okB_mono (below_mono hle) _ (hok.h _ (List.getElem_mem hjs))
              · rw [List.getElem?_eq_none (by omega)] at hj
                subst hj
                exact hBj
          refine ⟨hok, ⟨hokm, ?_⟩, by dsimp only; rw [hml]; exact hle, by dsimp only; rw [hml]; exact hv, hw, fun r F a a2 w ha hS he next Q hn => ?_⟩
          · dsimp only; rw [hml]; exact okT_mono hle hok.t
          · refine hwp' r (restrictF (fun k => mem k fp) F) a a2 w ha (hS.restrict _) he next Q fun r' F' w' ht hS' => ?_
            obtain ⟨f1, f2⟩ := frame hS hok.h ht hS'
            exact hn r' _ w' f2 f1
      | val v hh =>
        cases hh with
        | none =>
          refine go _ _ hk ?_
          obtain ⟨_, _, hv⟩ := hc
          have hv : okV (below st.h.length) v = true := by
            have : ((OpR.val v none).heap (restrict (fun k => mem k fp) st.h)).length = st.h.length := restrict_length _ _
            rw [this] at hv; exact hv
          refine ⟨rfl, rfl, Nat.le_refl _, fun _ _ _ => rfl, hok, ⟨hok.h, putT_ok hok.t hv o.dst⟩, v, rfl, fun p hp => ⟨ids_ok v fun k hk => hp k (List.mem_append.2 (.inr hk)), fun k B hB hk' => ?_⟩,
            .inr ⟨hw, fun k hk => List.mem_append.2 (.inl (memB_iff.1 hk)), restrict (fun k => mem k fp) st.h, restrict_length _ _, okH_restrict hok.h _, fun k hk hkk => ?_, fun r F a a2 w ha hS he next Q hn => ?_⟩⟩
          · rcases hk' with ⟨_, hk'⟩ | hk'
            · cases hk'
            · have := (List.getElem?_eq_some_iff.1 hB).1
              dsimp only at hk' this
              omega
          · rcases hkk with hkk | hkk
            · rw [restrict_get]; dsimp only at hkk ⊢; rw [hkk]; cases st.h[k]? <;> rfl
            · dsimp only at hk hkk; omega
          · refine hwp r F a a2 w ha hS he next Q fun r' F' w' ht hS' => hn r' F' w' ?_ hS'
            have e1 : (OpR.heap (restrict (fun k => mem k fp) st.h) (.val v none)) = restrict (fun k => mem k fp) st.h := rfl
            rw [e1, restrict_length] at ht
            exact ht
        | some H =>
          obtain ⟨hH, hle, hv⟩ := hc
          have hle : st.h.length ≤ H.length := by rw [restrict_length] at hle; exact hle
          have hH : okH H := hH
          have hv : okV (below H.length) v = true := hv
          have hml : (merge (fun k => mem k fp || !decide (k < st.h.length)) st.h H).length = H.length := merge_length _ _ _
          refine go _ _ hk ?_
          have hold : ∀ k, k < st.h.length → mem k fp = false → (merge (fun k => mem k fp || !decide (k < st.h.length)) st.h H)[k]? = st.h[k]? := by
            intro k hk hf
            have hkH : k < H.length := by omega
            rw [merge_get, List.getElem?_eq_getElem hkH, List.getElem?_eq_getElem hk]
            simp [hf, hk]
          have hnew : ∀ k, k < H.length → (mem k fp = true ∨ st.h.length ≤ k) → (merge (fun k => mem k fp || !decide (k < st.h.length)) st.h H)[k]? = H[k]? := by
            intro k hk hf
            rw [merge_get, List.getElem?_eq_getElem hk]
            rcases hf with hf | hf
            · simp [hf]
            · simp [show ¬ k < st.h.length by omega]
          have hokm : okH (merge (fun k => mem k fp || !decide (k < st.h.length)) st.h H) := by
            intro B hB
            rw [hml]
            obtain ⟨j, hj⟩ := List.getElem?_of_mem hB
            have hjl : j < H.length := by have := (List.getElem?_eq_some_iff.1 hj).1; omega
            by_cases hc : mem j fp = true ∨ st.h.length ≤ j
            · rw [hnew j hjl hc] at hj; exact hH B (List.mem_of_getElem? hj)
            · rw [hold j (by omega) (by rw [← Bool.not_eq_true]; exact fun h => hc (.inl h))] at hj
              exact okB_mono (below_mono hle) B (hok.h B (List.mem_of_getElem? hj))
          refine ⟨rfl, rfl, by dsimp only; rw [hml]; exact hle, fun k hk hn => hold k hk ?_, hok, ⟨hokm, ?_⟩, v, rfl, fun p hp => ⟨ids_ok v fun k hk => hp k ?_, fun k B hB hk' => ?_⟩,
            .inr ⟨hw, fun k hk => by simp only [List.mem_append]; exact .inl (.inl (.inl (memB_iff.1 hk))), H, by dsimp only; rw [hml], hH, fun k hk hkk => ?_, fun r F a a2 w ha hS he next Q hn => ?_⟩⟩
          · rw [← Bool.not_eq_true]; exact fun h => hn ⟨rfl, h⟩
          · dsimp only; rw [hml]; exact putT_ok (okT_mono hle hok.t) hv o.dst
          · simp only [List.mem_append]; exact .inl (.inl (.inr hk))
          · have hkl : k < H.length := by have := (List.getElem?_eq_some_iff.1 hB).1; dsimp only at this; omega
            cases B with
            | gone => trivial
            | abs R => trivial
            | row s n f e => exact hokm _ (List.mem_of_getElem? hB)
            | cells c e =>
              refine idsL_ok c fun x hx => hp x ?_
              simp only [List.mem_append]
              rcases hk' with ⟨hk', _⟩ | hk'
              · exact .inl (.inr (idsAt_mem hB hx (memB_iff.1 hk')))
              · refine .inr (idsAt_mem hB hx ?_)
                dsimp only at hk'
                rw [List.mem_range'_1]
                rw [hml]; omega
          · dsimp only at hk
            rw [hml] at hk
            exact (hnew k hk hkk).symm
          · refine hwp r F a a2 w ha hS he next Q fun r' F' w' ht hS' => hn r' F' w' ?_ hS'
            have e1 : (OpR.heap (restrict (fun k => mem k fp) st.h) (.val v (some H))) = H := rfl
            rw [e1, restrict_length] at ht
            dsimp only
            rw [hml]
            exact ht
    · refine go _ _ h ⟨rfl, rfl, Nat.le_refl _, fun _ _ _ => rfl, hok, ⟨hok.h, putT_ok hok.t (okV_undef _) o.dst⟩, undef, rfl, fun p _ => ⟨okV_undef _, fun k B hB hk' => ?_⟩, .inl ⟨rfl, rfl, rfl, rfl, hw⟩⟩
      rcases hk' with ⟨_, hk'⟩ | hk'
      · cases hk'
      · have := (List.getElem?_eq_some_iff.1 hB).1
        dsimp only at hk' this
        omega
end
end Go.Vx
