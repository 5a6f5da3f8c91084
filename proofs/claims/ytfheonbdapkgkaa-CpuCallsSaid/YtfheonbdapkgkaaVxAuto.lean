/- Contracts that are had by running: for data that are known. -/
import Derived.Test.YtfheonbdapkgkaaVxRec
namespace Go.Vx
open Go

mutual
theorem eqv_eq : ∀ (v v' : Value), eqv v v' = true → v = v' := by
  intro v v' h
  unfold eqv at h
  split at h
  · simp only [Bool.and_eq_true, decide_eq_true_eq] at h; rw [h.1, h.2]
  · simp only [beq_iff_eq] at h; rw [h]
  · rfl
  · simp only [Bool.and_eq_true, Nat.beq_eq] at h; rw [h.1, h.2]
  · simp only [Bool.and_eq_true, Nat.beq_eq] at h; rw [h.1, h.2]
  · simp only [Bool.and_eq_true, Nat.beq_eq] at h; rw [h.1.1.1, h.1.1.2, h.1.2, h.2]
  · rfl
  · rfl
  · rename_i t v t' v'
    simp only [Bool.and_eq_true, Nat.beq_eq] at h; rw [h.1, eqv_eq v v' h.2]
  · rename_i l l'
    rw [eqvL_eq l l' h]
  · rename_i l l'
    rw [eqvL_eq l l' h]
  · cases h
theorem eqvL_eq : ∀ (l l' : List Value), eqvL l l' = true → l = l' := by
  intro l l' h
  unfold eqvL at h
  split at h
  · rfl
  · rename_i v l v' l'
    simp only [Bool.and_eq_true] at h; rw [eqv_eq v v' h.1, eqvL_eq l l' h.2]
  · cases h
end

theorem sameB_holds {r : Env} {fp : Nat → Prop} {k : Nat} {w : World} {B B' : Blk} (h : sameB B B' = true) (hB : B'.holds r fp k w) : B.holds r fp k w := by
  unfold sameB at h
  split at h
  · exact hB
  · rename_i c e c' e'
    simp only [Bool.and_eq_true, Nat.beq_eq] at h
    rw [eqvL_eq c c' h.1, h.2]; exact hB
  · rename_i s n f e s' n' f' e'
    simp only [Bool.and_eq_true, Nat.beq_eq, List.all_eq_true, List.mem_range] at h
    obtain ⟨⟨⟨rfl, rfl⟩, rfl⟩, h4⟩ := h
    obtain ⟨h1, h2, c, C, h3, h5, h6, h7, h8⟩ := hB
    exact ⟨h1, h2, c, C, h3, h5, h6, h7, fun i hi => by rw [eqvL_eq _ _ (h4 i hi)]; exact h8 i hi⟩
  · cases h
theorem sameH_get : ∀ {H H' : Heap}, sameH H H' = true → H.length = H'.length ∧ ∀ (k : Nat) (B : Blk), H[k]? = some B → ∃ B', H'[k]? = some B' ∧ sameB B B' = true
  | [], [], _ => ⟨rfl, fun k B h => by simp at h⟩
  | B :: H, B' :: H', h => by
    simp only [sameH, Bool.and_eq_true] at h
    obtain ⟨h1, h2⟩ := sameH_get h.2
    refine ⟨by simp [h1], fun k C hk => ?_⟩
    cases k with
    | zero => simp only [List.getElem?_cons_zero, Option.some.injEq] at hk; subst hk; exact ⟨B', by simp, h.1⟩
    | succ k => simpa using h2 k C (by simpa using hk)
  | [], _ :: _, h => by cases h
  | _ :: _, [], h => by cases h

section
variable {P : Program} {G : Table}

theorem sat_same {r : Env} {F : Foot} {H h : Heap} {w : World} (hs : sameH H h = true) (hS : Sat r F h w) : Sat r F H w := by
  obtain ⟨h1, h2⟩ := sameH_get hs
  refine ⟨fun k B hk => ?_, fun i j x hi hj => hS.2 i j x (by omega) (by omega)⟩
  obtain ⟨B', hB', hsB⟩ := h2 k B hk
  exact sameB_holds hsB (hS.1 k B' hB')

theorem toCT_sound {f : FuncId} {args : List Value} {H : Heap} {o : RR} {x : CR} (hx : (toCT H o).run = some x) (hH : okH H) (h : ∀ out, o = some out → CallsOK P f args H out.cr ∧ out.cr.ok H) :
    CallsOK P f args H x ∧ x.ok H := by
  cases o with
  | none => cases hx
  | some out =>
    obtain ⟨h1, h2, h3, h4⟩ := h out rfl
    cases out with
    | ret v h0 =>
      cases hs : sameH H h0 with
      | false =>
        simp only [toCT, forceV_eq, forceH_eq, hs, cond_false, CT.run, Option.some.injEq] at hx
        subst hx
        exact ⟨h1, h2, h3, h4⟩
      | true =>
        simp only [toCT, forceV_eq, forceH_eq, hs, cond_true, CT.run, Option.some.injEq] at hx
        subst hx
        have hl := (sameH_get hs).1
        refine ⟨fun r F w hS hH' ha => (h1 r F w hS hH' ha).mono ?_, hH, Nat.le_refl _, ?_⟩
        · rintro e w' ⟨r', F', ht, hS', hen⟩
          refine ⟨r', F', ?_, sat_same hs hS', hen⟩
          have e1 : (Out.cr (.ret v h0)).heap H = h0 := rfl
          rw [e1, ← hl] at ht
          exact ht
        · have e1 : (Out.cr (.ret v h0)).heap H = h0 := rfl
          rw [e1, ← hl] at h4
          exact h4
    | pan v h0 =>
      cases hs : sameH H h0 with
      | false =>
        simp only [toCT, forceV_eq, forceH_eq, hs, cond_false, CT.run, Option.some.injEq] at hx
        subst hx
        exact ⟨h1, h2, h3, h4⟩
      | true =>
        simp only [toCT, forceV_eq, forceH_eq, hs, cond_true, CT.run, Option.some.injEq] at hx
        subst hx
        have hl := (sameH_get hs).1
        refine ⟨fun r F w hS hH' ha => (h1 r F w hS hH' ha).mono ?_, hH, Nat.le_refl _, ?_⟩
        · rintro e w' ⟨r', F', ht, hS', hen⟩
          refine ⟨r', F', ?_, sat_same hs hS', hen⟩
          have e1 : (Out.cr (.pan v h0)).heap H = h0 := rfl
          rw [e1, ← hl] at ht
          exact ht
        · have e1 : (Out.cr (.pan v h0)).heap H = h0 := rfl
          rw [e1, ← hl] at h4
          exact h4
end

theorem autoRun_sound {P : Program} {G : Table} (hG : TableOK P G) (hm : P.follows .mixedOrders = true) {N : Nat} {f : FuncId} {args : List Value} {H : Heap} {x : CR}
    (hx : (autoRun P N G f args H).run = some x) (hH : okH H) (ha : okL (below H.length) args = true) : CallsOK P f args H x ∧ x.ok H := by
  unfold autoRun at hx
  split at hx
  · rename_i fn hf
    simp only [forceL_eq, forceH_eq, strict_eq] at hx
    exact toCT_sound hx hH fun out ho => body_sound hG hm hf ho hH ha
  · cases hx

theorem auto_ok {P : Program} (hm : P.follows .mixedOrders = true) {N : Nat} {sp : Table → Table} {isSp : FuncId → Bool}
    (hsp : ∀ G, TableOK P G → ∀ f args H x, isSp f = true → (sp G f args H).run = some x → okH H → okL (below H.length) args = true → CallsOK P f args H x ∧ x.ok H) : ∀ d, TableOK P (auto P N sp isSp d)
  | 0 => fun f args H x hx => by cases hx
  | d + 1 => fun f args H x hx hH ha => by
    have ih := auto_ok (N := N) hm hsp d
    unfold auto at hx
    cases hs : isSp f with
    | true => rw [hs] at hx; exact hsp _ ih f args H x hs hx hH ha
    | false => rw [hs] at hx; exact autoRun_sound ih hm hx hH ha
end Go.Vx
