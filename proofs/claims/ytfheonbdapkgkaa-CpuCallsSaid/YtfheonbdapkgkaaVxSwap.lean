/- Heaps of which the same is known. -/
import Derived.Test.YtfheonbdapkgkaaVxKind
namespace Go.Vx
open Go

/-- what the second says the first says -/
def HImp : Heap → Heap → Prop
  | [], [] => True
  | B :: H, B' :: H' => (∀ r fp k w, B'.holds r fp k w → B.holds r fp k w) ∧ HImp H H'
  | _, _ => False

theorem HImp.get : ∀ {H H' : Heap}, HImp H H' → H.length = H'.length ∧ ∀ (k : Nat) (B : Blk), H[k]? = some B → ∃ B', H'[k]? = some B' ∧ ∀ r fp k w, B'.holds r fp k w → B.holds r fp k w
  | [], [], _ => ⟨rfl, fun k B h => by simp at h⟩
  | B :: H, B' :: H', h => by
    obtain ⟨h1, h2⟩ := h
    obtain ⟨g1, g2⟩ := h2.get
    refine ⟨by simp [g1], fun k C hk => ?_⟩
    cases k with
    | zero => simp only [List.getElem?_cons_zero, Option.some.injEq] at hk; subst hk; exact ⟨B', by simp, h1⟩
    | succ k => simpa using g2 k C (by simpa using hk)
  | [], _ :: _, h => h.elim
  | _ :: _, [], h => h.elim

theorem HImp.sat {H H' : Heap} (h : HImp H H') {r : Env} {F : Foot} {w : World} (hS : Sat r F H' w) : Sat r F H w := by
  obtain ⟨h1, h2⟩ := h.get
  refine ⟨fun k B hk => ?_, fun i j x hi hj => hS.2 i j x (by omega) (by omega)⟩
  obtain ⟨B', hB', hi⟩ := h2 k B hk
  exact hi _ _ _ _ (hS.1 k B' hB')

theorem row_imp {s n : Nat} {f g : Nat → List Value} {e : TypeId} (h : ∀ i, i < n → f i = g i) (r : Env) (fp : Nat → Prop) (k : Nat) (w : World) (hB : (Blk.row s n f e).holds r fp k w) : (Blk.row s n g e).holds r fp k w := by
  obtain ⟨h1, h2, c, C, h3, h5, h6, h7, h8⟩ := hB
  exact ⟨h1, h2, c, C, h3, h5, h6, h7, fun i hi => by rw [← h i hi]; exact h8 i hi⟩

theorem CallsOK.swap {P : Program} {f : FuncId} {args : List Value} {H H0 : Heap} {v : Value} {h : Heap} (hi : HImp H0 H) (h0 : okH H0) (hc : CallsOK P f args H0 (.ret v (some h)) ∧ (CR.ret v (some h)).ok H0) :
    CallsOK P f args H (.ret v (some h)) ∧ (CR.ret v (some h)).ok H := by
  have hl := hi.get.1
  refine ⟨fun r F w hS _ ha => ?_, hc.2.1, by rw [← hl]; exact hc.2.2.1, hc.2.2.2⟩
  have := hc.1 r F w (hi.sat hS) h0 (by rw [hl]; exact ha)
  rw [hl] at this
  exact this

theorem CallsOK.swapKeep {P : Program} {f : FuncId} {args : List Value} {H H0 : Heap} {v : Value} (hi : HImp H0 H) (hi' : HImp H H0) (h0 : okH H0) (hH : okH H) (hc : CallsOK P f args H0 (.ret v none) ∧ (CR.ret v none).ok H0) :
    CallsOK P f args H (.ret v none) ∧ (CR.ret v none).ok H := by
  have hl := hi.get.1
  refine ⟨fun r F w hS _ ha => ?_, hH, Nat.le_refl _, ?_⟩
  · refine (hc.1 r F w (hi.sat hS) h0 (by rw [hl]; exact ha)).mono ?_
    rintro e w' ⟨r', F', ht, hS', he⟩
    refine ⟨r', F', ?_, hi'.sat hS', he⟩
    have ht' : Tr r F H0.length w r' F' H0.length w' := ht
    rw [hl] at ht'
    exact ht'
  · have h2 : okV (below H0.length) v = true := hc.2.2.2
    show okV (below H.length) v = true
    rw [← hl]; exact h2
end Go.Vx
