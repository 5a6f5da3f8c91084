/- append: a row of elements, growing. -/
import Derived.Test.YtfheonbdapkgkaaVxOp
import Derived.ArgAppend
namespace Go.Vx
open Go

section
variable {P : Program} {w : World}

/-- a block that is dropped -/
theorem Sat.drop {r : Env} {F : Foot} {H : Heap} (hS : Sat r F H w) (k : Nat) : Sat r (fun j x => j ≠ k ∧ F j x) (H.set k .gone) w := by
  refine ⟨fun j B hj => ?_, fun i j x hi hj hx hy => hS.2 i j x (by simpa using hi) (by simpa using hj) hx.2 hy.2⟩
  rw [List.getElem?_set] at hj
  split at hj
  · rename_i h
    split at hj
    · cases hj; subst h; exact fun x hx => hx.1 rfl
    · cases hj
  · rename_i h
    have hF : (fun x => j ≠ k ∧ F j x) = F j := by funext x; simp [Ne.symm h]
    show B.holds r (fun x => j ≠ k ∧ F j x) j w
    rw [hF]
    exact hS.1 j B hj

/-- a block more, somewhere -/
theorem Sat.put {r : Env} {F : Foot} {H : Heap} (hS : Sat r F H w) (hok : okH H) (F0 : Foot) (hF : ∀ k x, k < H.length → F k x → F0 k x) {B : Blk} {sl : Slot} {w' : World}
    (hkeep : ∀ x, x ≠ sl.b → x < w.heap.size → w'.heap[x]? = w.heap[x]?) (hsz : w.heap.size ≤ w'.heap.size) (hfree : ∀ j x, j < H.length → F j x → x ≠ sl.b)
    (hnew : w.heap.size ≤ sl.b ∨ ∃ j, j < H.length ∧ F0 j sl.b) (hB : B.holds (upd r H.length sl) (fun x => x = sl.b) H.length w')
    (ho : w'.os = w.os) (ht : w'.tape = w.tape) (hu : w'.output = w.output) :
    Sat (upd r H.length sl) (updF F H.length sl.b) (H ++ [B]) w' ∧ Tr r F0 H.length w (upd r H.length sl) (updF F H.length sl.b) (H ++ [B]).length w' := by
  have hr : ∀ k, below H.length k = true → r k = upd r H.length sl k := fun k hk => by
    have := below_iff.1 hk
    simp [upd, show k ≠ H.length by omega]
  refine ⟨⟨fun k C hk => ?_, fun i j x hi hj hx hy => ?_⟩, ⟨fun k hk => (hr k (below_iff.2 hk)).symm, by simp, hsz, fun x hx hn => hkeep x ?_ hx, fun k x hk hx => ?_, ho, ht, hu⟩⟩
  · by_cases hkl : k < H.length
    · rw [List.getElem?_append_left hkl] at hk
      have hF' : updF F H.length sl.b k = F k := by funext x; simp [updF, show k ≠ H.length by omega]
      rw [hF']
      refine holds_move (hS.1 k C hk) (hok C (List.mem_of_getElem? hk)) (hr k (below_iff.2 hkl)).symm hr ?_
      intro x hx
      exact hkeep x (hfree k x hkl hx) (hS.lt hkl hx)
    · rw [List.getElem?_append_right (by omega)] at hk
      have hk0 : k - H.length = 0 := by
        have := (List.getElem?_eq_some_iff.1 hk).1
        simp only [List.length_cons, List.length_nil] at this
        omega
      rw [hk0] at hk
      simp only [List.getElem?_cons_zero, Option.some.injEq] at hk
      subst hk
      have hkk : k = H.length := by omega
      subst hkk
      have hF' : updF F H.length sl.b H.length = fun x => x = sl.b := by funext x; simp [updF]
      rw [hF']
      exact hB
  · simp only [List.length_append, List.length_cons, List.length_nil] at hi hj
    simp only [updF] at hx hy
    split at hx <;> split at hy
    · omega
    · subst hx; exact (hfree j _ (by omega) hy rfl).elim
    · subst hy; exact (hfree i _ (by omega) hx rfl).elim
    · exact hS.2 i j x (by omega) (by omega) hx hy
  · rintro rfl
    rcases hnew with h | ⟨j, h1, h2⟩
    · omega
    · exact hn j h1 h2
  · simp only [updF] at hx
    simp only [List.length_append, List.length_cons, List.length_nil] at hk
    split at hx
    · subst hx; exact hnew
    · exact .inr ⟨k, by omega, hF k x (by omega) hx⟩

/-- the elements, as they lie in the real memory -/
structure SrcOk (r : Env) (s m : Nat) (g : Nat → List Value) (news : List Value) : Prop where
  len : news.length = m * s
  one : ∀ u ∈ news, u.oneCell' = true
  ok : ∀ i, okL (fun _ => false) (g i) = true ∧ (g i).all Value.oneCell' = true
  el : ∀ i, i < m → (g i).length = s ∧ ∀ j v, (g i)[j]? = some v → news[i * s + j]? = some (ren r v)

theorem cellsF_ok {s : Nat} {c : List Value} (h : okL (fun _ => false) c = true) (h1 : c.all Value.oneCell' = true) (i : Nat) : okL (fun _ => false) (cellsF s c i) = true ∧ (cellsF s c i).all Value.oneCell' = true := by
  rw [okL_iff] at *
  rw [List.all_eq_true] at *
  exact ⟨fun v hv => h v (List.mem_of_mem_drop (List.mem_of_mem_take hv)), fun v hv => h1 v (List.mem_of_mem_drop (List.mem_of_mem_take hv))⟩

theorem mul_add_lt {i m s j : Nat} (hi : i < m) (hj : j < s) : i * s + j < m * s := by
  have : (i + 1) * s ≤ m * s := Nat.mul_le_mul_right _ hi
  rw [Nat.succ_mul] at this
  omega

theorem appSrc_sound {r : Env} {F : Foot} {H : Heap} (hS : Sat r F H w) (hH : okH H) {s : Nat} {xv : Value} {m : Nat} {g : Nat → List Value} (h : appSrc std H s xv = some (true, m, g)) :
    (xv = .slice none 0 0 ∧ m = 0 ∧ SrcOk r s m g []) ∨
    ∃ k cp news, xv = .slice (some ⟨k, 0, none⟩) m cp ∧ k < H.length ∧ SrcOk r s m g news ∧ ∀ j v, news[j]? = some v → w.cell? ⟨(r k).b, j, none⟩ = some v := by
  unfold appSrc at h
  split at h
  · simp only [Option.some.injEq, Prod.mk.injEq, true_and] at h
    obtain ⟨rfl, rfl⟩ := h
    exact .inl ⟨rfl, rfl, ⟨by simp, by simp, fun _ => ⟨rfl, rfl⟩, fun i hi => by omega⟩⟩
  · rename_i k m' cp
    rw [nth_eq] at h
    cases hk : H[k]? with
    | none => simp [hk] at h
    | some B =>
      have hkl := (List.getElem?_eq_some_iff.1 hk).1
      have hB := hS.1 k B hk
      have hBo := hH B (List.mem_of_getElem? hk)
      cases B with
      | gone => simp [hk] at h
      | abs R => simp [hk] at h
      | cells c e =>
        simp only [hk] at h
        cases hc : (Nat.beq (m' * s) c.length && okL (fun _ => false) c && c.all Value.oneCell') with
        | false => simp only [hc, cond_false, reduceCtorEq] at h
        | true =>
          simp only [hc, cond_true, Option.some.injEq, Prod.mk.injEq, true_and] at h
          obtain ⟨rfl, rfl⟩ := h
          simp only [Bool.and_eq_true, Nat.beq_eq] at hc
          obtain ⟨⟨h1, h2⟩, h3⟩ := hc
          obtain ⟨_, _, _, hw⟩ := hB
          refine .inr ⟨k, cp, c.map (ren r), rfl, hkl, ⟨by simp [h1], ?_, cellsF_ok h2 h3, fun i hi => ⟨?_, fun j v hj => ?_⟩⟩, fun j v hj => ?_⟩
          · intro u hu
            obtain ⟨v, hv, rfl⟩ := List.mem_map.1 hu
            rw [oneCell_ren]; exact List.all_eq_true.1 h3 v hv
          · simp only [cellsF, List.length_take, List.length_drop]
            have : (i + 1) * s ≤ m' * s := Nat.mul_le_mul_right _ hi
            rw [Nat.succ_mul] at this
            omega
          · simp only [cellsF] at hj
            rw [List.getElem?_take] at hj
            split at hj
            · rw [List.getElem?_drop] at hj
              rw [List.getElem?_map, hj]; rfl
            · cases hj
          · rw [cell_of_block hw]; simpa using hj
      | row s' n f e =>
        simp only [hk] at h
        cases hc : Nat.beq s' s with
        | false => simp only [hc, cond_false, reduceCtorEq] at h
        | true =>
          simp only [hc, cond_true, Option.some.injEq, Prod.mk.injEq] at h
          obtain ⟨hb, rfl, rfl⟩ := h
          have hb : m' < n + 1 := by simpa [std] using hb
          have hs' : s' = s := Nat.eq_of_beq_eq_true hc
          subst hs'
          obtain ⟨_, _, c, C, hC, hw, hsz, hn, hel⟩ := hB
          have hmC : m' * s' ≤ c.toList.length := by
            rw [Array.length_toList, hsz]; exact Nat.mul_le_mul_right _ (by omega)
          have hget : ∀ i, i < m' → ∀ j v, (f i)[j]? = some v → (c.toList.take (m' * s'))[i * s' + j]? = some (ren r v) := by
            intro i hi j v hj
            have hjs : j < s' := by
              have := (List.getElem?_eq_some_iff.1 hj).1
              rw [(hel i (by omega)).1] at this; exact this
            rw [List.getElem?_take, if_pos (mul_add_lt hi hjs), Array.getElem?_toList]
            exact (hel i (by omega)).2 j v hj
          refine .inr ⟨k, cp, c.toList.take (m' * s'), rfl, hkl, ⟨by simp only [List.length_take]; omega, ?_, hBo, fun i hi => ⟨(hel i (by omega)).1, hget i hi⟩⟩, fun j v hj => ?_⟩
          · intro u hu
            obtain ⟨x, hx⟩ := List.getElem?_of_mem hu
            have hxl : x < m' * s' := by
              have := (List.getElem?_eq_some_iff.1 hx).1
              simp only [List.length_take] at this; omega
            have hs0 : 0 < s' := by
              rcases Nat.eq_zero_or_pos s' with h | h
              · rw [h] at hxl; omega
              · exact h
            have hi : x / s' < m' := Nat.div_lt_of_lt_mul (by rw [Nat.mul_comm]; exact hxl)
            have hj : x % s' < s' := Nat.mod_lt _ hs0
            have hfl : x % s' < (f (x / s')).length := by rw [(hel _ (by omega)).1]; exact hj
            have := hget _ hi (x % s') _ (List.getElem?_eq_getElem hfl)
            rw [show x / s' * s' + x % s' = x from by rw [Nat.mul_comm]; exact Nat.div_add_mod x s'] at this
            rw [this] at hx
            cases hx
            rw [oneCell_ren]
            exact List.all_eq_true.1 (hBo (x / s')).2 _ (List.getElem_mem hfl)
          · rw [List.getElem?_take] at hj
            split at hj
            · rw [cell_of_block hw]; simpa using hj
            · cases hj
  · cases h

theorem rowApp_ok {r : Env} {s n m : Nat} {f g : Nat → List Value} {olds news : List Value} (h1 : SrcOk r s n f olds) (h2 : SrcOk r s m g news) : SrcOk r s (n + m) (rowApp f n g) (olds ++ news) where
  len := by rw [List.length_append, h1.len, h2.len, Nat.add_mul]
  one u hu := by
    rcases List.mem_append.1 hu with h | h
    · exact h1.one u h
    · exact h2.one u h
  ok i := by
    unfold rowApp
    cases decide (i < n)
    · exact h2.ok _
    · exact h1.ok _
  el i hi := by
    unfold rowApp
    by_cases hin : i < n
    · simp only [hin, decide_true, cond_true]
      refine ⟨(h1.el i hin).1, fun j v hj => ?_⟩
      have := (h1.el i hin).2 j v hj
      rw [List.getElem?_append_left (List.getElem?_eq_some_iff.1 this).1]
      exact this
    · simp only [hin, decide_false, cond_false]
      have hm : i - n < m := by omega
      refine ⟨(h2.el _ hm).1, fun j v hj => ?_⟩
      have := (h2.el _ hm).2 j v hj
      have e : i * s + j = olds.length + ((i - n) * s + j) := by
        rw [h1.len, ← Nat.add_assoc, ← Nat.add_mul]; congr 2; omega
      rw [e, List.getElem?_append_right (by omega), Nat.add_sub_cancel_left]
      exact this

theorem SrcOk.up {r r' : Env} {s m : Nat} {g : Nat → List Value} {news : List Value} (h : SrcOk r s m g news) : SrcOk r' s m g news where
  len := h.len
  one := h.one
  ok := h.ok
  el i hi := ⟨(h.el i hi).1, fun j v hj => by
    rw [(h.el i hi).2 j v hj, ren_congr (fun k hk => by cases hk) v (okL_iff.1 (h.ok i).1 v (List.mem_of_getElem? hj))]⟩

/-- the row that stands there -/
theorem SrcOk.holds {r : Env} {s m C : Nat} {g : Nat → List Value} {news : List Value} {k e : Nat} (h : SrcOk r s m g news) {c : Array Value} (hs : (r k).s = s) (hC : (r k).c = some C)
    (hw : w.heap[(r k).b]? = some (.cells c e (0, 0))) (hsz : c.size = C * s) (hm : m ≤ C) (hc : ∀ (j : Nat) (v : Value), news[j]? = some v → c[j]? = some v) : (Blk.row s m g e).holds r (fun x => x = (r k).b) k w :=
  ⟨fun _ => Iff.rfl, hs, c, C, hC, hw, hsz, hm, fun i hi => ⟨(h.el i hi).1, fun j v hj => hc _ _ ((h.el i hi).2 j v hj)⟩⟩

theorem okH_row {H : Heap} (hH : okH H) {s n : Nat} {f : Nat → List Value} {e : TypeId} (hf : ∀ i, okL (fun _ => false) (f i) = true ∧ (f i).all Value.oneCell' = true) : okH (H ++ [.row s n f e]) := by
  intro B hB
  have hle : H.length ≤ (H ++ [Blk.row s n f e]).length := by simp
  rcases List.mem_append.1 hB with hB | hB
  · exact okB_mono (below_mono hle) B (hH B hB)
  · simp only [List.mem_singleton] at hB
    subst hB
    exact hf

theorem appSrc_ok {H : Heap} (hH : okH H) {s : Nat} {xv : Value} {b : Bool} {m : Nat} {g : Nat → List Value} (h : appSrc std H s xv = some (b, m, g)) :
    ∀ i, okL (fun _ => false) (g i) = true ∧ (g i).all Value.oneCell' = true := by
  unfold appSrc at h
  split at h
  · simp only [Option.some.injEq, Prod.mk.injEq] at h
    obtain ⟨_, _, rfl⟩ := h
    exact fun _ => ⟨rfl, rfl⟩
  · rename_i k m' cp
    rw [nth_eq] at h
    split at h
    · rename_i c e hk
      cases hc : (Nat.beq (m' * s) c.length && okL (fun _ => false) c && c.all Value.oneCell') with
      | false => simp only [hc, cond_false, reduceCtorEq] at h
      | true =>
        simp only [hc, cond_true, Option.some.injEq, Prod.mk.injEq] at h
        obtain ⟨_, _, rfl⟩ := h
        simp only [Bool.and_eq_true] at hc
        exact cellsF_ok hc.1.2 hc.2
    · rename_i s' n f e hk
      cases hc : Nat.beq s' s with
      | false => simp only [hc, cond_false, reduceCtorEq] at h
      | true =>
        simp only [hc, cond_true, Option.some.injEq, Prod.mk.injEq] at h
        obtain ⟨_, _, rfl⟩ := h
        exact hH _ (List.mem_of_getElem? hk)
    · cases h
  · cases h

theorem appendV_ok {H : Heap} (hH : okH H) {tys : List TypeId} {sv xv : Value} {b : Bool} {m : Nat} {v : Value} {H' : Heap}
    (h : appendV std P H tys sv xv = some (b, m, v, H')) : okH H' ∧ H.length ≤ H'.length ∧ okV (below H'.length) v = true := by
  unfold appendV at h
  split at h
  · rename_i t u
    cases htu : Nat.beq t u with
    | false => simp [htu] at h
    | true =>
      simp only [htu, cond_true] at h
      split at h
      · rename_i e ht
        split at h
        · rename_i i hi
          split at h
          · rename_i z hz
            cases hc : (Nat.beq z.cells.size i.size && Nat.blt 0 i.size && Nat.blt 0 i.bytes) with
            | false => simp only [hc, cond_false, reduceCtorEq] at h
            | true =>
              simp only [hc, cond_true] at h
              split at h
              · rename_i b mm g hsrc
                have hg := appSrc_ok hH hsrc
                split at h
                · simp only [Option.some.injEq, Prod.mk.injEq] at h
                  obtain ⟨_, rfl, rfl, rfl⟩ := h
                  exact ⟨okH_row hH hg, by simp, by simp [okV, below]⟩
                · rename_i k n
                  rw [nth_eq] at h
                  split at h
                  · rename_i s' n' f e' hk
                    have hf : ∀ i, okL (fun _ => false) (f i) = true ∧ (f i).all Value.oneCell' = true := hH _ (List.mem_of_getElem? hk)
                    cases hc2 : (Nat.beq s' i.size && Nat.beq e' e && !isB k xv) with
                    | false => simp only [hc2, cond_false, reduceCtorEq] at h
                    | true =>
                      simp only [hc2, cond_true, Option.some.injEq, Prod.mk.injEq] at h
                      obtain ⟨_, rfl, rfl, rfl⟩ := h
                      rw [setN_eq]
                      refine ⟨okH_row (okH_set (B := .gone) hH trivial) fun x => ?_, by simp, by simp [okV, below]⟩
                      unfold rowApp
                      cases decide (x < n)
                      · exact hg _
                      · exact hf _
                  · cases h
                · cases h
              · cases h
          · cases h
        · cases h
      · cases h
  · cases h

/-- what append does -/
theorem appendV_sound {r : Env} {F : Foot} {H : Heap} (hS : Sat r F H w) (hH : okH H) {tys : Array TypeId} {ty : TypeId} {sv xv : Value} {m : Nat} {v : Value} {H' : Heap}
    (h : appendV std P H tys.toList sv xv = some (true, m, v, H')) :
    (0 < m → ∃ r' F' w', (Builtin.append_ tys ty #[ren r sv, ren r xv]).run P w = .ok (ren r' v) w' ∧ Tr r F H.length w r' F' H'.length w' ∧ Sat r' F' H' w') ∧
    (¬ 0 < m → (Builtin.append_ tys ty #[ren r sv, ren r xv]).run P w = .ok (ren r sv) w) ∧ okH H' ∧ H.length ≤ H'.length ∧ okV (below H'.length) v = true := by
  unfold appendV at h
  split at h
  · rename_i t u htl
    have hty : tys = #[t, u] := Array.ext' (by simpa using htl)
    subst hty
    cases htu : Nat.beq t u with
    | false => simp [htu] at h
    | true =>
      have := Nat.eq_of_beq_eq_true htu
      subst this
      simp only [htu, cond_true] at h
      split at h
      · rename_i e ht
        split at h
        · rename_i i hi
          split at h
          · rename_i z hz
            cases hc : (Nat.beq z.cells.size i.size && Nat.blt 0 i.size && Nat.blt 0 i.bytes) with
            | false => simp only [hc, cond_false, reduceCtorEq] at h
            | true =>
              simp only [hc, cond_true] at h
              simp only [Bool.and_eq_true, Nat.beq_eq, Nat.blt_eq] at hc
              obtain ⟨⟨hzs, hspos⟩, hbpos⟩ := hc
              split at h
              · rename_i b mm g hsrc
                split at h
                · -- nil
                  simp only [Option.some.injEq, Prod.mk.injEq] at h
                  obtain ⟨hb, rfl, rfl, rfl⟩ := h
                  have hb : b = true ∧ mm * i.bytes < 140737488355329 := by simpa [std] using hb
                  obtain ⟨rfl, hsize⟩ := hb
                  have hmb : mm ≤ mm * i.bytes := Nat.le_mul_of_pos_right _ hbpos
                  refine ⟨fun hm => ?_, fun hm => ?_, ?_, by simp, by simp [okV, below]⟩
                  · rcases appSrc_sound hS hH hsrc with ⟨_, h0, _⟩ | ⟨k, cp, news, rfl, hk, hok, hcell⟩
                    · omega
                    · have hrun := run_append_nil (P := P) w t ty e i z ht hi hz ⟨(r k).b, 0, none⟩ mm (renCap r k cp) news hok.len
                        (fun j v hj => by rw [Addr.add_lit, Nat.zero_add]; exact hcell j v hj) hm (by omega) (by omega)
                      have hge := grownCap_ge w mm 0 e
                      refine ⟨_, _, _, ?_, (Sat.put hS hH F (fun _ _ _ h => h) (B := .row i.size mm g e) (sl := ⟨w.heap.size, i.size, some (grownCap w mm 0 e)⟩) (w' := w.drew.alloc (.cells (news.toArray ++ Builtin.zeroCells z.cells (grownCap w mm 0 e - mm)) e))
                        (fun x hx hxl => ?_) (by simp) (fun j x hj hx => by have := hS.lt hj hx; dsimp only; omega) (.inl (Nat.le_refl _)) ?_ rfl rfl rfl).symm⟩
                      · simpa [ren, renAd, renCap, upd] using hrun
                      · simp only [World.alloc, World.drew, Array.getElem?_push]
                        rw [if_neg (by omega)]
                      · have e1 : (upd r H.length ⟨w.heap.size, i.size, some (grownCap w mm 0 e)⟩ H.length) = ⟨w.heap.size, i.size, some (grownCap w mm 0 e)⟩ := by simp [upd]
                        have := SrcOk.holds (w := w.drew.alloc (.cells (news.toArray ++ Builtin.zeroCells z.cells (grownCap w mm 0 e - mm)) e)) (k := H.length) (e := e) (C := grownCap w mm 0 e)
                          (c := news.toArray ++ Builtin.zeroCells z.cells (grownCap w mm 0 e - mm)) (hok.up (r' := upd r H.length ⟨w.heap.size, i.size, some (grownCap w mm 0 e)⟩)) (by rw [e1]) (by rw [e1]) (by rw [e1]; exact heap_alloc_new w.drew _)
                          (by simp only [Array.size_append, List.size_toArray, size_zeroCells, hzs, hok.len, ← Nat.add_mul]; congr 1; omega) hge
                          (fun j v hj => by
                            have hjl := (List.getElem?_eq_some_iff.1 hj).1
                            rw [Array.getElem?_append_left (by simpa using hjl)]; simpa using hj)
                        rw [e1] at this
                        exact this
                  · have h0 : mm = 0 := by omega
                    subst h0
                    rcases appSrc_sound hS hH hsrc with ⟨rfl, _, _⟩ | ⟨k, cp, news, rfl, hk, hok, hcell⟩
                    · simp [ren, Builtin.append_, run_underlying ht, sizeOf, typeInfo, hi, Builtin.lenOf, Builtin.firstCells]
                    · have hn : news = [] := List.eq_nil_of_length_eq_zero (by rw [hok.len, Nat.zero_mul])
                      subst hn
                      have hf := run_firstCells_some (P := P) w i.size 0 ⟨(r k).b, 0, none⟩ 0 (renCap r k cp) [] (by simp) (by simp)
                      simp [ren, renAd, Builtin.append_, run_underlying ht, sizeOf, typeInfo, hi, Builtin.lenOf, hf]
                  · exact okH_row hH (by
                      rcases appSrc_sound hS hH hsrc with ⟨_, _, hok⟩ | ⟨_, _, _, _, _, hok, _⟩
                      · exact hok.ok
                      · exact hok.ok)
                · -- a row
                  rename_i k n
                  rw [nth_eq] at h
                  split at h
                  · rename_i s' n' f e' hk
                    cases hc2 : (Nat.beq s' i.size && Nat.beq e' e && !isB k xv) with
                    | false => simp only [hc2, cond_false, reduceCtorEq] at h
                    | true =>
                      simp only [hc2, cond_true, Option.some.injEq, Prod.mk.injEq] at h
                      obtain ⟨hb, rfl, rfl, rfl⟩ := h
                      simp only [Bool.and_eq_true, Nat.beq_eq, Bool.not_eq_true'] at hc2
                      obtain ⟨⟨rfl, rfl⟩, hnb⟩ := hc2
                      have hb : (b = true ∧ neq std n n' = true) ∧ (n + mm) * i.bytes < 140737488355329 := by simpa [std] using hb
                      obtain ⟨⟨rfl, hnn⟩, hsize⟩ := hb
                      rw [neq_std] at hnn
                      have hnn : n = n' := by simpa using hnn
                      subst hnn
                      have hmb : n + mm ≤ (n + mm) * i.bytes := Nat.le_mul_of_pos_right _ hbpos
                      have hkl := (List.getElem?_eq_some_iff.1 hk).1
                      obtain ⟨hF, hsl, c, C, hC, hw, hsz, hnC, hel⟩ := hS.1 k _ hk
                      obtain ⟨olds, hold, hocell⟩ : ∃ olds, SrcOk r i.size n f olds ∧ ∀ (j : Nat) (v : Value), olds[j]? = some v → w.cell? ⟨(r k).b, j, none⟩ = some v := by
                        have hx : appSrc std H i.size (.slice (some ⟨k, 0, none⟩) n 0) = some (true, n, f) := by
                          simp [appSrc, nth_eq, hk, std]
                        rcases appSrc_sound hS hH hx with ⟨h1, _⟩ | ⟨k', cp, olds, h1, h2, h3, h4⟩
                        · cases h1
                        · cases h1; exact ⟨olds, h3, h4⟩
                      have hocell' : ∀ (j : Nat) (v : Value), olds[j]? = some v → c[j]? = some v := fun j v hj => by
                        have := hocell j v hj; rwa [cell_of_block hw] at this
                      have hrsv : ren r (.slice (some ⟨k, 0, none⟩) n 0) = .slice (some ⟨(r k).b, 0, none⟩) n C := by simp [ren, renAd, renCap, hC]
                      have hl1 : (H.set k .gone).length = H.length := by simp
                      have hok1 : okH (H.set k .gone) := okH_set hH trivial
                      have hgok : ∀ i, okL (fun _ => false) (g i) = true ∧ (g i).all Value.oneCell' = true := by
                        rcases appSrc_sound hS hH hsrc with ⟨_, _, hok⟩ | ⟨_, _, _, _, _, hok, _⟩
                        · exact hok.ok
                        · exact hok.ok
                      refine ⟨fun hm => ?_, fun hm => ?_, ?_, by rw [setN_eq]; simp, by rw [setN_eq]; simp [okV, below]⟩
                      · rcases appSrc_sound hS hH hsrc with ⟨_, h0, _⟩ | ⟨k2, cp, news, rfl, hk2, hok, hcell⟩
                        · omega
                        · have hne : k2 ≠ k := fun h => by simp [isB, h] at hnb
                          have hall := rowApp_ok hold hok
                          have hS1 := Sat.drop hS k
                          rw [setN_eq]
                          have hrxv : ren r (.slice (some ⟨k2, 0, none⟩) mm cp) = .slice (some ⟨(r k2).b, 0, none⟩) mm (renCap r k2 cp) := by simp [ren, renAd]
                          by_cases hroom : n + mm ≤ C
                          · -- room
                            have hf := run_firstCells_some (P := P) w i.size mm ⟨(r k2).b, 0, none⟩ mm (renCap r k2 cp) news hok.len (fun j v hj => by rw [Addr.add_lit, Nat.zero_add]; exact hcell j v hj)
                            have hfit : n * i.size + news.length ≤ c.size := by
                              rw [hok.len, hsz, ← Nat.add_mul]; exact Nat.mul_le_mul_right _ hroom
                            obtain ⟨w', hst, hh, h1, h2, h3⟩ := run_storeCells (P := P) (b := (r k).b) (e := e') news w c (n * i.size) 0 hw (by omega) (List.all_eq_true.2 hok.one)
                            simp only [Nat.add_zero] at hh
                            have hput := Sat.put hS1 hok1 F (fun j x _ hx => hx.2) (B := .row i.size (n + mm) (rowApp f n g) e') (sl := r k) (w' := w')
                              (fun x hx hxl => by rw [hh, Array.getElem?_setIfInBounds_ne (Ne.symm hx)]) (by rw [hh]; simp)
                              (fun j x hj hx hxe => hx.1 (hS.2 j k x (by simpa using hj) hkl hx.2 ((hF x).2 hxe)))
                              (.inr ⟨k, by rw [hl1]; exact hkl, (hF _).2 rfl⟩) ?_ h1 h2 h3
                            · rw [hl1] at hput
                              refine ⟨_, _, w', ?_, hput.2, hput.1⟩
                              have hv' : ren (upd r H.length (r k)) (.slice (some ⟨H.length, 0, none⟩) (n + mm) 0) = .slice (some ⟨(r k).b, 0, none⟩) (n + mm) C := by simp [ren, renAd, renCap, upd, hC]
                              rw [hrsv, hrxv, hv']
                              simp [Builtin.append_, run_underlying ht, sizeOf, typeInfo, hi, Builtin.lenOf, hroom, hf, Addr.add_lit, hst]
                            · have e1 : (upd r (H.set k .gone).length (r k) (H.set k .gone).length) = r k := by simp [upd]
                              have hlt := (Array.getElem?_eq_some_iff.1 hw).1
                              have := SrcOk.holds (w := w') (k := (H.set k .gone).length) (e := e') (C := C) (c := (c.toList.take (n * i.size) ++ news ++ c.toList.drop (n * i.size + news.length)).toArray)
                                (hall.up (r' := upd r (H.set k .gone).length (r k))) (by rw [e1]; exact hsl) (by rw [e1]; exact hC) (by rw [e1, hh, Array.getElem?_setIfInBounds_self_of_lt hlt])
                                (by rw [List.size_toArray]; simp only [List.length_append, List.length_take, List.length_drop, Array.length_toList]; omega) hroom (fun j v hj => ?_)
                              · rw [e1] at this; exact this
                              · rw [List.getElem?_toArray]
                                have ho : c.toList.take (n * i.size) = olds := by
                                  refine List.ext_getElem? fun x => ?_
                                  by_cases hx : x < n * i.size
                                  · rw [List.getElem?_take, if_pos hx, Array.getElem?_toList]
                                    have hxo : x < olds.length := by rw [hold.len]; exact hx
                                    rw [hocell' x _ (List.getElem?_eq_getElem hxo), List.getElem?_eq_getElem hxo]
                                  · rw [List.getElem?_take, if_neg hx, List.getElem?_eq_none (by rw [hold.len]; omega)]
                                rw [ho, List.getElem?_append_left (List.getElem?_eq_some_iff.1 hj).1]
                                exact hj
                          · have hgr := run_append_grow (P := P) w t ty e' i z ht hi hz ⟨(r k).b, 0, none⟩ n C olds hold.len (fun j v hj => by rw [Addr.add_lit, Nat.zero_add]; exact hocell j v hj)
                              ⟨(r k2).b, 0, none⟩ mm (renCap r k2 cp) news hok.len (fun j v hj => by rw [Addr.add_lit, Nat.zero_add]; exact hcell j v hj) (by omega) (by omega) (growslice_fits (by omega) (by omega))
                            have hge := grownCap_ge w (n + mm) C e'
                            have hput := Sat.put hS1 hok1 F (fun j x _ hx => hx.2) (B := .row i.size (n + mm) (rowApp f n g) e') (sl := ⟨w.heap.size, i.size, some (grownCap w (n + mm) C e')⟩)
                              (w' := w.drew.alloc (.cells (olds.toArray ++ news.toArray ++ Builtin.zeroCells z.cells (grownCap w (n + mm) C e' - (n + mm))) e'))
                              (fun x hx hxl => by simp only [World.alloc, World.drew, Array.getElem?_push]; rw [if_neg (by omega)]) (by simp)
                              (fun j x hj hx => by have := hS1.lt hj hx; dsimp only; omega) (.inl (Nat.le_refl _)) ?_ rfl rfl rfl
                            · rw [hl1] at hput
                              refine ⟨_, _, _, ?_, hput.2, hput.1⟩
                              have hv' : ren (upd r H.length ⟨w.heap.size, i.size, some (grownCap w (n + mm) C e')⟩) (.slice (some ⟨H.length, 0, none⟩) (n + mm) 0) =
                                  .slice (some ⟨w.heap.size, 0, none⟩) (n + mm) (grownCap w (n + mm) C e') := by simp [ren, renAd, renCap, upd]
                              rw [hrsv, hrxv, hv']
                              exact hgr
                            · have e1 : (upd r (H.set k .gone).length ⟨w.heap.size, i.size, some (grownCap w (n + mm) C e')⟩ (H.set k .gone).length) = ⟨w.heap.size, i.size, some (grownCap w (n + mm) C e')⟩ := by simp [upd]
                              have := SrcOk.holds (w := w.drew.alloc (.cells (olds.toArray ++ news.toArray ++ Builtin.zeroCells z.cells (grownCap w (n + mm) C e' - (n + mm))) e')) (k := (H.set k .gone).length) (e := e')
                                (C := grownCap w (n + mm) C e') (c := olds.toArray ++ news.toArray ++ Builtin.zeroCells z.cells (grownCap w (n + mm) C e' - (n + mm)))
                                (hall.up (r' := upd r (H.set k .gone).length ⟨w.heap.size, i.size, some (grownCap w (n + mm) C e')⟩)) (by rw [e1]) (by rw [e1]) (by rw [e1]; exact heap_alloc_new w.drew _)
                                (by simp only [Array.size_append, List.size_toArray, size_zeroCells, hzs, hold.len, hok.len, ← Nat.add_mul]; congr 1; omega) hge
                                (fun j v hj => by
                                  have hjl := (List.getElem?_eq_some_iff.1 hj).1
                                  rw [Array.getElem?_append_left (by simpa using hjl)]; simpa using hj)
                              rw [e1] at this
                              exact this
                      · have h0 : mm = 0 := by omega
                        subst h0
                        rw [hrsv]
                        rcases appSrc_sound hS hH hsrc with ⟨rfl, _, _⟩ | ⟨k2, cp, news, rfl, hk2, hok, hcell⟩
                        · simp [ren, Builtin.append_, run_underlying ht, sizeOf, typeInfo, hi, Builtin.lenOf, Builtin.firstCells, hnC, storeCells]
                        · have hf := run_firstCells_some (P := P) w i.size 0 ⟨(r k2).b, 0, none⟩ 0 (renCap r k2 cp) [] (by simp) (by simp)
                          simp [ren, renAd, Builtin.append_, run_underlying ht, sizeOf, typeInfo, hi, Builtin.lenOf, hf, hnC, storeCells]
                      · rw [setN_eq]
                        refine okH_row hok1 fun x => ?_
                        unfold rowApp
                        cases decide (x < n)
                        · exact hgok _
                        · exact hold.ok _
                  · cases h
                · cases h
              · cases h
          · cases h
        · cases h
      · cases h
  · cases h
end
end Go.Vx
