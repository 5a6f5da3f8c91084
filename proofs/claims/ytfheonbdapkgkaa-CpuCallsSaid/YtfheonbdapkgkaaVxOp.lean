/- Soundness of one operation, and of a region that keeps its order. -/
import Derived.Test.YtfheonbdapkgkaaVxVal
namespace Go.Vx
open Go

section
variable {P : Program} {w : World}

def okH (H : Heap) : Prop := ∀ B ∈ H, okB (below H.length) B
def okT (n : Nat) (t : List Value) : Prop := ∀ v ∈ t, okV (below n) v = true

theorem below_mono {n m : Nat} (h : n ≤ m) : ∀ k, below n k = true → below m k = true := fun _ hk => below_iff.2 (Nat.lt_of_lt_of_le (below_iff.1 hk) h)
theorem okT_mono {n m : Nat} (h : n ≤ m) {t : List Value} (ht : okT n t) : okT m t := fun v hv => okV_mono (below_mono h) v (ht v hv)

theorem okH_push {H : Heap} (hH : okH H) {cs : List Value} {e : TypeId} (hc : okL (below H.length) cs = true) : okH (H ++ [.cells cs e]) := by
  intro B hB
  have hle : H.length ≤ (H ++ [Blk.cells cs e]).length := by simp
  rcases List.mem_append.1 hB with hB | hB
  · exact okB_mono (below_mono hle) B (hH B hB)
  · simp only [List.mem_singleton] at hB
    subst hB
    exact okL_mono (below_mono hle) cs hc

theorem okH_set {H : Heap} (hH : okH H) {k : Nat} {B : Blk} (hB : okB (below H.length) B) : okH (H.set k B) := by
  intro C hC
  rw [List.length_set]
  rcases List.mem_or_eq_of_mem_set hC with hC | rfl
  · exact hH C hC
  · exact hB

theorem storeH_ok {H : Heap} (hH : okH H) {a : Addr} {vs : List Value} (hvs : okL (below H.length) vs = true) {b : Bool} {H' : Heap} (h : storeH std H a vs = some (b, H')) :
    okH H' ∧ H'.length = H.length := by
  simp only [storeH, nth_eq] at h
  cases hv : vs.all Value.oneCell' with
  | false => simp only [hv, cond_false, reduceCtorEq] at h
  | true =>
    simp only [hv, cond_true] at h
    cases hb : H[a.block]? with
    | none => simp [hb] at h
    | some B =>
      have hB := hH B (List.mem_of_getElem? hb)
      cases B with
      | gone => simp [hb] at h
      | abs R => simp [hb] at h
      | row s n f e => simp [hb] at h
      | cells c e =>
        have hc : okL (below H.length) c = true := hB
        simp only [hb, setN_eq] at h
        have fin : ∀ c', okL (below H.length) c' = true → H' = H.set a.block (.cells c' e) → okH H' ∧ H'.length = H.length := by
          rintro c' hc' rfl
          exact ⟨okH_set hH hc', by simp⟩
        rw [okL_iff] at hc hvs
        cases hsp : a.spot with
        | none =>
          simp only [hsp] at h
          cases hl : decide (a.off + vs.length ≤ c.length) with
          | false => simp [hl] at h
          | true =>
            simp only [hl, cond_true, Option.some.injEq, Prod.mk.injEq] at h
            refine fin _ ?_ h.2.symm
            rw [okL_iff]
            intro v hv
            simp only [List.mem_append] at hv
            rcases hv with (hv | hv) | hv
            · exact hc v (List.mem_of_mem_take hv)
            · exact hvs v hv
            · exact hc v (List.mem_of_mem_drop hv)
        | some i =>
          simp only [hsp] at h
          cases vs with
          | nil => simp at h
          | cons v vs' =>
            cases vs' with
            | cons _ _ => simp at h
            | nil =>
              split at h
              · rename_i kd y kd' x l hv2 hd
                cases hv2
                by_cases hk : kd = kd'
                · subst hk
                  simp only [decide_true, cond_true, Option.some.injEq, Prod.mk.injEq] at h
                  refine fin _ ?_ h.2.symm
                  rw [okL_iff]
                  intro v hv
                  simp only [List.mem_append] at hv
                  rcases hv with (hv | hv) | hv
                  · exact hc v (List.mem_of_mem_take hv)
                  · obtain ⟨y, _, rfl⟩ := List.mem_map.1 hv; rfl
                  · exact hc v (List.mem_of_mem_drop hv)
                · simp only [hk, decide_false, cond_false, reduceCtorEq] at h
              · rename_i v2 hv2 _
                cases hv2
                cases hl : decide (i < (c.drop a.off).length) with
                | false => simp only [hl, cond_false, reduceCtorEq] at h
                | true =>
                  simp only [hl, cond_true, Option.some.injEq, Prod.mk.injEq] at h
                  refine fin _ ?_ h.2.symm
                  rw [okL_iff]
                  intro u hu
                  simp only [List.mem_append] at hu
                  rcases hu with hu | hu
                  · exact hc u (List.mem_of_mem_take hu)
                  · rcases List.mem_or_eq_of_mem_set hu with hu | rfl
                    · exact hc u (List.mem_of_mem_drop hu)
                    · exact hvs _ (List.mem_singleton.2 rfl)
              · cases h

theorem repL_const {z : List Value} (hz : constL z = true) : ∀ n, constL (repL z n) = true
  | 0 => rfl
  | n + 1 => by
    have key : ∀ a b : List Value, constL a = true → constL b = true → constL (a ++ b) = true := by
      intro a b ha hb
      induction a with
      | nil => exact hb
      | cons v a ih => simp only [constL, Bool.and_eq_true] at ha; simp [constL, ha.1, ih ha.2]
    exact key _ _ hz (repL_const hz n)
theorem repL_len (z : List Value) : ∀ n, (repL z n).length = n * z.length
  | 0 => by simp [repL]
  | n + 1 => by simp [repL, repL_len z n, Nat.add_mul, Nat.add_comm]
theorem repL_get (z : List Value) (hz : 0 < z.length) : ∀ n i, i < n * z.length → (repL z n)[i]? = z[i % z.length]?
  | 0, i, h => by simp at h
  | n + 1, i, h => by
    simp only [repL]
    by_cases hi : i < z.length
    · rw [List.getElem?_append_left hi, Nat.mod_eq_of_lt hi]
    · rw [Nat.succ_mul] at h
      rw [List.getElem?_append_right (by omega), repL_get z hz n _ (by omega), ← Nat.mod_eq_sub_mod (show i ≥ z.length by omega)]

theorem heapOp_ok {H : Heap} (hH : okH H) {t : List Value} (ht : okT H.length t) {o : Oper} {b : Bool} {v : Value} {H' : Heap} (h : heapOp std P H t o = some (b, v, H')) :
    okH H' ∧ H.length ≤ H'.length ∧ okV (below H'.length) v = true := by
  obtain ⟨dst, op, ty, pos, after, guard⟩ := o
  unfold heapOp at h
  dsimp only at h
  cases op <;> dsimp only at h <;> try (cases h; done)
  case alloc t' =>
    simp only [Option.map_eq_some_iff, Prod.mk.injEq] at h
    obtain ⟨cs, hz, _, rfl, rfl⟩ := h
    obtain ⟨z, _, _, hzk⟩ := zeroL_sound (w := default) hz
    exact ⟨okH_push hH (constL_ok _ cs hzk), by simp, by simp [okV, below]⟩
  case box t' x =>
    simp only [Option.map_eq_some_iff, Prod.mk.injEq] at h
    obtain ⟨u, hu, _, rfl, rfl⟩ := h
    exact ⟨okH_push hH (okV_cells (evS_ok ht hu)), by simp, by simp [okV, below]⟩
  case store t' x y =>
    split at h
    · rename_i ad u n hx hy hn
      cases hc : u.cells.toList.length == n with
      | false => simp only [hc, cond_false, reduceCtorEq] at h
      | true =>
        simp only [hc, cond_true, Option.map_eq_some_iff, Prod.mk.injEq, Prod.exists] at h
        obtain ⟨b', H1, hs, _, rfl, rfl⟩ := h
        obtain ⟨h1, h2⟩ := storeH_ok hH (okV_cells (evS_ok ht hy)) hs
        exact ⟨h1, by omega, rfl⟩
    · cases h
  case buildSlice t' len parts =>
    split at h
    · rename_i e ps hu hp
      split at h
      · rename_i s z hs hz
        cases hc : (decide (len * s ≤ 4096) && decide (0 < s) && z.length == s) with
        | false => simp only [hc, cond_false, reduceCtorEq] at h
        | true =>
          simp only [hc, cond_true, Option.map_eq_some_iff, Prod.mk.injEq] at h
          obtain ⟨cs, hf, _, rfl, rfl⟩ := h
          obtain ⟨_, _, _, hzk⟩ := zeroL_sound (w := default) hz
          exact ⟨okH_push hH (fillV_ok (evParts_ok ht hp) (constL_ok _ _ (repL_const hzk len)) hf), by simp, by simp [okV, below]⟩
      · cases h
    · cases h

theorem newRow_run (e : TypeId) (cs : Array Value) : (newRow e cs).run P w = .ok ⟨w.heap.size, 0, none⟩ (w.alloc (.cells cs e)) := by
  simp [newRow]

theorem heapOp_sound {r : Env} {F : Foot} {H : Heap} (hS : Sat r F H w) (hH : okH H) {t : List Value} (ht : okT H.length t) {a : Act} (ha : Sees r t a) {o : Oper} {v : Value} {H' : Heap}
    (h : heapOp std P H t o = some (true, v, H')) :
    ∃ r' F' w' x, (execOp a.eval o).run P w = .ok x w' ∧ (x = .value (ren r' v) ∨ (x = .skip ∧ v = undef)) ∧ Tr r F H.length w r' F' H'.length w' ∧ Sat r' F' H' w' := by
  obtain ⟨dst, op, ty, pos, after, guard⟩ := o
  unfold heapOp at h
  dsimp only at h
  have addr : ∀ (l c : Nat), ren (upd r H.length ⟨w.heap.size, 1, none⟩) (.slice (some ⟨H.length, 0, none⟩) l c) = .slice (some ⟨w.heap.size, 0, none⟩) l c ∧
      ren (upd r H.length ⟨w.heap.size, 1, none⟩) (.pointer (some ⟨H.length, 0, none⟩)) = .pointer (some ⟨w.heap.size, 0, none⟩) := by
    intro l c; simp [ren, renAd, renCap, upd]
  cases op <;> dsimp only at h <;> try (cases h; done)
  case alloc t' =>
    simp only [Option.map_eq_some_iff, Prod.mk.injEq, true_and] at h
    obtain ⟨cs, hz, rfl, rfl⟩ := h
    obtain ⟨z, hzr, hzc, hzk⟩ := zeroL_sound (w := w) hz
    obtain ⟨h1, h2⟩ := Sat.push hS hH (cs := cs) (e := t') (constL_ok _ cs hzk)
    refine ⟨_, _, _, _, ?_, .inl (by rw [(addr 0 0).2]), h2, h1⟩
    have hc : z.cells = (cs.map (ren r)).toArray := by rw [constL_map r hzk, ← hzc]
    simp [execOp, Instr.alloc, hzr, newVar, newRow_run, hc]
  case box t' x =>
    simp only [Option.map_eq_some_iff, Prod.mk.injEq, true_and] at h
    obtain ⟨u, hu, rfl, rfl⟩ := h
    obtain ⟨h1, h2⟩ := Sat.push hS hH (cs := u.cells.toList) (e := t') (okV_cells (evS_ok ht hu))
    refine ⟨_, _, _, _, ?_, .inl (by rw [(addr 0 0).2]), h2, h1⟩
    have hc : (ren r u).cells = (u.cells.toList.map (ren r)).toArray := by rw [← ren_cells]
    simp [execOp, Instr.box, evS_sound ha hu, newVar, newRow_run, hc]
  case store t' x y =>
    split at h
    · rename_i ad u n hx hy hn
      cases hc : u.cells.toList.length == n with
      | false => simp only [hc, cond_false, reduceCtorEq] at h
      | true =>
        simp only [hc, cond_true, Option.map_eq_some_iff, Prod.mk.injEq, Prod.exists] at h
        obtain ⟨b', H1, hs, rfl, rfl, rfl⟩ := h
        obtain ⟨w', h1, h2, h3⟩ := storeH_sound (P := P) hS hs
        refine ⟨r, F, w', .skip, ?_, .inr ⟨rfl, rfl⟩, h3, h2⟩
        have hsz : (ren r u).cells.size = n := by
          rw [← Array.length_toList, ren_cells, List.length_map]; simpa using hc
        simp only [execOp, evS_sound ha hx, evS_sound ha hy, ren, Instr.storeAt, Instr.sureAddr, storeVar, Sem.run_bind, Sem.run_pure, Result.andThen_ok, run_sizeOf hn, hsz, ne_eq,
          not_true_eq_false, if_false, ren_cells, h1]
    · cases h
  case buildSlice t' len parts =>
    split at h
    · rename_i e ps hu hp
      split at h
      · rename_i s z hs hz
        cases hc : (decide (len * s ≤ 4096) && decide (0 < s) && z.length == s) with
        | false => simp only [hc, cond_false, reduceCtorEq] at h
        | true =>
          simp only [hc, cond_true, Option.map_eq_some_iff, Prod.mk.injEq, true_and] at h
          obtain ⟨cs, hf, rfl, rfl⟩ := h
          obtain ⟨z', hzr, hzc, hzk⟩ := zeroL_sound (w := w) hz
          simp only [Bool.and_eq_true, decide_eq_true_eq, beq_iff_eq] at hc
          obtain ⟨⟨hle, hpos⟩, hzl⟩ := hc
          obtain ⟨h1, h2⟩ := Sat.push hS hH (cs := cs) (e := e) (fillV_ok (evParts_ok ht hp) (constL_ok _ _ (repL_const hzk len)) hf)
          refine ⟨_, _, _, _, ?_, .inl (by rw [(addr len len).1]), h2, h1⟩
          have hparts : parts.toList.map (fun (i, x) => (i, a.eval x)) = ps.map (fun (i, v) => (i, ren r v)) := evParts_sound ha hp
          have hfill := fillV_sound (r := r) (place' := fun i => some (i * s, s)) (fun _ _ h => h) hf
          have hrep : ∀ zz : Array Value, (0 < len * s → zz = z.toArray) → ((Array.range (len * s)).map fun x => zz[x % zz.size]!) = ((repL z len).map (ren r)).toArray := by
            intro zz hzz
            rw [constL_map r (repL_const hzk len)]
            apply Array.ext_getElem?
            intro i
            simp only [Array.getElem?_map, List.getElem?_toArray]
            by_cases hi : i < len * s
            · rw [hzz (by omega)]
              have hlt : i % z.length < z.length := Nat.mod_lt _ (by omega)
              rw [repL_get z (by omega) len i (by rw [hzl]; exact hi)]
              simp [hi, hlt]
            · have : (repL z len).length ≤ i := by rw [repL_len, hzl]; omega
              simp [hi, List.getElem?_eq_none this]
          have hzc' : z'.cells = z.toArray := by rw [← hzc]
          simp only [execOp, Instr.buildSlice, Sem.run_bind, run_underlying hu, Result.andThen_ok, run_sizeOf hs]
          rw [if_neg (by omega)]
          by_cases h0 : len * s = 0
          · have := hrep #[] (fun h => by omega)
            simp only [h0, if_true, pure_bind]
            rw [h0] at this
            simp only [this, Array.toList_map, hparts, hfill, Sem.run_bind, newRow_run, Sem.run_pure, Result.andThen_ok]
          · have := hrep z.toArray (fun _ => rfl)
            simp only [h0, if_false, Sem.run_bind, hzr, Result.andThen_ok, hzc', Sem.run_pure, this, Array.toList_map, hparts, hfill, newRow_run]
      · cases h
    · cases h
end
end Go.Vx
