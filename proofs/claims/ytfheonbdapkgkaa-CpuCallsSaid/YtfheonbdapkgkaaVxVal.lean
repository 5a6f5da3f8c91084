/- Soundness of the operations that only read. -/
import Derived.Test.YtfheonbdapkgkaaVxDefs
import Derived.Laws.StructEq
import Derived.Laws.Build
namespace Go.Vx
open Go

theorem nth_eq {α : Type} : ∀ (l : List α) (n : Nat), nth l n = l[n]?
  | [], _ => by simp [nth]
  | x :: l, 0 => by simp [nth]
  | x :: l, n + 1 => by simp [nth, nth_eq l n]

theorem setN_eq {α : Type} : ∀ (l : List α) (n : Nat) (y : α), setN l n y = l.set n y
  | [], _, _ => by simp [setN]
  | x :: l, 0, _ => by simp [setN]
  | x :: l, n + 1, y => by simp [setN, setN_eq l n y]

mutual
theorem constV_ren (r : Env) : ∀ v : Value, constV v = true → ren r v = v
  | .pointer none, _ => rfl
  | .slice none _ _, _ => rfl
  | .map none, _ => rfl
  | .bool _, _ => rfl
  | .int _ _, _ => rfl
  | .float _ _, _ => rfl
  | .complex _ _ _, _ => rfl
  | .string _, _ => rfl
  | .nilFunc, _ => rfl
  | .nilIface, _ => rfl
  | .agg ⟨l⟩, h => by simp only [constV] at h; simp [ren, constL_ren r l h]
  | .tuple ⟨l⟩, h => by simp only [constV] at h; simp [ren, constL_ren r l h]
  | .iface _ v, h => by simp only [constV] at h; simp [ren, constV_ren r v h]
  | .func _ ⟨f⟩ ⟨c⟩, h => by simp only [constV, Bool.and_eq_true] at h; simp [ren, constL_ren r f h.1, constL_ren r c h.2]
  | .pointer (some _), h => by simp [constV] at h
  | .slice (some _) _ _, h => by simp [constV] at h
  | .map (some _), h => by simp [constV] at h
  | .chan _, _ => rfl
theorem constL_ren (r : Env) : ∀ l : List Value, constL l = true → renL r l = l
  | [], _ => rfl
  | v :: l, h => by simp only [constL, Bool.and_eq_true] at h; simp [renL, constV_ren r v h.1, constL_ren r l h.2]
end
mutual
theorem constV_ok (p : Nat → Bool) : ∀ v : Value, constV v = true → okV p v = true
  | .pointer none, _ => rfl
  | .slice none _ _, _ => rfl
  | .map none, _ => rfl
  | .bool _, _ => rfl
  | .int _ _, _ => rfl
  | .float _ _, _ => rfl
  | .complex _ _ _, _ => rfl
  | .string _, _ => rfl
  | .nilFunc, _ => rfl
  | .nilIface, _ => rfl
  | .agg ⟨l⟩, h => constL_ok p l h
  | .tuple ⟨l⟩, h => constL_ok p l h
  | .iface _ v, h => constV_ok p v h
  | .func _ ⟨f⟩ ⟨c⟩, h => by simp only [constV, Bool.and_eq_true] at h; simp [okV, constL_ok p f h.1, constL_ok p c h.2]
  | .pointer (some _), h => by simp [constV] at h
  | .slice (some _) _ _, h => by simp [constV] at h
  | .map (some _), h => by simp [constV] at h
  | .chan _, _ => rfl
theorem constL_ok (p : Nat → Bool) : ∀ l : List Value, constL l = true → okL p l = true
  | [], _ => rfl
  | v :: l, h => by simp only [constL, Bool.and_eq_true] at h; simp [okL, constV_ok p v h.1, constL_ok p l h.2]
end

/-- the frame's slots are the virtual ones, read -/
def Sees (r : Env) (t : List Value) (a : Act) : Prop := a.tmps.toList = t.map (ren r)

theorem evS_sound {r : Env} {t : List Value} {a : Act} (ha : Sees r t a) {x : Operand} {v : Value} (h : evS t x = some v) : a.eval x = ren r v := by
  cases x with
  | tmp i =>
    simp only [evS, nth_eq] at h
    simp only [Act.eval, Array.getD_eq_getD_getElem?, ← Array.getElem?_toList, show a.tmps.toList = t.map (ren r) from ha, List.getElem?_map, h]
    rfl
  | const c =>
    simp only [evS] at h
    cases hc : constV c with
    | false => simp [hc] at h
    | true => simp only [hc, cond_true, Option.some.injEq] at h; subst h; exact (constV_ren r c hc).symm
  | func f => simp only [evS, Option.some.injEq] at h; subst h; rfl
  | global g => simp [evS] at h

theorem evS_ok {p : Nat → Bool} {t : List Value} (ht : ∀ v ∈ t, okV p v = true) {x : Operand} {v : Value} (h : evS t x = some v) : okV p v = true := by
  cases x with
  | tmp i => simp only [evS, nth_eq] at h; exact ht v (List.mem_of_getElem? h)
  | const c =>
    simp only [evS] at h
    cases hc : constV c with
    | false => simp [hc] at h
    | true => simp only [hc, cond_true, Option.some.injEq] at h; subst h; exact constV_ok p c hc
  | func f => simp only [evS, Option.some.injEq] at h; subst h; rfl
  | global g => simp [evS] at h

theorem evL_sound {r : Env} {t : List Value} {a : Act} (ha : Sees r t a) : ∀ {l : List Operand} {vs : List Value}, evL t l = some vs → l.map a.eval = vs.map (ren r)
  | [], vs, h => by simp only [evL, Option.some.injEq] at h; subst h; rfl
  | x :: l, vs, h => by
    simp only [evL] at h
    cases hx : evS t x with
    | none => simp [hx] at h
    | some v =>
      cases hl : evL t l with
      | none => simp [hx, hl] at h
      | some ws =>
        simp only [hx, hl, Option.some.injEq] at h
        subst h
        simp [evS_sound ha hx, evL_sound ha hl]
theorem evL_ok {p : Nat → Bool} {t : List Value} (ht : ∀ v ∈ t, okV p v = true) : ∀ {l : List Operand} {vs : List Value}, evL t l = some vs → okL p vs = true
  | [], vs, h => by simp only [evL, Option.some.injEq] at h; subst h; rfl
  | x :: l, vs, h => by
    simp only [evL] at h
    cases hx : evS t x with
    | none => simp [hx] at h
    | some v =>
      cases hl : evL t l with
      | none => simp [hx, hl] at h
      | some ws =>
        simp only [hx, hl, Option.some.injEq] at h
        subst h
        simp [okL, evS_ok ht hx, evL_ok ht hl]
theorem evParts_sound {r : Env} {t : List Value} {a : Act} (ha : Sees r t a) : ∀ {l : List (Nat × Operand)} {vs : List (Nat × Value)}, evParts t l = some vs →
    l.map (fun (i, x) => (i, a.eval x)) = vs.map (fun (i, v) => (i, ren r v))
  | [], vs, h => by simp only [evParts, Option.some.injEq] at h; subst h; rfl
  | (i, x) :: l, vs, h => by
    simp only [evParts] at h
    cases hx : evS t x with
    | none => simp [hx] at h
    | some v =>
      cases hl : evParts t l with
      | none => simp [hx, hl] at h
      | some ws =>
        simp only [hx, hl, Option.some.injEq] at h
        subst h
        simp [evS_sound ha hx, evParts_sound ha hl]
theorem evParts_ok {p : Nat → Bool} {t : List Value} (ht : ∀ v ∈ t, okV p v = true) : ∀ {l : List (Nat × Operand)} {vs : List (Nat × Value)}, evParts t l = some vs →
    ∀ x ∈ vs, okV p x.2 = true
  | [], vs, h => by simp only [evParts, Option.some.injEq] at h; subst h; simp
  | (i, x) :: l, vs, h => by
    simp only [evParts] at h
    cases hx : evS t x with
    | none => simp [hx] at h
    | some v =>
      cases hl : evParts t l with
      | none => simp [hx, hl] at h
      | some ws =>
        simp only [hx, hl, Option.some.injEq] at h
        subst h
        intro y hy
        rcases List.mem_cons.1 hy with rfl | hy
        · exact evS_ok ht hx
        · exact evParts_ok ht hl y hy

/-! ### Types -/
section
variable {P : Program} {w : World}

theorem run_sizeOf {t : TypeId} {n : Nat} (h : szT P t = some n) : (sizeOf t).run P w = .ok n w := by
  simp only [szT, Option.map_eq_some_iff] at h
  obtain ⟨i, hi, rfl⟩ := h
  simp [sizeOf, typeInfo, hi]
theorem run_isAgg {t : TypeId} {d : TypeDesc} (h : P.underlying t = some d) : (isAgg t).run P w = .ok (aggT P t) w := by
  simp only [isAgg, Sem.run_bind, run_underlying h, Result.andThen_ok, aggT, h]
  cases d <;> rfl

theorem extract_eq (cs : Array Value) (off n : Nat) : cs.extract off (off + n) = ((cs.toList.drop off).take n).toArray := by
  apply Array.ext'
  simp

theorem partV_sound {r : Env} {t : TypeId} {cs : List Value} {off : Nat} {v : Value} (h : partV P t cs off = some v) :
    (part t (cs.map (ren r)).toArray off).run P w = .ok (ren r v) w := by
  unfold partV at h
  cases hu : P.underlying t with
  | none => simp [hu] at h
  | some d =>
    simp only [hu] at h
    simp only [part, Sem.run_bind, run_isAgg hu, Result.andThen_ok]
    cases ha : aggT P t with
    | true =>
      simp only [ha, cond_true, Option.map_eq_some_iff] at h
      obtain ⟨n, hn, rfl⟩ := h
      simp [run_sizeOf hn, ren, renL_map, List.map_take, List.map_drop]
    | false =>
      simp only [ha, cond_false, nth_eq, List.getElem?_drop, Nat.add_zero] at h
      simp [h]
theorem partV_ok {p : Nat → Bool} {t : TypeId} {cs : List Value} {off : Nat} {v : Value} (hc : okL p cs = true) (h : partV P t cs off = some v) : okV p v = true := by
  unfold partV at h
  cases hu : P.underlying t with
  | none => simp [hu] at h
  | some d =>
    simp only [hu] at h
    cases ha : aggT P t with
    | true =>
      simp only [ha, cond_true, Option.map_eq_some_iff] at h
      obtain ⟨n, hn, rfl⟩ := h
      simp only [okV]
      rw [okL_iff] at *
      exact fun v hv => hc v (List.mem_of_mem_drop (List.mem_of_mem_take hv))
    | false =>
      simp only [ha, cond_false, nth_eq, List.getElem?_drop, Nat.add_zero] at h
      exact okL_iff.1 hc v (List.mem_of_getElem? h)
end

/-! ### Loads -/
theorem ints_get {kd : IntKind} : ∀ {l : List Value} {i : Nat}, i < (ints kd l).length → l[i]? = some (.int kd ((ints kd l).getD i 0))
  | [], i, h => by simp [ints] at h
  | v :: l, i, h => by
    cases v with
    | int k n =>
      simp only [ints] at h ⊢
      by_cases hk : k = kd
      · subst hk
        simp only [decide_true, cond_true, List.length_cons] at h ⊢
        cases i with
        | zero => simp
        | succ i =>
          have := ints_get (kd := k) (l := l) (i := i) (by omega)
          simpa using this
      · simp [hk] at h
    | _ => simp [ints] at h

theorem renAd_add (r : Env) (a : Addr) (n : Nat) : renAd r (vadd a n) = (renAd r a).add n := by
  simp only [renAd, vadd, Addr.add]
  split
  · subst_vars; simp
  · simp only [Addr.mk.injEq, and_true, true_and]; omega

theorem cell_of_block {w : World} {b : Nat} {c : Array Value} {e : TypeId} {m : Nat × Nat} (h : w.heap[b]? = some (.cells c e m)) (o : Nat) : w.cell? ⟨b, o, none⟩ = c[o]? := by
  simp [World.cell?, h]
theorem frozen_of_block {w : World} {b : Nat} {c : Array Value} {e : TypeId} (h : w.heap[b]? = some (.cells c e (0, 0))) (o : Nat) : w.frozen? ⟨b, o, none⟩ = false := by
  simp [World.frozen?, h]
theorem add_mk (b o n : Nat) : Addr.add ⟨b, o, none⟩ n = ⟨b, o + n, none⟩ := Addr.add_lit b o n

theorem loadH_sound {r : Env} {F : Foot} {H : Heap} {w : World} (hS : Sat r F H w) {a : Addr} {n : Nat} {l : List Value} (h : loadH std H a n = some (true, l)) :
    l.length = n ∧ ∀ (j : Nat) (v : Value), l[j]? = some v → w.cell? ((renAd r a).add j) = some (ren r v) := by
  simp only [loadH, nth_eq] at h
  cases hb : H[a.block]? with
  | none => simp [hb] at h
  | some B =>
    have hh := hS.1 _ _ hb
    cases B with
    | gone => simp [hb] at h
    | abs R => simp [hb] at h
    | cells c e =>
      obtain ⟨_, hs, _, hw⟩ := hh
      have hcell : ∀ o, w.cell? ⟨(r a.block).b, o, none⟩ = (c[o]?).map (ren r) := fun o => by rw [cell_of_block hw o]; simp
      simp only [hb] at h
      cases hsp : a.spot with
      | none =>
        simp only [hsp] at h
        cases hl : (List.take n (List.drop a.off c)).length == n with
        | false => simp only [hl, cond_false, reduceCtorEq] at h
        | true =>
          simp only [hl, cond_true, Option.some.injEq, Prod.mk.injEq, true_and] at h
          subst h
          refine ⟨by simpa using hl, fun j v hj => ?_⟩
          have hjn : j < n := by
            have := (List.getElem?_eq_some_iff.1 hj).1
            have h2 : (List.take n (List.drop a.off c)).length = n := by simpa using hl
            omega
          rw [List.getElem?_take, if_pos hjn, List.getElem?_drop] at hj
          simp only [renAd, hsp, Option.getD_none, Nat.zero_mul, Nat.add_zero, add_mk]
          rw [hcell, hj]; rfl
      | some i =>
        simp only [hsp] at h
        cases hn : n == 1 with
        | false => simp [hn] at h
        | true =>
          have hn1 : n = 1 := by simpa using hn
          subst hn1
          simp only [hn, cond_true] at h
          have fin : ∀ v, (c.drop a.off)[i]? = some v → l = [v] → l.length = 1 ∧ ∀ (j : Nat) (u : Value), l[j]? = some u → w.cell? ((renAd r a).add j) = some (ren r u) := by
            rintro v hv rfl
            refine ⟨rfl, fun j u hj => ?_⟩
            cases j with
            | succ j => simp at hj
            | zero =>
              simp only [List.getElem?_cons_zero, Option.some.injEq] at hj
              subst hj
              rw [List.getElem?_drop] at hv
              simp only [renAd, hsp, Option.getD_some, hs, Nat.mul_one, add_mk, Nat.add_zero]
              rw [hcell, hv]; rfl
          split at h
          · rename_i kd x l' hd
            simp only [std, Option.some.injEq, Prod.mk.injEq, decide_eq_true_eq] at h
            have := ints_get (kd := kd) (l := .int kd x :: l') (i := i) h.1
            exact fin _ (by rw [hd]; exact this) h.2.symm
          · simp only [Option.map_eq_some_iff, Prod.mk.injEq, true_and] at h
            obtain ⟨v, hv, h2⟩ := h
            exact fin v hv h2.symm
    | row s m f e =>
      obtain ⟨_, hs, c, C, _, hw, _, _, hf⟩ := hh
      simp only [hb] at h
      cases hl : (List.take n (List.drop a.off (f (a.spot.getD 0)))).length == n with
      | false => simp only [hl, cond_false, reduceCtorEq] at h
      | true =>
        simp only [hl, cond_true, std, Option.some.injEq, Prod.mk.injEq, decide_eq_true_eq] at h
        obtain ⟨hi, rfl⟩ := h
        obtain ⟨_, hf2⟩ := hf _ hi
        refine ⟨by simpa using hl, fun j v hj => ?_⟩
        have hjn : j < n := by
          have := (List.getElem?_eq_some_iff.1 hj).1
          have h2 : (List.take n (List.drop a.off (f (a.spot.getD 0)))).length = n := by simpa using hl
          omega
        rw [List.getElem?_take, if_pos hjn, List.getElem?_drop] at hj
        simp only [renAd, hs, add_mk]
        rw [cell_of_block hw, ← hf2 _ _ hj]
        congr 1; omega

theorem loadH_ok {p : Nat → Bool} {H : Heap} (hH : ∀ B ∈ H, okB p B) {a : Addr} {n : Nat} {b : Bool} {l : List Value} (h : loadH std H a n = some (b, l)) : okL p l = true := by
  simp only [loadH, nth_eq] at h
  cases hb : H[a.block]? with
  | none => simp [hb] at h
  | some B =>
    have hB := hH B (List.mem_of_getElem? hb)
    cases B with
    | gone => simp [hb] at h
    | abs R => simp [hb] at h
    | cells c e =>
      have hc : okL p c = true := hB
      rw [okL_iff] at hc ⊢
      simp only [hb] at h
      cases hsp : a.spot with
      | none =>
        simp only [hsp] at h
        cases hl : (List.take n (List.drop a.off c)).length == n with
        | false => simp only [hl, cond_false, reduceCtorEq] at h
        | true =>
          simp only [hl, cond_true, Option.some.injEq, Prod.mk.injEq] at h
          obtain ⟨_, rfl⟩ := h
          exact fun v hv => hc v (List.mem_of_mem_drop (List.mem_of_mem_take hv))
      | some i =>
        simp only [hsp] at h
        cases hn : n == 1 with
        | false => simp [hn] at h
        | true =>
          simp only [hn, cond_true] at h
          split at h
          · simp only [Option.some.injEq, Prod.mk.injEq] at h
            obtain ⟨_, rfl⟩ := h
            intro v hv
            simp only [List.mem_singleton] at hv
            subst hv; rfl
          · simp only [Option.map_eq_some_iff, Prod.mk.injEq] at h
            obtain ⟨v, hv, _, rfl⟩ := h
            intro u hu
            simp only [List.mem_singleton] at hu
            subst hu
            exact hc u (List.mem_of_mem_drop (List.mem_of_getElem? hv))
    | row s m f e =>
      have hf : ∀ i, okL (fun _ => false) (f i) = true := fun i => (hB i).1
      simp only [hb] at h
      cases hl : (List.take n (List.drop a.off (f (a.spot.getD 0)))).length == n with
      | false => simp only [hl, cond_false, reduceCtorEq] at h
      | true =>
        simp only [hl, cond_true, Option.some.injEq, Prod.mk.injEq] at h
        obtain ⟨_, rfl⟩ := h
        have := okL_mono (q := p) (fun k hk => by cases hk) _ (hf (a.spot.getD 0))
        rw [okL_iff] at this ⊢
        exact fun v hv => this v (List.mem_of_mem_drop (List.mem_of_mem_take hv))

theorem run_load_cell {P : Program} {w : World} {a : Addr} {v : Value} (h : w.cell? a = some v) : (load a).run P w = .ok v w := by simp [h]

theorem loadV_sound {P : Program} {r : Env} {F : Foot} {H : Heap} {w : World} (hS : Sat r F H w) {a : Addr} {ty : TypeId} {v : Value} (h : loadV std P H ty a = some (true, v)) :
    (loadVar ty (renAd r a)).run P w = .ok (ren r v) w := by
  unfold loadV at h
  cases hg : aggT P ty with
  | true =>
    simp only [hg, cond_true] at h
    cases hn : szT P ty with
    | none => simp [hn] at h
    | some n =>
      simp only [hn, Option.map_eq_some_iff, Prod.mk.injEq, Prod.exists] at h
      obtain ⟨b, l, hl, rfl, rfl⟩ := h
      obtain ⟨d, hd⟩ : ∃ d, P.underlying ty = some d := by
        unfold aggT at hg; cases hd : P.underlying ty with
        | none => simp [hd] at hg
        | some d => exact ⟨d, rfl⟩
      obtain ⟨hl', hc⟩ := loadH_sound hS hl
      subst hl'
      have := run_loadCells_list (P := P) w (renAd r a) (l.map (ren r)) (fun j v hj => by
        rw [List.getElem?_map] at hj
        cases hj' : l[j]? with
        | none => simp [hj'] at hj
        | some u => simp only [hj', Option.map_some, Option.some.injEq] at hj; subst hj; exact hc j u hj')
      rw [List.length_map] at this
      simp [loadVar, run_isAgg hd, hg, run_sizeOf hn, this, ren, renL_map]
  | false =>
    simp only [hg, cond_false] at h
    cases hd : P.underlying ty with
    | none => simp [hd] at h
    | some d =>
      simp only [hd, Option.bind_eq_some_iff, Option.map_eq_some_iff, Prod.mk.injEq, Prod.exists, nth_eq] at h
      obtain ⟨b, l, hl, u, hu, rfl, rfl⟩ := h
      obtain ⟨_, hc⟩ := loadH_sound hS hl
      have := hc 0 u hu
      rw [Addr.add_zero'] at this
      simp [loadVar, run_isAgg hd, hg, this]

theorem loadV_ok {P : Program} {p : Nat → Bool} {H : Heap} (hH : ∀ B ∈ H, okB p B) {a : Addr} {ty : TypeId} {b : Bool} {v : Value} (h : loadV std P H ty a = some (b, v)) : okV p v = true := by
  unfold loadV at h
  cases hg : aggT P ty with
  | true =>
    simp only [hg, cond_true] at h
    cases hn : szT P ty with
    | none => simp [hn] at h
    | some n =>
      simp only [hn, Option.map_eq_some_iff, Prod.mk.injEq, Prod.exists] at h
      obtain ⟨b, l, hl, _, rfl⟩ := h
      exact loadH_ok hH hl
  | false =>
    simp only [hg, cond_false] at h
    cases hd : P.underlying ty with
    | none => simp [hd] at h
    | some d =>
      simp only [hd, Option.bind_eq_some_iff, Option.map_eq_some_iff, Prod.mk.injEq, Prod.exists, nth_eq] at h
      obtain ⟨b, l, hl, u, hu, _, rfl⟩ := h
      exact okL_iff.1 (loadH_ok hH hl) _ (List.mem_of_getElem? hu)

end Go.Vx

/- Soundness of the operations that only read, the second part. -/
namespace Go.Vx
open Go

section
variable {P : Program} {w : World}

/-! ### Fields and elements -/
theorem fieldAddrV_sound {r : Env} {s : TypeId} {x : Value} {f : Nat} {v : Value} (h : fieldAddrV P s x f = some v) :
    (Instr.fieldAt s (ren r x) f).run P w = .ok (ren r v) w := by
  unfold fieldAddrV at h
  split at h
  · rename_i fields a hu
    simp only [nth_eq, Array.getElem?_toList] at h
    cases hf : fields[f]? with
    | none => simp [hf] at h
    | some fd =>
      simp only [hf] at h
      cases hn : szT P fd.type with
      | none => simp [hn] at h
      | some n =>
        simp only [hn] at h
        cases h0 : n == 0 with
        | true => simp [h0] at h
        | false =>
          simp only [h0, cond_false, Option.some.injEq] at h
          subst h
          have hn0 : n ≠ 0 := by simpa using h0
          simp [Instr.fieldAt, run_underlying hu, hf, ren, Instr.sureAddr, fieldPlace, run_sizeOf hn, hn0, renAd_add]
  · cases h
theorem fieldAddrV_ok {p : Nat → Bool} {s : TypeId} {x : Value} {f : Nat} {v : Value} (hx : okV p x = true) (h : fieldAddrV P s x f = some v) : okV p v = true := by
  unfold fieldAddrV at h
  split at h
  · split at h
    · split at h
      · rename_i n _
        cases h0 : n == 0 with
        | true => simp [h0] at h
        | false => simp only [h0, cond_false, Option.some.injEq] at h; subst h; exact hx
      · cases h
    · cases h
  · cases h

theorem indexAddrV_sound {r : Env} {F : Foot} {H : Heap} (hS : Sat r F H w) {t : TypeId} {x ix v : Value} (h : indexAddrV std P H t x ix = some (true, v)) :
    (Instr.indexAt t (ren r x) (ren r ix)).run P w = .ok (ren r v) w := by
  unfold indexAddrV at h
  split at h
  · rename_i len e a k i hu
    cases hn : szT P e with
    | none => simp [hn] at h
    | some s =>
      simp only [hn, nth_eq] at h
      have fin : ∀ u, (0 ≤ i ∧ i < (len : Int)) → renAd r u = (renAd r a).add (i.toNat * s) →
          (Instr.indexAt t (ren r (.pointer (some a))) (ren r (.int k i))).run P w = .ok (ren r (.pointer (some u))) w := by
        intro u hi hu'
        simp [Instr.indexAt, run_underlying hu, ren, Instr.sureAddr, asIntOf, run_sizeOf hn, hi.1, hi.2, hu']
      split at h
      · rename_i c e' hb hsp
        cases h1 : s == 1 with
        | true =>
          simp only [h1, cond_true, std, Option.some.injEq, Prod.mk.injEq, Bool.and_eq_true, decide_eq_true_eq] at h
          obtain ⟨hi, rfl⟩ := h
          have hs1 : s = 1 := by simpa using h1
          refine fin _ hi ?_
          obtain ⟨_, hs, _⟩ := hS.1 _ _ hb
          subst hs1
          simp [renAd, hs, hsp, add_mk]
        | false =>
          simp only [h1, cond_false, std, Option.some.injEq, Prod.mk.injEq, Bool.and_eq_true, decide_eq_true_eq] at h
          obtain ⟨hi, rfl⟩ := h
          exact fin _ hi (renAd_add r a _)
      · simp only [std, Option.some.injEq, Prod.mk.injEq, Bool.and_eq_true, decide_eq_true_eq] at h
        obtain ⟨hi, rfl⟩ := h
        exact fin _ hi (renAd_add r a _)
      · cases h
  · rename_i e a len c k i hu
    cases hn : szT P e with
    | none => simp [hn] at h
    | some s =>
      simp only [hn, nth_eq] at h
      have fin : ∀ u, (0 ≤ i ∧ i < (len : Int)) → renAd r u = (renAd r a).add (i.toNat * s) →
          (Instr.indexAt t (ren r (.slice (some a) len c)) (ren r (.int k i))).run P w = .ok (ren r (.pointer (some u))) w := by
        intro u hi hu'
        simp [Instr.indexAt, run_underlying hu, ren, asIntOf, run_sizeOf hn, hi.1, hi.2, hu']
      cases hb : H[a.block]? with
      | none => simp [hb] at h
      | some B =>
        have hB := hS.1 _ _ hb
        cases B with
        | gone => simp [hb] at h
        | abs R => simp [hb] at h
        | cells c' e' =>
          obtain ⟨_, hs, _⟩ := hB
          cases hsp : a.spot with
          | some _ => simp [hb, hsp] at h
          | none =>
            simp only [hb, hsp] at h
            cases h1 : s == 1 with
            | true =>
              simp only [h1, cond_true, std, Option.some.injEq, Prod.mk.injEq, Bool.and_eq_true, decide_eq_true_eq] at h
              obtain ⟨hi, rfl⟩ := h
              have hs1 : s = 1 := by simpa using h1
              refine fin _ hi ?_
              subst hs1
              simp [renAd, hs, hsp, add_mk]
            | false =>
              simp only [h1, cond_false, std, Option.some.injEq, Prod.mk.injEq, Bool.and_eq_true, decide_eq_true_eq] at h
              obtain ⟨hi, rfl⟩ := h
              exact fin _ hi (renAd_add r a _)
        | row s' n f e' =>
          obtain ⟨_, hs, _⟩ := hB
          simp only [hb] at h
          cases h1 : (s == s' && a.off == 0) with
          | false => simp [h1] at h
          | true =>
            simp only [h1, cond_true, std, Option.some.injEq, Prod.mk.injEq, Bool.and_eq_true, decide_eq_true_eq] at h
            obtain ⟨hi, rfl⟩ := h
            have hh : s = s' ∧ a.off = 0 := by simpa using h1
            obtain ⟨rfl, ho⟩ := hh
            refine fin _ hi ?_
            simp only [renAd, Option.getD_some, hs, ho, Nat.zero_add, add_mk, Nat.add_mul]
  · cases h

theorem indexAddrV_ok {p : Nat → Bool} {H : Heap} {t : TypeId} {x ix v : Value} {b : Bool} (hx : okV p x = true) (h : indexAddrV std P H t x ix = some (b, v)) : okV p v = true := by
  unfold indexAddrV at h
  split at h
  · rename_i len e a k i hu
    cases hn : szT P e with
    | none => simp [hn] at h
    | some s =>
      simp only [hn, nth_eq] at h
      cases hb : H[a.block]? with
      | none => simp [hb] at h
      | some B =>
        cases B with
        | gone => simp [hb] at h
        | abs R => simp [hb] at h
        | cells c' e' =>
          cases hsp : a.spot with
          | some _ => simp [hb, hsp] at h
          | none =>
            simp only [hb, hsp] at h
            cases h1 : s == 1 <;> simp only [h1, cond_true, cond_false, Option.some.injEq, Prod.mk.injEq] at h <;> (obtain ⟨_, rfl⟩ := h; exact hx)
        | row s' n f e' =>
          simp only [hb, Option.some.injEq, Prod.mk.injEq] at h
          obtain ⟨_, rfl⟩ := h; exact hx
  · rename_i e a len c k i hu
    cases hn : szT P e with
    | none => simp [hn] at h
    | some s =>
      simp only [hn, nth_eq] at h
      cases hb : H[a.block]? with
      | none => simp [hb] at h
      | some B =>
        cases B with
        | gone => simp [hb] at h
        | abs R => simp [hb] at h
        | cells c' e' =>
          cases hsp : a.spot with
          | some _ => simp [hb, hsp] at h
          | none =>
            simp only [hb, hsp] at h
            cases h1 : s == 1 <;> simp only [h1, cond_true, cond_false, Option.some.injEq, Prod.mk.injEq] at h <;> (obtain ⟨_, rfl⟩ := h; exact hx)
        | row s' n f e' =>
          simp only [hb] at h
          cases h1 : (s == s' && a.off == 0) with
          | false => simp [h1] at h
          | true =>
            simp only [h1, cond_true, Option.some.injEq, Prod.mk.injEq] at h
            obtain ⟨_, rfl⟩ := h; exact hx
  · cases h

theorem elemV_sound {r : Env} {e : TypeId} {s : Nat} {l : List Value} {i : Nat} {v : Value} (h : elemV std P e s l i = some (true, v)) :
    (part e (l.map (ren r)).toArray (i * s)).run P w = .ok (ren r v) w := by
  unfold elemV at h
  split at h
  · rename_i kd n l'
    cases hc : (s == 1 && !aggT P e && (P.underlying e).isSome) with
    | true =>
      simp only [hc, cond_true, std, Option.some.injEq, Prod.mk.injEq, decide_eq_true_eq] at h
      obtain ⟨hx, rfl⟩ := h
      simp only [Bool.and_eq_true, beq_iff_eq, Bool.not_eq_true'] at hc
      obtain ⟨⟨rfl, hg⟩, hu⟩ := hc
      obtain ⟨d, hd⟩ := Option.isSome_iff_exists.1 hu
      refine partV_sound ?_
      unfold partV
      simp only [hd, hg, cond_false, nth_eq, List.getElem?_drop, Nat.add_zero, Nat.mul_one]
      exact ints_get hx
    | false =>
      simp only [hc, cond_false, Option.map_eq_some_iff, Prod.mk.injEq, true_and] at h
      obtain ⟨u, hu, rfl⟩ := h
      exact partV_sound hu
  · simp only [Option.map_eq_some_iff, Prod.mk.injEq, true_and] at h
    obtain ⟨u, hu, rfl⟩ := h
    exact partV_sound hu
theorem elemV_ok {p : Nat → Bool} {e : TypeId} {s : Nat} {l : List Value} {i : Nat} {b : Bool} {v : Value} (hl : okL p l = true) (h : elemV std P e s l i = some (b, v)) : okV p v = true := by
  unfold elemV at h
  split at h
  · rename_i kd n l'
    cases hc : (s == 1 && !aggT P e && (P.underlying e).isSome) with
    | true =>
      simp only [hc, cond_true, Option.some.injEq, Prod.mk.injEq] at h
      obtain ⟨_, rfl⟩ := h
      rfl
    | false =>
      simp only [hc, cond_false, Option.map_eq_some_iff, Prod.mk.injEq] at h
      obtain ⟨u, hu, _, rfl⟩ := h
      exact partV_ok hl hu
  · simp only [Option.map_eq_some_iff, Prod.mk.injEq] at h
    obtain ⟨u, hu, _, rfl⟩ := h
    exact partV_ok hl hu

theorem indexV_sound {r : Env} {t : TypeId} {x ix v : Value} (h : indexV std P t x ix = some (true, v)) :
    (Instr.index t (ren r x) (ren r ix)).run P w = .ok (ren r v) w := by
  unfold indexV at h
  split at h
  · rename_i len e cs k i hu
    cases hs : szT P e with
    | none => simp [hs] at h
    | some s =>
      simp only [hs, Option.map_eq_some_iff, Prod.mk.injEq, Prod.exists] at h
      obtain ⟨b, u, hu', hb, rfl⟩ := h
      simp only [std, Bool.and_eq_true, decide_eq_true_eq] at hb
      obtain ⟨hi, rfl⟩ := hb
      have hp := elemV_sound (w := w) (r := r) hu'
      rw [ren_agg]
      simp only [std] at hp
      simp [Instr.index, run_underlying hu, ren, asIntOf, run_sizeOf hs, hi.1, hi.2, hp]
  · cases h
theorem indexV_ok {p : Nat → Bool} {t : TypeId} {x ix v : Value} {b : Bool} (hx : okV p x = true) (h : indexV std P t x ix = some (b, v)) : okV p v = true := by
  unfold indexV at h
  split at h
  · rename_i len e cs k i hu
    cases hs : szT P e with
    | none => simp [hs] at h
    | some s =>
      simp only [hs, Option.map_eq_some_iff, Prod.mk.injEq, Prod.exists] at h
      obtain ⟨b, u, hu', hb, rfl⟩ := h
      exact elemV_ok (by rw [okV_agg] at hx; exact hx) hu'
  · cases h
end
end Go.Vx

/- Soundness of the operations that only read, the third part. -/
namespace Go.Vx
open Go

section
variable {P : Program} {w : World}

/-! ### Equality -/
theorem pair_of {A B : Option Bool} {c : Bool} (h : (match A, B with | some b, some c => some (std.and b c) | _, _ => none) = some c) :
    ∃ b d, A = some b ∧ B = some d ∧ c = (b && d) := by
  split at h
  · simp only [Option.some.injEq] at h; exact ⟨_, _, rfl, rfl, h.symm⟩
  · cases h

theorem eqV_sound {r : Env} : ∀ (n : Nat) {t : TypeId} {x y : Value} {b : Bool}, eqV std P n t x y = some b → ∀ d, n ≤ d → (Op.equalIn d t (ren r x) (ren r y)).run P w = .ok b w
  | 0, _, _, _, _, h, _, _ => by simp [eqV] at h
  | n + 1, t, x, y, b, h, d, hd => by
    obtain ⟨d, rfl⟩ : ∃ m, d = m + 1 := ⟨d - 1, by omega⟩
    have ih := fun {t : TypeId} {x y : Value} {b : Bool} (h : eqV std P n t x y = some b) => eqV_sound (r := r) n h d (by omega)
    unfold eqV at h
    split at h
    · rename_i u v hu; simp only [std, Option.some.injEq] at h; subst h; simp [Op.equalIn, ren, run_underlying hu]
    · rename_i k0 k u k' v hu
      by_cases hk : k = k'
      · subst hk; simp only [decide_true, cond_true, std, Option.some.injEq] at h; subst h; simp [Op.equalIn, ren, run_underlying hu]
      · simp [hk] at h
    · rename_i u v hu; simp only [std, Option.some.injEq] at h; subst h; simp [Op.equalIn, ren, run_underlying hu]
    · rename_i e v hu; simp only [Option.some.injEq] at h; subst h; cases v <;> simp [Op.equalIn, ren, run_underlying hu]
    · rename_i hu; simp only [Option.some.injEq] at h; subst h; simp [Op.equalIn, ren, run_underlying hu]
    · rename_i e l c v l' c' hu; simp only [Option.some.injEq] at h; subst h; cases v <;> simp [Op.equalIn, ren, run_underlying hu]
    · rename_i hu; simp only [Option.some.injEq] at h; subst h; simp [Op.equalIn, ren, run_underlying hu]
    · rename_i e l v hu; simp only [Option.some.injEq] at h; subst h; cases v <;> simp [Op.equalIn, ren, run_underlying hu]
    · rename_i hu; simp only [Option.some.injEq] at h; subst h; simp [Op.equalIn, ren, run_underlying hu]
    · rename_i hu; simp only [Option.some.injEq] at h; subst h; simp [Op.equalIn, ren, run_underlying hu]
    · rename_i hu; simp only [Option.some.injEq] at h; subst h; simp [Op.equalIn, ren, run_underlying hu]
    · rename_i hu; simp only [Option.some.injEq] at h; subst h; simp [Op.equalIn, ren, run_underlying hu]
    · rename_i hu; simp only [Option.some.injEq] at h; subst h; simp [Op.equalIn, ren, run_underlying hu]
    · rename_i hu; simp only [Option.some.injEq] at h; subst h; simp [Op.equalIn, ren, run_underlying hu]
    · rename_i hu; simp only [Option.some.injEq] at h; subst h; simp [Op.equalIn, ren, run_underlying hu]
    · rename_i fs xs ys hu
      cases hp : P.stoodInHeld t with
      | true => simp [hp] at h
      | false =>
        simp only [hp, cond_false] at h
        have hf : P.fieldsOf t = fs := by simp [Program.fieldsOf, hu]
        rw [ren_agg, ren_agg, run_equalIn_struct w d t _ _ (by rw [hf]; exact hu) hp, hf]
        clear hu hf
        revert h
        generalize fs.toList = l
        induction l generalizing b with
        | nil => intro h; simp only [List.foldr_nil, Option.some.injEq] at h; subst h; simp [Op.eqFields]
        | cons f l ihl =>
          intro h
          simp only [List.foldr_cons] at h
          cases hn : f.name == "_" with
          | true =>
            simp only [hn, cond_true] at h
            have hn' : f.name = "_" := by simpa using hn
            simp only [Op.eqFields, hn', ne_eq, not_true_eq_false, if_false]
            exact ihl _ h
          | false =>
            simp only [hn, cond_false] at h
            have hn' : ¬ f.name = "_" := by simpa using hn
            split at h
            · rename_i u v hu hv
              obtain ⟨b1, b2, h1, h2, rfl⟩ := pair_of h
              simp only [Op.eqFields, ne_eq, hn', not_false_eq_true, if_true, Sem.run_bind, partV_sound hu, partV_sound hv, Result.andThen_ok, ih h1]
              cases b1
              · simp
              · simp only [Bool.not_true, Bool.false_eq_true, if_false, Bool.true_and]
                exact ihl _ h2
            · cases h
    · rename_i len e xs ys hu
      cases hs : szT P e with
      | none => simp [hs] at h
      | some s =>
        simp only [hs] at h
        rw [ren_agg, ren_agg]
        simp only [Op.equalIn, Sem.run_bind, run_underlying hu, Result.andThen_ok, run_sizeOf hs, Std.Legacy.Range.forIn_eq_forIn_range', Std.Legacy.Range.size]
        rw [List.range_eq_range'] at h
        simp only [Nat.sub_zero, Nat.add_sub_cancel, Nat.div_one]
        revert h
        generalize List.range' 0 len = l
        induction l generalizing b with
        | nil => intro h; simp only [List.foldr_nil, Option.some.injEq] at h; subst h; simp
        | cons i l ihl =>
          intro h
          simp only [List.foldr_cons] at h
          split at h
          · rename_i u v hu hv
            obtain ⟨b1, b2, h1, h2, rfl⟩ := pair_of h
            simp only [List.forIn_cons, Sem.run_bind, partV_sound hu, partV_sound hv, Result.andThen_ok, ih h1]
            cases b1
            · simp
            · simp only [Bool.not_true, Bool.false_eq_true, if_false, Bool.true_and, Sem.run_pure, Result.andThen_ok]
              exact ihl _ h2
          · cases h
    · cases h
end
end Go.Vx

/- Soundness of the operations that only read, the fourth part. -/
namespace Go.Vx
open Go

section
variable {P : Program} {w : World}

theorem eqTop_sound {r : Env} {t : TypeId} {x y : Value} {b : Bool} (h : eqTop std P t x y = some b) (op : BinOp) (xo yo : Operand) :
    (eqGuard op t xo yo (ren r x) (ren r y)).run P w = .ok () w ∧ (Op.equal t (ren r x) (ren r y)).run P w = .ok b w := by
  unfold eqTop at h
  split at h
  · rename_i xs ys
    cases hg : P.eqGuardType P.depth t with
    | true => simp [hg] at h
    | false =>
      simp only [hg, cond_false] at h
      refine ⟨?_, eqV_sound 12 h _ (by decide)⟩
      rw [ren_agg, ren_agg]
      exact run_eqGuard_agg w op t xo yo _ _ hg
  · cases h
  · rename_i h1 h2
    refine ⟨?_, eqV_sound 2 h _ (by decide)⟩
    cases x with
    | agg a =>
      cases y with
      | agg b => exact (h1 _ _ rfl rfl).elim
      | _ => simp [eqV] at h
    | nilIface =>
      cases y with
      | nilIface => exact (h2 rfl rfl).elim
      | iface u v => cases op <;> rfl
      | _ => simp [eqV] at h
    | pointer a => cases a <;> cases op <;> rfl
    | slice a l c => cases a <;> cases op <;> rfl
    | map a => cases a <;> cases op <;> rfl
    | func fn f c => rw [ren_func]; cases op <;> rfl
    | tuple c => rw [ren_tuple]; cases op <;> rfl
    | _ => cases op <;> rfl

theorem binV_int {op : BinOp} {t : TypeId} {k k' : IntKind} {a b : Int} {v : Value} (h : binV std P op t (.int k a) (.int k' b) = some (true, v)) (xo yo : Operand) (r : Env) :
    (eqGuard op t xo yo (.int k a) (.int k' b)).run P w = .ok () w ∧ (binOp op t (.int k a) (.int k' b)).run P w = .ok (ren r v) w := by
  refine ⟨by rw [eqGuard_at_int]; rfl, ?_⟩
  unfold binV at h
  split at h
  · rename_i h1 h2
    cases h1; cases h2
    simp only [std, Option.some.injEq, Prod.mk.injEq, decide_eq_true_eq] at h
    obtain ⟨hb, rfl⟩ := h
    simp [binOp, Op.shift, shlI, ren, Int.not_lt.2 hb]
  · rename_i h1 h2
    cases h1; cases h2
    simp only [std, Option.some.injEq, Prod.mk.injEq, decide_eq_true_eq] at h
    obtain ⟨hb, rfl⟩ := h
    simp [binOp, Op.shift, shrI, ren, Int.not_lt.2 hb]
  · rename_i k1 a1 k2 b1 hs1 hs2 h1 h2
    cases h1; cases h2
    by_cases hk : k = k'
    · subst hk
      simp only [decide_true, cond_true] at h
      split at h <;> simp only [std, Option.some.injEq, Prod.mk.injEq, true_and, Bool.not_eq_true', beq_eq_false_iff_ne, ne_eq, reduceCtorEq] at h
      all_goals first
        | (subst h; simp [binOp, Op.intArith, Op.intBits, Op.intCmp, bits, ren]; done)
        | (obtain ⟨hb, rfl⟩ := h; simp [binOp, Op.intDiv, hb, ren]; done)
        | (subst h; simp [binOp, Op.intCmp, ren, bne])
    · simp [hk] at h
  · rename_i h2; exact (h2 _ _ _ _ rfl rfl).elim
  · rename_i h2; exact (h2 _ _ _ _ rfl rfl).elim
  · cases h
theorem binV_int_ok {p : Nat → Bool} {op : BinOp} {t : TypeId} {x y : Value} {b : Bool} {v : Value} (h : binV std P op t x y = some (b, v)) : okV p v = true := by
  unfold binV at h
  split at h
  · simp only [Option.some.injEq, Prod.mk.injEq] at h; obtain ⟨_, rfl⟩ := h; rfl
  · simp only [Option.some.injEq, Prod.mk.injEq] at h; obtain ⟨_, rfl⟩ := h; rfl
  · rename_i k1 a1 k2 b1 _ _
    by_cases hk : k1 = k2
    · subst hk
      simp only [decide_true, cond_true] at h
      split at h <;> simp only [Option.some.injEq, Prod.mk.injEq, reduceCtorEq] at h
      all_goals (obtain ⟨_, rfl⟩ := h; rfl)
    · simp [hk] at h
  · simp only [Option.map_eq_some_iff, Prod.mk.injEq] at h; obtain ⟨_, _, _, rfl⟩ := h; rfl
  · simp only [Option.map_eq_some_iff, Prod.mk.injEq] at h; obtain ⟨_, _, _, rfl⟩ := h; rfl
  · cases h

def plainEq : Value → Bool
  | .int _ _ => false
  | .float _ _ => false
  | .complex _ _ _ => false
  | .string _ => false
  | _ => true
theorem plainEq_ren (r : Env) (x : Value) : plainEq (ren r x) = plainEq x := by
  cases x <;> try rfl
  case pointer a => cases a <;> rfl
  case slice a l c => cases a <;> rfl
  case map a => cases a <;> rfl
theorem binOp_eql_plain {t : TypeId} {x y : Value} (hx : plainEq x = true) : binOp .eql t x y = (do let b ← Op.equal t x y; pure (.bool b)) := by
  cases x <;> first | (simp [plainEq] at hx; done) | (cases y <;> rfl)
theorem binOp_neq_plain {t : TypeId} {x y : Value} (hx : plainEq x = true) : binOp .neq t x y = (do let b ← Op.equal t x y; pure (.bool (!b))) := by
  cases x <;> first | (simp [plainEq] at hx; done) | (cases y <;> rfl)

theorem eqTop_string {t : TypeId} {s : ByteArray} {y : Value} {b : Bool} (h : eqTop std P t (.string s) y = some b) : ∃ u, y = .string u ∧ b = (s == u) := by
  unfold eqTop at h
  simp only [eqV] at h
  split at h <;> first | (cases h; done) | skip
  all_goals first
    | (rename_i h1; cases h1; done)
    | skip
  all_goals (simp only [std, Option.some.injEq] at h; rename_i h1; cases h1; exact ⟨_, rfl, h.symm⟩)

theorem eqTop_head {t : TypeId} {x y : Value} {b : Bool} (h : eqTop std P t x y = some b) :
    (∀ k a, x = .int k a → ∃ k' c, y = .int k' c) ∧ (∀ k a, x ≠ .float k a) ∧ (∀ k a c, x ≠ .complex k a c) := by
  unfold eqTop at h
  split at h
  · exact ⟨fun _ _ h => (by cases h), fun _ _ h => (by cases h), fun _ _ _ h => (by cases h)⟩
  · cases h
  · simp only [eqV] at h
    split at h <;> first
      | (cases h; done)
      | exact ⟨fun _ _ _ => ⟨_, _, rfl⟩, fun _ _ h => (by cases h), fun _ _ _ h => (by cases h)⟩
      | exact ⟨fun _ _ h => (by cases h), fun _ _ h => (by cases h), fun _ _ _ h => (by cases h)⟩

theorem binV_sound {op : BinOp} {t : TypeId} {x y v : Value} (h : binV std P op t x y = some (true, v)) (xo yo : Operand) (r : Env) :
    (eqGuard op t xo yo (ren r x) (ren r y)).run P w = .ok () w ∧ (binOp op t (ren r x) (ren r y)).run P w = .ok (ren r v) w := by
  by_cases hi : ∃ k a k' b, x = .int k a ∧ y = .int k' b
  · obtain ⟨k, a, k', b, rfl, rfl⟩ := hi
    exact binV_int h xo yo r
  · have key : ∀ b, eqTop std P t x y = some b → (op = .eql ∧ v = .bool b) ∨ (op = .neq ∧ v = .bool (!b)) →
        (eqGuard op t xo yo (ren r x) (ren r y)).run P w = .ok () w ∧ (binOp op t (ren r x) (ren r y)).run P w = .ok (ren r v) w := by
      intro b hb hop
      obtain ⟨hg, he⟩ := eqTop_sound (w := w) (r := r) hb op xo yo
      refine ⟨hg, ?_⟩
      by_cases hp : plainEq x = true
      · rcases hop with ⟨rfl, rfl⟩ | ⟨rfl, rfl⟩
        · rw [binOp_eql_plain (by rw [plainEq_ren]; exact hp)]; simp [he, ren]
        · rw [binOp_neq_plain (by rw [plainEq_ren]; exact hp)]; simp [he, ren]
      · cases x with
        | string s =>
          obtain ⟨u, rfl, rfl⟩ := eqTop_string hb
          rcases hop with ⟨rfl, rfl⟩ | ⟨rfl, rfl⟩ <;> simp [binOp, ren, Op.stringOp, beq_toListBytes]
        | int k a =>
          obtain ⟨k', c, rfl⟩ := (eqTop_head hb).1 _ _ rfl
          exact (hi ⟨_, _, _, _, rfl, rfl⟩).elim
        | float k a => exact ((eqTop_head hb).2.1 _ _ rfl).elim
        | complex k a c => exact ((eqTop_head hb).2.2 _ _ _ rfl).elim
        | _ => exact (hp rfl).elim
    unfold binV at h
    split at h
    · exact (hi ⟨_, _, _, _, rfl, rfl⟩).elim
    · exact (hi ⟨_, _, _, _, rfl, rfl⟩).elim
    · exact (hi ⟨_, _, _, _, rfl, rfl⟩).elim
    · simp only [Option.map_eq_some_iff, Prod.mk.injEq, true_and] at h
      obtain ⟨b, hb, rfl⟩ := h
      exact key b hb (.inl ⟨rfl, rfl⟩)
    · simp only [Option.map_eq_some_iff, Prod.mk.injEq, true_and] at h
      obtain ⟨b, hb, rfl⟩ := h
      exact key b hb (.inr ⟨rfl, rfl⟩)
    · cases h

theorem unV_sound {op : UnOp} {x v : Value} (h : unV std op x = some v) (r : Env) : (Op.unary op (ren r x)).run P w = .ok (ren r v) w := by
  unfold unV at h
  split at h
  · simp only [std, Option.some.injEq] at h; subst h; simp [Op.unary, Op.intArith, ren]
  · simp only [std, Option.some.injEq] at h; subst h; simp [Op.unary, Op.intBits, bits, ren]
  · simp only [std, Option.some.injEq] at h; subst h; simp [Op.unary, ren]
  · cases h
theorem unV_ok {p : Nat → Bool} {op : UnOp} {x v : Value} (h : unV std op x = some v) : okV p v = true := by
  unfold unV at h
  split at h <;> first | (simp only [Option.some.injEq] at h; subst h; rfl) | cases h
end
end Go.Vx

/- Soundness of the operations that only read: all of them together. -/
namespace Go.Vx
open Go

section
variable {P : Program} {w : World}

/-! ### Building -/
theorem splice_fold (vs : List Value) : ∀ (cs : List Value) (off i : Nat), off + i + vs.length ≤ cs.length →
    ((vs.zipIdx i).foldl (fun (cs : List Value) x => cs.set (off + x.2) x.1) cs) = cs.take (off + i) ++ vs ++ cs.drop (off + i + vs.length) := by
  induction vs with
  | nil => intro cs off i h; simp
  | cons v vs ih =>
    intro cs off i h
    simp only [List.length_cons] at h
    simp only [List.zipIdx_cons, List.foldl_cons]
    rw [ih _ off (i + 1) (by simp; omega)]
    have h1 : (cs.set (off + i) v).take (off + (i + 1)) = cs.take (off + i) ++ [v] := by
      rw [← Nat.add_assoc, List.take_succ_eq_append_getElem (by simp; omega), List.take_set_of_le (Nat.le_refl _)]
      simp
    have h2 : (cs.set (off + i) v).drop (off + (i + 1) + vs.length) = cs.drop (off + i + (vs.length + 1)) := by
      rw [List.drop_set_of_lt (by omega)]
      congr 1; omega
    rw [h1, h2]
    simp

theorem fold_toArray (l : List (Value × Nat)) (off : Nat) : ∀ cs : Array Value,
    (l.foldl (fun (cs : Array Value) x => cs.setIfInBounds (off + x.2) x.1) cs) = (l.foldl (fun (cs : List Value) x => cs.set (off + x.2) x.1) cs.toList).toArray := by
  induction l with
  | nil => intro cs; rfl
  | cons x l ih => intro cs; simp only [List.foldl_cons, ih]; congr 2; simp

theorem fillV_sound {r : Env} {place place' : Nat → Option (Nat × Nat)} (hp : ∀ i x, place i = some x → place' i = some x) :
    ∀ {ps : List (Nat × Value)} {cs out : List Value}, fillV place cs ps = some out →
    Instr.fill place' (cs.map (ren r)).toArray (ps.map fun (i, v) => (i, ren r v)) = some (out.map (ren r)).toArray
  | [], cs, out, h => by simp only [fillV, Option.some.injEq] at h; subst h; rfl
  | (i, v) :: ps, cs, out, h => by
    simp only [fillV] at h
    cases hi : place i with
    | none => simp [hi] at h
    | some x =>
      obtain ⟨off, size⟩ := x
      simp only [hi] at h
      cases hc : (v.cells.toList.length == size && decide (off + size ≤ cs.length)) with
      | false => simp only [hc, cond_false, reduceCtorEq] at h
      | true =>
        simp only [hc, cond_true] at h
        simp only [Bool.and_eq_true, beq_iff_eq, decide_eq_true_eq] at hc
        obtain ⟨hs, hb⟩ := hc
        have hcl : (ren r v).cells.size = size := by rw [← Array.length_toList, ren_cells, List.length_map, hs]
        have ih := fillV_sound (r := r) hp h
        simp only [List.map_cons, Instr.fill, hp _ _ hi, hcl]
        rw [if_neg (by simp; omega)]
        rw [← ih]
        congr 1
        rw [← Array.foldl_toList, Array.toList_zipIdx, fold_toArray, ren_cells]
        have := splice_fold (v.cells.toList.map (ren r)) (cs.map (ren r)) off 0 (by simp at hs ⊢; omega)
        simp only [Nat.add_zero] at this
        rw [this]
        simp only [List.length_map, hs]
        simp [List.map_take, List.map_drop]
theorem fillV_ok {p : Nat → Bool} {place : Nat → Option (Nat × Nat)} : ∀ {ps : List (Nat × Value)} {cs out : List Value}, (∀ x ∈ ps, okV p x.2 = true) → okL p cs = true →
    fillV place cs ps = some out → okL p out = true
  | [], cs, out, _, hc, h => by simp only [fillV, Option.some.injEq] at h; subst h; exact hc
  | (i, v) :: ps, cs, out, hps, hc, h => by
    simp only [fillV] at h
    cases hi : place i with
    | none => simp [hi] at h
    | some x =>
      obtain ⟨off, size⟩ := x
      simp only [hi] at h
      cases hb : (v.cells.toList.length == size && decide (off + size ≤ cs.length)) with
      | false => simp only [hb, cond_false, reduceCtorEq] at h
      | true =>
        simp only [hb, cond_true] at h
        refine fillV_ok (fun x hx => hps x (List.mem_cons_of_mem _ hx)) ?_ h
        rw [okL_iff] at *
        intro u hu
        simp only [List.mem_append] at hu
        rcases hu with (hu | hu) | hu
        · exact hc u (List.mem_of_mem_take hu)
        · exact okL_iff.1 (okV_cells (hps _ (List.mem_cons_self ..))) u hu
        · exact hc u (List.mem_of_mem_drop hu)

theorem zeroV_sound {t : TypeId} {z : Value} (h : zeroV P t = some z) : (zeroValue t).run P w = .ok z w ∧ constV z = true := by
  unfold zeroV at h
  cases hi : P.info? t with
  | none => simp [hi] at h
  | some i =>
    cases hz : i.zero with
    | none => simp [hi, hz] at h
    | some z' =>
      simp only [hi, hz, Option.bind_some] at h
      cases hc : constV z' with
      | false => simp [hc] at h
      | true =>
        simp only [hc, cond_true, Option.some.injEq] at h
        subst h
        exact ⟨by simp [zeroValue, typeInfo, hi, hz], hc⟩
theorem zeroL_sound {t : TypeId} {cs : List Value} (h : zeroL P t = some cs) : ∃ z, (zeroValue t).run P w = .ok z w ∧ z.cells.toList = cs ∧ constL cs = true := by
  unfold zeroL at h
  cases hi : P.info? t with
  | none => simp [hi] at h
  | some i =>
    cases hz : i.zero with
    | none => simp [hi, hz] at h
    | some z =>
      simp only [hi, hz, Option.bind_some] at h
      cases hc : constV z with
      | false => simp [hc] at h
      | true =>
        simp only [hc, cond_true, Option.some.injEq] at h
        subst h
        refine ⟨z, by simp [zeroValue, typeInfo, hi, hz], rfl, ?_⟩
        cases z <;> first | rfl | exact hc | (simp [Value.cells, constL, hc]; done)
theorem constL_map (r : Env) {cs : List Value} (h : constL cs = true) : cs.map (ren r) = cs := by rw [← renL_map]; exact constL_ren r cs h

theorem run_places : ∀ {fields : Array Field} {pl : List (Nat × Nat)}, placesL P fields.toList = some pl →
    (fields.mapM fun f => do pure (f.offset, ← sizeOf f.type) : Sem (Array (Nat × Nat))).run P w = .ok pl.toArray w := by
  intro fields pl h
  have e : (fun f : Field => (do pure (f.offset, ← sizeOf f.type) : Sem (Nat × Nat))) = fun f => Prod.mk f.offset <$> sizeOf f.type := by funext f; simp
  rw [Array.mapM_eq_mapM_toList, e]
  have key : ∀ (l : List Field) (pl : List (Nat × Nat)), placesL P l = some pl → (l.mapM (fun f => Prod.mk f.offset <$> sizeOf f.type) : Sem (List (Nat × Nat))).run P w = .ok pl w := by
    intro l
    induction l with
    | nil => intro pl h; simp only [placesL, Option.some.injEq] at h; subst h; rfl
    | cons f l ih =>
      intro pl h
      simp only [placesL] at h
      cases hs : szT P f.type with
      | none => simp [hs] at h
      | some n =>
        cases hl : placesL P l with
        | none => simp [hs, hl] at h
        | some pl' =>
          simp only [hs, hl, Option.some.injEq] at h
          subst h
          simp [run_sizeOf hs, ih pl' hl]
  simp [key _ _ h]

theorem buildV_sound {r : Env} {t : TypeId} {ps : List (Nat × Value)} {v : Value} (h : buildV P t ps = some v) :
    (Instr.build t (ps.map fun (i, v) => (i, ren r v)).toArray).run P w = .ok (ren r v) w := by
  unfold buildV at h
  cases hz : zeroL P t with
  | none => simp [hz] at h
  | some zero =>
    simp only [hz] at h
    obtain ⟨z, hzr, hzc, hzk⟩ := zeroL_sound (w := w) hz
    have hza : z.cells = (zero.map (ren r)).toArray := by rw [constL_map r hzk, ← hzc]
    split at h
    · rename_i fields hu
      cases hpl : placesL P fields.toList with
      | none => simp [hpl] at h
      | some pl =>
        simp only [hpl, Option.map_eq_some_iff] at h
        obtain ⟨out, hf, rfl⟩ := h
        simp only [Instr.build, Sem.run_bind, hzr, Result.andThen_ok, run_underlying hu, run_places hpl, hza]
        rw [fillV_sound (r := r) (place' := fun i => pl.toArray[i]?) (fun i x h => by rw [nth_eq] at h; simpa using h) hf]
        simp [ren, renL_map]
    · rename_i n elem hu
      cases hs : szT P elem with
      | none => simp [hs] at h
      | some s =>
        simp only [hs, Option.map_eq_some_iff] at h
        obtain ⟨out, hf, rfl⟩ := h
        simp only [Instr.build, Sem.run_bind, hzr, Result.andThen_ok, run_underlying hu, run_sizeOf hs, hza]
        rw [fillV_sound (r := r) (fun _ _ h => h) hf]
        simp [ren, renL_map]
    · cases h

theorem buildV_ok {p : Nat → Bool} {t : TypeId} {ps : List (Nat × Value)} {v : Value} (hps : ∀ x ∈ ps, okV p x.2 = true) (h : buildV P t ps = some v) : okV p v = true := by
  unfold buildV at h
  cases hz : zeroL P t with
  | none => simp [hz] at h
  | some zero =>
    simp only [hz] at h
    obtain ⟨z, _, _, hzk⟩ := zeroL_sound (w := default) hz
    have h0 := constL_ok p _ hzk
    split at h
    · rename_i fields hu
      cases hpl : placesL P fields.toList with
      | none => simp [hpl] at h
      | some pl =>
        simp only [hpl, Option.map_eq_some_iff] at h
        obtain ⟨out, hf, rfl⟩ := h
        exact fillV_ok hps h0 hf
    · rename_i n elem hu
      cases hs : szT P elem with
      | none => simp [hs] at h
      | some s =>
        simp only [hs, Option.map_eq_some_iff] at h
        obtain ⟨out, hf, rfl⟩ := h
        exact fillV_ok hps h0 hf
    · cases h

theorem nilNil_sound {r : Env} {op : BinOp} {ty : TypeId} {x y : Operand} {v : Value} (h : nilNil P op ty x y = some (true, v)) :
    (eqGuard op ty x y .nilIface .nilIface).run P w = .ok () w ∧ (Go.binOp op ty .nilIface .nilIface).run P w = .ok (ren r v) w := by
  unfold nilNil at h
  cases hc : (isC x || isC y) with
  | false => simp only [hc, cond_false, reduceCtorEq] at h
  | true =>
    simp only [hc, cond_true] at h
    split at h
    · rename_i ms hu
      have hg : (eqGuard op ty x y .nilIface .nilIface).run P w = .ok () w := by
        unfold eqGuard
        cases x <;> cases y <;> first | (simp [isC] at hc; done) | (cases op <;> simp)
      have he : (Op.equal ty .nilIface .nilIface).run P w = .ok true w := by
        have : eqV std P 2 ty .nilIface .nilIface = some true := by simp [eqV, hu]
        exact eqV_sound (r := fun _ => ⟨0, 1, none⟩) 2 this Op.maxDepth (by decide)
      split at h
      · simp only [Option.some.injEq, Prod.mk.injEq, true_and] at h
        subst h
        exact ⟨hg, by simp [Go.binOp, he, ren]⟩
      · simp only [Option.some.injEq, Prod.mk.injEq, true_and] at h
        subst h
        exact ⟨hg, by simp [Go.binOp, he, ren]⟩
      · cases h
    · cases h

theorem findMethod_eq (n : String) : ∀ l : List Method, findMethod l n = l.find? (·.name == n)
  | [] => rfl
  | m :: l => by
    simp only [findMethod, List.find?_cons, findMethod_eq n l]
    cases m.name == n <;> rfl

theorem nilAhead_sound {r : Env} {t : TypeId} {u : Value} {name : String} (h : (methodOf P (.iface t u) name).isSome = true) :
    (nilAhead (P.types.size + Made.depth) t (ren r u) name).run P w = .ok (some false) w := by
  have : ∃ n, P.types.size + Made.depth = n + 1 := ⟨P.types.size + 99, rfl⟩
  obtain ⟨n, hn⟩ := this
  rw [hn]
  unfold methodOf at h
  dsimp only at h
  cases hi : P.info? t with
  | none => simp [hi] at h
  | some i =>
    simp only [hi, findMethod_eq] at h
    cases hm : i.methods.toList.find? (·.name == name) with
    | none => simp [hm] at h
    | some m =>
      simp only [hm] at h
      have hm' : i.methods.find? (·.name == name) = some m := by rw [← hm]; simp
      simp only [nilAhead, Sem.run_bind, typeInfo, run_program, Result.andThen_ok, hi, Sem.run_pure, hm']
      split at h
      · rename_i f' e hp hfn hu
        simp [hp, followBlind, hfn]
      · cases h
      · rename_i f' d hnot hp hfn hu
        simp only [hp, followBlind, Sem.run_pure, Result.andThen_ok, hfn, Sem.run_bind, run_underlying hu]
        cases d <;> first | exact (hnot _ rfl).elim | rfl
      · cases h

/-! ### All of them -/
theorem valOp_sound {r : Env} {F : Foot} {H : Heap} (hS : Sat r F H w) {t : List Value} {a : Act} (ha : Sees r t a) {o : Oper} {v : Value}
    (h : valOp std P H t o = some (true, v)) : (execOp a.eval o).run P w = .ok (.value (ren r v)) w := by
  obtain ⟨dst, op, ty, pos, after, guard⟩ := o
  unfold valOp at h
  dsimp only at h
  cases op <;> dsimp only at h <;> try (cases h; done)
  case move x =>
    simp only [Option.map_eq_some_iff, Prod.mk.injEq, true_and] at h
    obtain ⟨u, hu, rfl⟩ := h
    simp [execOp, evS_sound ha hu]
  case assign x =>
    simp only [Option.map_eq_some_iff, Prod.mk.injEq, true_and] at h
    obtain ⟨u, hu, rfl⟩ := h
    simp [execOp, evS_sound ha hu]
  case build t' parts =>
    cases hp : evParts t parts.toList with
    | none => simp [hp] at h
    | some ps =>
      simp only [hp, Option.map_eq_some_iff, Prod.mk.injEq, true_and] at h
      obtain ⟨u, hu, rfl⟩ := h
      have : parts.map (fun (i, x) => (i, a.eval x)) = (ps.map fun (i, v) => (i, ren r v)).toArray := by
        apply Array.ext'
        simpa using evParts_sound ha hp
      simp [execOp, this, buildV_sound hu]
  case load ty' x =>
    split at h
    · rename_i ad hx
      have := loadV_sound (P := P) hS h
      simp [execOp, evS_sound ha hx, ren, Instr.loadAt, Instr.sureAddr, this]
    · cases h
  case nilCheck x =>
    split at h
    · rename_i ad hx; simp only [Option.some.injEq, Prod.mk.injEq, true_and] at h; subst h; simp [execOp, evS_sound ha hx, ren]
    · rename_i ty' u hx; simp only [Option.some.injEq, Prod.mk.injEq, true_and] at h; subst h; simp [execOp, evS_sound ha hx, ren]
    · rename_i f b c hx; simp only [Option.some.injEq, Prod.mk.injEq, true_and] at h; subst h; simp [execOp, evS_sound ha hx, ren_func]
    · rename_i nm ty' v' c hx
      cases hmo : (methodOf P (.iface ty' v') nm).isSome with
      | false => simp only [hmo, cond_false, reduceCtorEq] at h
      | true =>
        simp only [hmo, cond_true, Option.some.injEq, Prod.mk.injEq, true_and] at h
        subst h
        have := nilAhead_sound (w := w) (r := r) hmo
        have hr : ren r (.func (.method nm) ⟨[.iface ty' v']⟩ c) = .func (.method nm) #[.iface ty' (ren r v')] (c.toList.map (ren r)).toArray := by cases c; simp [ren, renL, renL_map]
        simp [execOp, evS_sound ha hx, hr, this]
    · cases h
  case binOp op xt x y yt =>
    split at h
    · rename_i u u' hx hy
      split at h
      · obtain ⟨h1, h2⟩ := nilNil_sound (w := w) (r := r) h
        simp [execOp, evS_sound ha hx, evS_sound ha hy, ren, h1, h2]
      · obtain ⟨h1, h2⟩ := binV_sound (w := w) h x y r
        simp [execOp, evS_sound ha hx, evS_sound ha hy, h1, h2]
    · cases h
  case unOp op xt x =>
    simp only [Option.bind_eq_some_iff, Option.map_eq_some_iff, Prod.mk.injEq, true_and] at h
    obtain ⟨u, hx, u', hu, rfl⟩ := h
    simp [execOp, evS_sound ha hx, unV_sound hu r]
  case convert src dst x =>
    split at h
    · rename_i k n d k' hx hs hd
      simp only [std, Option.some.injEq, Prod.mk.injEq, true_and] at h
      subst h
      simp [execOp, evS_sound ha hx, ren, convert, run_underlying hs, run_underlying hd, Conv.intToInt]
    · cases h
  case makeInterface ty' x =>
    split at h
    · cases h
    · rename_i d u hnot hu hx
      simp only [Option.some.injEq, Prod.mk.injEq, true_and] at h
      subst h
      have hc : P.concrete ty' = true := by
        unfold Program.concrete; rw [hu]; cases d <;> first | rfl | exact (hnot _ rfl).elim
      simp [execOp, evS_sound ha hx, run_makeInterface w ty' (ren r u) hc, ren]
    · cases h
  case makeFunc fn first captured =>
    split at h
    · rename_i f c hf hc
      simp only [Option.some.injEq, Prod.mk.injEq, true_and] at h
      subst h
      have e1 : first.map a.eval = (f.map (ren r)).toArray := Array.ext' (by simpa using evL_sound ha hf)
      have e2 : captured.map a.eval = (c.map (ren r)).toArray := Array.ext' (by simpa using evL_sound ha hc)
      simp [execOp, e1, e2, Instr.makeFunc, ren, renL_map]
    · cases h
  case fieldAddr s x f =>
    simp only [Option.bind_eq_some_iff, Option.map_eq_some_iff, Prod.mk.injEq, true_and] at h
    obtain ⟨u, hx, u', hu, rfl⟩ := h
    simp [execOp, evS_sound ha hx, fieldAddrV_sound hu]
  case field s x f =>
    split at h
    · rename_i fields cs hu hx
      simp only [nth_eq, Array.getElem?_toList] at h
      cases hf : fields[f]? with
      | none => simp [hf] at h
      | some fd =>
        simp only [hf, Option.map_eq_some_iff, Prod.mk.injEq, true_and] at h
        obtain ⟨u', hu', rfl⟩ := h
        have := partV_sound (w := w) (r := r) hu'
        simp only [execOp, evS_sound ha hx, ren_agg, Instr.field, Sem.run_bind, run_underlying hu, Result.andThen_ok, hf, asAgg, Sem.run_pure, this]
    · cases h
  case indexAddr ty' x ix =>
    split at h
    · rename_i u u' hx hix
      simp [execOp, evS_sound ha hx, evS_sound ha hix, indexAddrV_sound hS h]
    · cases h
  case index ty' x ix =>
    split at h
    · rename_i u u' hx hix
      simp [execOp, evS_sound ha hx, evS_sound ha hix, indexV_sound h]
    · cases h
  case extract x i =>
    split at h
    · rename_i vs hx
      simp only [nth_eq, Option.map_eq_some_iff, Prod.mk.injEq, true_and, Array.getElem?_toList] at h
      obtain ⟨u, hu, rfl⟩ := h
      simp [execOp, evS_sound ha hx, ren_tuple, Instr.extract, hu]
    · cases h
  case typeAssert x xt asserted ok =>
    split at h
    · cases h
    · rename_i d ty' u hnot hu hx
      cases he : ty' == asserted with
      | false =>
        simp only [he, cond_false] at h
        cases ok with
        | false => cases h
        | true =>
          simp only [cond_true, Option.map_eq_some_iff, Prod.mk.injEq, true_and] at h
          obtain ⟨z, hz, rfl⟩ := h
          obtain ⟨hzr, hzk⟩ := zeroV_sound (P := P) (w := w) hz
          have hne : ¬ ty' = asserted := by simpa using he
          have : (Instr.typeAssert (.iface ty' (ren r u)) xt asserted true).run P w = .ok (.tuple #[z, .bool false]) w := by
            simp only [Instr.typeAssert, Sem.run_bind, run_underlying hu, Result.andThen_ok]
            cases d <;> first | exact (hnot _ rfl).elim | (simp [hne, hzr]; done)
          simp only [execOp, evS_sound ha hx, ren, Sem.run_bind, this, Result.andThen_ok, Sem.run_pure]
          simp [ren, renL, constV_ren r z hzk]
      | true =>
        simp only [he, cond_true, Option.some.injEq, Prod.mk.injEq, true_and] at h
        subst h
        have he' : ty' = asserted := by simpa using he
        subst he'
        have : (Instr.typeAssert (.iface ty' (ren r u)) xt ty' ok).run P w = .ok (if ok then .tuple #[ren r u, .bool true] else ren r u) w := by
          simp only [Instr.typeAssert, Sem.run_bind, run_underlying hu, Result.andThen_ok]
          cases d <;> first | exact (hnot _ rfl).elim | (simp; done)
        simp only [execOp, evS_sound ha hx, ren, Sem.run_bind, this, Result.andThen_ok, Sem.run_pure]
        cases ok <;> simp [ren, renL]
    · cases h
end
end Go.Vx

/- What the reading operations yield names only blocks that were named; the operations that write. -/
namespace Go.Vx
open Go

section
variable {P : Program} {w : World}

theorem nilNil_ok {p : Nat → Bool} {op : BinOp} {ty : TypeId} {x y : Operand} {b : Bool} {v : Value} (h : nilNil P op ty x y = some (b, v)) : okV p v = true := by
  unfold nilNil at h
  cases hc : (isC x || isC y) with
  | false => simp only [hc, cond_false, reduceCtorEq] at h
  | true =>
    simp only [hc, cond_true] at h
    split at h
    · split at h
      · simp only [Option.some.injEq, Prod.mk.injEq] at h
        obtain ⟨_, rfl⟩ := h; rfl
      · simp only [Option.some.injEq, Prod.mk.injEq] at h
        obtain ⟨_, rfl⟩ := h; rfl
      · cases h
    · cases h

theorem valOp_ok {p : Nat → Bool} {H : Heap} (hH : ∀ B ∈ H, okB p B) {t : List Value} (ht : ∀ v ∈ t, okV p v = true) {o : Oper} {b : Bool} {v : Value}
    (h : valOp std P H t o = some (b, v)) : okV p v = true := by
  obtain ⟨dst, op, ty, pos, after, guard⟩ := o
  unfold valOp at h
  dsimp only at h
  cases op <;> dsimp only at h <;> try (cases h; done)
  case move x =>
    simp only [Option.map_eq_some_iff, Prod.mk.injEq] at h
    obtain ⟨u, hu, _, rfl⟩ := h
    exact evS_ok ht hu
  case assign x =>
    simp only [Option.map_eq_some_iff, Prod.mk.injEq] at h
    obtain ⟨u, hu, _, rfl⟩ := h
    exact evS_ok ht hu
  case build t' parts =>
    cases hp : evParts t parts.toList with
    | none => simp [hp] at h
    | some ps =>
      simp only [hp, Option.map_eq_some_iff, Prod.mk.injEq] at h
      obtain ⟨u, hu, _, rfl⟩ := h
      exact buildV_ok (evParts_ok ht hp) hu
  case load ty' x =>
    split at h
    · exact loadV_ok hH h
    · cases h
  case nilCheck x =>
    split at h
    · rename_i ad hx; simp only [Option.some.injEq, Prod.mk.injEq] at h; obtain ⟨_, rfl⟩ := h; exact evS_ok ht hx
    · rename_i ty' u hx; simp only [Option.some.injEq, Prod.mk.injEq] at h; obtain ⟨_, rfl⟩ := h; exact evS_ok ht hx
    · rename_i f b c hx; simp only [Option.some.injEq, Prod.mk.injEq] at h; obtain ⟨_, rfl⟩ := h; exact evS_ok ht hx
    · rename_i nm ty' v' c hx
      cases hmo : (methodOf P (.iface ty' v') nm).isSome with
      | false => simp only [hmo, cond_false, reduceCtorEq] at h
      | true =>
        simp only [hmo, cond_true, Option.some.injEq, Prod.mk.injEq] at h
        obtain ⟨_, rfl⟩ := h
        exact evS_ok ht hx
    · cases h
  case binOp op xt x y yt =>
    split at h
    · rename_i u u' hx hy
      split at h
      · exact nilNil_ok h
      · exact binV_int_ok h
    · cases h
  case unOp op xt x =>
    simp only [Option.bind_eq_some_iff, Option.map_eq_some_iff, Prod.mk.injEq] at h
    obtain ⟨u, hx, u', hu, _, rfl⟩ := h
    exact unV_ok hu
  case convert src dst x =>
    split at h
    · simp only [Option.some.injEq, Prod.mk.injEq] at h; obtain ⟨_, rfl⟩ := h; rfl
    · cases h
  case makeInterface ty' x =>
    split at h
    · cases h
    · rename_i d u hnot hu hx
      simp only [Option.some.injEq, Prod.mk.injEq] at h
      obtain ⟨_, rfl⟩ := h
      have := evS_ok (p := p) ht hx
      exact this
    · cases h
  case makeFunc fn first captured =>
    split at h
    · rename_i f c hf hc
      simp only [Option.some.injEq, Prod.mk.injEq] at h
      obtain ⟨_, rfl⟩ := h
      simp [okV, evL_ok ht hf, evL_ok ht hc]
    · cases h
  case fieldAddr s x f =>
    simp only [Option.bind_eq_some_iff, Option.map_eq_some_iff, Prod.mk.injEq] at h
    obtain ⟨u, hx, u', hu, _, rfl⟩ := h
    exact fieldAddrV_ok (evS_ok ht hx) hu
  case field s x f =>
    split at h
    · rename_i fields cs hu hx
      split at h
      · simp only [Option.map_eq_some_iff, Prod.mk.injEq] at h
        obtain ⟨u', hu', _, rfl⟩ := h
        have := evS_ok (p := p) ht hx
        rw [okV_agg] at this
        exact partV_ok this hu'
      · cases h
    · cases h
  case indexAddr ty' x ix =>
    split at h
    · rename_i u u' hx hix
      exact indexAddrV_ok (evS_ok ht hx) h
    · cases h
  case index ty' x ix =>
    split at h
    · rename_i u u' hx hix
      exact indexV_ok (evS_ok ht hx) h
    · cases h
  case extract x i =>
    split at h
    · rename_i vs hx
      simp only [nth_eq, Option.map_eq_some_iff, Prod.mk.injEq] at h
      obtain ⟨u, hu, _, rfl⟩ := h
      have := evS_ok (p := p) ht hx
      rw [okV_tuple, okL_iff] at this
      exact this _ (List.mem_of_getElem? hu)
    · cases h
  case typeAssert x xt asserted ok =>
    split at h
    · cases h
    · rename_i d ty' u hnot hu hx
      cases he : ty' == asserted with
      | false =>
        simp only [he, cond_false] at h
        cases ok with
        | false => cases h
        | true =>
          simp only [cond_true, Option.map_eq_some_iff, Prod.mk.injEq] at h
          obtain ⟨z, hz, _, rfl⟩ := h
          obtain ⟨_, hzk⟩ := zeroV_sound (P := P) (w := default) hz
          simp [okV, okL, constV_ok p z hzk]
      | true =>
        simp only [he, cond_true, Option.some.injEq, Prod.mk.injEq] at h
        obtain ⟨_, rfl⟩ := h
        have h0 := evS_ok (p := p) ht hx
        have : okV p u = true := h0
        cases ok
        · exact this
        · simp [okV, okL, this]
    · cases h

/-! ### Writing -/
theorem run_store_cell {a : Addr} {c : Value} {v : Value} (hc : w.cell? a = some c) (hf : w.frozen? a = false) (hv : v.oneCell' = true) :
    (store a v).run P w = .ok () (w.setCell a v) := by rw [run_store P w a v .plain hv, hc]; simp [hf]

theorem set_self {α : Type} {a : Array α} {b : Nat} {x : α} (h : a[b]? = some x) : a.setIfInBounds b x = a := by
  apply Array.ext_getElem?
  intro j
  rw [Array.getElem?_setIfInBounds]
  split
  · subst_vars
    obtain ⟨h1, h2⟩ := Array.getElem?_eq_some_iff.1 h
    simp [h1, h2]
  · rfl
theorem setCell_heap {w : World} {b o : Nat} {c : Array Value} {e : TypeId} {v : Value} {m : Nat × Nat} (hb : w.heap[b]? = some (.cells c e m)) :
    (w.setCell ⟨b, o, none⟩ v).heap = w.heap.setIfInBounds b (.cells (c.setIfInBounds o v) e m) := by
  apply Array.ext_getElem?
  intro j
  obtain ⟨h1, h2⟩ := Array.getElem?_eq_some_iff.1 hb
  simp only [World.setCell, Array.getElem?_modify, Array.getElem?_setIfInBounds]
  split
  · subst_vars; simp [h1, h2]
  · rfl

/-- cells written one behind the other into one block -/
theorem run_storeCells {b : Nat} {e : TypeId} (vs : List Value) : ∀ (w : World) (c : Array Value) (o i : Nat), w.heap[b]? = some (.cells c e (0, 0)) → o + i + vs.length ≤ c.size →
    vs.all Value.oneCell' = true →
    ∃ w', (storeCells ⟨b, o, none⟩ vs i).run P w = .ok () w' ∧ w'.heap = w.heap.setIfInBounds b (.cells (c.toList.take (o + i) ++ vs ++ c.toList.drop (o + i + vs.length)).toArray e (0, 0)) ∧
      w'.os = w.os ∧ w'.tape = w.tape ∧ w'.output = w.output := by
  induction vs with
  | nil =>
    intro w c o i hb _ _
    refine ⟨w, by simp [storeCells], ?_, rfl, rfl, rfl⟩
    simp only [List.append_nil, List.length_nil, Nat.add_zero, List.take_append_drop, Array.toArray_toList]
    exact (set_self hb).symm
  | cons v vs ih =>
    intro w c o i hb hlen hv
    simp only [List.all_cons, Bool.and_eq_true] at hv
    simp only [List.length_cons] at hlen
    have hcell : w.cell? ⟨b, o + i, none⟩ = some (c[o + i]'(by omega)) := by rw [cell_of_block hb]; simp [show o + i < c.size by omega]
    have hst := run_store_cell (P := P) hcell (frozen_of_block hb _) hv.1
    have hb' : (w.setCell ⟨b, o + i, none⟩ v).heap[b]? = some (.cells (c.setIfInBounds (o + i) v) e (0, 0)) := by
      simp [World.setCell, Array.getElem?_modify, hb]
    obtain ⟨w', hr, hh, h1, h2, h3⟩ := ih (w.setCell ⟨b, o + i, none⟩ v) (c.setIfInBounds (o + i) v) o (i + 1) hb' (by simp; omega) hv.2
    refine ⟨w', ?_, ?_, h1, h2, h3⟩
    · simp only [storeCells, Sem.run_bind, add_mk, hst, Result.andThen_ok, hr]
    · rw [hh]
      rw [setCell_heap hb]
      have hx : (c.setIfInBounds (o + i) v).toList = c.toList.set (o + i) v := by simp
      have t1 : (c.toList.set (o + i) v).take (o + (i + 1)) = c.toList.take (o + i) ++ [v] := by
        rw [← Nat.add_assoc, List.take_succ_eq_append_getElem (by simp; omega), List.take_set_of_le (Nat.le_refl _)]
        simp
      have t2 : (c.toList.set (o + i) v).drop (o + (i + 1) + vs.length) = c.toList.drop (o + i + (vs.length + 1)) := by
        rw [List.drop_set_of_lt (by omega)]
        congr 1; omega
      rw [hx, t1, t2]
      simp [Array.setIfInBounds_setIfInBounds]

/-- a block more -/
def upd (r : Env) (n : Nat) (s : Slot) : Env := fun k => if k = n then s else r k
def updF (F : Foot) (n b : Nat) : Foot := fun k x => if k = n then x = b else F k x

theorem Sat.push {r : Env} {F : Foot} {H : Heap} (hS : Sat r F H w) (hok : ∀ B ∈ H, okB (below H.length) B) {cs : List Value} {e : TypeId} (hcs : okL (below H.length) cs = true) :
    Sat (upd r H.length ⟨w.heap.size, 1, none⟩) (updF F H.length w.heap.size) (H ++ [.cells cs e]) (w.alloc (.cells (cs.map (ren r)).toArray e)) ∧
    Tr r F H.length w (upd r H.length ⟨w.heap.size, 1, none⟩) (updF F H.length w.heap.size) (H ++ [Blk.cells cs e]).length (w.alloc (.cells (cs.map (ren r)).toArray e)) := by
  have hr : ∀ k, below H.length k = true → r k = upd r H.length ⟨w.heap.size, 1, none⟩ k := fun k hk => by
    have := below_iff.1 hk
    simp [upd, show k ≠ H.length by omega]
  have hmap : cs.map (ren r) = cs.map (ren (upd r H.length ⟨w.heap.size, 1, none⟩)) := by
    rw [← renL_map, ← renL_map]; exact renL_congr hr cs hcs
  refine ⟨⟨fun k B hk => ?_, fun i j x hi hj hx hy => ?_⟩, ⟨fun k hk => (hr k (below_iff.2 hk)).symm, by simp, by simp, fun x hx _ => ?_, fun k x hk hF => ?_, rfl, rfl, rfl⟩⟩
  · by_cases hkl : k < H.length
    · rw [List.getElem?_append_left hkl] at hk
      have hF : updF F H.length w.heap.size k = F k := by funext x; simp [updF, show k ≠ H.length by omega]
      rw [hF]
      refine holds_move (hS.1 k B hk) (hok B (List.mem_of_getElem? hk)) (hr k (below_iff.2 hkl)).symm hr ?_
      intro x hx
      have := hS.lt hkl hx
      simp only [World.alloc, Array.getElem?_push]
      rw [if_neg (by omega)]
    · rw [List.getElem?_append_right (by omega)] at hk
      have hk0 : k - H.length = 0 := by
        rcases Nat.eq_zero_or_pos (k - H.length) with h | h
        · exact h
        · obtain ⟨m, hm⟩ : ∃ m, k - H.length = m + 1 := ⟨k - H.length - 1, by omega⟩
          rw [hm] at hk; simp at hk
      rw [hk0] at hk
      simp only [List.getElem?_cons_zero, Option.some.injEq] at hk
      subst hk
      have hkk : k = H.length := by omega
      subst hkk
      refine ⟨fun x => by simp [updF, upd], by simp [upd], by simp [upd], ?_⟩
      rw [← hmap]
      have e1 : (upd r H.length ⟨w.heap.size, 1, none⟩ H.length).b = w.heap.size := by simp [upd]
      rw [e1]
      show (w.heap.push _)[w.heap.size]? = _
      simp
  · simp only [List.length_append, List.length_cons, List.length_nil] at hi hj
    simp only [updF] at hx hy
    split at hx <;> split at hy
    · omega
    · subst hx; have := hS.lt (show j < H.length by omega) hy; omega
    · subst hy; have := hS.lt (show i < H.length by omega) hx; omega
    · exact hS.2 i j x (by omega) (by omega) hx hy
  · simp only [World.alloc, Array.getElem?_push]
    rw [if_neg (by omega)]
  · simp only [updF] at hF
    simp only [List.length_append, List.length_cons, List.length_nil] at hk
    split at hF
    · exact .inl (by omega)
    · exact .inr ⟨k, by omega, hF⟩

theorem holds_same {r : Env} {fp : Nat → Prop} {k : Nat} {w' : World} {B : Blk} (h : B.holds r fp k w) (hw : ∀ x, fp x → w'.heap[x]? = w.heap[x]?) : B.holds r fp k w' := by
  cases B with
  | gone => exact h
  | cells c e =>
    obtain ⟨h1, h2, h3, h4⟩ := h
    exact ⟨h1, h2, h3, by rw [hw _ ((h1 _).2 rfl), h4]⟩
  | row s n f e =>
    obtain ⟨h1, h0, c, C, h2, h3, h4⟩ := h
    exact ⟨h1, h0, c, C, h2, by rw [hw _ ((h1 _).2 rfl), h3], h4⟩
  | abs R => exact R.loc h hw

/-- one block's cells are others now -/
theorem Sat.setBlock {r : Env} {F : Foot} {H : Heap} (hS : Sat r F H w) {k : Nat} {c c' : List Value} {e : TypeId} (hk : H[k]? = some (.cells c e)) {w' : World}
    (hw : w'.heap = w.heap.setIfInBounds (r k).b (.cells (c'.map (ren r)).toArray e (0, 0))) (ho : w'.os = w.os) (ht : w'.tape = w.tape) (hu : w'.output = w.output) :
    Sat r F (H.set k (.cells c' e)) w' ∧ Tr r F H.length w r F (H.set k (.cells c' e)).length w' := by
  have hkl : k < H.length := (List.getElem?_eq_some_iff.1 hk).1
  obtain ⟨h1, h2, h3, h4⟩ := hS.1 k _ hk
  have hlt := (Array.getElem?_eq_some_iff.1 h4).1
  refine ⟨⟨fun j B hj => ?_, fun i j x hi hj hx hy => hS.2 i j x (by simpa using hi) (by simpa using hj) hx hy⟩,
    ⟨fun _ _ => rfl, by simp, by simp [hw], fun x _ hn => ?_, fun j x hj hF => .inr ⟨j, by simpa using hj, hF⟩, ho, ht, hu⟩⟩
  · rw [List.getElem?_set] at hj
    split at hj
    · subst_vars
      simp only [Option.some.injEq] at hj
      subst hj
      exact ⟨h1, h2, h3, by rw [hw, Array.getElem?_setIfInBounds, if_pos rfl, if_pos hlt]⟩
    · rename_i hne
      have hjl : j < H.length := (List.getElem?_eq_some_iff.1 hj).1
      refine holds_same (hS.1 j B hj) ?_
      intro x hx
      rw [hw, Array.getElem?_setIfInBounds, if_neg]
      intro hx'
      exact hne (hS.2 k j x hkl hjl ((h1 x).2 hx'.symm) hx)
  · rw [hw, Array.getElem?_setIfInBounds, if_neg]
    intro hx
    exact hn k hkl ((h1 x).2 hx.symm)

theorem neq_std (j i : Nat) : neq std j i = decide (j = i) := by
  simp only [neq, std]
  by_cases h : j = i
  · subst h; simp
  · simp only [h, decide_false]
    by_cases h1 : i < j
    · simp [h1]
    · simp [show ¬ i < j + 1 by omega]
theorem setI_eq : ∀ (l : List Int) (j i : Nat) (y : Int), setI std l j i y = if j ≤ i then l.set (i - j) y else l
  | [], j, i, y => by simp [setI]
  | x :: l, j, i, y => by
    show (bif neq std j i then y else x) :: setI std l (j + 1) i y = _
    rw [setI_eq l (j + 1) i y, neq_std]
    by_cases h1 : j = i
    · subst h1; rw [if_neg (by omega), if_pos (Nat.le_refl _)]; simp
    · by_cases h2 : j ≤ i
      · have e : i - j = (i - (j + 1)) + 1 := by omega
        rw [if_pos (by omega), if_pos h2, e]
        simp [h1]
      · rw [if_neg (by omega), if_neg h2]
        simp [h1]

theorem ints_prefix {kd : IntKind} : ∀ l : List Value, l = (ints kd l).map (.int kd ·) ++ l.drop (ints kd l).length
  | [] => by simp [ints]
  | v :: l => by
    cases v with
    | int k n =>
      simp only [ints]
      by_cases hk : k = kd
      · subst hk
        simp only [decide_true, cond_true, List.map_cons, List.cons_append, List.length_cons, List.drop_succ_cons]
        rw [← ints_prefix l]
      · simp [hk]
    | _ => simp [ints]

theorem set_splice {α : Type} (c : List α) (i : Nat) (v : α) (h : i < c.length) : c.take i ++ [v] ++ c.drop (i + 1) = c.set i v := by
  rw [List.set_eq_take_append_cons_drop, if_pos h]; simp

theorem storeH_sound {r : Env} {F : Foot} {H : Heap} (hS : Sat r F H w) {a : Addr} {vs : List Value} {H' : Heap} (h : storeH std H a vs = some (true, H')) :
    ∃ w', (storeCells (renAd r a) (vs.map (ren r))).run P w = .ok () w' ∧ Sat r F H' w' ∧ Tr r F H.length w r F H'.length w' := by
  simp only [storeH, nth_eq] at h
  cases hv : vs.all Value.oneCell' with
  | false => simp only [hv, cond_false, reduceCtorEq] at h
  | true =>
    simp only [hv, cond_true] at h
    have hv' : (vs.map (ren r)).all Value.oneCell' = true := by
      rw [List.all_map]
      rw [← hv]; congr 1; funext v; exact oneCell_ren r v
    cases hb : H[a.block]? with
    | none => simp [hb] at h
    | some B =>
      have hB := hS.1 _ _ hb
      cases B with
      | gone => simp [hb] at h
      | abs R => simp [hb] at h
      | row s n f e => simp [hb] at h
      | cells c e =>
        obtain ⟨_, hs, _, hw⟩ := hB
        simp only [hb, setN_eq] at h
        -- one cell at a place that is reckoned
        have one : ∀ i v c', a.spot = some i → vs = [v] → a.off + i < c.length → c' = c.set (a.off + i) v → H' = H.set a.block (.cells c' e) →
            ∃ w', (storeCells (renAd r a) (vs.map (ren r))).run P w = .ok () w' ∧ Sat r F H' w' ∧ Tr r F H.length w r F H'.length w' := by
          rintro i v c' hsp rfl hlt rfl rfl
          obtain ⟨w', h1, h2, h3, h4, h5⟩ := run_storeCells (P := P) [ren r v] w _ (a.off + i) 0 hw (by simp; omega) (by simpa using hv')
          refine ⟨w', ?_, Sat.setBlock hS hb ?_ h3 h4 h5⟩
          · simpa [renAd, hsp, hs] using h1
          · rw [h2]
            congr 2
            have := set_splice (c.map (ren r)) (a.off + i) (ren r v) (by simpa using hlt)
            simp only [Nat.add_zero, List.length_cons, List.length_nil, Nat.zero_add, List.map_set]
            rw [this]
        cases hsp : a.spot with
        | none =>
          simp only [hsp] at h
          cases hl : decide (a.off + vs.length ≤ c.length) with
          | false => simp [hl] at h
          | true =>
            simp only [hl, cond_true, Option.some.injEq, Prod.mk.injEq, true_and] at h
            have hle : a.off + vs.length ≤ c.length := by simpa using hl
            subst h
            obtain ⟨w', h1, h2, h3, h4, h5⟩ := run_storeCells (P := P) (vs.map (ren r)) w _ a.off 0 hw (by simp; omega) hv'
            refine ⟨w', ?_, Sat.setBlock hS hb ?_ h3 h4 h5⟩
            · simpa [renAd, hsp] using h1
            · rw [h2]
              simp [List.map_take, List.map_drop]
        | some i =>
          simp only [hsp] at h
          cases vs with
          | nil => simp at h
          | cons v vs' =>
            cases vs' with
            | cons _ _ => simp at h
            | nil =>
              split at h
              · rename_i kd y kd' x l hv2 hd
                cases hv2
                by_cases hk : kd = kd'
                · subst hk
                  rw [← hd] at h
                  simp only [decide_true, cond_true, Option.some.injEq, Prod.mk.injEq] at h
                  obtain ⟨hi, rfl⟩ := h
                  have hi : i < (ints kd (c.drop a.off)).length := by simpa [std] using hi
                  have hpre := ints_prefix (kd := kd) (c.drop a.off)
                  have hlen : (ints kd (c.drop a.off)).length ≤ (c.drop a.off).length := by
                    have := congrArg List.length hpre
                    simp only [List.length_append, List.length_map] at this
                    omega
                  simp only [List.length_drop] at hlen
                  refine one i (.int kd y) _ hsp rfl (by omega) ?_ rfl
                  rw [setI_eq, if_pos (Nat.zero_le _), Nat.sub_zero]
                  have hc : c = c.take a.off ++ ((ints kd (c.drop a.off)).map (.int kd ·) ++ c.drop (a.off + (ints kd (c.drop a.off)).length)) := by
                    conv => lhs; rw [← List.take_append_drop a.off c, hpre]
                    rw [List.drop_drop]
                  have hta : (c.take a.off).length = a.off := by simp; omega
                  conv => rhs; rw [hc]
                  rw [List.set_append, if_neg (by omega), hta, Nat.add_sub_cancel_left, List.set_append, if_pos (by simpa using hi), List.map_set]
                  simp
                · simp [hk] at h
              · rename_i v2 hv2 _
                cases hv2
                cases hl : decide (i < (c.drop a.off).length) with
                | false => simp only [hl, cond_false, reduceCtorEq] at h
                | true =>
                  simp only [hl, cond_true, Option.some.injEq, Prod.mk.injEq, true_and] at h
                  simp only [decide_eq_true_eq, List.length_drop] at hl
                  refine one i v _ hsp rfl (by omega) ?_ h.symm
                  have hta : (c.take a.off).length = a.off := by simp; omega
                  conv => rhs; rw [← List.take_append_drop a.off c]
                  rw [List.set_append, if_neg (by omega), hta, Nat.add_sub_cancel_left]
              · cases h
end
end Go.Vx
