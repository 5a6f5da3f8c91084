/- Other numbers for the blocks; a contract over a few blocks, used where there are more. -/
import Derived.Test.YtfheonbdapkgkaaVxCall
namespace Go.Vx
open Go

theorem mvL_map (m : Nat → Nat) (l : List Value) : mvL m l = l.map (mv m) := by
  induction l with
  | nil => rfl
  | cons v l ih => simp [mvL, ih]

mutual
theorem ren_mv (r : Env) (m : Nat → Nat) : ∀ v : Value, ren r (mv m v) = ren (fun k => r (m k)) v
  | .pointer (some a) => by simp [mv, ren, renAd]
  | .slice (some a) l c => by simp [mv, ren, renAd, renCap]
  | .map (some k) => rfl
  | .func fn ⟨f⟩ ⟨c⟩ => by simp [mv, ren, renL_mv r m f, renL_mv r m c]
  | .iface t v => by simp [mv, ren, ren_mv r m v]
  | .agg ⟨l⟩ => by simp [mv, ren, renL_mv r m l]
  | .tuple ⟨l⟩ => by simp [mv, ren, renL_mv r m l]
  | .pointer none => rfl
  | .slice none _ _ => rfl
  | .map none => rfl
  | .bool _ => rfl
  | .int _ _ => rfl
  | .float _ _ => rfl
  | .complex _ _ _ => rfl
  | .string _ => rfl
  | .chan _ => rfl
  | .nilFunc => rfl
  | .nilIface => rfl
theorem renL_mv (r : Env) (m : Nat → Nat) : ∀ l : List Value, renL r (mvL m l) = renL (fun k => r (m k)) l
  | [] => rfl
  | v :: l => by simp [mvL, renL, ren_mv r m v, renL_mv r m l]
end
mutual
theorem okV_mv (p : Nat → Bool) (m : Nat → Nat) : ∀ v : Value, okV p (mv m v) = okV (fun k => p (m k)) v
  | .pointer (some a) => rfl
  | .slice (some a) l c => rfl
  | .map (some k) => rfl
  | .func fn ⟨f⟩ ⟨c⟩ => by simp [mv, okV, okL_mv p m f, okL_mv p m c]
  | .iface t v => by simp [mv, okV, okV_mv p m v]
  | .agg ⟨l⟩ => by simp [mv, okV, okL_mv p m l]
  | .tuple ⟨l⟩ => by simp [mv, okV, okL_mv p m l]
  | .pointer none => rfl
  | .slice none _ _ => rfl
  | .map none => rfl
  | .bool _ => rfl
  | .int _ _ => rfl
  | .float _ _ => rfl
  | .complex _ _ _ => rfl
  | .string _ => rfl
  | .chan _ => rfl
  | .nilFunc => rfl
  | .nilIface => rfl
theorem okL_mv (p : Nat → Bool) (m : Nat → Nat) : ∀ l : List Value, okL p (mvL m l) = okL (fun k => p (m k)) l
  | [] => rfl
  | v :: l => by simp [mvL, okL, okV_mv p m v, okL_mv p m l]
end

theorem holds_mv {r : Env} {m : Nat → Nat} {fp : Nat → Prop} {k : Nat} {w : World} {B : Blk} (hB : ∀ s n f e, B = .row s n f e → ∀ i, okL (fun _ => false) (f i) = true) :
    (mvB m B).holds r fp (m k) w ↔ B.holds (fun k => r (m k)) fp k w := by
  cases B with
  | gone => exact Iff.rfl
  | abs R => exact Iff.rfl
  | cells c e =>
    simp only [mvB, Blk.holds]
    rw [← renL_map, ← renL_map, renL_mv]
  | row s n f e =>
    have hf := hB s n f e rfl
    have hv : ∀ i (v : Value) j, (f i)[j]? = some v → ren r v = ren (fun k => r (m k)) v := fun i v j hj =>
      ren_congr (p := fun _ => false) (fun k hk => by cases hk) v (okL_iff.1 (hf i) v (List.mem_of_getElem? hj))
    simp only [mvB, Blk.holds]
    constructor
    · rintro ⟨h1, h2, c, C, h3, h4, h5, h6, h7⟩
      exact ⟨h1, h2, c, C, h3, h4, h5, h6, fun i hi => ⟨(h7 i hi).1, fun j v hj => by rw [(h7 i hi).2 j v hj, hv i v j hj]⟩⟩
    · rintro ⟨h1, h2, c, C, h3, h4, h5, h6, h7⟩
      exact ⟨h1, h2, c, C, h3, h4, h5, h6, fun i hi => ⟨(h7 i hi).1, fun j v hj => by rw [(h7 i hi).2 j v hj, hv i v j hj]⟩⟩

theorem okB_mv {p : Nat → Bool} {m : Nat → Nat} {B : Blk} : okB p (mvB m B) ↔ okB (fun k => p (m k)) B := by
  cases B with
  | cells c e => simp only [mvB, okB, okL_mv]
  | _ => exact Iff.rfl

theorem okB_row {p : Nat → Bool} {B : Blk} (h : okB p B) : ∀ s n f e, B = .row s n f e → ∀ i, okL (fun _ => false) (f i) = true := by
  rintro s n f e rfl; exact fun i => (h i).1

/-- where a local block number leads: to one of the blocks s, or behind the n blocks that there are -/
def toBig (s : List Nat) (n : Nat) : Nat → Nat := fun i => match nth s i with
  | some k => k
  | none => n + (i - s.length)

theorem toBig_lt {s : List Nat} {n i : Nat} (h : i < s.length) : s[i]? = some (toBig s n i) := by
  unfold toBig; rw [nth_eq, List.getElem?_eq_getElem h]
theorem toBig_ge {s : List Nat} {n i : Nat} (h : s.length ≤ i) : toBig s n i = n + (i - s.length) := by
  unfold toBig; rw [nth_eq, List.getElem?_eq_none h]

section
variable {P : Program}

/-- **A contract over a few blocks, used where there are more.** -/
theorem CallsOK.lift {f : FuncId} {args : List Value} {L : Heap} {c : CR} (hc : okH L → okL (below L.length) args = true → CallsOK P f args L c ∧ c.ok L) {s : List Nat} {H : Heap} (hs : s.length = L.length) (hnd : s.Nodup)
    (hlt : ∀ k ∈ s, k < H.length) (hin : ∀ i B, L[i]? = some B → H[toBig s H.length i]? = some (mvB (toBig s H.length) B)) {H' : Heap}
    (h1 : H'.length = H.length + ((c.heap L).length - L.length))
    (h2 : ∀ i B, (c.heap L)[i]? = some B → H'[toBig s H.length i]? = some (mvB (toBig s H.length) B))
    (h3 : ∀ j, j < H.length → j ∉ s → H'[j]? = H[j]?) {c' : CR} (hc'h : c'.heap H = H') (hc'e : ∀ r e, c.ends (fun k => r (toBig s H.length k)) e → c'.ends r e)
    (hc'v : c'.value = mv (toBig s H.length) c.value) (hH : okH H) (hargs : okL (below H.length) (mvL (toBig s H.length) args) = true) :
    CallsOK P f (mvL (toBig s H.length) args) H c' ∧ c'.ok H := by
  -- what is allowed over there is allowed here
  have inj : ∀ i j, i < L.length → j < L.length → toBig s H.length i = toBig s H.length j → i = j := by
    intro i j hi hj he
    have e1 := toBig_lt (n := H.length) (show i < s.length by omega)
    have e2 := toBig_lt (n := H.length) (show j < s.length by omega)
    rw [he] at e1
    exact (List.getElem?_inj (i := i) (j := j) (by omega) hnd).1 (e1.trans e2.symm)
  have small : ∀ i, i < L.length → toBig s H.length i < H.length := fun i hi =>
    hlt _ (List.mem_of_getElem? (toBig_lt (n := H.length) (show i < s.length by omega)))
  have back : ∀ i, toBig s H.length i < H.length → i < L.length := by
    intro i hi
    rcases Nat.lt_or_ge i L.length with h | h
    · exact h
    · rw [toBig_ge (by omega)] at hi; omega
  have hbelow : (fun k => below H.length (toBig s H.length k)) = below L.length := by
    funext k
    rw [Bool.eq_iff_iff, below_iff, below_iff]
    exact ⟨back k, small k⟩
  have hL : okH L := by
    intro B hB
    obtain ⟨i, hi⟩ := List.getElem?_of_mem hB
    have := hH _ (List.mem_of_getElem? (hin i B hi))
    rw [okB_mv, hbelow] at this
    exact this
  have hLargs : okL (below L.length) args = true := by rw [okL_mv, hbelow] at hargs; exact hargs
  obtain ⟨hcalls, hok1, hok2, hok3⟩ := hc hL hLargs
  have hlen : H.length ≤ H'.length := by omega
  have hbelow' : (fun k => below H'.length (toBig s H.length k)) = below (c.heap L).length := by
    funext k
    rw [Bool.eq_iff_iff, below_iff, below_iff]
    constructor
    · intro h
      rcases Nat.lt_or_ge k s.length with hk | hk
      · omega
      · rw [toBig_ge hk] at h; omega
    · intro h
      rcases Nat.lt_or_ge k s.length with hk | hk
      · have := small k (by omega); omega
      · rw [toBig_ge hk]; omega
  -- each block of the new heap: one of the contract's, or an old one that it doesn't touch
  have cases' : ∀ j B, H'[j]? = some B → (∃ i B0, (c.heap L)[i]? = some B0 ∧ j = toBig s H.length i ∧ B = mvB (toBig s H.length) B0) ∨ (j < H.length ∧ j ∉ s ∧ H[j]? = some B) := by
    intro j B hj
    by_cases hjs : j ∈ s
    · obtain ⟨i, hi⟩ := List.getElem?_of_mem hjs
      have hil : i < s.length := (List.getElem?_eq_some_iff.1 hi).1
      have e1 := toBig_lt (n := H.length) hil
      have hji : j = toBig s H.length i := by rw [hi] at e1; exact Option.some.inj e1
      have hc2 := h2 i _ (List.getElem?_eq_getElem (show i < (c.heap L).length by omega))
      rw [← hji, hj] at hc2
      exact .inl ⟨i, _, List.getElem?_eq_getElem (by omega), hji, Option.some.inj hc2⟩
    · rcases Nat.lt_or_ge j H.length with hjl | hjl
      · exact .inr ⟨hjl, hjs, by rw [← h3 j hjl hjs]; exact hj⟩
      · have hjl' : j < H'.length := (List.getElem?_eq_some_iff.1 hj).1
        have hge : s.length ≤ s.length + (j - H.length) := by omega
        have e : toBig s H.length (s.length + (j - H.length)) = j := by rw [toBig_ge hge]; omega
        have hc2 := h2 (s.length + (j - H.length)) _ (List.getElem?_eq_getElem (show _ < (c.heap L).length by omega))
        rw [e, hj] at hc2
        exact .inl ⟨_, _, List.getElem?_eq_getElem (by omega), e.symm, Option.some.inj hc2⟩
  refine ⟨fun r F w hS _ _ => ?_, ?_, by rw [hc'h]; exact hlen, ?_⟩
  · have hS0 : Sat (fun k => r (toBig s H.length k)) (fun i => F (toBig s H.length i)) L w := by
      refine ⟨fun i B hi => ?_, fun i j x hi hj hx hy => ?_⟩
      · exact (holds_mv (okB_row (hL B (List.mem_of_getElem? hi)))).1 (hS.1 _ _ (hin i B hi))
      · exact inj i j hi hj (hS.2 _ _ x (small i hi) (small j hj) hx hy)
    have hc0 := hcalls _ _ w hS0 hL hLargs
    have ea : (mvL (toBig s H.length) args).map (ren r) = args.map (ren fun k => r (toBig s H.length k)) := by rw [← renL_map, ← renL_map, renL_mv]
    rw [ea]
    refine hc0.mono ?_
    rintro e w' ⟨r1, F1, ht, hS1, he⟩
    -- the new numbers
    let r' : Env := fun j => if j < H.length then r j else r1 (s.length + (j - H.length))
    let loc : Nat → Option Nat := fun j => if j < H.length then s.idxOf? j else some (s.length + (j - H.length))
    have hr' : ∀ i, i < (c.heap L).length → r' (toBig s H.length i) = r1 i := by
      intro i hi
      rcases Nat.lt_or_ge i s.length with hk | hk
      · have := small i (by omega)
        simp only [r', this, if_true]
        rw [ht.env i (by omega)]
      · have e := toBig_ge (n := H.length) hk
        simp only [r', e]
        rw [if_neg (by omega)]
        congr 1; omega
    have hr'old : ∀ j, j < H.length → r' j = r j := fun j hj => by simp [r', hj]
    let F' : Foot := fun j x => (∃ i, i < (c.heap L).length ∧ j = toBig s H.length i ∧ F1 i x) ∨ (j < H.length ∧ j ∉ s ∧ F j x)
    have hF'1 : ∀ i, i < (c.heap L).length → F' (toBig s H.length i) = F1 i := by
      intro i hi
      funext x
      simp only [F', eq_iff_iff]
      constructor
      · rintro (⟨i', hi', he', hx⟩ | ⟨hl, hn, hx⟩)
        · have : i = i' := by
            rcases Nat.lt_or_ge i s.length with hk | hk
            · have := small i (by omega)
              have h' : i' < L.length := back i' (by rw [← he']; exact this)
              exact inj i i' (by omega) h' he'
            · rcases Nat.lt_or_ge i' s.length with hk' | hk'
              · have := small i' (by omega)
                rw [← he', toBig_ge hk] at this; omega
              · rw [toBig_ge hk, toBig_ge hk'] at he'; omega
          subst this; exact hx
        · exfalso
          have := back i hl
          exact hn (List.mem_of_getElem? (toBig_lt (n := H.length) (show i < s.length by omega)))
      · intro hx; exact .inl ⟨i, hi, rfl, hx⟩
    have hF'2 : ∀ j, j < H.length → j ∉ s → F' j = F j := by
      intro j hj hn
      funext x
      simp only [F', eq_iff_iff]
      constructor
      · rintro (⟨i, hi, rfl, hx⟩ | ⟨_, _, hx⟩)
        · have := back i hj
          exact (hn (List.mem_of_getElem? (toBig_lt (n := H.length) (show i < s.length by omega)))).elim
        · exact hx
      · intro hx; exact .inr ⟨hj, hn, hx⟩
    have hold : ∀ j B, j < H.length → j ∉ s → H[j]? = some B → B.holds r' (F j) j w' := by
      intro j B hj hn hB
      refine holds_move (hS.1 j B hB) (hH B (List.mem_of_getElem? hB)) (hr'old j hj) (fun i hi => (hr'old i (below_iff.1 hi)).symm) ?_
      intro x hx
      refine ht.keep x (hS.lt hj hx) ?_
      intro i hi hx'
      have := hS.2 j (toBig s H.length i) x hj (small i hi) hx hx'
      exact hn (this ▸ List.mem_of_getElem? (toBig_lt (n := H.length) (show i < s.length by omega)))
    refine ⟨r', F', ?_, ?_, ?_⟩
    · rw [hc'h]
      refine ⟨hr'old, hlen, ht.size, fun x hx hn => ht.keep x hx (fun i hi hx' => hn _ (small i hi) hx'), fun j x hj hx => ?_, ht.os, ht.tape, ht.output⟩
      rcases hx with ⟨i, hi, rfl, hx⟩ | ⟨hl, _, hx⟩
      · rcases ht.fresh i x hi hx with h | ⟨i', hi', h⟩
        · exact .inl h
        · exact .inr ⟨_, small i' hi', h⟩
      · exact .inr ⟨j, hl, hx⟩
    · rw [hc'h]
      refine ⟨fun j B hj => ?_, fun i j x hi hj hx hy => ?_⟩
      · rcases cases' j B hj with ⟨i, B0, hi, rfl, rfl⟩ | ⟨hl, hn, hB⟩
        · have hil : i < (c.heap L).length := (List.getElem?_eq_some_iff.1 hi).1
          rw [hF'1 i hil]
          have hB0 := hok1 B0 (List.mem_of_getElem? hi)
          refine (holds_mv (okB_row hB0)).2 ?_
          refine holds_move (hS1.1 i B0 hi) hB0 (hr' i hil) (fun k hk => (hr' k (below_iff.1 hk)).symm) (fun _ _ => rfl)
        · rw [hF'2 j hl hn]
          exact hold j B hl hn hB
      · rcases hx with ⟨i1, hi1, rfl, hx⟩ | ⟨hl1, hn1, hx⟩ <;> rcases hy with ⟨i2, hi2, rfl, hy⟩ | ⟨hl2, hn2, hy⟩
        · rw [hS1.2 i1 i2 x hi1 hi2 hx hy]
        · exfalso
          rcases ht.fresh i1 x hi1 hx with h | ⟨m, hm, h⟩
          · have := hS.lt hl2 hy; omega
          · have := hS.2 _ j x (small m hm) hl2 h hy
            exact hn2 (this ▸ List.mem_of_getElem? (toBig_lt (n := H.length) (show m < s.length by omega)))
        · exfalso
          rcases ht.fresh i2 x hi2 hy with h | ⟨m, hm, h⟩
          · have := hS.lt hl1 hx; omega
          · have := hS.2 _ i x (small m hm) hl1 h hx
            exact hn1 (this ▸ List.mem_of_getElem? (toBig_lt (n := H.length) (show m < s.length by omega)))
        · exact hS.2 i j x hl1 hl2 hx hy
    · refine hc'e r' e ?_
      have : ∀ v, okV (below (c.heap L).length) v = true → ren (fun k => r' (toBig s H.length k)) v = ren r1 v := fun v hv =>
        ren_congr (fun k hk => hr' k (below_iff.1 hk)) v hv
      cases c with
      | ret v h => simp only [CR.ends] at he ⊢; rw [he, this v hok3]
      | pan v h => simp only [CR.ends] at he ⊢; rw [he, this v hok3]
  · rw [hc'h]
    intro B hB
    obtain ⟨j, hj⟩ := List.getElem?_of_mem hB
    rcases cases' j B hj with ⟨i, B0, hi, rfl, rfl⟩ | ⟨hl, hn, hB⟩
    · rw [okB_mv, hbelow']
      exact hok1 B0 (List.mem_of_getElem? hi)
    · exact okB_mono (below_mono hlen) B (hH B (List.mem_of_getElem? hB))
  · rw [hc'h, hc'v, okV_mv, hbelow']
    exact hok3
end
end Go.Vx
