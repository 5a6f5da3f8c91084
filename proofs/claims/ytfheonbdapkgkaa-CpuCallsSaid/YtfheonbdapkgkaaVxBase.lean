/- The ground of our executor: virtual values and heaps, how they are read in a world, frames. -/
import Derived.Calls
import Derived.LoopN
import Derived.Orders
import Derived.Laws.Entries
import Derived.Laws.Cells
namespace Go.Vx
open Go

structure Slot where
  b : Nat
  s : Nat := 1
  c : Option Nat := none

abbrev Env := Nat → Slot

def renAd (r : Env) (a : Addr) : Addr := ⟨(r a.block).b, a.off + (a.spot.getD 0) * (r a.block).s, none⟩
def renCap (r : Env) (k c : Nat) : Nat := match (r k).c with | none => c | some C => C - c

mutual
def ren (r : Env) : Value → Value
  | .pointer (some a) => .pointer (some (renAd r a))
  | .slice (some a) l c => .slice (some (renAd r a)) l (renCap r a.block c)
  | .map (some m) => .map (some (r m).b)
  | .func fn ⟨f⟩ ⟨c⟩ => .func fn ⟨renL r f⟩ ⟨renL r c⟩
  | .iface t v => .iface t (ren r v)
  | .agg ⟨l⟩ => .agg ⟨renL r l⟩
  | .tuple ⟨l⟩ => .tuple ⟨renL r l⟩
  | .pointer none => .pointer none
  | .slice none l c => .slice none l c
  | .map none => .map none
  | .bool b => .bool b
  | .int k n => .int k n
  | .float k n => .float k n
  | .complex k a b => .complex k a b
  | .string s => .string s
  | .chan r => .chan r
  | .nilFunc => .nilFunc
  | .nilIface => .nilIface
def renL (r : Env) : List Value → List Value
  | [] => []
  | v :: l => ren r v :: renL r l
end

mutual
/-- every block number that is mentioned is allowed -/
def okV (p : Nat → Bool) : Value → Bool
  | .pointer (some a) => p a.block
  | .slice (some a) _ _ => p a.block
  | .map (some m) => p m
  | .func _ ⟨f⟩ ⟨c⟩ => okL p f && okL p c
  | .iface _ v => okV p v
  | .agg ⟨l⟩ => okL p l
  | .tuple ⟨l⟩ => okL p l
  | .pointer none => true
  | .slice none _ _ => true
  | .map none => true
  | .bool _ => true
  | .int _ _ => true
  | .float _ _ => true
  | .complex _ _ _ => true
  | .string _ => true
  | .chan _ => true
  | .nilFunc => true
  | .nilIface => true
def okL (p : Nat → Bool) : List Value → Bool
  | [] => true
  | v :: l => okV p v && okL p l
end

theorem renL_map (r : Env) (l : List Value) : renL r l = l.map (ren r) := by
  induction l with
  | nil => rfl
  | cons v l ih => simp [renL, ih]
theorem okL_all (p : Nat → Bool) (l : List Value) : okL p l = l.all (okV p) := by
  induction l with
  | nil => rfl
  | cons v l ih => simp [okL, ih]
theorem okL_iff {p : Nat → Bool} {l : List Value} : okL p l = true ↔ ∀ v ∈ l, okV p v = true := by
  rw [okL_all, List.all_eq_true]

mutual
theorem ren_congr {p : Nat → Bool} {r r' : Env} (h : ∀ k, p k = true → r k = r' k) : ∀ v : Value, okV p v = true → ren r v = ren r' v
  | .pointer (some a), hv => by simp only [okV] at hv; simp [ren, renAd, h _ hv]
  | .slice (some a) l c, hv => by simp only [okV] at hv; simp [ren, renAd, renCap, h _ hv]
  | .map (some m), hv => by simp only [okV] at hv; simp [ren, h _ hv]
  | .func fn ⟨f⟩ ⟨c⟩, hv => by
    simp only [okV, Bool.and_eq_true] at hv
    simp [ren, renL_congr h f hv.1, renL_congr h c hv.2]
  | .iface t v, hv => by simp only [okV] at hv; simp [ren, ren_congr h v hv]
  | .agg ⟨l⟩, hv => by simp only [okV] at hv; simp [ren, renL_congr h l hv]
  | .tuple ⟨l⟩, hv => by simp only [okV] at hv; simp [ren, renL_congr h l hv]
  | .pointer none, _ => rfl
  | .slice none _ _, _ => rfl
  | .map none, _ => rfl
  | .bool _, _ => rfl
  | .int _ _, _ => rfl
  | .float _ _, _ => rfl
  | .complex _ _ _, _ => rfl
  | .string _, _ => rfl
  | .chan _, _ => rfl
  | .nilFunc, _ => rfl
  | .nilIface, _ => rfl
theorem renL_congr {p : Nat → Bool} {r r' : Env} (h : ∀ k, p k = true → r k = r' k) : ∀ l : List Value, okL p l = true → renL r l = renL r' l
  | [], _ => rfl
  | v :: l, hv => by
    simp only [okL, Bool.and_eq_true] at hv
    simp [renL, ren_congr h v hv.1, renL_congr h l hv.2]
end

mutual
theorem okV_mono {p q : Nat → Bool} (h : ∀ k, p k = true → q k = true) : ∀ v : Value, okV p v = true → okV q v = true
  | .pointer (some a), hv => h _ hv
  | .slice (some a) l c, hv => h _ hv
  | .map (some m), hv => h _ hv
  | .func fn ⟨f⟩ ⟨c⟩, hv => by
    simp only [okV, Bool.and_eq_true] at *
    exact ⟨okL_mono h f hv.1, okL_mono h c hv.2⟩
  | .iface t v, hv => okV_mono h v hv
  | .agg ⟨l⟩, hv => okL_mono h l hv
  | .tuple ⟨l⟩, hv => okL_mono h l hv
  | .pointer none, _ => rfl
  | .slice none _ _, _ => rfl
  | .map none, _ => rfl
  | .bool _, _ => rfl
  | .int _ _, _ => rfl
  | .float _ _, _ => rfl
  | .complex _ _ _, _ => rfl
  | .string _, _ => rfl
  | .chan _, _ => rfl
  | .nilFunc, _ => rfl
  | .nilIface, _ => rfl
theorem okL_mono {p q : Nat → Bool} (h : ∀ k, p k = true → q k = true) : ∀ l : List Value, okL p l = true → okL q l = true
  | [], _ => rfl
  | v :: l, hv => by
    simp only [okL, Bool.and_eq_true] at *
    exact ⟨okV_mono h v hv.1, okL_mono h l hv.2⟩
end

theorem ren_agg (r : Env) (a : Array Value) : ren r (.agg a) = .agg (a.toList.map (ren r)).toArray := by
  cases a; simp [ren, renL_map]
theorem ren_tuple (r : Env) (a : Array Value) : ren r (.tuple a) = .tuple (a.toList.map (ren r)).toArray := by
  cases a; simp [ren, renL_map]
theorem ren_func (r : Env) (fn : Fn) (f c : Array Value) : ren r (.func fn f c) = .func fn (f.toList.map (ren r)).toArray (c.toList.map (ren r)).toArray := by
  cases f; cases c; simp [ren, renL_map]
theorem ren_undef (r : Env) : ren r undef = undef := rfl
theorem okV_undef (p : Nat → Bool) : okV p undef = true := rfl
theorem okV_agg (p : Nat → Bool) (a : Array Value) : okV p (.agg a) = okL p a.toList := by cases a; rfl
theorem okV_tuple (p : Nat → Bool) (a : Array Value) : okV p (.tuple a) = okL p a.toList := by cases a; rfl
theorem okV_func (p : Nat → Bool) (fn : Fn) (f c : Array Value) : okV p (.func fn f c) = (okL p f.toList && okL p c.toList) := by cases f; cases c; rfl

theorem ren_cells (r : Env) (v : Value) : (ren r v).cells.toList = v.cells.toList.map (ren r) := by
  cases v <;> try rfl
  case pointer a => cases a <;> rfl
  case slice a l c => cases a <;> rfl
  case map a => cases a <;> rfl
  case agg a => cases a; simp [ren, Value.cells, renL_map]
theorem okV_cells {p : Nat → Bool} {v : Value} (h : okV p v = true) : okL p v.cells.toList = true := by
  cases v <;> try (simp [Value.cells, okL, h]; done)
  case agg a => cases a; simpa [Value.cells, okV] using h
theorem oneCell_ren (r : Env) (v : Value) : (ren r v).oneCell' = v.oneCell' := by
  cases v <;> try rfl
  case pointer a => cases a <;> rfl
  case slice a l c => cases a <;> rfl
  case map a => cases a <;> rfl

/-! ### Blocks and heaps -/
structure Res where
  holds : (Nat → Prop) → Slot → World → Prop
  loc : ∀ {fp s w w'}, holds fp s w → (∀ x, fp x → w'.heap[x]? = w.heap[x]?) → holds fp s w'
  lt : ∀ {fp s w}, holds fp s w → ∀ x, fp x → x < w.heap.size

inductive Blk where
  | gone
  | cells (c : List Value) (e : TypeId)
  | row (s n : Nat) (f : Nat → List Value) (e : TypeId)
  | abs (R : Res)

abbrev Heap := List Blk
abbrev Foot := Nat → Nat → Prop

def Blk.holds (r : Env) (fp : Nat → Prop) (k : Nat) (w : World) : Blk → Prop
  | .gone => ∀ x, ¬ fp x
  | .cells c e => (∀ x, fp x ↔ x = (r k).b) ∧ (r k).s = 1 ∧ (r k).c = none ∧ w.heap[(r k).b]? = some (.cells (c.map (ren r)).toArray e (0, 0))
  | .row s n f e => (∀ x, fp x ↔ x = (r k).b) ∧ (r k).s = s ∧ ∃ (c : Array Value) (C : Nat), (r k).c = some C ∧ w.heap[(r k).b]? = some (.cells c e (0, 0)) ∧ c.size = C * s ∧ n ≤ C ∧
      ∀ i, i < n → (f i).length = s ∧ ∀ j v, (f i)[j]? = some v → c[i * s + j]? = some (ren r v)
  | .abs R => R.holds fp (r k) w

def okB (p : Nat → Bool) : Blk → Prop
  | .gone => True
  | .cells c _ => okL p c = true
  | .row _ _ f _ => ∀ i, okL (fun _ => false) (f i) = true ∧ (f i).all Value.oneCell' = true
  | .abs _ => True

theorem okB_mono {p q : Nat → Bool} (h : ∀ k, p k = true → q k = true) : ∀ B : Blk, okB p B → okB q B
  | .gone, _ => trivial
  | .cells c _, hb => okL_mono h c hb
  | .row _ _ _ _, hb => hb
  | .abs _, _ => trivial

def Sat (r : Env) (F : Foot) (H : Heap) (w : World) : Prop :=
  (∀ (k : Nat) (B : Blk), H[k]? = some B → B.holds r (F k) k w) ∧ (∀ i j x, i < H.length → j < H.length → F i x → F j x → i = j)

def below (n : Nat) : Nat → Bool := fun k => decide (k < n)
theorem below_iff {n k : Nat} : below n k = true ↔ k < n := by simp [below]

theorem holds_lt {r : Env} {fp : Nat → Prop} {k : Nat} {w : World} {B : Blk} (h : B.holds r fp k w) {x : Nat} (hx : fp x) : x < w.heap.size := by
  cases B with
  | gone => exact (h x hx).elim
  | cells c e =>
    obtain ⟨h1, _, _, h2⟩ := h
    have := (h1 x).1 hx
    subst this
    exact (Array.getElem?_eq_some_iff.1 h2).1
  | row s n f e =>
    obtain ⟨h1, _, c, C, _, h2, _⟩ := h
    have := (h1 x).1 hx
    subst this
    exact (Array.getElem?_eq_some_iff.1 h2).1
  | abs R => exact R.lt h x hx

theorem holds_move {p : Nat → Bool} {r r' : Env} {fp : Nat → Prop} {k : Nat} {w w' : World} {B : Blk} (h : B.holds r fp k w) (hp : okB p B) (hk : r' k = r k)
    (hr : ∀ i, p i = true → r i = r' i) (hw : ∀ x, fp x → w'.heap[x]? = w.heap[x]?) : B.holds r' fp k w' := by
  cases B with
  | gone => exact h
  | cells c e =>
    obtain ⟨h1, h2, h3, h4⟩ := h
    refine ⟨by rw [hk]; exact h1, by rw [hk]; exact h2, by rw [hk]; exact h3, ?_⟩
    have hm : c.map (ren r') = c.map (ren r) := by
      rw [← renL_map, ← renL_map]; exact (renL_congr hr c hp).symm
    rw [hk, hw _ ((h1 _).2 rfl), h4, hm]
  | row s n f e =>
    obtain ⟨h1, h0, c, C, h2, h3, h4, h5, h6⟩ := h
    refine ⟨by rw [hk]; exact h1, by rw [hk]; exact h0, c, C, by rw [hk]; exact h2, by rw [hk, hw _ ((h1 _).2 rfl)]; exact h3, h4, h5, fun i hi => ?_⟩
    refine ⟨(h6 i hi).1, fun j v hj => ?_⟩
    rw [(h6 i hi).2 j v hj, ren_congr (fun k hk => by cases hk) v (okL_iff.1 (hp i).1 v (List.mem_of_getElem? hj))]
  | abs R =>
    have : R.holds fp (r' k) w' := by rw [hk]; exact R.loc h hw
    exact this

structure Tr (r : Env) (F : Foot) (n : Nat) (w : World) (r' : Env) (F' : Foot) (n' : Nat) (w' : World) : Prop where
  env : ∀ k, k < n → r' k = r k
  len : n ≤ n'
  size : w.heap.size ≤ w'.heap.size
  keep : ∀ x, x < w.heap.size → (∀ k, k < n → ¬ F k x) → w'.heap[x]? = w.heap[x]?
  fresh : ∀ k x, k < n' → F' k x → w.heap.size ≤ x ∨ ∃ j, j < n ∧ F j x
  os : w'.os = w.os
  tape : w'.tape = w.tape
  output : w'.output = w.output

theorem Tr.refl (r : Env) (F : Foot) (n : Nat) (w : World) : Tr r F n w r F n w :=
  ⟨fun _ _ => rfl, Nat.le_refl _, Nat.le_refl _, fun _ _ _ => rfl, fun k _ hk hx => .inr ⟨k, hk, hx⟩, rfl, rfl, rfl⟩

theorem Tr.trans {r r1 r2 : Env} {F F1 F2 : Foot} {n n1 n2 : Nat} {w w1 w2 : World} (h : Tr r F n w r1 F1 n1 w1) (h' : Tr r1 F1 n1 w1 r2 F2 n2 w2) :
    Tr r F n w r2 F2 n2 w2 where
  env k hk := by rw [h'.env k (Nat.lt_of_lt_of_le hk h.len), h.env k hk]
  len := Nat.le_trans h.len h'.len
  size := Nat.le_trans h.size h'.size
  keep x hx hn := by
    rw [h'.keep x (Nat.lt_of_lt_of_le hx h.size) ?_, h.keep x hx hn]
    intro k hk hF
    rcases h.fresh k x hk hF with h1 | ⟨j, hj, hF'⟩
    · omega
    · exact hn j hj hF'
  fresh k x hk hF := by
    rcases h'.fresh k x hk hF with h1 | ⟨j, hj, hF'⟩
    · exact .inl (Nat.le_trans h.size h1)
    · exact h.fresh j x hj hF'
  os := h'.os.trans h.os
  tape := h'.tape.trans h.tape
  output := h'.output.trans h.output

theorem Tr.drew (r : Env) (F : Foot) (n : Nat) (w : World) : Tr r F n w r F n { w with drawn := w.drawn + 1 } :=
  ⟨fun _ _ => rfl, Nat.le_refl _, Nat.le_refl _, fun _ _ _ => rfl, fun k _ hk hx => .inr ⟨k, hk, hx⟩, rfl, rfl, rfl⟩

theorem Sat.heapEq {r : Env} {F : Foot} {H : Heap} {w w' : World} (h : Sat r F H w) (hw : w'.heap = w.heap) : Sat r F H w' := by
  refine ⟨fun k B hk => ?_, h.2⟩
  have := h.1 k B hk
  cases B with
  | gone => exact this
  | cells c e => simpa only [Blk.holds, hw] using this
  | row s n f e => simpa only [Blk.holds, hw] using this
  | abs R => exact R.loc this (fun x _ => by rw [hw])

theorem Sat.lt {r : Env} {F : Foot} {H : Heap} {w : World} (h : Sat r F H w) {k x : Nat} (hk : k < H.length) (hx : F k x) : x < w.heap.size :=
  holds_lt (h.1 k _ (List.getElem?_eq_getElem hk)) hx

/-! ### Frames -/
def restrict (p : Nat → Bool) (H : Heap) : Heap := H.mapIdx fun k B => bif p k then B else .gone
def restrictF (p : Nat → Bool) (F : Foot) : Foot := fun k x => p k = true ∧ F k x
/-- what stands behind: inside p and beyond the old end the new one, else the old one -/
def merge (p : Nat → Bool) (H H' : Heap) : Heap := H'.mapIdx fun k B => bif p k then B else (H[k]?).getD B
def mergeF (p : Nat → Bool) (n : Nat) (F F' : Foot) : Foot := fun k x => if k < n ∧ p k = false then F k x else F' k x

theorem restrict_get (p : Nat → Bool) (H : Heap) (k : Nat) : (restrict p H)[k]? = (H[k]?).map fun B => bif p k then B else .gone := by
  simp [restrict, List.getElem?_mapIdx]
theorem restrict_length (p : Nat → Bool) (H : Heap) : (restrict p H).length = H.length := by simp [restrict]
theorem merge_get (p : Nat → Bool) (H H' : Heap) (k : Nat) : (merge p H H')[k]? = (H'[k]?).map fun B => bif p k then B else (H[k]?).getD B := by
  simp [merge, List.getElem?_mapIdx]
theorem merge_length (p : Nat → Bool) (H H' : Heap) : (merge p H H').length = H'.length := by simp [merge]

theorem Sat.restrict {r : Env} {F : Foot} {H : Heap} {w : World} (h : Sat r F H w) (p : Nat → Bool) : Sat r (restrictF p F) (restrict p H) w := by
  refine ⟨fun k B hk => ?_, fun i j x hi hj hx hy => h.2 i j x (by simpa [restrict_length] using hi) (by simpa [restrict_length] using hj) hx.2 hy.2⟩
  rw [restrict_get] at hk
  cases hH : H[k]? with
  | none => simp [hH] at hk
  | some B0 =>
    simp only [hH, Option.map_some, Option.some.injEq] at hk
    cases hp : p k with
    | false => rw [hp] at hk; subst hk; intro x hx; simp [restrictF, hp] at hx
    | true =>
      rw [hp] at hk; simp only [cond_true] at hk; subst hk
      have hb := h.1 k _ hH
      have hF : restrictF p F k = F k := by funext x; simp [restrictF, hp]
      rw [hF]; exact hb

theorem frame {r r' : Env} {F F' : Foot} {H H' : Heap} {w w' : World} {p : Nat → Bool} (h : Sat r F H w) (hok : ∀ B ∈ H, okB (below H.length) B)
    (ht : Tr r (restrictF p F) H.length w r' F' H'.length w') (h' : Sat r' F' H' w') :
    Sat r' (mergeF p H.length F F') (merge p H H') w' ∧ Tr r F H.length w r' (mergeF p H.length F F') (merge p H H').length w' := by
  have hold : ∀ (k : Nat) (B : Blk), H[k]? = some B → p k = false → B.holds r' (F k) k w' := by
    intro k B hk hp
    have hkl : k < H.length := (List.getElem?_eq_some_iff.1 hk).1
    refine holds_move (h.1 k B hk) (hok B (List.mem_of_getElem? hk)) (ht.env k hkl) (fun i hi => (ht.env i (below_iff.1 hi)).symm) ?_
    intro x hx
    refine ht.keep x (h.lt hkl hx) ?_
    rintro j hj ⟨hpj, hFj⟩
    have := h.2 j k x hj hkl hFj hx
    subst this
    rw [hp] at hpj; cases hpj
  refine ⟨⟨fun k B hk => ?_, fun i j x hi hj hx hy => ?_⟩, ?_⟩
  · rw [merge_get] at hk
    cases hH' : H'[k]? with
    | none => simp [hH'] at hk
    | some B' =>
      simp only [hH', Option.map_some, Option.some.injEq] at hk
      cases hp : p k with
      | true =>
        rw [hp] at hk; simp only [cond_true] at hk; subst hk
        have hF : mergeF p H.length F F' k = F' k := by funext x; simp [mergeF, hp]
        rw [hF]; exact h'.1 k _ hH'
      | false =>
        rw [hp] at hk; simp only [cond_false] at hk
        by_cases hkl : k < H.length
        · have hHk := List.getElem?_eq_getElem hkl
          rw [hHk, Option.getD_some] at hk
          subst hk
          have hF : mergeF p H.length F F' k = F k := by funext x; simp [mergeF, hp, hkl]
          rw [hF]; exact hold k _ hHk hp
        · rw [List.getElem?_eq_none (by omega), Option.getD_none] at hk
          subst hk
          have hF : mergeF p H.length F F' k = F' k := by funext x; simp [mergeF, hkl]
          rw [hF]; exact h'.1 k _ hH'
  · rw [merge_length] at hi hj
    have mixed : ∀ i j, i < H.length → p i = false → j < H'.length → F i x → F' j x → False := by
      intro i j hil hpi hj hx hy
      rcases ht.fresh j x hj hy with h1 | ⟨m, hm, hpm, hFm⟩
      · have := h.lt hil hx; omega
      · have := h.2 i m x hil hm hx hFm
        subst this
        rw [hpi] at hpm; cases hpm
    simp only [mergeF] at hx hy
    split at hx
    · rename_i hi'
      split at hy
      · rename_i hj'; exact h.2 i j x hi'.1 hj'.1 hx hy
      · exact (mixed i j hi'.1 hi'.2 hj hx hy).elim
    · split at hy
      · rename_i hj'; exact (mixed j i hj'.1 hj'.2 hi hy hx).elim
      · exact h'.2 i j x hi hj hx hy
  · refine ⟨ht.env, by rw [merge_length]; exact ht.len, ht.size, fun x hx hn => ht.keep x hx (fun k hk hF => hn k hk hF.2), fun k x hk hF => ?_, ht.os, ht.tape, ht.output⟩
    rw [merge_length] at hk
    simp only [mergeF] at hF
    split at hF
    · rename_i hk'; exact .inr ⟨k, hk'.1, hF⟩
    · rcases ht.fresh k x hk hF with h1 | ⟨m, hm, _, hFm⟩
      · exact .inl h1
      · exact .inr ⟨m, hm, hFm⟩

/-- a block more, which is not there yet -/
theorem Sat.pad {r : Env} {F : Foot} {H : Heap} {w : World} (h : Sat r F H w) (n : Nat) :
    Sat r (fun k x => k < H.length ∧ F k x) (H ++ List.replicate n .gone) w := by
  refine ⟨fun k B hk => ?_, fun i j x _ _ hx hy => h.2 i j x hx.1 hy.1 hx.2 hy.2⟩
  by_cases hkl : k < H.length
  · rw [List.getElem?_append_left hkl] at hk
    have hF : (fun x => k < H.length ∧ F k x) = F k := by funext x; simp [hkl]
    show B.holds r (fun x => k < H.length ∧ F k x) k w
    rw [hF]; exact h.1 k B hk
  · rw [List.getElem?_append_right (by omega)] at hk
    have : B = .gone := (List.mem_replicate.1 (List.mem_of_getElem? hk)).2
    subst this
    intro x hx; exact hkl hx.1

/-- what is known of a block may be forgotten -/
theorem Sat.forget {r : Env} {F : Foot} {H : Heap} {w : World} (h : Sat r F H w) (n : Nat) : Sat r F (H.take n) w := by
  refine ⟨fun k B hk => ?_, fun i j x hi hj hx hy => h.2 i j x (by simp at hi; omega) (by simp at hj; omega) hx hy⟩
  refine h.1 k B ?_
  rw [List.getElem?_take] at hk
  split at hk
  · exact hk
  · cases hk

end Go.Vx
