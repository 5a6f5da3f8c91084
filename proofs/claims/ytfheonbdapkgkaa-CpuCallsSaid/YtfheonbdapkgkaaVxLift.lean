/- Contracts over the blocks that the arguments reach, used where there are more blocks; contracts that are known for some data. -/
import Derived.Test.YtfheonbdapkgkaaVxAuto
namespace Go.Vx
open Go

section
variable {m b : Nat → Nat} {p : Nat → Bool}
mutual
theorem mv_back (h : ∀ k, p k = true → m (b k) = k) : ∀ v : Value, okV p v = true → mv m (mv b v) = v
  | .pointer (some a), hv => by simp only [okV] at hv; simp [mv, h _ hv]
  | .slice (some a) l c, hv => by simp only [okV] at hv; simp [mv, h _ hv]
  | .map (some k), hv => by simp only [okV] at hv; simp [mv, h _ hv]
  | .func fn ⟨f⟩ ⟨c⟩, hv => by
    simp only [okV, Bool.and_eq_true] at hv
    simp [mv, mvL_back h f hv.1, mvL_back h c hv.2]
  | .iface t v, hv => by simp only [okV] at hv; simp [mv, mv_back h v hv]
  | .agg ⟨l⟩, hv => by simp only [okV] at hv; simp [mv, mvL_back h l hv]
  | .tuple ⟨l⟩, hv => by simp only [okV] at hv; simp [mv, mvL_back h l hv]
  | .pointer none, _ => rfl
  | .slice none _ _, _ => rfl
  | .map none, _ => rfl
  | .bool _, _ => rfl
  | .int _ _, _ => rfl
  | .float _ _, _ => rfl
  | .complex _ _ _, _ => rfl
  | .string _, _ => rfl
  | .chan _, _ => rfl
  | .nilFunc, _ => rfl
  | .nilIface, _ => rfl
theorem mvL_back (h : ∀ k, p k = true → m (b k) = k) : ∀ l : List Value, okL p l = true → mvL m (mvL b l) = l
  | [], _ => rfl
  | v :: l, hv => by
    simp only [okL, Bool.and_eq_true] at hv
    simp [mvL, mv_back h v hv.1, mvL_back h l hv.2]
end
theorem mvB_back (h : ∀ k, p k = true → m (b k) = k) (B : Blk) (hB : okBb p B = true) : mvB m (mvB b B) = B := by
  cases B with
  | cells c e => simp only [okBb] at hB; simp [mvB, mvL_back h c hB]
  | gone => rfl
  | row => rfl
  | abs => rfl
end

/-- the blocks hs, laid where they belong -/
def scat (m : Nat → Nat) : List Nat → Heap → Heap → Heap
  | [], hs, H => H ++ hs.map (mvB m)
  | k :: s, B :: hs, H => scat m s hs (setN H k (mvB m B))
  | _ :: _, [], H => H

theorem scat_length (m : Nat → Nat) : ∀ (s : List Nat) (hs H : Heap), (scat m s hs H).length = H.length + (hs.length - s.length)
  | [], hs, H => by simp [scat]
  | k :: s, B :: hs, H => by simp [scat, scat_length m s hs, setN_eq]
  | _ :: _, [], H => by simp [scat]

theorem scat_other (m : Nat → Nat) : ∀ (s : List Nat) (hs H : Heap) (j : Nat), j < H.length → j ∉ s → (scat m s hs H)[j]? = H[j]?
  | [], hs, H, j, hj, _ => by simp [scat, List.getElem?_append_left hj]
  | k :: s, B :: hs, H, j, hj, hn => by
    simp only [List.mem_cons, not_or] at hn
    rw [scat, scat_other m s hs _ j (by simpa [setN_eq] using hj) hn.2, setN_eq, List.getElem?_set_ne (Ne.symm hn.1)]
  | _ :: _, [], H, j, _, _ => by simp [scat]

theorem scat_get (m : Nat → Nat) : ∀ (s : List Nat) (hs H : Heap), s.Nodup → (∀ k ∈ s, k < H.length) → ∀ (i : Nat) (B : Blk), hs[i]? = some B →
    (scat m s hs H)[match nth s i with | some k => k | none => H.length + (i - s.length)]? = some (mvB m B)
  | [], hs, H, _, _, i, B, hi => by simp [scat, nth, List.getElem?_append_right, hi]
  | k :: s, B :: hs, H, hnd, hlt, i, B', hi => by
    rw [List.nodup_cons] at hnd
    cases i with
    | zero =>
      simp only [List.getElem?_cons_zero, Option.some.injEq] at hi
      subst hi
      have hk := hlt k (by simp)
      rw [scat]
      show (scat m s hs _)[k]? = _
      rw [scat_other m s hs _ k (by simpa [setN_eq] using hk) hnd.1, setN_eq]
      simp [hk]
    | succ i =>
      have := scat_get m s hs (setN H k (mvB m B)) hnd.2 (fun j hj => by simpa [setN_eq] using hlt j (by simp [hj])) i B' (by simpa using hi)
      rw [scat]
      simp only [nth, List.length_cons, Nat.add_sub_add_right] at this ⊢
      rw [show (setN H k (mvB m B)).length = H.length by simp [setN_eq]] at this
      exact this
  | _ :: _, [], H, _, _, i, B, hi => by simp at hi

theorem mem_mem {k : Nat} {l : List Nat} : mem k l = true ↔ k ∈ l := mem_iff

def upR (m : Nat → Nat) (s : List Nat) (H : Heap) : CR → CR
  | .ret v none => .ret (mv m v) none
  | .ret v (some h) => .ret (mv m v) (some (scat m s h H))
  | .pan v none => .pan (mv m v) none
  | .pan v (some h) => .pan (mv m v) (some (scat m s h H))
def up (m : Nat → Nat) (s : List Nat) (H : Heap) : CT → CT
  | .leaf r => .leaf (upR m s H r)
  | .br b x y => .br b (up m s H x) (up m s H y)
  | .fail => .fail
theorem up_run (m : Nat → Nat) (s : List Nat) (H : Heap) : ∀ c : CT, (up m s H c).run = c.run.map (upR m s H)
  | .leaf r => rfl
  | .br b x y => by cases b <;> simp [up, CT.run, up_run m s H x, up_run m s H y]
  | .fail => rfl

/-- a contract over the blocks that the arguments reach -/
def liftC (c : List Value → Heap → CT) (args : List Value) (H : Heap) : CT :=
  (fun s : List Nat => cond (nodupB s && okL (fun k => mem k s) args && okKs (fun k => mem k s) H s)
    (match pickH (fun k => idx k s) H s with
     | some L => up (toBig s H.length) s H (c (mvL (fun k => idx k s) args) L)
     | none => .fail) .fail) (reachN H 6 (addAll (idsL args) []))

def liftT (G : Table) : Table := fun f args H => liftC (G f) args H

theorem toBig_idx {s : List Nat} {n k : Nat} (h : mem k s = true) : toBig s n (idx k s) = k := by
  have h1 := idx_get (mem_iff.1 h)
  have h2 := toBig_lt (n := n) (List.getElem?_eq_some_iff.1 h1).1
  rw [h1] at h2
  exact (Option.some.inj h2).symm

theorem liftT_ok {P : Program} {G : Table} (hG : TableOK P G) : TableOK P (liftT G) := by
  intro f args H c' hc hH hargs
  unfold liftT liftC at hc
  generalize reachN H 6 (addAll (idsL args) []) = s at hc
  simp only at hc
  cases hcond : (nodupB s && okL (fun k => mem k s) args && okKs (fun k => mem k s) H s) with
  | false => rw [hcond] at hc; cases hc
  | true =>
    rw [hcond] at hc
    simp only [cond_true] at hc
    simp only [Bool.and_eq_true] at hcond
    obtain ⟨⟨hnd, ha⟩, hks⟩ := hcond
    split at hc
    rotate_left
    · cases hc
    rename_i L hL
    rw [up_run, Option.map_eq_some_iff] at hc
    obtain ⟨x, hx, rfl⟩ := hc
    have hnd' := nodup_of hnd
    obtain ⟨hlen, hget⟩ := pickH_get hL
    have hlt : ∀ k ∈ s, k < H.length := fun k hk => by
      obtain ⟨B, hB, _⟩ := okKs_get hks k hk
      exact (List.getElem?_eq_some_iff.1 hB).1
    have eargs : mvL (toBig s H.length) (mvL (fun k => idx k s) args) = args := mvL_back (fun k hk => toBig_idx hk) args ha
    have hin : ∀ i B, L[i]? = some B → H[toBig s H.length i]? = some (mvB (toBig s H.length) B) := by
      intro i B hi
      have hil : i < s.length := by rw [← hlen]; exact (List.getElem?_eq_some_iff.1 hi).1
      have h1 := toBig_lt (n := H.length) hil
      obtain ⟨B1, hB1, hB2⟩ := hget i _ h1
      rw [hi] at hB2
      obtain rfl := Option.some.inj hB2
      obtain ⟨B3, hB3, hok⟩ := okKs_get hks _ (List.mem_of_getElem? h1)
      rw [hB1] at hB3
      obtain rfl := Option.some.inj hB3
      rw [mvB_back (fun k hk => toBig_idx hk) B1 hok, hB1]
    have hsg : ∀ (hs : Heap) (i : Nat) (B : Blk), hs[i]? = some B → (scat (toBig s H.length) s hs H)[toBig s H.length i]? = some (mvB (toBig s H.length) B) :=
      fun hs i B hi => scat_get (toBig s H.length) s hs H hnd' hlt i B hi
    have hsmall := hG f (mvL (fun k => idx k s) args) L x hx
    have fin : ∀ H', H'.length = H.length + ((x.heap L).length - L.length) → (∀ i B, (x.heap L)[i]? = some B → H'[toBig s H.length i]? = some (mvB (toBig s H.length) B)) →
        (∀ j, j < H.length → j ∉ s → H'[j]? = H[j]?) → (upR (toBig s H.length) s H x).heap H = H' →
        CallsOK P f args H (upR (toBig s H.length) s H x) ∧ (upR (toBig s H.length) s H x).ok H := by
      intro H' h1 h2 h3 h4
      have := CallsOK.lift (c := x) hsmall (hlen.symm) hnd' hlt hin h1 h2 h3 (c' := upR (toBig s H.length) s H x) h4
        (by intro r e he; rcases x with ⟨v, _ | h⟩ | ⟨v, _ | h⟩ <;> simp only [upR, CR.ends, ren_mv] at he ⊢ <;> exact he)
        (by rcases x with ⟨v, _ | h⟩ | ⟨v, _ | h⟩ <;> rfl) hH (by rw [eargs]; exact hargs)
      rwa [eargs] at this
    rcases x with ⟨v, _ | h⟩ | ⟨v, _ | h⟩
    · exact fin H (by simp [CR.heap]) (fun i B hi => hin i B hi) (fun _ _ _ => rfl) rfl
    · exact fin (scat (toBig s H.length) s h H) (by rw [scat_length, hlen]; rfl) (fun i B hi => hsg h i B hi) (fun j hj hn => scat_other _ s h H j hj hn) rfl
    · exact fin H (by simp [CR.heap]) (fun i B hi => hin i B hi) (fun _ _ _ => rfl) rfl
    · exact fin (scat (toBig s H.length) s h H) (by rw [scat_length, hlen]; rfl) (fun i B hi => hsg h i B hi) (fun j hj hn => scat_other _ s h H j hj hn) rfl

/-! ### Contracts that are known for some data -/
/-- a block that is written down in full -/
inductive LB where
  | gone
  | cells (c : List Value) (e : TypeId)
  | row (s : Nat) (l : List (List Value)) (e : TypeId)

def LB.blk : LB → Blk
  | .gone => .gone
  | .cells c e => .cells c e
  | .row s l e => .row s l.length (fun i => (nth l i).getD []) e

def LB.ok (n : Nat) : LB → Bool
  | .gone => true
  | .cells c _ => okL (below n) c
  | .row _ l _ => l.all fun c => okL (fun _ => false) c && c.all Value.oneCell'

theorem LB.ok_blk {n : Nat} {B : LB} (h : B.ok n = true) : okB (below n) B.blk := by
  cases B with
  | gone => trivial
  | cells c e => exact h
  | row s l e =>
    intro i
    simp only [LB.ok, List.all_eq_true, Bool.and_eq_true] at h
    simp only [nth_eq]
    cases hi : l[i]? with
    | none => exact ⟨rfl, rfl⟩
    | some c =>
      have := h c (List.mem_of_getElem? hi)
      exact ⟨this.1, by rw [Option.getD_some, List.all_eq_true]; exact this.2⟩

structure Memo where
  f : FuncId
  args : List Value
  L : List LB
  v : Value
  h : List LB

def lits (L : List LB) : Heap := L.map LB.blk

def Memo.c (x : Memo) (args : List Value) (H : Heap) : CT := cond (eqvL x.args args && sameH (lits x.L) H) (.leaf (.ret x.v (some (lits x.h)))) .fail

def Memo.good (x : Memo) : Bool := okV (below x.h.length) x.v && x.h.all (LB.ok x.h.length) && Nat.ble x.L.length x.h.length && x.L.all (LB.ok x.L.length)
def Memo.is (x : Memo) : RR → Bool
  | some (.ret v h) => eqv x.v v && sameH (lits x.h) h
  | _ => false

def Memo.OK (P : Program) (x : Memo) : Prop := ∀ args H c, (x.c args H).run = some c → okH H → okL (below H.length) args = true → CallsOK P x.f args H c ∧ c.ok H

theorem Memo.ok {P : Program} {G : Table} (hG : TableOK P G) (hm : P.follows .mixedOrders = true) {N : Nat} (x : Memo) {fn : Func} (hf : P.funcs[x.f]? = some fn)
    (hg : x.good = true) (hr : x.is (runBody strict P G N fn x.args (lits x.L) (ksAuto x.L.length)) = true) : x.OK P := by
  intro args H c hc hH ha
  unfold Memo.c at hc
  cases hs : (eqvL x.args args && sameH (lits x.L) H) with
  | false => rw [hs] at hc; cases hc
  | true =>
    rw [hs] at hc
    simp only [cond_true, CT.run, Option.some.injEq] at hc
    subst hc
    simp only [Bool.and_eq_true] at hs
    obtain ⟨h1, h2⟩ := hs
    obtain rfl := eqvL_eq _ _ h1
    have hl : (lits x.L).length = H.length := (sameH_get h2).1
    simp only [Memo.good, Bool.and_eq_true, List.all_eq_true, Nat.ble_eq] at hg
    obtain ⟨⟨⟨g1, g2⟩, g3⟩, g4⟩ := hg
    have hlL : (lits x.L).length = x.L.length := by simp [lits]
    have hlh : (lits x.h).length = x.h.length := by simp [lits]
    have hHL : okH (lits x.L) := by
      intro B hB
      simp only [lits, List.mem_map] at hB
      obtain ⟨C, hC, rfl⟩ := hB
      rw [hlL]; exact LB.ok_blk (g4 C hC)
    have hHh : okH (lits x.h) := by
      intro B hB
      simp only [lits, List.mem_map] at hB
      obtain ⟨C, hC, rfl⟩ := hB
      rw [hlh]; exact LB.ok_blk (g2 C hC)
    rw [strict_eq] at hr
    have haL : okL (below (lits x.L).length) x.args = true := by rw [hl]; exact ha
    unfold Memo.is at hr
    split at hr
    rotate_left
    · cases hr
    rename_i v h hrun
    simp only [Bool.and_eq_true] at hr
    obtain ⟨r1, r2⟩ := hr
    obtain rfl := eqv_eq _ _ r1
    obtain ⟨b1, _⟩ := body_sound hG hm hf hrun hHL haL
    have hlen : (lits x.h).length = h.length := (sameH_get r2).1
    refine ⟨fun r F w hS _ _ => ?_, hHh, ?_, ?_⟩
    · refine (b1 r F w (sat_same h2 hS) hHL haL).mono ?_
      rintro e w' ⟨r', F', ht, hS', hen⟩
      refine ⟨r', F', ?_, sat_same r2 hS', hen⟩
      have e1 : (Out.cr (.ret x.v h)).heap (lits x.L) = h := rfl
      rw [e1, hl, ← hlen] at ht
      exact ht
    · show H.length ≤ (lits x.h).length
      omega
    · show okV (below (lits x.h).length) x.v = true
      rw [hlh]; exact g1

def memos : List Memo → Table → Table
  | [], G => G
  | x :: l, G => fun f args H => cond (Nat.beq x.f f) (match x.c args H with | .fail => memos l G f args H | c => c) (memos l G f args H)

theorem memos_ok {P : Program} {G : Table} (hG : TableOK P G) : ∀ {l : List Memo}, (∀ x ∈ l, x.OK P) → TableOK P (memos l G)
  | [], _ => hG
  | x :: l, h => by
    intro f args H c hc hH ha
    have ih := memos_ok (l := l) hG fun y hy => h y (by simp [hy])
    unfold memos at hc
    cases hf : Nat.beq x.f f with
    | false => rw [hf] at hc; exact ih f args H c hc hH ha
    | true =>
      rw [hf] at hc
      obtain rfl := Nat.eq_of_beq_eq_true hf
      simp only [cond_true] at hc
      split at hc
      · exact ih _ args H c hc hH ha
      · exact h x (by simp) args H c hc hH ha
end Go.Vx
