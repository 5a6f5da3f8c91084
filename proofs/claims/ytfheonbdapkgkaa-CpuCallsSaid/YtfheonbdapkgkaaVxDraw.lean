/- A region that draws its order: whatever order is drawn, what stands behind is what the order of the text gives. -/
import Derived.Test.YtfheonbdapkgkaaVxTrace
namespace Go.Vx
open Go

/-! ### The waits -/
theorem waitsGo_keep : ∀ (l : List Oper) (acc : List (List Nat)) (i : Nat), i < acc.length → (waitsGo l acc)[i]? = acc[i]?
  | [], _, _, _ => rfl
  | o :: l, acc, i, h => by
    unfold waitsGo
    rw [waitsGo_keep l _ i (by simp; omega), List.getElem?_append_left h]

/-- the word of one -/
def waitOf (acc : List (List Nat)) (o : Oper) : List Nat := (o.after.toList.filter (Region.binds .any)).foldr (fun e l => (nth acc e.on).getD [] ++ l) []

theorem waitOf_mem {acc : List (List Nat)} {o : Oper} {x : Nat} (h : x ∈ waitOf acc o) : ∃ e ∈ o.after.toList, Region.binds .any e = true ∧ e.on < acc.length ∧ x ∈ (acc[e.on]?).getD [] := by
  unfold waitOf at h
  have : ∀ l : List Edge, x ∈ l.foldr (fun e l => (nth acc e.on).getD [] ++ l) [] → ∃ e ∈ l, e.on < acc.length ∧ x ∈ (acc[e.on]?).getD [] := by
    intro l
    induction l with
    | nil => intro h; cases h
    | cons e l ih =>
      intro h
      simp only [List.foldr_cons, List.mem_append] at h
      rcases h with h | h
      · rw [nth_eq] at h
        refine ⟨e, by simp, ?_, h⟩
        refine Nat.lt_of_not_le fun hle => ?_
        rw [List.getElem?_eq_none hle] at h
        cases h
      · obtain ⟨e', h1, h2⟩ := ih h
        exact ⟨e', by simp [h1], h2⟩
  obtain ⟨e, h1, h2, h3⟩ := this _ h
  obtain ⟨h4, h5⟩ := List.mem_filter.1 h1
  exact ⟨e, h4, h5, h2, h3⟩

theorem waitsGo_get : ∀ (l : List Oper) (acc : List (List Nat)) (m : Nat) (o : Oper), l[m]? = some o →
    ∃ acc', acc'.length = acc.length + m ∧ (∀ i, i < acc'.length → (waitsGo l acc)[i]? = acc'[i]?) ∧ (waitsGo l acc)[acc.length + m]? = some ((acc.length + m) :: waitOf acc' o)
  | [], _, _, _, h => by simp at h
  | o :: l, acc, 0, o', h => by
    simp only [List.getElem?_cons_zero, Option.some.injEq] at h
    subst h
    refine ⟨acc, rfl, fun i hi => ?_, ?_⟩
    · unfold waitsGo; rw [waitsGo_keep l _ i (by simp; omega), List.getElem?_append_left hi]
    · unfold waitsGo; rw [waitsGo_keep l _ _ (by simp)]; simp [waitOf]
  | o :: l, acc, m + 1, o', h => by
    simp only [List.getElem?_cons_succ] at h
    obtain ⟨acc', h1, h2, h3⟩ := waitsGo_get l (acc ++ [acc.length :: waitOf acc o]) m o' h
    have e : (acc ++ [acc.length :: waitOf acc o]).length = acc.length + 1 := by simp
    rw [e] at h1 h3
    refine ⟨acc', by omega, h2, ?_⟩
    rw [show acc.length + (m + 1) = acc.length + 1 + m by omega]
    exact h3

def W (ops : List Oper) (i : Nat) : List Nat := (nth (waits ops) i).getD []

theorem W_self {ops : List Oper} {i : Nat} (h : i < ops.length) : i ∈ W ops i := by
  obtain ⟨acc, _, _, h3⟩ := waitsGo_get ops [] i ops[i] (List.getElem?_eq_getElem h)
  simp only [List.length_nil, Nat.zero_add] at h3
  simp [W, nth_eq, waits, h3]

theorem W_spec {ops : List Oper} {i : Nat} {o : Oper} (h : ops[i]? = some o) {x : Nat} (hx : x ∈ W ops i) :
    x = i ∨ ∃ e ∈ o.after.toList, Region.binds .any e = true ∧ e.on < i ∧ x ∈ W ops e.on := by
  obtain ⟨acc, h1, h2, h3⟩ := waitsGo_get ops [] i o h
  simp only [List.length_nil, Nat.zero_add] at h1 h3
  simp only [W, nth_eq, waits, h3, Option.getD_some, List.mem_cons] at hx
  rcases hx with hx | hx
  · exact .inl hx
  · obtain ⟨e, e1, e2, e3, e4⟩ := waitOf_mem hx
    refine .inr ⟨e, e1, e2, by omega, ?_⟩
    simp only [W, nth_eq, waits]
    rw [h2 _ e3]; exact e4

theorem W_le {ops : List Oper} : ∀ (i : Nat), i < ops.length → ∀ x ∈ W ops i, x ≤ i := by
  intro i
  induction i using Nat.strongRecOn with
  | _ i ih =>
    intro hi x hx
    rcases W_spec (List.getElem?_eq_getElem hi) hx with rfl | ⟨e, _, _, he, hx⟩
    · exact Nat.le_refl _
    · have := ih e.on he (by omega) x hx; omega

/-- what is listed has what it waits for listed -/
theorem W_closed {ops : List Oper} {S : Nat → Bool} (hS : ∀ i o, ops[i]? = some o → S i = true → ∀ e ∈ o.after.toList, Region.binds .any e = true → S e.on = true) :
    ∀ (i : Nat), i < ops.length → S i = true → ∀ x ∈ W ops i, S x = true := by
  intro i
  induction i using Nat.strongRecOn with
  | _ i ih =>
    intro hi hSi x hx
    rcases W_spec (List.getElem?_eq_getElem hi) hx with rfl | ⟨e, e1, e2, he, hx⟩
    · exact hSi
    · exact ih e.on he (by omega) (hS i _ (List.getElem?_eq_getElem hi) hSi e e1 e2) x hx

theorem W_ready {ops : List Oper} {S : Nat → Bool} (hS : ∀ i o, ops[i]? = some o → S i = true → ∀ e ∈ o.after.toList, Region.binds .any e = true → S e.on = true) {i : Nat} {o : Oper} (ho : ops[i]? = some o)
    (hi : ∀ e ∈ o.after.toList, Region.binds .any e = true → S e.on = true) {x : Nat} (hx : x ∈ W ops i) : x = i ∨ S x = true := by
  have hil : i < ops.length := (List.getElem?_eq_some_iff.1 ho).1
  rcases W_spec ho hx with rfl | ⟨e, e1, e2, he, hx⟩
  · exact .inl rfl
  · exact .inr (W_closed hS e.on (by omega) (hi e e1 e2) x hx)

/-! ### What is told last -/
def last {α : Type} (S T : Nat → Bool) (val : Nat → α) (init : α) : Nat → α
  | 0 => init
  | i + 1 => if S i = true ∧ T i = true then val i else last S T val init i

theorem last_congr {α : Type} {S A T : Nat → Bool} {val : Nat → α} {init : α} {i : Nat} : ∀ {n : Nat}, i ≤ n → (∀ x, x < n → T x = true → A x = true → (S x = true ↔ x < i)) → (∀ x, S x = true → A x = true) →
    last S T val init n = last A T val init i := by
  have low : ∀ m, m ≤ i → (∀ x, x < i → T x = true → A x = true → S x = true) → (∀ x, S x = true → A x = true) → last S T val init m = last A T val init m := by
    intro m
    induction m with
    | zero => intros; rfl
    | succ m ih =>
      intro hm h1 h2
      simp only [last]
      rw [ih (by omega) h1 h2]
      by_cases hT : T m = true
      · by_cases hA : A m = true
        · rw [if_pos ⟨h1 m (by omega) hT hA, hT⟩, if_pos ⟨hA, hT⟩]
        · rw [if_neg (fun h => hA (h2 _ h.1)), if_neg (fun h => hA h.1)]
      · rw [if_neg (fun h => hT h.2), if_neg (fun h => hT h.2)]
  intro n
  induction n with
  | zero => intro hi h1 h2; rw [show i = 0 by omega]; rfl
  | succ n ih =>
    intro hi h1 h2
    rcases Nat.eq_or_lt_of_le hi with rfl | hlt
    · exact low _ (Nat.le_refl _) (fun x hx hT hA => (h1 x hx hT hA).2 hx) h2
    · simp only [last]
      rw [if_neg, ih (by omega) (fun x hx => h1 x (by omega)) h2]
      rintro ⟨hS, hT⟩
      have := (h1 n (by omega) hT (h2 _ hS)).1 hS
      omega

/-- one more -/
def ins (S : Nat → Bool) (i : Nat) : Nat → Bool := fun x => S x || Nat.beq x i
theorem ins_iff {S : Nat → Bool} {i x : Nat} : ins S i x = true ↔ S x = true ∨ x = i := by simp [ins]

theorem last_ins_no {α : Type} {S T : Nat → Bool} {val : Nat → α} {init : α} {i : Nat} (hT : T i = false) : ∀ n, last (ins S i) T val init n = last S T val init n
  | 0 => rfl
  | n + 1 => by
    simp only [last]
    rw [last_ins_no hT n]
    by_cases h : S n = true ∧ T n = true
    · rw [if_pos h, if_pos ⟨ins_iff.2 (.inl h.1), h.2⟩]
    · rw [if_neg h, if_neg]
      rintro ⟨h1, h2⟩
      rcases ins_iff.1 h1 with h1 | rfl
      · exact h ⟨h1, h2⟩
      · rw [hT] at h2; cases h2

theorem last_ins_yes {α : Type} {S T : Nat → Bool} {val : Nat → α} {init : α} {i : Nat} (hT : T i = true) : ∀ n, i < n → (∀ x, i < x → S x = true → T x = false) → last (ins S i) T val init n = val i
  | 0, h, _ => by omega
  | n + 1, h, h1 => by
    simp only [last]
    by_cases hn : n = i
    · subst hn; rw [if_pos ⟨ins_iff.2 (.inr rfl), hT⟩]
    · rw [if_neg, last_ins_yes hT n (by omega) h1]
      rintro ⟨h2, h3⟩
      rcases ins_iff.1 h2 with h2 | h2
      · rw [h1 n (by omega) h2] at h3; cases h3
      · exact hn h2

/-! ### The trace, by number -/
structure Draw (P : Program) (ops : List Oper) (pn : Option Pan) where
  sts : Nat → St
  ents : Nat → Ent
  step : ∀ i o, ops[i]? = some o → badJ (waits ops) (pn.map (·.1)) i = false → DStep P ops o (sts i) (ents i) (sts (i + 1))
  skip : ∀ i o, ops[i]? = some o → badJ (waits ops) (pn.map (·.1)) i = true → sts (i + 1) = sts i
  pan : ∀ i o v z, ops[i]? = some o → pn = some (i, v, z) → PStep P ops o (sts i) v z

theorem Trace.ge {P : Program} {ops : List Oper} {w : List (List Nat)} {i : Nat} {pn pn' : Option Pan} {l : List Oper} {s s' : St} {L : List (St × Ent)} (h : Trace P ops w i pn l s L pn' s') :
    (∀ p, pn = some p → pn' = some p) ∧ (pn = none → ∀ p, pn' = some p → i ≤ p.1) := by
  induction h with
  | nil i pn s => exact ⟨fun _ h => h, fun h p hp => by (rw [h] at hp; cases hp)⟩
  | cons _ _ _ ih => exact ⟨ih.1, fun h p hp => Nat.le_of_succ_le (ih.2 h p hp)⟩
  | skip _ _ ih => exact ⟨ih.1, fun h p hp => Nat.le_of_succ_le (ih.2 h p hp)⟩
  | pan _ _ ih =>
    refine ⟨fun p h => (by cases h), fun _ p hp => ?_⟩
    have := ih.1 _ rfl
    rw [this] at hp; cases hp; exact Nat.le_refl _

def stAt (L : List (St × Ent)) (s' : St) (m : Nat) : St := match L[m]? with | some x => x.1 | none => s'
def entAt (L : List (St × Ent)) (m : Nat) : Ent := match L[m]? with | some x => x.2 | none => ⟨[], false, 0, 0, []⟩

theorem stAt_succ (x : St × Ent) (L : List (St × Ent)) (s' : St) (m : Nat) : stAt (x :: L) s' (m + 1) = stAt L s' m := by simp [stAt]
theorem entAt_succ (x : St × Ent) (L : List (St × Ent)) (m : Nat) : entAt (x :: L) (m + 1) = entAt L m := by simp [entAt]

theorem Trace.start {P : Program} {ops : List Oper} {w : List (List Nat)} {i : Nat} {pn pn' : Option Pan} {l : List Oper} {s s' : St} {L : List (St × Ent)} (h : Trace P ops w i pn l s L pn' s') :
    stAt L s' 0 = s ∧ stAt L s' l.length = s' ∧ L.length = l.length := by
  induction h with
  | nil i pn s => exact ⟨rfl, rfl, rfl⟩
  | cons _ _ _ ih => exact ⟨rfl, by rw [List.length_cons, stAt_succ]; exact ih.2.1, by simp [ih.2.2]⟩
  | skip _ _ ih => exact ⟨rfl, by rw [List.length_cons, stAt_succ]; exact ih.2.1, by simp [ih.2.2]⟩
  | pan _ _ ih => exact ⟨rfl, by rw [List.length_cons, stAt_succ]; exact ih.2.1, by simp [ih.2.2]⟩

theorem blocked_some {w : List (List Nat)} {i : Nat} {p : Pan} : blocked w i (some p) = badJ w ((some p : Option Pan).map (·.1)) i := rfl

theorem Trace.at {P : Program} {ops : List Oper} {i : Nat} {pn pn' : Option Pan} {l : List Oper} {s s' : St} {L : List (St × Ent)} (h : Trace P ops (waits ops) i pn l s L pn' s')
    (hl : ∀ m o, l[m]? = some o → ops[i + m]? = some o) : ∀ m o, l[m]? = some o →
    (badJ (waits ops) (pn'.map (·.1)) (i + m) = false → DStep P ops o (stAt L s' m) (entAt L m) (stAt L s' (m + 1))) ∧
    (badJ (waits ops) (pn'.map (·.1)) (i + m) = true → stAt L s' (m + 1) = stAt L s' m) ∧
    (pn = none → ∀ v z, pn' = some (i + m, v, z) → PStep P ops o (stAt L s' m) v z) := by
  induction h with
  | nil => intro m o ho; simp at ho
  | @cons i pn pn' o l s s1 s' e L hb hd ht ih =>
    have hl' : ∀ m o, l[m]? = some o → ops[i + 1 + m]? = some o := fun m o h => by rw [show i + 1 + m = i + (m + 1) by omega]; exact hl (m + 1) o (by simpa using h)
    intro m o' ho
    cases m with
    | zero =>
      simp only [List.getElem?_cons_zero, Option.some.injEq] at ho
      subst ho
      have hil : i < ops.length := (List.getElem?_eq_some_iff.1 (hl 0 o rfl)).1
      have hbad : badJ (waits ops) (pn'.map (·.1)) (i + 0) = false := by
        cases pn with
        | some p =>
          have := ht.ge.1 p rfl
          subst this; exact hb
        | none =>
          cases pn' with
          | none => rfl
          | some p =>
            have hge := ht.ge.2 rfl p rfl
            show mem p.1 ((nth (waits ops) (i + 0)).getD []) = false
            rw [← Bool.not_eq_true, memB_iff]
            intro hm
            have := W_le i hil p.1 hm
            omega
      refine ⟨fun _ => ?_, fun h => (by rw [hbad] at h; cases h), fun hpn v z hz => ?_⟩
      · have e1 : stAt ((s, e) :: L) s' (0 + 1) = s1 := by rw [stAt_succ]; exact ht.start.1
        rw [e1]; exact hd
      · have hge := ht.ge.2 hpn _ hz
        dsimp only at hge
        omega
    | succ m =>
      obtain ⟨h1, h2, h3⟩ := ih hl' m o' (by simpa using ho)
      rw [show i + (m + 1) = i + 1 + m by omega]
      simp only [stAt_succ, entAt_succ]
      exact ⟨h1, h2, h3⟩
  | @skip i pn pn' o l s s' e L hb ht ih =>
    have hl' : ∀ m o, l[m]? = some o → ops[i + 1 + m]? = some o := fun m o h => by rw [show i + 1 + m = i + (m + 1) by omega]; exact hl (m + 1) o (by simpa using h)
    intro m o' ho
    cases m with
    | zero =>
      simp only [List.getElem?_cons_zero, Option.some.injEq] at ho
      subst ho
      cases pn with
      | none => cases hb
      | some p =>
        have := ht.ge.1 p rfl
        subst this
        refine ⟨fun h => ?_, fun _ => ?_, fun h => by cases h⟩
        · rw [← blocked_some] at h
          rw [show i + 0 = i from rfl, hb] at h; cases h
        · rw [stAt_succ]; exact ht.start.1
    | succ m =>
      obtain ⟨h1, h2, h3⟩ := ih hl' m o' (by simpa using ho)
      rw [show i + (m + 1) = i + 1 + m by omega]
      simp only [stAt_succ, entAt_succ]
      exact ⟨h1, h2, h3⟩
  | @pan i pn' o l s s' z v e L hp ht ih =>
    have hl' : ∀ m o, l[m]? = some o → ops[i + 1 + m]? = some o := fun m o h => by rw [show i + 1 + m = i + (m + 1) by omega]; exact hl (m + 1) o (by simpa using h)
    have hpn := ht.ge.1 _ rfl
    subst hpn
    intro m o' ho
    cases m with
    | zero =>
      simp only [List.getElem?_cons_zero, Option.some.injEq] at ho
      subst ho
      have hil : i < ops.length := (List.getElem?_eq_some_iff.1 (hl 0 o rfl)).1
      have hbad : badJ (waits ops) ((some (i, v, z) : Option Pan).map (·.1)) (i + 0) = true := memB_iff.2 (W_self hil)
      refine ⟨fun h => (by rw [hbad] at h; cases h), fun _ => ?_, fun _ v' z' hz => ?_⟩
      · rw [stAt_succ]; exact ht.start.1
      · cases hz; exact hp
    | succ m =>
      obtain ⟨h1, h2, h3⟩ := ih hl' m o' (by simpa using ho)
      rw [show i + (m + 1) = i + 1 + m by omega]
      simp only [stAt_succ, entAt_succ]
      refine ⟨h1, h2, fun _ v' z' hz => ?_⟩
      have := congrArg (fun p : Option Pan => p.map (·.1)) hz
      simp only [Option.map_some, Option.some.injEq] at this
      omega

theorem Trace.lt {P : Program} {ops : List Oper} {w : List (List Nat)} {i : Nat} {pn pn' : Option Pan} {l : List Oper} {s s' : St} {L : List (St × Ent)} (h : Trace P ops w i pn l s L pn' s') :
    pn = none → ∀ p, pn' = some p → p.1 < i + l.length := by
  induction h with
  | nil i pn s => exact fun h p hp => by (rw [h] at hp; cases hp)
  | cons _ _ _ ih => exact fun h p hp => by (have := ih h p hp; rw [List.length_cons]; omega)
  | skip hb _ ih => exact fun h p hp => by (have := ih h p hp; rw [List.length_cons]; omega)
  | pan _ ht ih =>
    intro _ p hp
    have := ht.ge.1 _ rfl
    rw [this] at hp; cases hp
    simp

def Trace.draw {P : Program} {ops : List Oper} {s s' : St} {L : List (St × Ent)} {pn : Option Pan} (h : Trace P ops (waits ops) 0 none ops s L pn s') : Draw P ops pn where
  sts := stAt L s'
  ents := entAt L
  step i o ho hb := (h.at (fun m o h => by simpa using h) i o ho).1 (by simpa using hb)
  skip i o ho hb := (h.at (fun m o h => by simpa using h) i o ho).2.1 (by simpa using hb)
  pan i o v z ho hp := (h.at (fun m o h => by simpa using h) i o ho).2.2 rfl v z (by simpa using hp)
end Go.Vx

/- Whatever order is drawn: the invariant, one step, the whole region. -/
namespace Go.Vx
open Go

theorem free_spec {ops : List Oper} {x y : Oper} {a b : Ent} (h : free ops x y a b = true) :
    (∀ d, x.dst = some d → d ∉ looks ops y) ∧ (∀ d, x.dst = some d → y.dst ≠ some d) ∧ (∀ d, y.dst = some d → d ∉ looks ops x) ∧
    (∀ k, (a.wr = true ∨ b.wr = true) → k ∈ a.fp → k ∈ b.fp → False) := by
  simp only [free, Bool.and_eq_true] at h
  obtain ⟨⟨h1, h2⟩, h3⟩ := h
  refine ⟨fun d hd => ?_, fun d hd he => ?_, fun d hd => ?_, fun k hw ha hb => ?_⟩
  · simp only [hd, Bool.and_eq_true, Bool.not_eq_true'] at h1
    have := h1.1
    rw [← Bool.not_eq_true, memB_iff] at this
    exact this
  · simp [hd, he] at h1
  · simp only [hd, Bool.not_eq_true'] at h2
    rw [← Bool.not_eq_true, memB_iff] at h2
    exact h2
  · simp only [Bool.not_eq_true', Bool.and_eq_false_iff, Bool.or_eq_false_iff] at h3
    rcases h3 with h3 | h3
    · rcases hw with hw | hw
      · rw [h3.1] at hw; cases hw
      · rw [h3.2] at hw; cases hw
    · have : meets a.fp b.fp = true := List.any_eq_true.2 ⟨k, ha, memB_iff.2 hb⟩
      rw [h3] at this; cases this

theorem wanted_congr {ops : List Oper} {o : Oper} {t1 t2 : Array Value} (h : ∀ d ∈ looks ops o, t1[d]? = t2[d]?) :
    Region.wanted o (yielded ops.toArray t1) = Region.wanted o (yielded ops.toArray t2) := by
  unfold Region.wanted
  cases hg : o.guard with
  | none => rfl
  | some gw =>
    obtain ⟨g, want⟩ := gw
    have hy : yielded ops.toArray t1 g = yielded ops.toArray t2 g := by
      unfold yielded
      rw [List.getElem?_toArray]
      cases hog : ops[g]? with
      | none => rfl
      | some og =>
        cases hd : og.dst with
        | none => simp [hd]
        | some d =>
          have := h d (by simp [looks, hg, nth_eq, hog, hd])
          simp [hd, this]
    simp only [hy]

section
variable {P : Program} {ops : List Oper} {pn : Option Pan}

def bad (ops : List Oper) (pn : Option Pan) (i : Nat) : Bool := badJ (waits ops) (pn.map (·.1)) i
def good (ops : List Oper) (pn : Option Pan) (i : Nat) : Bool := !bad ops pn i

namespace Draw
def len (D : Draw P ops pn) (i : Nat) : Nat := (D.sts i).h.length
def touch (D : Draw P ops pn) (k i : Nat) : Bool :=
  ((D.ents i).wr && mem k (D.ents i).fp && Nat.blt k (D.ents i).lo) || (Nat.ble (D.ents i).lo k && Nat.blt k (D.ents i).hi)
def hs (D : Draw P ops pn) (S : Nat → Bool) (n k : Nat) : Blk :=
  last S (D.touch k) (fun i => ((D.sts (i + 1)).h[k]?).getD .gone) (((D.sts 0).h[k]?).getD .gone) n
def puts (ops : List Oper) (d i : Nat) : Bool := match ops[i]? with | some o => decide (o.dst = some d) | none => false
def ts (D : Draw P ops pn) (S : Nat → Bool) (n d : Nat) : Value :=
  last S (puts ops d) (fun i => ((D.sts (i + 1)).t[d]?).getD undef) (((D.sts 0).t[d]?).getD undef) n

theorem touch_iff (D : Draw P ops pn) {k i : Nat} : D.touch k i = true ↔ ((D.ents i).wr = true ∧ k ∈ (D.ents i).fp ∧ k < (D.ents i).lo) ∨ ((D.ents i).lo ≤ k ∧ k < (D.ents i).hi) := by
  simp [touch, memB_iff, and_assoc]
theorem puts_iff {d i : Nat} : puts ops d i = true ↔ ∃ o, ops[i]? = some o ∧ o.dst = some d := by
  unfold puts
  cases h : ops[i]? with
  | none => simp
  | some o => simp

theorem len_le (D : Draw P ops pn) {i : Nat} (hi : i < ops.length) : D.len i ≤ D.len (i + 1) := by
  have ho := List.getElem?_eq_getElem hi
  cases hb : badJ (waits ops) (pn.map (·.1)) i with
  | true => unfold len; rw [D.skip i _ ho hb]; exact Nat.le_refl _
  | false =>
    have hd := D.step i _ ho hb
    have := hd.le
    rw [hd.lo, hd.hi] at this
    exact this
theorem len_mono (D : Draw P ops pn) {i j : Nat} (hij : i ≤ j) (hj : j ≤ ops.length) : D.len i ≤ D.len j := by
  induction j with
  | zero => rw [show i = 0 by omega]; exact Nat.le_refl _
  | succ j ih =>
    rcases Nat.eq_or_lt_of_le hij with rfl | hlt
    · exact Nat.le_refl _
    · exact Nat.le_trans (ih (by omega) (by omega)) (D.len_le (by omega))

theorem tlen (D : Draw P ops pn) : ∀ i, i ≤ ops.length → (D.sts i).t.length = (D.sts 0).t.length := by
  intro i
  induction i with
  | zero => intro _; rfl
  | succ i ih =>
    intro hi
    have ho := List.getElem?_eq_getElem (show i < ops.length by omega)
    cases hb : badJ (waits ops) (pn.map (·.1)) i with
    | true => rw [D.skip i _ ho hb]; exact ih (by omega)
    | false =>
      obtain ⟨v, hv, _⟩ := (D.step i _ ho hb).step
      rw [hv, ← ih (by omega)]
      cases (ops[i]).dst with
      | none => rfl
      | some d => simp [putT, setN_eq]

theorem hs_full (D : Draw P ops pn) : ∀ i, i ≤ ops.length → ∀ k, k < D.len i → (D.sts i).h[k]? = some (D.hs (good ops pn) i k) := by
  intro i
  induction i with
  | zero =>
    intro _ k hk
    have := List.getElem?_eq_getElem hk
    simp only [hs, last, this, Option.getD_some]
  | succ i ih =>
    intro hi k hk
    have ho := List.getElem?_eq_getElem (show i < ops.length by omega)
    have hget := List.getElem?_eq_getElem hk
    cases hb : badJ (waits ops) (pn.map (·.1)) i with
    | true =>
      have hsk := D.skip i _ ho hb
      have hg : good ops pn i = false := by simp [good, bad, hb]
      rw [hsk]
      have hk' : k < D.len i := by unfold len at hk ⊢; rwa [hsk] at hk
      rw [ih (by omega) k hk']
      simp only [hs, last]
      rw [if_neg (by rw [hg]; simp)]
    | false =>
      have hd := D.step i _ ho hb
      have hg : good ops pn i = true := by simp [good, bad, hb]
      simp only [hs, last]
      by_cases ht : D.touch k i = true
      · rw [if_pos ⟨hg, ht⟩, hget]; rfl
      · rw [if_neg (fun h => ht h.2)]
        have hk2 : k < (D.ents i).hi := by rw [hd.hi]; exact hk
        have hklo : k < (D.ents i).lo := by
          refine Nat.lt_of_not_le fun h => ht ((D.touch_iff).2 (.inr ⟨h, hk2⟩))
        rw [hd.same k hklo (fun ⟨h1, h2⟩ => ht ((D.touch_iff).2 (.inl ⟨h1, memB_iff.1 h2, hklo⟩)))]
        exact ih (by omega) k (by rw [hd.lo] at hklo; exact hklo)

theorem ts_full (D : Draw P ops pn) : ∀ i, i ≤ ops.length → ∀ d, d < (D.sts 0).t.length → (D.sts i).t[d]? = some (D.ts (good ops pn) i d) := by
  intro i
  induction i with
  | zero =>
    intro _ d hk
    have := List.getElem?_eq_getElem hk
    simp only [ts, last, this, Option.getD_some]
  | succ i ih =>
    intro hi d hk
    have ho := List.getElem?_eq_getElem (show i < ops.length by omega)
    have hget := List.getElem?_eq_getElem (show d < (D.sts (i + 1)).t.length by rw [D.tlen _ hi]; exact hk)
    cases hb : badJ (waits ops) (pn.map (·.1)) i with
    | true =>
      have hsk := D.skip i _ ho hb
      have hg : good ops pn i = false := by simp [good, bad, hb]
      rw [hsk, ih (by omega) d hk]
      simp only [ts, last]
      rw [if_neg (by rw [hg]; simp)]
    | false =>
      have hg : good ops pn i = true := by simp [good, bad, hb]
      simp only [ts, last]
      by_cases ht : puts ops d i = true
      · rw [if_pos ⟨hg, ht⟩, hget]; rfl
      · rw [if_neg (fun h => ht h.2)]
        obtain ⟨v, hv, _⟩ := (D.step i _ ho hb).step
        have : (D.sts (i + 1)).t[d]? = (D.sts i).t[d]? := by
          rw [hv]
          cases hdst : (ops[i]).dst with
          | none => rfl
          | some e =>
            have hne : e ≠ d := fun he => ht (puts_iff.2 ⟨_, ho, by rw [hdst, he]⟩)
            simp only [putT, setN_eq]
            rw [List.getElem?_set_ne hne]
        rw [this]
        exact ih (by omega) d hk

/-- what the checks say -/
structure Ck (D : Draw P ops pn) (n0 : Nat) : Prop where
  eq0 : n0 = D.len 0
  sel : ∀ (i : Nat) (o : Oper), ops[i]? = some o → noSel o = true
  edge : ∀ (i : Nat) (o : Oper), ops[i]? = some o → ∀ e ∈ o.after.toList, Region.binds .any e = true → e.on < i
  said : ∀ i, i < ops.length → bad ops pn i = false → ∀ k ∈ (D.ents i).said, k < n0 ∨ ∃ x ∈ W ops i, (D.ents x).lo ≤ k ∧ k < (D.ents x).hi
  quiet : ∀ i, i < ops.length → bad ops pn i = false → ∀ p, pn = some p → i ∈ W ops p.1 ∨ ((D.ents i).wr = false ∧ (D.ents i).lo = (D.ents i).hi)
  free : ∀ (x i : Nat) (ox oi : Oper), x < i → ops[x]? = some ox → ops[i]? = some oi → (bad ops pn x = false ∨ isJ (pn.map (·.1)) x = true) → (bad ops pn i = false ∨ isJ (pn.map (·.1)) i = true) → x ∉ W ops i →
    free ops ox oi (D.ents x) (D.ents i) = true

/-- what is listed: done, and what it waits for with it -/
structure Lst (ops : List Oper) (pn : Option Pan) (S : Nat → Bool) : Prop where
  good : ∀ x, S x = true → x < ops.length ∧ bad ops pn x = false
  closed : ∀ (i : Nat) (o : Oper), ops[i]? = some o → S i = true → ∀ e ∈ o.after.toList, Region.binds .any e = true → S e.on = true

def men (D : Draw P ops pn) (n0 : Nat) (S : Nat → Bool) (k : Nat) : Bool :=
  Nat.blt k n0 || (List.range ops.length).any fun i => S i && (Nat.ble (D.ents i).lo k && Nat.blt k (D.ents i).hi)
theorem men_iff (D : Draw P ops pn) {n0 : Nat} {S : Nat → Bool} {k : Nat} : D.men n0 S k = true ↔ k < n0 ∨ ∃ i, i < ops.length ∧ S i = true ∧ (D.ents i).lo ≤ k ∧ k < (D.ents i).hi := by
  simp [men]
theorem men_ins (D : Draw P ops pn) {n0 : Nat} {S : Nat → Bool} (i : Nat) : ∀ k, D.men n0 S k = true → D.men n0 (ins S i) k = true := by
  intro k hk
  rw [men_iff] at *
  rcases hk with hk | ⟨j, h1, h2, h3⟩
  · exact .inl hk
  · exact .inr ⟨j, h1, ins_iff.2 (.inl h2), h3⟩

theorem ent (D : Draw P ops pn) {i : Nat} (hi : i < ops.length) (hb : bad ops pn i = false) : (D.ents i).lo = D.len i ∧ (D.ents i).hi = D.len (i + 1) :=
  ⟨(D.step i _ (List.getElem?_eq_getElem hi) hb).lo, (D.step i _ (List.getElem?_eq_getElem hi) hb).hi⟩

/-- a block is made once -/
theorem once (D : Draw P ops pn) {i j k : Nat} (hi : i < ops.length) (hj : j < ops.length) (hbi : bad ops pn i = false) (hbj : bad ops pn j = false)
    (h1 : (D.ents i).lo ≤ k ∧ k < (D.ents i).hi) (h2 : (D.ents j).lo ≤ k ∧ k < (D.ents j).hi) : i = j := by
  rw [(D.ent hi hbi).1, (D.ent hi hbi).2] at h1
  rw [(D.ent hj hbj).1, (D.ent hj hbj).2] at h2
  rcases Nat.lt_trichotomy i j with h | h | h
  · have := D.len_mono (show i + 1 ≤ j by omega) (by omega); omega
  · exact h
  · have := D.len_mono (show j + 1 ≤ i by omega) (by omega); omega

theorem Lst.W {S : Nat → Bool} (h : Lst ops pn S) {i : Nat} (hi : S i = true) {x : Nat} (hx : x ∈ Vx.W ops i) : S x = true :=
  W_closed h.closed i (h.good i hi).1 hi x hx

variable {D : Draw P ops pn} {n0 : Nat} {S : Nat → Bool}

theorem agree_t (hc : D.Ck n0) (hS : Lst ops pn S) {i : Nat} {o : Oper} (ho : ops[i]? = some o) (hi : bad ops pn i = false ∨ isJ (pn.map (·.1)) i = true) (hn : S i = false)
    (hw : ∀ x ∈ W ops i, x = i ∨ S x = true) {d : Nat} (hd : d ∈ looks ops o) : D.ts S ops.length d = D.ts (good ops pn) i d := by
  have hil : i < ops.length := (List.getElem?_eq_some_iff.1 ho).1
  refine last_congr (by omega) (fun x hx hp hg => ?_) (fun x hx => by simp [good, (hS.good x hx).2])
  have hgx : bad ops pn x = false := by simpa [good] using hg
  obtain ⟨ox, hox, hdx⟩ := puts_iff.1 hp
  constructor
  · intro hSx
    refine Nat.lt_of_not_le fun hle => ?_
    rcases Nat.eq_or_lt_of_le hle with rfl | hlt
    · rw [hn] at hSx; cases hSx
    · have hnw : i ∉ W ops x := fun h => by rw [hS.W hSx h] at hn; cases hn
      exact (free_spec (hc.free i x o ox hlt ho hox hi (.inl hgx) hnw)).2.2.1 d hdx hd
  · intro hlt
    refine Classical.byContradiction fun hSx => ?_
    have hnw : x ∉ W ops i := fun h => by
      rcases hw x h with h | h
      · omega
      · exact hSx h
    exact (free_spec (hc.free x i ox o hlt hox ho (.inl hgx) hi hnw)).1 d hdx hd

theorem agree_h (hc : D.Ck n0) (hS : Lst ops pn S) {i : Nat} (hil : i < ops.length) (hb : bad ops pn i = false) (hn : S i = false)
    (hw : ∀ x ∈ W ops i, x = i ∨ S x = true) (hfs : ∀ k, mem k (D.ents i).fp = true → k ∈ (D.ents i).said) {k : Nat} (hk : k < D.len i) (hf : k ∈ (D.ents i).fp) :
    D.hs S ops.length k = D.hs (good ops pn) i k := by
  refine last_congr (by omega) (fun x hx hp hg => ?_) (fun x hx => by simp [good, (hS.good x hx).2])
  have hgx : bad ops pn x = false := by simpa [good] using hg
  have hox := List.getElem?_eq_getElem hx
  have ho := List.getElem?_eq_getElem hil
  constructor
  · intro hSx
    refine Nat.lt_of_not_le fun hle => ?_
    rcases Nat.eq_or_lt_of_le hle with rfl | hlt
    · rw [hn] at hSx; cases hSx
    · have hnw : i ∉ W ops x := fun h => by rw [hS.W hSx h] at hn; cases hn
      rcases D.touch_iff.1 hp with ⟨h1, h2, _⟩ | ⟨h1, _⟩
      · exact (free_spec (hc.free i x _ _ hlt ho hox (.inl hb) (.inl hgx) hnw)).2.2.2 k (.inr h1) hf h2
      · rw [(D.ent hx hgx).1] at h1
        have := D.len_mono (show i ≤ x by omega) (by omega); omega
  · intro hlt
    refine Classical.byContradiction fun hSx => ?_
    have hnw : x ∉ W ops i := fun h => by
      rcases hw x h with h | h
      · omega
      · exact hSx h
    rcases D.touch_iff.1 hp with ⟨h1, h2, _⟩ | h1
    · exact (free_spec (hc.free x i _ _ hlt hox ho (.inl hgx) (.inl hb) hnw)).2.2.2 k (.inl h1) h2 hf
    · rcases hc.said i hil hb k (hfs k (memB_iff.2 hf)) with h | ⟨y, hy, hy2⟩
      · rw [hc.eq0] at h
        have := D.len_mono (Nat.zero_le x) (by omega)
        rw [(D.ent hx hgx).1] at h1
        omega
      · have hyg : y < ops.length ∧ bad ops pn y = false := by
          rcases hw y hy with rfl | h
          · exact ⟨hil, hb⟩
          · exact hS.good y h
        have := D.once hx hyg.1 hgx hyg.2 h1 hy2
        subst this
        exact hnw hy

/-- nobody that is listed has touched it behind -/
theorem untouched (hc : D.Ck n0) (hS : Lst ops pn S) {i : Nat} (hil : i < ops.length) (hb : bad ops pn i = false) (hn : S i = false) {k : Nat} (ht : D.touch k i = true)
    (hfx : ∀ x, x < ops.length → bad ops pn x = false → ∀ k, mem k (D.ents x).fp = true → k ∈ (D.ents x).said) : ∀ x, i < x → S x = true → D.touch k x = false := by
  intro x hlt hSx
  obtain ⟨hx, hgx⟩ := hS.good x hSx
  have hnw : i ∉ W ops x := fun h => by rw [hS.W hSx h] at hn; cases hn
  have hfr := (free_spec (hc.free i x _ _ hlt (List.getElem?_eq_getElem hil) (List.getElem?_eq_getElem hx) (.inl hb) (.inl hgx) hnw)).2.2.2
  rw [← Bool.not_eq_true]
  intro hp
  have hbel : k < D.len (i + 1) := by
    have := D.len_le hil
    rcases D.touch_iff.1 ht with ⟨_, _, h⟩ | ⟨_, h⟩
    · rw [(D.ent hil hb).1] at h; omega
    · rw [(D.ent hil hb).2] at h; exact h
  rcases D.touch_iff.1 hp with ⟨h1, h2, _⟩ | ⟨h1, _⟩
  · rcases D.touch_iff.1 ht with ⟨h3, h4, _⟩ | h3
    · exact hfr k (.inl h3) h4 h2
    · rcases hc.said x hx hgx k (hfx x hx hgx k (memB_iff.2 h2)) with h | ⟨y, hy, hy2⟩
      · rw [hc.eq0] at h
        have := D.len_mono (Nat.zero_le i) (by omega)
        rw [(D.ent hil hb).1] at h3
        omega
      · have hyg := hS.good y (hS.W hSx hy)
        have := D.once hil hyg.1 hb hyg.2 h3 hy2
        subst this
        exact hnw hy
  · rw [(D.ent hx hgx).1] at h1
    have := D.len_mono (show i + 1 ≤ x by omega) (by omega); omega
end Draw
end
end Go.Vx

/- The region that draws its order: the invariant, one step, the whole. -/
namespace Go.Vx
open Go
section
variable {P : Program} {ops : List Oper} {pn : Option Pan}
namespace Draw

theorem fps (D : Draw P ops pn) : ∀ x, x < ops.length → bad ops pn x = false → ∀ k, mem k (D.ents x).fp = true → k ∈ (D.ents x).said := by
  intro x hx hb k hk
  obtain ⟨v, _, _, h | h⟩ := (D.step x _ (List.getElem?_eq_getElem hx) hb).step
  · rw [h.2.2.2.1] at hk; cases hk
  · exact h.2.1 k hk

structure Inv (D : Draw P ops pn) (n0 : Nat) (r0 : Env) (F0 : Foot) (a0 : Act) (w0 : World) (S : Nat → Bool) (r : Env) (F : Foot) (a : Act) (w : World) : Prop where
  sat : ∀ k, k < D.len ops.length → (D.hs S ops.length k).holds r (F k) k w
  dis : ∀ i j x, i < D.len ops.length → j < D.len ops.length → F i x → F j x → i = j
  tr : Tr r0 F0 n0 w0 r F (D.len ops.length) w
  size : a.tmps.size = (D.sts 0).t.length
  see : ∀ d, d < (D.sts 0).t.length → a.tmps[d]? = some (ren r (D.ts S ops.length d))
  okh : ∀ k, k < D.len ops.length → okB (D.men n0 S) (D.hs S ops.length k)
  okt : ∀ d, d < (D.sts 0).t.length → okV (D.men n0 S) (D.ts S ops.length d) = true
  defers : a.defers = a0.defers

variable {D : Draw P ops pn} {n0 : Nat} {S : Nat → Bool} {r0 : Env} {F0 : Foot} {a0 : Act} {w0 : World} {r : Env} {F : Foot} {a : Act} {w : World}

/-- the act as the text's order has it -/
def vact (D : Draw P ops pn) (i : Nat) (r : Env) : Act := { tmps := ((D.sts i).t.map (ren r)).toArray, defers := [] }
theorem vact_sees (D : Draw P ops pn) (i : Nat) (r : Env) : Sees r (D.sts i).t (D.vact i r) := rfl

theorem slots (hc : D.Ck n0) (hS : Lst ops pn S) (hI : D.Inv n0 r0 F0 a0 w0 S r F a w) {i : Nat} {o : Oper} (ho : ops[i]? = some o) (hi : bad ops pn i = false ∨ isJ (pn.map (·.1)) i = true) (hn : S i = false)
    (hw : ∀ x ∈ W ops i, x = i ∨ S x = true) : ∀ d ∈ looks ops o, a.tmps[d]? = (D.vact i r).tmps[d]? := by
  intro d hd
  have hil : i < ops.length := (List.getElem?_eq_some_iff.1 ho).1
  by_cases hdl : d < (D.sts 0).t.length
  · rw [hI.see d hdl, agree_t hc hS ho hi hn hw hd]
    have := D.ts_full i (by omega) d hdl
    simp [vact, this]
  · rw [Array.getElem?_eq_none (by rw [hI.size]; omega), Array.getElem?_eq_none]
    simp [vact, D.tlen i (by omega)]; omega

theorem evals (hc : D.Ck n0) {i : Nat} {o : Oper} (ho : ops[i]? = some o) {a b : Act} (h : ∀ d ∈ looks ops o, a.tmps[d]? = b.tmps[d]?) : execOp a.eval o = execOp b.eval o := by
  refine execOp_congr o (fun cs b hb => ?_) fun x hx => ?_
  · have := hc.sel i o ho
    simp [noSel, hb] at this
  · cases x with
    | tmp d =>
      have := h d (List.mem_append_left _ (List.mem_filterMap.2 ⟨.tmp d, by simpa using hx, rfl⟩))
      simp only [Act.eval, Array.getD_eq_getD_getElem?, this]
    | _ => rfl

theorem Inv.step (hc : D.Ck n0) (hS : Lst ops pn S) (hI : D.Inv n0 r0 F0 a0 w0 S r F a w) {i : Nat} {o : Oper} (ho : ops[i]? = some o) (hb : bad ops pn i = false) (hn : S i = false)
    (hw : ∀ x ∈ W ops i, x = i ∨ S x = true) (K : Act → World → Prop) (Q : Exit → Act → World → Prop)
    (hK : ∀ r' F' a' w', D.Inv n0 r0 F0 a0 w0 (ins S i) r' F' a' w' → K a' w') :
    if Region.wanted o (yielded ops.toArray a.tmps) then o.wp P a w K Q ∨ (o.asks P a w ∧ LetsOut Q) else K (a.put o.dst undef) w := by
  have hil : i < ops.length := (List.getElem?_eq_some_iff.1 ho).1
  have hd := D.step i o ho hb
  have hsl := slots hc hS hI ho (.inl hb) hn hw
  have hlo : (D.ents i).lo = D.len i := hd.lo
  have hhi : (D.ents i).hi = D.len (i + 1) := hd.hi
  have hle : D.len i ≤ D.len (i + 1) := D.len_le hil
  have hleN : D.len (i + 1) ≤ D.len ops.length := D.len_mono (by omega) (Nat.le_refl _)
  have hn0 : n0 ≤ D.len i := by rw [hc.eq0]; exact D.len_mono (Nat.zero_le _) (by omega)
  obtain ⟨v, hv, hsaid, hcase⟩ := hd.step
  have hputs : ∀ d, puts ops d i = true ↔ o.dst = some d := fun d => by
    rw [puts_iff]
    constructor
    · rintro ⟨o', h1, h2⟩; rw [ho] at h1; cases h1; exact h2
    · exact fun h => ⟨o, ho, h⟩
  have hmenS : ∀ k ∈ (D.ents i).said, D.men n0 (ins S i) k = true := by
    intro k hk
    rw [men_iff]
    rcases hc.said i hil hb k hk with h | ⟨x, hx, hx2⟩
    · exact .inl h
    · rcases hw x hx with rfl | h
      · exact .inr ⟨x, hil, ins_iff.2 (.inr rfl), hx2⟩
      · exact .inr ⟨x, (hS.good x h).1, ins_iff.2 (.inl h), hx2⟩
  -- the slots behind
  have hts : ∀ d, d < (D.sts 0).t.length → (o.dst = some d → D.ts (ins S i) ops.length d = v) ∧ (o.dst ≠ some d → D.ts (ins S i) ops.length d = D.ts S ops.length d) := by
    intro d hdl
    constructor
    · intro hdst
      have hp : puts ops d i = true := (hputs d).2 hdst
      have := last_ins_yes (S := S) (val := fun i => ((D.sts (i + 1)).t[d]?).getD undef) (init := ((D.sts 0).t[d]?).getD undef) hp ops.length hil (fun x hlt hSx => ?_)
      · rw [ts, this, hv, hdst]
        simp only [putT, setN_eq]
        rw [List.getElem?_set_self (by rw [D.tlen i (by omega)]; exact hdl)]
        rfl
      · obtain ⟨hx, hgx⟩ := hS.good x hSx
        have hox := List.getElem?_eq_getElem hx
        have hnw : i ∉ W ops x := fun h => by rw [hS.W hSx h] at hn; cases hn
        have := (free_spec (hc.free i x _ _ hlt ho hox (.inl hb) (.inl hgx) hnw)).2.1 d hdst
        rw [← Bool.not_eq_true, puts_iff]
        rintro ⟨ox, h1, h2⟩
        rw [hox] at h1; cases h1
        exact this h2
    · intro hdst
      exact last_ins_no (by rw [← Bool.not_eq_true, hputs]; exact hdst) _
  have hokt : ∀ d, d < (D.sts 0).t.length → okV (D.men n0 (ins S i)) (D.ts (ins S i) ops.length d) = true := by
    intro d hdl
    by_cases hdst : o.dst = some d
    · rw [(hts d hdl).1 hdst]; exact (hsaid _ hmenS).1
    · rw [(hts d hdl).2 hdst]; exact okV_mono (D.men_ins i) _ (hI.okt d hdl)
  have hmem : ∀ k, D.men n0 S k = true → ¬ (D.len i ≤ k ∧ k < D.len (i + 1)) := by
    intro k hk hk2
    rw [men_iff] at hk
    rcases hk with hk | ⟨x, h1, h2, h3⟩
    · omega
    · have := D.once h1 hil (hS.good x h2).2 hb h3 (by rw [hlo, hhi]; exact hk2)
      subst this
      rw [hn] at h2; cases h2
  -- the blocks behind
  have hag : ∀ k, k < D.len i → k ∈ (D.ents i).fp → (D.sts i).h[k]? = some (D.hs S ops.length k) := by
    intro k hk hf
    rw [agree_h hc hS hil hb hn hw (D.fps i hil hb) hk hf]
    exact D.hs_full i (by omega) k hk
  have hhs : ∀ k, k < D.len ops.length → (D.touch k i = false → D.hs (ins S i) ops.length k = D.hs S ops.length k) ∧
      ((k ∈ (D.ents i).fp ∨ D.len i ≤ k) → k < D.len (i + 1) → (D.sts (i + 1)).h[k]? = some (D.hs (ins S i) ops.length k)) := by
    intro k hkN
    refine ⟨fun ht => last_ins_no ht _, fun hk hk2 => ?_⟩
    cases ht : D.touch k i with
    | true =>
      have := last_ins_yes (S := S) (val := fun i => ((D.sts (i + 1)).h[k]?).getD Blk.gone) (init := ((D.sts 0).h[k]?).getD .gone) ht ops.length hil
        (untouched hc hS hil hb hn ht D.fps)
      rw [hs, this, List.getElem?_eq_getElem hk2]; rfl
    | false =>
      have e1 : D.hs (ins S i) ops.length k = D.hs S ops.length k := last_ins_no ht _
      rw [e1]
      have hkl : k < D.len i := by
        refine Nat.lt_of_not_le fun h => ?_
        have : D.touch k i = true := D.touch_iff.2 (.inr (by rw [hlo, hhi]; exact ⟨h, hk2⟩))
        rw [ht] at this; cases this
      have hf : k ∈ (D.ents i).fp := hk.resolve_right (by omega)
      rw [hd.same k (by rw [hlo]; exact hkl) (fun ⟨h1, h2⟩ => by
        have : D.touch k i = true := D.touch_iff.2 (.inl ⟨h1, hf, by rw [hlo]; exact hkl⟩)
        rw [ht] at this; cases this)]
      exact hag k hkl hf
  have hokh : ∀ k, k < D.len ops.length → okB (D.men n0 (ins S i)) (D.hs (ins S i) ops.length k) := by
    intro k hkN
    cases ht : D.touch k i with
    | false => rw [(hhs k hkN).1 ht]; exact okB_mono (D.men_ins i) _ (hI.okh k hkN)
    | true =>
      have hk2 : k < D.len (i + 1) := by
        rcases D.touch_iff.1 ht with ⟨_, _, h⟩ | ⟨_, h⟩
        · rw [hlo] at h; omega
        · rw [hhi] at h; exact h
      have hk1 : k ∈ (D.ents i).fp ∨ D.len i ≤ k := by
        rcases D.touch_iff.1 ht with ⟨_, h, _⟩ | ⟨h, _⟩
        · exact .inl h
        · rw [hlo] at h; exact .inr h
      refine (hsaid _ hmenS).2 k _ ((hhs k hkN).2 hk1 hk2) ?_
      rcases D.touch_iff.1 ht with ⟨h1, h2, _⟩ | ⟨h, _⟩
      · exact .inl ⟨memB_iff.2 h2, h1⟩
      · exact .inr h
  rw [wanted_congr hsl]
  rcases hcase with ⟨rfl, h2, h3, h4, h5⟩ | ⟨hwt, _, hr, hrl, hrok, hreq, hsem⟩
  · rw [h5 r _ (D.vact_sees i r)]
    simp only [Bool.false_eq_true, if_false]
    have ht : ∀ k, D.touch k i = false := fun k => by
      rw [← Bool.not_eq_true, touch_iff]
      rintro (⟨h, _⟩ | h)
      · rw [h2] at h; cases h
      · omega
    refine hK r F _ w ⟨fun k hk => by rw [(hhs k hk).1 (ht k)]; exact hI.sat k hk, hI.dis, hI.tr, ?_, fun d hdl => ?_, hokh, hokt, by rw [put_defers]; exact hI.defers⟩
    · rw [← hI.size]; cases o.dst <;> simp [Act.put]
    · by_cases hdst : o.dst = some d
      · rw [(hts d hdl).1 hdst, hdst]
        simp only [Act.put]
        rw [Array.getElem?_setIfInBounds_self_of_lt (by rw [hI.size]; exact hdl), ren_undef]
      · rw [(hts d hdl).2 hdst, ← hI.see d hdl]
        cases hde : o.dst with
        | none => rfl
        | some e =>
          simp only [Act.put]
          rw [Array.getElem?_setIfInBounds_ne (fun h => hdst (by rw [hde, h]))]
  · rw [hwt r _ (D.vact_sees i r)]
    simp only [if_true]
    refine .inl (hsem r (restrictF (fun k => mem k (D.ents i).fp) F) (D.vact i r) a w (D.vact_sees i r) ⟨fun k B hk => ?_, fun j j' x hj hj' hx hy => ?_⟩ (evals hc ho hsl) K Q fun r' F' w' ht' hS' => ?_)
    · have hkl : k < D.len i := by have := (List.getElem?_eq_some_iff.1 hk).1; rwa [restrict_length] at this
      rw [restrict_get] at hk
      cases hm : mem k (D.ents i).fp with
      | false =>
        rw [List.getElem?_eq_getElem hkl] at hk
        simp only [hm, Option.map_some, cond_false, Option.some.injEq] at hk
        subst hk
        rintro x ⟨h, _⟩
        simp only [hm] at h; cases h
      | true =>
        rw [hag k hkl (memB_iff.1 hm)] at hk
        simp only [hm, Option.map_some, cond_true, Option.some.injEq] at hk
        subst hk
        have hF : restrictF (fun k => mem k (D.ents i).fp) F k = F k := by funext x; simp [restrictF, hm]
        rw [hF]
        exact hI.sat k (by omega)
    · rw [restrict_length] at hj hj'
      have hj : j < D.len i := hj
      have hj' : j' < D.len i := hj'
      exact hI.dis j j' x (by omega) (by omega) hx.2 hy.2
    · -- the new invariant
      rw [hlo, hhi] at ht'
      have hrl' : hr.length = D.len (i + 1) := by rw [hrl, hhi]
      let Z : Nat → Prop := fun k => (k < D.len i ∧ k ∈ (D.ents i).fp) ∨ (D.len i ≤ k ∧ k < D.len (i + 1))
      have Zd : ∀ k, Z k ∨ ¬ Z k := fun k => Classical.em _
      let r2 : Env := fun k => if D.len i ≤ k ∧ k < D.len (i + 1) then r' k else r k
      let F2 : Foot := fun k x => (Z k ∧ F' k x) ∨ (¬ Z k ∧ F k x)
      have er' : ∀ k, k < D.len (i + 1) → r' k = r2 k := by
        intro k hk
        by_cases h : D.len i ≤ k
        · simp only [r2]; rw [if_pos ⟨h, hk⟩]
        · simp only [r2]; rw [if_neg (by omega)]; exact ht'.env k (by omega)
      have er : ∀ k, D.men n0 S k = true → r k = r2 k := by
        intro k hk
        simp only [r2]; rw [if_neg (hmem k hk)]
      have hZlt : ∀ k, Z k → k < D.len (i + 1) := fun k h => by rcases h with ⟨h, _⟩ | ⟨_, h⟩ <;> omega
      have hF2Z : ∀ k, Z k → F2 k = F' k := fun k h => by funext x; simp [F2, h]
      have hF2n : ∀ k, ¬ Z k → F2 k = F k := fun k h => by funext x; simp [F2, h]
      have hblk : ∀ k, k < D.len ops.length → Z k → hr[k]? = some (D.hs (ins S i) ops.length k) := by
        intro k hkN hz
        rw [hreq k (by rw [hhi]; exact hZlt k hz) (by rcases hz with ⟨_, h⟩ | ⟨h, _⟩; exact .inl (memB_iff.2 h); exact .inr (by rw [hlo]; exact h))]
        exact (hhs k hkN).2 (by rcases hz with ⟨_, h⟩ | ⟨h, _⟩; exact .inl h; exact .inr h) (hZlt k hz)
      have old : ∀ k x, k < D.len ops.length → F k x → x < w.heap.size := fun k x hk hx => holds_lt (hI.sat k hk) hx
      have mixed : ∀ k k' x, k < D.len ops.length → k' < D.len ops.length → Z k → ¬ Z k' → F' k x → F k' x → False := by
        intro k k' x hk hk' hz hz' hx hy
        rcases ht'.fresh k x (hZlt k hz) hx with h | ⟨j, hj, hjf, hjx⟩
        · have := old k' x hk' hy; omega
        · have := hI.dis j k' x (by omega) hk' hjx hy
          subst this
          exact hz' (.inl ⟨hj, memB_iff.1 hjf⟩)
      refine hK r2 F2 _ w' ⟨fun k hk => ?_, fun k k' x hk hk' hx hy => ?_, ?_, ?_, fun d hdl => ?_, hokh, hokt, by rw [put_defers]; exact hI.defers⟩
      · by_cases hz : Z k
        · rw [hF2Z k hz]
          have hB := hblk k hk hz
          have hokB : okB (below (D.len (i + 1))) (D.hs (ins S i) ops.length k) := by
            rw [← hrl']; exact hrok _ (List.mem_of_getElem? hB)
          exact holds_move (hS'.1 k _ hB) hokB (er' k (hZlt k hz)).symm (fun j hj => er' j (below_iff.1 hj)) (fun _ _ => rfl)
        · rw [hF2n k hz]
          have htch : D.touch k i = false := by
            rw [← Bool.not_eq_true, touch_iff]
            rintro (⟨_, h1, h2⟩ | h)
            · exact hz (.inl ⟨by rw [hlo] at h2; exact h2, h1⟩)
            · exact hz (.inr (by rw [hlo, hhi] at h; exact h))
          rw [(hhs k hk).1 htch]
          refine holds_move (hI.sat k hk) (hI.okh k hk) ?_ er fun x hx => ?_
          · simp only [r2]; rw [if_neg fun h => hz (.inr h)]
          · refine ht'.keep x (old k x hk hx) ?_
            rintro j hj ⟨hjf, hjx⟩
            have := hI.dis j k x (by omega) hk hjx hx
            subst this
            exact hz (.inl ⟨hj, memB_iff.1 hjf⟩)
      · rcases hx with ⟨hz, hx⟩ | ⟨hz, hx⟩ <;> rcases hy with ⟨hz', hy⟩ | ⟨hz', hy⟩
        · exact hS'.2 k k' x (by rw [hrl']; exact hZlt k hz) (by rw [hrl']; exact hZlt k' hz') hx hy
        · exact (mixed k k' x hk hk' hz hz' hx hy).elim
        · exact (mixed k' k x hk' hk hz' hz hy hx).elim
        · exact hI.dis k k' x hk hk' hx hy
      · refine ⟨fun k hk => ?_, hI.tr.len, Nat.le_trans hI.tr.size ht'.size, fun x hx hnx => ?_, fun k x hk hx => ?_, ht'.os.trans hI.tr.os, ht'.tape.trans hI.tr.tape, ht'.output.trans hI.tr.output⟩
        · rw [← er k (D.men_iff.2 (.inl hk)), hI.tr.env k hk]
        · rw [ht'.keep x (Nat.lt_of_lt_of_le hx hI.tr.size) ?_, hI.tr.keep x hx hnx]
          rintro j hj ⟨_, hjx⟩
          rcases hI.tr.fresh j x (by omega) hjx with h | ⟨j', h1, h2⟩
          · omega
          · exact hnx j' h1 h2
        · rcases hx with ⟨hz, hx⟩ | ⟨hz, hx⟩
          · rcases ht'.fresh k x (hZlt k hz) hx with h | ⟨j, hj, _, hjx⟩
            · exact .inl (Nat.le_trans hI.tr.size h)
            · exact hI.tr.fresh j x (by omega) hjx
          · exact hI.tr.fresh k x hk hx
      · rw [← hI.size]; cases o.dst <;> simp [Act.put]
      · by_cases hdst : o.dst = some d
        · rw [(hts d hdl).1 hdst, hdst]
          simp only [Act.put]
          rw [Array.getElem?_setIfInBounds_self_of_lt (by rw [hI.size]; exact hdl)]
          have hvo : okV (below (D.len (i + 1))) v = true := by
            refine hd.ok'.t v ?_
            rw [hv, hdst]
            simp only [putT, setN_eq]
            exact List.mem_of_getElem? (List.getElem?_set_self (by rw [D.tlen i (by omega)]; exact hdl))
          rw [ren_congr (fun k hk => er' k (below_iff.1 hk)) v hvo]
        · rw [(hts d hdl).2 hdst, ← ren_congr er _ (hI.okt d hdl), ← hI.see d hdl]
          cases hde : o.dst with
          | none => rfl
          | some e =>
            simp only [Act.put]
            rw [Array.getElem?_setIfInBounds_ne (fun h => hdst (by rw [hde, h]))]
end Draw
end
end Go.Vx

/- The region that draws its order, whole. -/
namespace Go.Vx
open Go
section
variable {P : Program} {ops : List Oper} {pn : Option Pan}
namespace Draw
variable {D : Draw P ops pn} {n0 : Nat} {S : Nat → Bool} {r0 : Env} {F0 : Foot} {a0 : Act} {w0 : World} {r : Env} {F : Foot} {a : Act} {w : World}

theorem badJ_self {v : Value} {z : St} {j : Nat} (hj : j < ops.length) : bad ops (some (j, v, z)) j = true := memB_iff.2 (W_self hj)

theorem Inv.pan (hc : D.Ck n0) (hS : Lst ops pn S) (hI : D.Inv n0 r0 F0 a0 w0 S r F a w) {i : Nat} {o : Oper} {v : Value} {z : St} (ho : ops[i]? = some o) (hp : pn = some (i, v, z)) (hn : S i = false)
    (hw : ∀ x ∈ W ops i, x = i ∨ S x = true) (K : Act → World → Prop) (Q : Exit → Act → World → Prop)
    (hQ : ∀ r' F' w', Tr r0 F0 n0 w0 r' F' z.h.length w' → Sat r' F' z.h w' → Q (.panic [{ v := ren r' v, recovered := false }]) a w') :
    if Region.wanted o (yielded ops.toArray a.tmps) then o.wp P a w K Q ∨ (o.asks P a w ∧ LetsOut Q) else K (a.put o.dst undef) w := by
  have hil : i < ops.length := (List.getElem?_eq_some_iff.1 ho).1
  have hps := D.pan i o v z ho hp
  have hJ : isJ (pn.map (·.1)) i = true := by rw [hp]; simp [isJ]
  have hsl := slots hc hS hI ho (.inr hJ) hn hw
  have hbi : bad ops pn i = true := by rw [hp]; exact badJ_self hil
  have hlenN : ∀ m, i ≤ m → m ≤ ops.length → D.len m = D.len i := by
    intro m him
    induction m with
    | zero => intro _; rw [show i = 0 by omega]
    | succ m ih =>
      intro hm
      rcases Nat.eq_or_lt_of_le him with rfl | hlt
      · rfl
      · rw [← ih (by omega) (by omega)]
        have hom := List.getElem?_eq_getElem (show m < ops.length by omega)
        cases hb : bad ops pn m with
        | true => unfold len; rw [D.skip m _ hom hb]
        | false =>
          have hq := hc.quiet m (by omega) hb _ hp
          have he := D.ent (show m < ops.length by omega) hb
          rcases hq with hq | ⟨_, hq⟩
          · have := W_le i hil m hq
            have : m = i := by omega
            subst this
            rw [hbi] at hb; cases hb
          · rw [he.1, he.2] at hq; exact hq.symm
  have hN : D.len ops.length = D.len i := hlenN _ (by omega) (Nat.le_refl _)
  have hag : ∀ k, k < D.len i → (D.sts i).h[k]? = some (D.hs S ops.length k) := by
    intro k hk
    rw [D.hs_full i (by omega) k hk]
    refine congrArg some (Eq.symm (last_congr (by omega) (fun x hx ht hg => ?_) (fun x hx => by simp [good, (hS.good x hx).2])))
    have hgx : bad ops pn x = false := by simpa [good] using hg
    by_cases hxw : x ∈ W ops i
    · have hle := W_le i hil x hxw
      have hne : x ≠ i := fun h => by subst h; rw [hbi] at hgx; cases hgx
      rcases hw x hxw with h | h
      · exact (hne h).elim
      · exact ⟨fun _ => by omega, fun _ => h⟩
    · rcases hc.quiet x hx hgx _ hp with h | ⟨h1, h2⟩
      · exact (hxw h).elim
      · rcases D.touch_iff.1 ht with ⟨h3, _⟩ | h3
        · rw [h1] at h3; cases h3
        · omega
  rw [wanted_congr hsl, hps.wanted r _ (D.vact_sees i r)]
  simp only [if_true]
  refine .inl (hps.sem r F (D.vact i r) a w (D.vact_sees i r) ⟨fun k B hk => ?_, fun j j' x hj hj' hx hy => ?_⟩ (evals hc ho hsl) K Q fun r' F' w' ht' hS' => ?_)
  · have hkl : k < D.len i := (List.getElem?_eq_some_iff.1 hk).1
    rw [hag k hkl] at hk
    cases hk
    exact hI.sat k (by omega)
  · have hj : j < D.len i := hj
    have hj' : j' < D.len i := hj'
    exact hI.dis j j' x (by omega) (by omega) hx hy
  · have htr := hI.tr
    rw [hN] at htr
    exact hQ r' F' w' (htr.trans ht') hS'

/-- what has been listed, as a word over numbers -/
def lst (listed : Array Bool) : Nat → Bool := fun x => listed.getD x false

theorem lst_set {listed : Array Bool} {i : Nat} (hi : i < listed.size) : lst (listed.setIfInBounds i true) = ins (lst listed) i := by
  funext x
  simp only [lst, ins, Array.getD_eq_getD_getElem?]
  by_cases hx : x = i
  · subst hx
    rw [Array.getElem?_setIfInBounds_self_of_lt hi]; simp
  · rw [Array.getElem?_setIfInBounds_ne (fun h => hx h.symm)]
    have : Nat.beq x i = false := by rw [← Bool.not_eq_true, Nat.beq_eq]; exact hx
    rw [this]; simp

theorem count_set : ∀ (l : List Bool) (i : Nat), l[i]? = some false → (l.set i true).count false + 1 = l.count false
  | [], _, h => by simp at h
  | b :: l, 0, h => by simp at h; subst h; simp
  | b :: l, i + 1, h => by
    simp only [List.getElem?_cons_succ] at h
    have := count_set l i h
    simp only [List.set_cons_succ, List.count_cons]
    omega

theorem ready_spec {listed : Array Bool} (hsz : listed.size = ops.length) {i : Nat} (h : i ∈ Region.ready .any ops.toArray listed) :
    ∃ o, ops[i]? = some o ∧ listed[i]? = some false ∧ ∀ e ∈ o.after.toList, Region.binds .any e = true → lst listed e.on = true := by
  simp only [Region.ready, List.mem_filter, List.mem_range, Bool.and_eq_true, List.getElem?_toArray, List.size_toArray] at h
  obtain ⟨hi, h1, h2⟩ := h
  refine ⟨ops[i], List.getElem?_eq_getElem hi, ?_, fun e he hb => ?_⟩
  · have hil : i < listed.size := by omega
    rw [Array.getD_eq_getD_getElem?, Array.getElem?_eq_getElem hil] at h1
    rw [Array.getElem?_eq_getElem hil]
    simpa using h1
  · rw [List.getElem?_eq_getElem hi] at h2
    simp only [Option.map_some, Option.getD_some, Array.all_eq_true'] at h2
    have := h2 e (by simpa using he)
    rw [hb] at this
    simpa [lst] using this

theorem stuck {listed : Array Bool} (hsz : listed.size = ops.length) (hed : ∀ (i : Nat) (o : Oper), ops[i]? = some o → ∀ e ∈ o.after.toList, Region.binds .any e = true → e.on < i)
    (h : Region.ready .any ops.toArray listed = []) : ∀ i, i < ops.length → lst listed i = true := by
  intro i
  induction i using Nat.strongRecOn with
  | _ i ih =>
    intro hi
    refine Classical.byContradiction fun hn => ?_
    have hmem : i ∈ Region.ready .any ops.toArray listed := by
      simp only [Region.ready, List.mem_filter, List.mem_range, Bool.and_eq_true, List.getElem?_toArray, List.size_toArray]
      refine ⟨hi, ?_, ?_⟩
      · have hil : i < listed.size := by omega
        simp only [lst, Array.getD_eq_getD_getElem?, Array.getElem?_eq_getElem hil, Option.getD_some] at hn ⊢
        simpa using hn
      · rw [List.getElem?_eq_getElem hi]
        simp only [Option.map_some, Option.getD_some, Array.all_eq_true']
        intro e he
        cases hb : Region.binds .any e with
        | false => rfl
        | true =>
          have hlt := hed i _ (List.getElem?_eq_getElem hi) e (by simpa using he) hb
          have := ih e.on hlt (by omega)
          simpa [lst] using this
    rw [h] at hmem
    cases hmem

theorem any (hc : D.Ck n0) (hpj : ∀ p, pn = some p → p.1 < ops.length) (Q : Exit → Act → World → Prop)
    (hQn : pn = none → ∀ r' F' a' w', D.Inv n0 r0 F0 a0 w0 (fun x => decide (x < ops.length)) r' F' a' w' → Q .normal a' w')
    (hQp : ∀ i v z, pn = some (i, v, z) → ∀ r' F' a' w', Tr r0 F0 n0 w0 r' F' z.h.length w' → Sat r' F' z.h w' → a'.defers = a0.defers → Q (.panic [{ v := ren r' v, recovered := false }]) a' w') :
    ∀ (fuel : Nat) (listed : Array Bool) (a : Act) (w : World) (r : Env) (F : Foot), listed.size = ops.length → listed.toList.count false = fuel → Lst ops pn (lst listed) →
      D.Inv n0 r0 F0 a0 w0 (lst listed) r F a w → wpAny P .any ops.toArray Q fuel listed a w := by
  have done : ∀ (listed : Array Bool) (a : Act) (w : World) (r : Env) (F : Foot), listed.size = ops.length → Lst ops pn (lst listed) → D.Inv n0 r0 F0 a0 w0 (lst listed) r F a w →
      (∀ i, i < ops.length → lst listed i = true) → Q .normal a w := by
    intro listed a w r F hsz hL hI hall
    have hpn : pn = none := by
      cases h : pn with
      | none => rfl
      | some p =>
        have hp := hpj p h
        have := (hL.good p.1 (hall p.1 hp)).2
        rw [h] at this
        rw [show p = (p.1, p.2.1, p.2.2) from rfl, badJ_self hp] at this
        cases this
    have e : lst listed = fun x => decide (x < ops.length) := by
      funext x
      by_cases hx : x < ops.length
      · rw [hall x hx]; simp [hx]
      · simp only [hx, decide_false]
        rw [← Bool.not_eq_true]
        exact fun h => hx (hL.good x h).1
    exact hQn hpn r F a w (e ▸ hI)
  intro fuel
  induction fuel with
  | zero =>
    intro listed a w r F hsz hct hL hI
    have hall : ∀ i, i < ops.length → lst listed i = true := by
      intro i hi
      have hil : i < listed.size := by omega
      simp only [lst, Array.getD_eq_getD_getElem?, Array.getElem?_eq_getElem hil, Option.getD_some]
      refine Classical.byContradiction fun hn => ?_
      have hf : listed[i] = false := by simpa using hn
      have := List.count_pos_iff.2 (show false ∈ listed.toList from by rw [← hf]; simp)
      omega
    refine ⟨?_, done listed a w r F hsz hL hI hall⟩
    refine List.eq_nil_iff_forall_not_mem.2 fun i hi => ?_
    obtain ⟨o, ho, hf, _⟩ := ready_spec hsz hi
    have := hall i (List.getElem?_eq_some_iff.1 ho).1
    simp [lst, Array.getD_eq_getD_getElem?, hf] at this
  | succ fuel ih =>
    intro listed a w r F hsz hct hL hI
    refine ⟨fun h => done listed a w r F hsz hL hI (stuck hsz hc.edge h), fun i hi => ?_⟩
    obtain ⟨o, ho, hf, hed⟩ := ready_spec hsz hi
    have hil : i < ops.length := (List.getElem?_eq_some_iff.1 ho).1
    have hn : lst listed i = false := by simp [lst, Array.getD_eq_getD_getElem?, hf]
    have hw : ∀ x ∈ W ops i, x = i ∨ lst listed x = true := fun x hx => W_ready hL.closed ho hed hx
    unfold wpOp
    simp only [List.getElem?_toArray, ho]
    cases hb : bad ops pn i with
    | false =>
      refine hI.step hc hL ho hb hn hw _ Q fun r' F' a' w' hI' => ?_
      rw [← lst_set (by omega)] at hI'
      refine ih _ a' w' r' F' (by simp [hsz]) ?_ ?_ hI'
      · have := count_set listed.toList i (by simpa using hf)
        simp only [Array.toList_setIfInBounds]
        omega
      · rw [lst_set (by omega)]
        refine ⟨fun x hx => ?_, fun j oj hoj hj e he hbe => ?_⟩
        · rcases ins_iff.1 hx with hx | rfl
          · exact hL.good x hx
          · exact ⟨hil, hb⟩
        · rcases ins_iff.1 hj with hj | rfl
          · exact ins_iff.2 (.inl (hL.closed j oj hoj hj e he hbe))
          · rw [ho] at hoj; cases hoj
            exact ins_iff.2 (.inl (hed e he hbe))
    | true =>
      cases hp : pn with
      | none => rw [hp] at hb; cases hb
      | some p =>
        obtain ⟨j, v, z⟩ := p
        have hji : j = i := by
          have hjw : j ∈ W ops i := by
            rw [hp] at hb; exact memB_iff.1 hb
          rcases hw j hjw with h | h
          · exact h
          · have := (hL.good j h).2
            rw [hp, badJ_self (hL.good j h).1] at this
            cases this
        subst hji
        exact hI.pan hc hL ho hp hn hw _ Q fun r' F' w' ht hS => hQp j v z hp r' F' a w' ht hS hI.defers
end Draw

theorem drawOk_ck {D : Draw P ops pn} {n0 : Nat} {ents : List Ent} (hn0 : n0 = D.len 0) (he : ∀ i e, ents[i]? = some e → D.ents i = e)
    (h : drawOk n0 ops (waits ops) ents.reverse (pn.map (·.1)) = true) : D.Ck n0 := by
  have main : ∀ i o, ops[i]? = some o → ents[i]? = some (D.ents i) ∧ noSel o = true ∧ (∀ e ∈ o.after.toList, Region.binds .any e = true → e.on < i) ∧
      (bad ops pn i = false → saidOk n0 ents (W ops i) (D.ents i) = true ∧ quietJ (waits ops) (pn.map (·.1)) i (D.ents i) = true) ∧
      ((bad ops pn i = false ∨ isJ (pn.map (·.1)) i = true) → ∀ x, x < i → x ∉ W ops i → (bad ops pn x = false ∨ isJ (pn.map (·.1)) x = true) →
        ∃ ox, ops[x]? = some ox ∧ free ops ox o (D.ents x) (D.ents i) = true) := by
    intro i o ho
    have hil : i < ops.length := (List.getElem?_eq_some_iff.1 ho).1
    simp only [drawOk, List.reverse_reverse, List.all_eq_true, List.mem_range] at h
    have hi := h i hil
    simp only [nth_eq, ho] at hi
    cases hei : ents[i]? with
    | none => simp [hei] at hi
    | some ei =>
      have hDi := he i ei hei
      simp only [hei, Bool.and_eq_true, Bool.or_eq_true, List.all_eq_true, List.mem_range, Bool.not_eq_true'] at hi
      obtain ⟨⟨⟨h1, h2⟩, h3⟩, h4⟩ := hi
      refine ⟨by rw [hDi], h1, fun e he' hb => ?_, fun hb => ?_, fun hb x hx hxw hbx => ?_⟩
      · rcases h2 e he' with h | h
        · rw [hb] at h; cases h
        · simpa using h
      · rcases h3 with h3 | h3
        · have : bad ops pn i = true := h3
          rw [hb] at this; cases this
        · rw [hDi]
          exact ⟨by simpa [W, nth_eq] using h3.1, h3.2⟩
      · rcases h4 with h4 | h4
        · have e1 : bad ops pn i = true := h4.1
          rcases hb with hb | hb
          · rw [hb] at e1; cases e1
          · rw [hb] at h4; cases h4.2
        · rcases h4 x hx with h5 | h5
          · rcases h5 with h5 | h5
            · exact (hxw (by simpa [W, nth_eq] using memB_iff.1 h5)).elim
            · have e1 : bad ops pn x = true := h5.1
              rcases hbx with hbx | hbx
              · rw [hbx] at e1; cases e1
              · rw [hbx] at h5; cases h5.2
          · have hox := List.getElem?_eq_getElem (show x < ops.length by omega)
            cases hex : ents[x]? with
            | none => simp [hox, hex] at h5
            | some ex =>
              simp only [hox, hex] at h5
              exact ⟨_, hox, by rw [hDi, he x ex hex]; exact h5⟩
  refine ⟨hn0, fun i o ho => (main i o ho).2.1, fun i o ho => (main i o ho).2.2.1, fun i hi hb k hk => ?_, fun i hi hb p hp => ?_, fun x i ox oi hx hox hoi hbx hbi hxw => ?_⟩
  · have := ((main i _ (List.getElem?_eq_getElem hi)).2.2.2.1 hb).1
    simp only [saidOk, List.all_eq_true] at this
    have := this k hk
    simp only [Bool.or_eq_true, List.any_eq_true] at this
    rcases this with h1 | ⟨x, hx, hx2⟩
    · exact .inl (by simpa using h1)
    · rw [nth_eq] at hx2
      cases hex : ents[x]? with
      | none => simp [hex] at hx2
      | some ex =>
        rw [hex] at hx2
        refine .inr ⟨x, hx, ?_⟩
        rw [he x ex hex]
        simpa using hx2
  · have := ((main i _ (List.getElem?_eq_getElem hi)).2.2.2.1 hb).2
    have hpj : pn.map (·.1) = some p.1 := by rw [hp]; rfl
    generalize pn.map (·.1) = pj at this hpj
    subst hpj
    simp only [quietJ, Bool.or_eq_true, Bool.and_eq_true, Bool.not_eq_true', Nat.beq_eq] at this
    rcases this with h1 | h1
    · exact .inl (memB_iff.1 h1)
    · exact .inr h1
  · obtain ⟨ox', h1, h2⟩ := (main i oi hoi).2.2.2.2 hbi x hx hxw hbx
    rw [hox] at h1; cases h1
    exact h2
end

section
variable {P : Program} {G : Table}
theorem draw_sound (hG : TableOK P G) (hm : P.follows .mixedOrders = true) {N : Nat} {id : Nat} {ops : Array Oper} {st : St} {k : KE → St → RR} {out : Out}
    (h : exec std P G N (.region id ops true) st k = some out) (hok : OkSt st) :
    ∃ e st', k e st' = some out ∧ Good st e st' ∧ Runs (fun Q a w => (Code.region id ops true).wp P Q a w) st e st' := by
  unfold exec at h
  obtain ⟨L, pn, s', h1, hok', ht⟩ := execDraw_trace hG h hok
  simp only [List.append_nil] at h1
  obtain ⟨t0, t1, t2⟩ := ht.start
  let D := ht.draw
  have hD0 : D.sts 0 = st := t0
  have hDn : D.sts ops.toList.length = s' := t1
  have hlen0 : st.h.length = D.len 0 := by unfold Draw.len; rw [hD0]
  have hents : ∀ i e, (L.map (·.2))[i]? = some e → D.ents i = e := by
    intro i e he
    rw [List.getElem?_map] at he
    show entAt L i = e
    unfold entAt
    cases hL : L[i]? with
    | none => rw [hL] at he; cases he
    | some x => rw [hL] at he; cases he; rfl
  have hmono : D.len 0 ≤ D.len ops.toList.length := D.len_mono (Nat.zero_le _) (Nat.le_refl _)
  -- the ground
  have start : ∀ (r : Env) (F : Foot) (a : Act) (w : World), Sees r st.t a → Sat r F st.h w →
      D.Inv st.h.length r F a w (Draw.lst (Array.replicate ops.size false)) r (fun k x => k < st.h.length ∧ F k x) a { w with drawn := w.drawn + 1 } := by
    intro r F a w ha hS
    have hlst : Draw.lst (Array.replicate ops.size false) = fun _ => false := by
      funext x
      simp only [Draw.lst, Array.getD_eq_getD_getElem?]
      by_cases hx : x < ops.size
      · rw [Array.getElem?_replicate, if_pos hx]; rfl
      · rw [Array.getElem?_replicate, if_neg hx]; rfl
    rw [hlst]
    have none_ : ∀ {α : Type} (T : Nat → Bool) (val : Nat → α) (init : α) (n : Nat), last (fun _ => false) T val init n = init := by
      intro α T val init n
      induction n with
      | zero => rfl
      | succ n ih => simp only [last]; rw [if_neg (by simp)]; exact ih
    have hhs : ∀ k, D.hs (fun _ => false) ops.toList.length k = (st.h[k]?).getD .gone := fun k => by
      unfold Draw.hs; rw [none_, hD0]
    have hts : ∀ d, D.ts (fun _ => false) ops.toList.length d = (st.t[d]?).getD undef := fun d => by
      unfold Draw.ts; rw [none_, hD0]
    have hmen : ∀ k, below st.h.length k = true → D.men st.h.length (fun _ => false) k = true := fun k hk => D.men_iff.2 (.inl (below_iff.1 hk))
    have hS' : Sat r F st.h { w with drawn := w.drawn + 1 } := hS.heapEq rfl
    have hts0 : (D.sts 0).t.length = st.t.length := by rw [hD0]
    have ha' : a.tmps.toList = st.t.map (ren r) := ha
    refine ⟨fun k hk => ?_, fun i j x _ _ hx hy => hS.2 i j x hx.1 hy.1 hx.2 hy.2, ?_, ?_, fun d hd => ?_, fun k hk => ?_, fun d hd => ?_, rfl⟩
    · rw [hhs]
      by_cases hkl : k < st.h.length
      · rw [List.getElem?_eq_getElem hkl, Option.getD_some]
        have hF : (fun x => k < st.h.length ∧ F k x) = F k := by funext x; simp [hkl]
        show Blk.holds r (fun x => k < st.h.length ∧ F k x) k _ _
        rw [hF]
        exact hS'.1 k _ (List.getElem?_eq_getElem hkl)
      · rw [List.getElem?_eq_none (by omega), Option.getD_none]
        exact fun x hx => hkl hx.1
    · exact ⟨fun _ _ => rfl, by rw [hlen0]; exact hmono, Nat.le_refl _, fun _ _ _ => rfl, fun k x _ hx => .inr ⟨k, hx.1, hx.2⟩, rfl, rfl, rfl⟩
    · rw [hts0, ← Array.length_toList, ha']; simp
    · rw [hts0] at hd
      rw [hts, ← Array.getElem?_toList, ha', List.getElem?_map, List.getElem?_eq_getElem hd]; rfl
    · rw [hhs]
      by_cases hkl : k < st.h.length
      · rw [List.getElem?_eq_getElem hkl, Option.getD_some]
        exact okB_mono hmen _ (hok.h _ (List.getElem_mem hkl))
      · rw [List.getElem?_eq_none (by omega), Option.getD_none]; trivial
    · rw [hts0] at hd
      rw [hts, List.getElem?_eq_getElem hd, Option.getD_some]
      exact okV_mono hmen _ (hok.t _ (List.getElem_mem hd))
  have hlst0 : ∀ x, Draw.lst (Array.replicate ops.size false) x = false := by
    intro x
    simp only [Draw.lst, Array.getD_eq_getD_getElem?]
    by_cases hx : x < ops.size
    · rw [Array.getElem?_replicate, if_pos hx]; rfl
    · rw [Array.getElem?_replicate, if_neg hx]; rfl
  have hL0 : Draw.Lst ops.toList pn (Draw.lst (Array.replicate ops.size false)) := ⟨fun x hx => (by rw [hlst0 x] at hx; cases hx), fun i o _ hi => (by rw [hlst0 i] at hi; cases hi)⟩
  have hpj : ∀ p, pn = some p → p.1 < ops.toList.length := fun p hp => (by have := ht.lt rfl p hp; simpa using this)
  have main : drawOk st.h.length ops.toList (waits ops.toList) (L.map (·.2)).reverse (pn.map (·.1)) = true → ∀ (r : Env) (F : Foot) (a : Act) (w : World), Sees r st.t a → Sat r F st.h w →
      ∀ Q : Exit → Act → World → Prop,
      (pn = none → ∀ r' F' a' w', D.Inv st.h.length r F a w (fun x => decide (x < ops.toList.length)) r' F' a' w' → Q .normal a' w') →
      (∀ i v z, pn = some (i, v, z) → ∀ r' F' a' w', Tr r F st.h.length w r' F' z.h.length w' → Sat r' F' z.h w' → a'.defers = a.defers → Q (.panic [{ v := ren r' v, recovered := false }]) a' w') →
      (Code.region id ops true).wp P Q a w := by
    intro hck r F a w ha hS Q hQn hQp
    refine wp_region_any hm ?_
    exact Draw.any (drawOk_ck hlen0 hents hck) hpj Q hQn hQp ops.size _ a _ r _ (by simp) (by simp) hL0 (start r F a w ha hS)
  cases hpn : pn with
  | none =>
    rw [hpn] at h1
    dsimp only at h1
    cases hck : drawOk st.h.length ops.toList (waits ops.toList) (L.map (·.2)).reverse none with
    | false => rw [hck] at h1; cases h1
    | true =>
      rw [hck] at h1
      have hall : ∀ S : Nat → Bool, (∀ x, x < ops.toList.length → S x = true) → ∀ {α : Type} (T : Nat → Bool) (val : Nat → α) (init : α) (n : Nat), n ≤ ops.toList.length → last S T val init n = last (good ops.toList pn) T val init n := by
        intro S hSx α T val init n
        induction n with
        | zero => intro _; rfl
        | succ n ih =>
          intro hn
          have hg : good ops.toList pn n = true := by rw [hpn]; rfl
          simp only [last, ih (by omega), hSx n (by omega), hg]
      refine ⟨.normal, s', h1, ⟨hok', ?_, (by intro v hv; cases hv)⟩, fun r F a w ha hS Q hQ => main (by rw [hpn]; exact hck) r F a w ha hS Q (fun _ r' F' a' w' hI => ?_) (fun i v z hp => by rw [hpn] at hp; cases hp)⟩
      · have := hmono
        unfold Draw.len at this
        rw [hD0, hDn] at this
        exact this
      · have hN : D.len ops.toList.length = s'.h.length := by unfold Draw.len; rw [hDn]
        have e1 : ∀ k, k < s'.h.length → s'.h[k]? = some (D.hs (fun x => decide (x < ops.toList.length)) ops.toList.length k) := by
          intro k hk
          have := D.hs_full ops.toList.length (Nat.le_refl _) k (by rw [hN]; exact hk)
          rw [hDn] at this
          rw [this]
          unfold Draw.hs
          rw [hall (fun x => decide (x < ops.toList.length)) (fun x hx => by simpa using hx) _ _ _ _ (Nat.le_refl _)]
        have htl : s'.t.length = (D.sts 0).t.length := by rw [← hDn]; exact D.tlen _ (Nat.le_refl _)
        have e2 : ∀ d, d < s'.t.length → s'.t[d]? = some (D.ts (fun x => decide (x < ops.toList.length)) ops.toList.length d) := by
          intro d hd
          have := D.ts_full ops.toList.length (Nat.le_refl _) d (by rw [← htl]; exact hd)
          rw [hDn] at this
          rw [this]
          unfold Draw.ts
          rw [hall (fun x => decide (x < ops.toList.length)) (fun x hx => by simpa using hx) _ _ _ _ (Nat.le_refl _)]
        have htr := hI.tr
        rw [hN] at htr
        refine hQ r' F' a' w' htr (fun _ => ?_) ⟨fun k B hk => ?_, fun i j x hi hj => hI.dis i j x (by rw [hN]; exact hi) (by rw [hN]; exact hj)⟩ hI.defers
        · refine List.ext_getElem? fun d => ?_
          rw [Array.getElem?_toList, List.getElem?_map]
          by_cases hd : d < s'.t.length
          · rw [e2 d hd, hI.see d (by rw [← htl]; exact hd)]; rfl
          · rw [List.getElem?_eq_none (by omega), Array.getElem?_eq_none (by rw [hI.size, ← htl]; omega)]; rfl
        · have hkl := (List.getElem?_eq_some_iff.1 hk).1
          rw [e1 k hkl] at hk
          cases hk
          exact hI.sat k (by rw [hN]; exact hkl)
  | some p =>
    obtain ⟨j, v, z⟩ := p
    rw [hpn] at h1
    dsimp only at h1
    cases hck : drawOk st.h.length ops.toList (waits ops.toList) (L.map (·.2)).reverse (some j) with
    | false => rw [hck] at h1; cases h1
    | true =>
      rw [hck] at h1
      have hj : j < ops.toList.length := hpj _ hpn
      have hps := D.pan j _ v z (List.getElem?_eq_getElem hj) hpn
      refine ⟨.pan v, z, h1, ⟨hps.okz, ?_, fun u hu => by cases hu; exact hps.okv⟩, fun r F a w ha hS Q hQ => main (by rw [hpn]; exact hck) r F a w ha hS Q (fun hp => by rw [hpn] at hp; cases hp) (fun i v' z' hp r' F' a' w' ht' hS' hd => ?_)⟩
      · have h3 := D.len_mono (Nat.zero_le j) (by omega)
        rw [hlen0]
        exact Nat.le_trans h3 hps.le
      · rw [hpn] at hp
        cases hp
        exact hQ r' F' a' w' ht' (fun h => by cases h) hS' hd
end
end Go.Vx
