/- A state as an argument: opened, and read again. -/
import Derived.Test.YtfheonbdapkgkaaCpuTypes
import Derived.WalkKit
import Derived.ProofKit
import Derived.OpenShut
import Derived.Test.YtfheonbdapkgkaaRows
namespace Go.Vx
open Go Go.Proofs Go.ChangeShapes Go.WideShapes

section
variable {H : Type} {enc : TypeId × Value → H} {P : Program}

/-- a type without pointers -/
def flat (P : Program) : Nat → TypeId → Bool
  | 0, _ => true
  | n + 1, t => match P.underlying t with
    | some .bool => true
    | some (.int _) => true
    | some (.struct fs) => fs.toList.all fun f => flat P n f.type
    | some (.array _ e) => flat P n e
    | _ => false

theorem mapM_same {α β : Type} {f g : α → Option β} : ∀ {l : List α}, (∀ x ∈ l, f x = g x) → l.mapM f = l.mapM g
  | [], _ => rfl
  | a :: l, h => by
    rw [List.mapM_cons, List.mapM_cons, h a (by simp), mapM_same (l := l) fun x hx => h x (by simp [hx])]

theorem trod_struct_eq {w : World} {base : Nat} {sp : Nat → Bool} {held : Bool} {n : Nat} {t : TypeId} {fs : Array Field} (ht : P.underlying t = some (.struct fs)) (cs : List Value) : DataW.trod enc P w base sp held (n + 1) t cs =
    if cs.length = P.cellsOf t then (fs.toList.mapM fun f => DataW.trod enc P w base sp held n f.type ((cs.drop f.offset).take (P.cellsOf f.type))).map fun xs => (.agg (xs.map (·.1)), xs.flatMap (·.2)) else none := by
  conv => lhs; unfold DataW.trod
  rw [ht]
theorem trod_array_eq {w : World} {base : Nat} {sp : Nat → Bool} {held : Bool} {n m : Nat} {t e : TypeId} (ht : P.underlying t = some (.array m e)) (cs : List Value) : DataW.trod enc P w base sp held (n + 1) t cs =
    if cs.length = P.cellsOf t then ((List.range m).mapM fun i => DataW.trod enc P w base sp held n e ((cs.drop (i * P.cellsOf e)).take (P.cellsOf e))).map fun xs => (.agg (xs.map (·.1)), xs.flatMap (·.2)) else none := by
  conv => lhs; unfold DataW.trod
  rw [ht]

/-- it reads the same in whatever world -/
theorem flat_trod {w w' : World} {base base' : Nat} {sp sp' : Nat → Bool} {held held' : Bool} : ∀ (n : Nat) (t : TypeId) (cs : List Value), flat P n t = true →
    DataW.trod enc P w base sp held n t cs = DataW.trod enc P w' base' sp' held' n t cs
  | 0, t, cs, _ => by unfold DataW.trod; rfl
  | n + 1, t, cs, h => by
    unfold flat at h
    split at h
    · rename_i ht; unfold DataW.trod; rw [ht]; rcases cs with _ | ⟨v, _ | ⟨u, l⟩⟩ <;> first | rfl | (cases v <;> rfl)
    · rename_i k ht; unfold DataW.trod; rw [ht]; rcases cs with _ | ⟨v, _ | ⟨u, l⟩⟩ <;> first | rfl | (cases v <;> rfl)
    · rename_i fs ht
      simp only [List.all_eq_true] at h
      rw [trod_struct_eq ht, trod_struct_eq ht, mapM_same (fun f hf => flat_trod n f.type _ (h f hf))]
    · rename_i m e ht
      rw [trod_array_eq ht, trod_array_eq ht, mapM_same (fun (i : Nat) (_ : i ∈ List.range m) => flat_trod n e _ h)]
    · cases h

theorem flat_Trod {t : TypeId} (hf : ∀ n, flat P n t = true) {w w' : World} {base base' : Nat} {sp sp' : Nat → Bool} {held held' : Bool} {v : Value} {d : DataW H} {ps : List MemPlace}
    (h : DataW.Trod enc P w base sp held t v d ps) : DataW.Trod enc P w' base' sp' held' t v d ps := by
  obtain ⟨n, hn⟩ := h
  exact ⟨n, by rw [← hn]; exact flat_trod n t _ (hf n)⟩

def wfI (x : Int) : Prop := 0 ≤ x ∧ x < 4294967296

/-- a row of words, opened -/
theorem open_row {w : World} {base : Nat} {sp : Nat → Bool} {held : Bool} {n e fuel : Nat} {t : TypeId} {cs : List Value} {x : DataW H × List MemPlace} (ht : P.underlying t = some (.array n e)) (he : P.underlying e = some (.int .u32))
    (hc : P.cellsOf e = 1) (hn : P.cellsOf t = n) (h : DataW.trod enc P w base sp held fuel t cs = some x) : ∃ l : List Int, l.length = n ∧ cs = l.map (Value.int .u32) ∧ (∀ y ∈ l, wfI y) ∧ x.2 = [] := by
  obtain ⟨xs, m, _, rfl, hl, hx, hf⟩ := DataW.trod_array ht h
  rw [hn] at hl
  rw [hc] at hf
  have hone : ∀ i, i < n → ∃ y, cs[i]? = some (.int .u32 y) ∧ wfI y ∧ ∃ d, xs[i]? = some (d, []) := by
    intro i hi
    have hi' := hf i hi
    rw [Nat.mul_one] at hi'
    have hd : (cs.drop i).take 1 = [cs[i]'(by omega)] := by
      rw [List.drop_eq_getElem_cons (by omega)]; rfl
    rw [hd] at hi'
    have hxi : xs[i]? = some (xs[i]'(by omega)) := List.getElem?_eq_getElem (by omega)
    rw [hxi] at hi'
    obtain ⟨y, h1, h2, h3⟩ := DataW.trod_int he hi'
    simp only [List.cons.injEq, and_true] at h1
    have hb := bounds_u32 h3
    refine ⟨y, by rw [List.getElem?_eq_getElem (by omega), h1], ⟨hb.1, by omega⟩, _, by rw [hxi, h2]⟩
  refine ⟨cs.map (fun v => match v with | .int _ y => y | _ => 0), by simpa using hl, ?_, ?_, ?_⟩
  · rw [List.map_map]
    refine (List.ext_getElem? fun i => ?_)
    rw [List.getElem?_map]
    by_cases hi : i < n
    · obtain ⟨y, h1, _⟩ := hone i hi
      rw [h1]; rfl
    · rw [List.getElem?_eq_none (by omega)]; rfl
  · intro y hy
    rw [List.mem_map] at hy
    obtain ⟨v, hv, rfl⟩ := hy
    obtain ⟨i, hi⟩ := List.getElem?_of_mem hv
    have hil := (List.getElem?_eq_some_iff.1 hi).1
    obtain ⟨y, h1, h2, _⟩ := hone i (by omega)
    rw [hi] at h1
    obtain rfl := Option.some.inj h1
    exact h2
  · show xs.flatMap (·.2) = []
    rw [List.flatMap_eq_nil_iff]
    intro p hp
    obtain ⟨i, hi⟩ := List.getElem?_of_mem hp
    have hil := (List.getElem?_eq_some_iff.1 hi).1
    obtain ⟨y, _, _, d, h3⟩ := hone i (by omega)
    rw [hi] at h3
    obtain rfl := Option.some.inj h3
    rfl
end

def staAll (s : Sta) : List Int := [s.s0, s.s1, s.s2, s.s3, s.s4, s.s5, s.s6, s.s7, s.s8, s.s9, s.s10, s.s11, s.s12, s.s13, s.s14, s.s15, s.s16, s.s17, s.s18, s.s19, s.s20, s.s21, s.s22, s.s23, s.s24, s.s25, s.s26, s.s27, s.s28, s.s29]
def wfS (s : Sta) : Prop := ∀ y ∈ staAll s, wfI y

theorem flat26 : ∀ n, flat Try.prog n 26 = true
  | 0 => rfl
  | 1 => by kernel_rfl
  | 2 => by kernel_rfl
  | n + 3 => by kernel_rfl

set_option maxRecDepth 100000 in
theorem open_state {H : Type} {enc : TypeId × Value → H} {w : World} {base : Nat} {sp : Nat → Bool} {held : Bool} {r : Reach} {b0 : Nat} {v : Value} {d : DataW H} {ps : List MemPlace}
    (hval : Value.okWide Try.prog w r b0 26 v) (hd : DataW.Trod enc Try.prog w base sp held 26 v d ps) : ∃ s : Sta, v = stV s ∧ ps = [] ∧ wfS s := by
  have hc22 : Try.prog.cellsOf 22 = 1 := by kernel_rfl
  have hc23 : Try.prog.cellsOf 23 = 13 := by kernel_rfl
  have hc24 : Try.prog.cellsOf 24 = 5 := by kernel_rfl
  have hc26 : Try.prog.cellsOf 26 = 30 := by kernel_rfl
  obtain ⟨⟨cs⟩, rfl, hsz⟩ := okWide_struct Try.underlying26 hval
  obtain ⟨fuel, hf⟩ := hd
  have hf' : DataW.trod enc Try.prog w base sp held fuel 26 cs = some (d, ps) := hf
  obtain ⟨ys, m, _, hdp, hlen, hl, hall⟩ := DataW.trod_struct Try.underlying26 hf'
  rw [hc26] at hlen
  match ys, hl with
  | [y0, y1, y2, y3, y4, y5], _ =>
  have h0 := hall 0 _ rfl
  have h1 := hall 1 _ rfl
  have h2 := hall 2 _ rfl
  have h3 := hall 3 _ rfl
  have h4 := hall 4 _ rfl
  have h5 := hall 5 _ rfl
  rw [List.getElem?_cons_zero] at h0
  simp only [List.getElem?_cons_zero, List.getElem?_cons_succ] at h1 h2 h3 h4 h5
  obtain ⟨l0, n0, e0, w0, p0⟩ := open_row Try.underlying23 Try.underlying22 hc22 hc23 h0
  obtain ⟨l1, n1, e1, w1, p1⟩ := open_row Try.underlying24 Try.underlying22 hc22 hc24 h1
  obtain ⟨l2, n2, e2, w2, p2⟩ := open_row Try.underlying24 Try.underlying22 hc22 hc24 h2
  obtain ⟨l3, n3, e3, w3, p3⟩ := open_row Try.underlying24 Try.underlying22 hc22 hc24 h3
  obtain ⟨z4, e4, q4, b4⟩ := DataW.trod_int Try.underlying22 h4
  obtain ⟨z5, e5, q5, b5⟩ := DataW.trod_int Try.underlying22 h5
  have hcs : cs = l0.map (Value.int .u32) ++ (l1.map (Value.int .u32) ++ (l2.map (Value.int .u32) ++ (l3.map (Value.int .u32) ++ ([.int .u32 z4] ++ [.int .u32 z5])))) := by
    rw [← e0, ← e1, ← e2, ← e3, ← e4, ← e5]
    match cs, hlen with
    | [c0, c1, c2, c3, c4, c5, c6, c7, c8, c9, c10, c11, c12, c13, c14, c15, c16, c17, c18, c19, c20, c21, c22, c23, c24, c25, c26, c27, c28, c29], _ => rfl
  match l0, n0, l1, n1, l2, n2, l3, n3 with
  | [x0, x1, x2, x3, x4, x5, x6, x7, x8, x9, x10, x11, x12], _, [x13, x14, x15, x16, x17], _, [x18, x19, x20, x21, x22], _, [x23, x24, x25, x26, x27], _ =>
  have hb4 := bounds_u32 b4
  have hb5 := bounds_u32 b5
  refine ⟨⟨x0, x1, x2, x3, x4, x5, x6, x7, x8, x9, x10, x11, x12, x13, x14, x15, x16, x17, x18, x19, x20, x21, x22, x23, x24, x25, x26, x27, z4, z5⟩, by rw [hcs]; rfl, ?_, ?_⟩
  · have : ps = (d, ps).2 := rfl
    rw [this, hdp]
    simp [p0, p1, p2, p3, q4, q5]
  · intro y hy
    have hy' : y ∈ [x0, x1, x2, x3, x4, x5, x6, x7, x8, x9, x10, x11, x12] ++ ([x13, x14, x15, x16, x17] ++ ([x18, x19, x20, x21, x22] ++ ([x23, x24, x25, x26, x27] ++ [z4, z5]))) := hy
    simp only [List.mem_append] at hy'
    rcases hy' with h | h | h | h | h
    · exact w0 y h
    · exact w1 y h
    · exact w2 y h
    · exact w3 y h
    · simp only [List.mem_cons, List.not_mem_nil, or_false] at h
      rcases h with rfl | rfl
      · exact ⟨hb4.1, by omega⟩
      · exact ⟨hb5.1, by omega⟩
end Go.Vx
