/- A processor is made, loaded, read: what these functions come to. -/
import Derived.Test.YtfheonbdapkgkaaEnts
import Derived.Test.YtfheonbdapkgkaaCpuA1
import Derived.Laws.BitsAllLaws
namespace Go.Vx
open Go Go.Proofs

/-- all of these hold: x; else y -/
def allC : List Bool → RR → RR → RR
  | [], x, _ => x
  | c :: l, x, y => cond c (allC l x y) y
/-- the same, asked the other way round -/
def nonC : List Bool → RR → RR → RR
  | [], x, _ => x
  | c :: l, x, y => cond (!c) y (nonC l x y)
theorem allC_eq (x y : RR) : ∀ l : List Bool, allC l x y = cond (l.all id) x y
  | [] => rfl
  | c :: l => by cases c <;> simp [allC, allC_eq x y l]
theorem nonC_eq (x y : RR) : ∀ l : List Bool, nonC l x y = cond (l.all id) x y
  | [] => rfl
  | c :: l => by cases c <;> simp [nonC, nonC_eq x y l]

theorem r24 : runBody std Try.prog (liftT (tab [])) 40 Try.f24 [] [] (ksAuto ([] : Heap).length) = some (.ret (.pointer (some ⟨0, 0, none⟩)) [.cells (cpuL staZ false) 85]) := by kernel_rfl
theorem ok24 : EntryOK Try.prog e24 := by
  intro args H c hc hH ha
  unfold e24 at hc
  dsimp only at hc
  split at hc
  · simp only [CT.run, Option.some.injEq] at hc
    subst hc
    exact run_ok tab_nil mixed Try.func24 r24 hH ha
  · cases hc

theorem r11 (s : Sta) (on : Bool) : runBody std Try.prog (liftT (tab [])) 40 Try.f11 [.pointer (some ⟨0, 0, none⟩)] [.cells (cpuL s on) 85] (ksAuto ([.cells (cpuL s on) 85] : Heap).length) = some (.ret (stV s) [.cells (cpuL s on) 85]) := by kernel_rfl
theorem ok11 : EntryOK Try.prog e11 := by
  intro args H c hc hH ha
  unfold e11 at hc
  dsimp only at hc
  split at hc
  rotate_left
  · cases hc
  split at hc
  rotate_left
  · cases hc
  rename_i l s on hl
  obtain rfl := cpuOf_eq hl
  simp only [CT.run, Option.some.injEq] at hc
  subst hc
  exact keep_ok (run_ok tab_nil mixed Try.func11 (r11 s on) hH ha)

theorem r14i (o : Int) : runBody std Try.prog (liftT (tab [])) 40 Try.f14 [.int .i64 o] [] (ksAuto ([] : Heap).length) = some (.ret (.int .i64 o) []) := by kernel_rfl
theorem ok14i : EntryOK Try.prog e14i := by
  intro args H c hc hH ha
  unfold e14i at hc
  dsimp only at hc
  split at hc
  rotate_left
  · cases hc
  simp only [CT.run, Option.some.injEq] at hc
  subst hc
  exact keep_ok (run_ok tab_nil mixed Try.func14 (r14i _) hH ha)

/-- what Load asks of a state -/
def c18 (m31 : Int → Int × Bool) (t : Sta) : List Bool := [(m31 (IntKind.wrap .i64 (bits .and .u32 t.s29 31))).2, bits .and .u32 t.s28 3 == 0, bits .andNot .u32 t.s29 4026531999 == 0, t.s23 == 0,
  bits .andNot .u32 t.s23 4026531999 == 0, bits .andNot .u32 t.s24 4026531999 == 0, bits .andNot .u32 t.s25 4026531999 == 0, bits .andNot .u32 t.s26 4026531999 == 0]
def l18 (t : Sta) : Bool := bits .andNot .u32 t.s27 4026531999 == 0
def ok18' (m31 : Int → Int × Bool) (t : Sta) : Bool := (c18 m31 t).all id && l18 t
theorem r18 (m31 : Int → Int × Bool) (t s : Sta) (on : Bool) : runBody std Try.prog (liftT (tab [e31 m31])) 40 Try.f18 [.pointer (some ⟨0, 0, none⟩), stV t] [.cells (cpuL s on) 85] (ksAuto ([.cells (cpuL s on) 85] : Heap).length) =
    allC (c18 m31 t) (cond (!l18 t) (some (.ret (.int .i64 200) [.cells (cpuL s on) 85])) (some (.ret (.int .i64 0) [.cells (cpuL t on) 85]))) (some (.ret (.int .i64 200) [.cells (cpuL s on) 85])) := by kernel_rfl
theorem r18' (m31 : Int → Int × Bool) (t s : Sta) (on : Bool) : runBody std Try.prog (liftT (tab [e31 m31])) 40 Try.f18 [.pointer (some ⟨0, 0, none⟩), stV t] [.cells (cpuL s on) 85] (ksAuto ([.cells (cpuL s on) 85] : Heap).length) =
    cond (ok18' m31 t) (some (.ret (.int .i64 0) [.cells (cpuL t on) 85])) (some (.ret (.int .i64 200) [.cells (cpuL s on) 85])) := by
  rw [r18, allC_eq, ok18']
  cases (c18 m31 t).all id <;> cases l18 t <;> rfl
theorem ok18 {m31 : Int → Int × Bool} (h31 : EntryOK Try.prog (e31 m31)) : EntryOK Try.prog (e18 (ok18' m31)) := by
  intro args H c hc hH ha
  unfold e18 at hc
  dsimp only at hc
  split at hc
  rotate_left
  · cases hc
  split at hc
  rotate_left
  · cases hc
  rename_i v l t s on hv hl
  obtain rfl := staOf_eq hv
  obtain rfl := cpuOf_eq hl
  have hr := r18' m31 t s on
  cases hk : ok18' m31 t with
  | true =>
    simp only [CT.run, hk, cond_true, Option.some.injEq] at hc hr
    subst hc
    exact run_ok (tab_cons h31 tab_nil) mixed Try.func18 hr hH ha
  | false =>
    simp only [CT.run, hk, cond_false, Option.some.injEq] at hc hr
    subst hc
    exact keep_ok (run_ok (tab_cons h31 tab_nil) mixed Try.func18 hr hH ha)

/-- what a state is asked by the statement -/
def c26 (m31 : Int → Int × Bool) (t : Sta) : List Bool := [(m31 (IntKind.wrap .i64 (bits .and .u32 t.s29 31))).2, Int.tmod t.s28 4 == 0, bits .andNot .u32 t.s29 4026531999 == 0, t.s23 == 0,
  bits .andNot .u32 t.s24 4026531999 == 0, bits .andNot .u32 t.s25 4026531999 == 0, bits .andNot .u32 t.s26 4026531999 == 0, bits .andNot .u32 t.s27 4026531999 == 0]
def isS (m31 : Int → Int × Bool) (t : Sta) : Bool := (c26 m31 t).all id
theorem r26 (m31 : Int → Int × Bool) (s : Sta) : runBody std Try.prog (liftT (tab [e31 m31])) 40 Try.f26 [stV s] [] (ksAuto ([] : Heap).length) = nonC (c26 m31 s) (some (.ret (.bool true) [])) (some (.ret (.bool false) [])) := by kernel_rfl
theorem ok26 {m31 : Int → Int × Bool} (h31 : EntryOK Try.prog (e31 m31)) : EntryOK Try.prog (e26 (isS m31)) := by
  intro args H c hc hH ha
  unfold e26 at hc
  dsimp only at hc
  split at hc
  rotate_left
  · cases hc
  split at hc
  rotate_left
  · cases hc
  rename_i v s hv
  obtain rfl := staOf_eq hv
  simp only [CT.run, Option.some.injEq] at hc
  subst hc
  refine keep_ok (run_ok (tab_cons h31 tab_nil) mixed Try.func26 ((r26 m31 s).trans ?_) hH ha)
  rw [nonC_eq]
  show cond (isS m31 s) _ _ = _
  cases isS m31 s <;> rfl

def gpS (s : Sta) : Bool := decide (0 ≤ s.s28) && decide (s.s28 < 4294967296)
def ldS (m31 : Int → Int × Bool) (s : Sta) : Sta := cond (isS m31 s) s staZ
theorem isS_ok {m31 : Int → Int × Bool} {s : Sta} (h : gpS s = true) : ok18' m31 s = isS m31 s := by
  simp only [gpS, Bool.and_eq_true, decide_eq_true_eq] at h
  have h3 : bits .and .u32 s.s28 3 = Int.tmod s.s28 4 := by
    rw [u32_and s.s28 3 h.1 h.2 (by omega) (by omega)]
    obtain ⟨n, hn⟩ := Int.eq_ofNat_of_zero_le h.1
    rw [hn]
    show ((n &&& 3 : Nat) : Int) = Int.tmod (n : Int) 4
    rw [show (3 : Nat) = 2 ^ 2 - 1 by rfl, Nat.and_two_pow_sub_one_eq_mod]
    rw [Int.tmod_eq_emod_of_nonneg (Int.natCast_nonneg n)]
    simp
  have h23 : s.s23 = 0 → bits .andNot .u32 s.s23 4026531999 = 0 := by intro e; rw [e]; decide +kernel
  simp only [ok18', isS, c18, c26, l18, List.all_cons, List.all_nil, id, Bool.and_true, h3]
  by_cases h0 : s.s23 = 0
  · simp [h0, show bits .andNot .u32 0 4026531999 = 0 by decide +kernel, Bool.and_assoc]
  · have e0 : (s.s23 == 0) = false := by simpa using h0
    simp only [e0, Bool.false_and, Bool.and_false]
def T9 (ok m26 : Sta → Bool) (s : Sta) : RR :=
  bif (ok s) then
    bif (!(true == (m26 s))) then
      (some (.ret (.pointer none) []))
    else
      bif (!(((s.s0 == s.s0) && ((s.s1 == s.s1) && ((s.s2 == s.s2) && ((s.s3 == s.s3) && ((s.s4 == s.s4) && ((s.s5 == s.s5) && ((s.s6 == s.s6) && ((s.s7 == s.s7) && ((s.s8 == s.s8) && ((s.s9 == s.s9) && ((s.s10 == s.s10) && ((s.s11 == s.s11) && ((s.s12 == s.s12) && true))))))))))))) && (((s.s13 == s.s13) && ((s.s14 == s.s14) && ((s.s15 == s.s15) && ((s.s16 == s.s16) && ((s.s17 == s.s17) && true))))) && (((s.s18 == s.s18) && ((s.s19 == s.s19) && ((s.s20 == s.s20) && ((s.s21 == s.s21) && ((s.s22 == s.s22) && true))))) && (((s.s23 == s.s23) && ((s.s24 == s.s24) && ((s.s25 == s.s25) && ((s.s26 == s.s26) && ((s.s27 == s.s27) && true))))) && ((s.s28 == s.s28) && ((s.s29 == s.s29) && true))))))) then
        (some (.ret (.pointer none) []))
      else
        (some (.ret (.pointer (some ⟨0, 0, none⟩)) [(Blk.cells [(.int .u32 s.s0), (.int .u32 s.s1), (.int .u32 s.s2), (.int .u32 s.s3), (.int .u32 s.s4), (.int .u32 s.s5), (.int .u32 s.s6), (.int .u32 s.s7), (.int .u32 s.s8), (.int .u32 s.s9), (.int .u32 s.s10), (.int .u32 s.s11), (.int .u32 s.s12), (.int .u32 s.s13), (.int .u32 s.s14), (.int .u32 s.s15), (.int .u32 s.s16), (.int .u32 s.s17), (.int .u32 s.s18), (.int .u32 s.s19), (.int .u32 s.s20), (.int .u32 s.s21), (.int .u32 s.s22), (.int .u32 s.s23), (.int .u32 s.s24), (.int .u32 s.s25), (.int .u32 s.s26), (.int .u32 s.s27), (.int .u32 s.s28), (.int .u32 s.s29), (.bool false)] 85)]))
  else
    bif (!(false == (m26 s))) then
      (some (.ret (.pointer none) []))
    else
      (some (.ret (.pointer (some ⟨0, 0, none⟩)) [(Blk.cells [(.int .u32 0), (.int .u32 0), (.int .u32 0), (.int .u32 0), (.int .u32 0), (.int .u32 0), (.int .u32 0), (.int .u32 0), (.int .u32 0), (.int .u32 0), (.int .u32 0), (.int .u32 0), (.int .u32 0), (.int .u32 0), (.int .u32 0), (.int .u32 0), (.int .u32 0), (.int .u32 0), (.int .u32 0), (.int .u32 0), (.int .u32 0), (.int .u32 0), (.int .u32 0), (.int .u32 0), (.int .u32 0), (.int .u32 0), (.int .u32 0), (.int .u32 0), (.int .u32 0), (.int .u32 147), (.bool false)] 85)]))
theorem r9 (ok m26 : Sta → Bool) (s : Sta) : runBody std Try.prog (liftT (tab [e24, e18 ok, e14i, e26 m26, e11])) 40 Try.f9 [stV s] [] (ksAuto ([] : Heap).length) = T9 ok m26 s := by kernel_rfl
theorem r9' (m31 : Int → Int × Bool) (s : Sta) (h : gpS s = true) : T9 (ok18' m31) (isS m31) s = some (.ret (.pointer (some ⟨0, 0, none⟩)) [.cells (cpuL (ldS m31 s) false) 85]) := by
  unfold T9 ldS
  rw [isS_ok h]
  cases isS m31 s
  · rfl
  · simp only [beq_self_eq_true, Bool.and_self, Bool.not_true, cond_true, cond_false]
    rfl
theorem ok9 {m31 : Int → Int × Bool} (h31 : EntryOK Try.prog (e31 m31)) : EntryOK Try.prog (e9 gpS (ldS m31)) := by
  intro args H c hc hH ha
  unfold e9 at hc
  dsimp only at hc
  split at hc
  rotate_left
  · cases hc
  split at hc
  rotate_left
  · cases hc
  rename_i v s hv
  obtain rfl := staOf_eq hv
  cases hg : gpS s with
  | false => simp only [CT.run, hg] at hc; cases hc
  | true =>
    simp only [CT.run, hg, cond_true, Option.some.injEq] at hc
    subst hc
    exact run_ok (tab_cons ok24 (tab_cons (ok18 h31) (tab_cons ok14i (tab_cons (ok26 h31) (tab_cons ok11 tab_nil))))) mixed Try.func9 ((r9 _ _ s).trans (r9' m31 s hg)) hH ha
end Go.Vx
