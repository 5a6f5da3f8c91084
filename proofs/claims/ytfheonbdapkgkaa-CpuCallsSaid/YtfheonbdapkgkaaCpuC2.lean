/- An exception, the way out of it; a bus of one word; a step over it. -/
import Derived.Test.YtfheonbdapkgkaaEnts
import Derived.Test.YtfheonbdapkgkaaCpuA1
import Derived.Test.YtfheonbdapkgkaaCpuB
import Derived.Test.YtfheonbdapkgkaaVxSwap
namespace Go.Vx
open Go Go.Proofs

theorem r12 (a w : Int) (k : Nat) (e : TypeId) : runBody std Try.prog (liftT (tab [])) 40 Try.f12 [.slice (some ⟨0, 0, none⟩) 1 k, .slice none 0 0] [.cells [.int .u32 a, .int .u32 w] e] (ksAuto ([.cells [.int .u32 a, .int .u32 w] e] : Heap).length) =
    some (.ret (.pointer (some ⟨1, 0, none⟩)) [.cells [.int .u32 a, .int .u32 w] e, .cells (lineM false 0) 48, row1 a w]) := by kernel_rfl
theorem ok12 : EntryOK Try.prog e12 := by
  intro args H c hc hH ha
  unfold e12 at hc
  dsimp only at hc
  split at hc
  rotate_left
  · cases hc
  simp only [CT.run, Option.some.injEq] at hc
  subst hc
  exact run_ok tab_nil mixed Try.func12 (r12 _ _ _ _) hH ha

def e31c : Entry := (31, fun args H => match args, H with
  | [.int .i64 n], [] => .br (n == 19) (.leaf (.ret (.tuple #[.int .i64 1, .bool true]) none)) (.br (n == 27) (.leaf (.ret (.tuple #[.int .i64 3, .bool true]) none)) .fail)
  | _, _ => .fail)
theorem ok31c : EntryOK Try.prog e31c := by
  intro args H c hc hH ha
  unfold e31c at hc
  dsimp only at hc
  split at hc
  rotate_left
  · cases hc
  rename_i n
  have h := ok31 [.int .i64 n] [] (.ret (.tuple #[.int .i64 (M31 n).1, .bool (M31 n).2]) none) rfl hH ha
  cases h19 : (n == 19) with
  | true =>
    simp only [CT.run, h19, cond_true, Option.some.injEq] at hc
    subst hc
    obtain rfl := eq_of_beq h19
    exact h
  | false =>
    cases h27 : (n == 27) with
    | true =>
      simp only [CT.run, h19, h27, cond_true, cond_false, Option.some.injEq] at hc
      subst hc
      obtain rfl := eq_of_beq h27
      exact h
    | false =>
      simp only [CT.run, h19, h27, cond_false] at hc
      cases hc

def m28 (m c : Int) : Int := bits .or .u32 (bits .or .u32 (bits .andNot .u32 c 31) m) 128
theorem r28a (s : Sta) (on : Bool) (b v : Int) : runBody std Try.prog (liftT (tab [e31c])) 40 Try.f28 [.pointer (some ⟨0, 0, none⟩), .int .i64 19, .int .u32 b, .int .u32 v] [.cells (cpuL s on) 85] (ksAuto ([.cells (cpuL s on) 85] : Heap).length) =
    some (.ret (.tuple #[]) [.cells (cpuL (entA s b v (m28 19 s.s29)) on) 85]) := by kernel_rfl
theorem r28b (s : Sta) (on : Bool) (b v : Int) : runBody std Try.prog (liftT (tab [e31c])) 40 Try.f28 [.pointer (some ⟨0, 0, none⟩), .int .i64 27, .int .u32 b, .int .u32 v] [.cells (cpuL s on) 85] (ksAuto ([.cells (cpuL s on) 85] : Heap).length) =
    some (.ret (.tuple #[]) [.cells (cpuL (entB s b v (m28 27 s.s29)) on) 85]) := by kernel_rfl
theorem ok28 : EntryOK Try.prog (e28 m28) := by
  intro args H c hc hH ha
  unfold e28 at hc
  dsimp only at hc
  split at hc
  rotate_left
  · cases hc
  split at hc
  rotate_left
  · cases hc
  rename_i m b v l x s on hl
  obtain rfl := cpuOf_eq hl
  cases h19 : (m == 19) with
  | true =>
    simp only [CT.run, h19, cond_true, Option.some.injEq] at hc
    subst hc
    obtain rfl := eq_of_beq h19
    exact run_ok (tab_cons ok31c tab_nil) mixed Try.func28 (r28a s on b v) hH ha
  | false =>
    cases h27 : (m == 27) with
    | true =>
      simp only [CT.run, h19, h27, cond_true, cond_false, Option.some.injEq] at hc
      subst hc
      obtain rfl := eq_of_beq h27
      exact run_ok (tab_cons ok31c tab_nil) mixed Try.func28 (r28b s on b v) hH ha
    | false =>
      simp only [CT.run, h19, h27, cond_false] at hc
      cases hc

/-- the bank of a status word's mode is that one -/
def bk (m37 : Int → Int) (n w : Int) : Bool := m37 w == n
theorem ok37c {m37 : Int → Int} (h37 : EntryOK Try.prog (e37 m37)) : EntryOK Try.prog (e37c (bk m37 1) (bk m37 3)) := by
  intro args H c hc hH ha
  unfold e37c at hc
  dsimp only at hc
  split at hc
  rotate_left
  · cases hc
  rename_i w
  have h := h37 [.int .u32 w] [] (.ret (.int .i64 (m37 w)) none) rfl hH ha
  cases h1 : bk m37 1 w with
  | true =>
    simp only [CT.run, h1, cond_true, Option.some.injEq] at hc
    subst hc
    rw [eq_of_beq h1] at h
    exact h
  | false =>
    cases h3 : bk m37 3 w with
    | true =>
      simp only [CT.run, h1, h3, cond_true, cond_false, Option.some.injEq] at hc
      subst hc
      rw [eq_of_beq h3] at h
      exact h
    | false =>
      simp only [CT.run, h1, h3, cond_false] at hc
      cases hc

theorem r34 (is1 is3 : Int → Bool) (s : Sta) (on : Bool) : runBody std Try.prog (liftT (tab [e37c is1 is3])) 40 Try.f34 [.pointer (some ⟨0, 0, none⟩), .int .i64 14] [.cells (cpuL s on) 85] (ksAuto ([.cells (cpuL s on) 85] : Heap).length) =
    cond (is1 s.s29) (some (.ret (.pointer (some ⟨0, 18, some 1⟩)) [.cells (cpuL s on) 85])) (cond (is3 s.s29) (some (.ret (.pointer (some ⟨0, 18, some 3⟩)) [.cells (cpuL s on) 85])) none) := by kernel_rfl
theorem ok34c {is1 is3 : Int → Bool} (h37 : EntryOK Try.prog (e37c is1 is3)) : EntryOK Try.prog (e34c is1 is3) := by
  intro args H c hc hH ha
  unfold e34c at hc
  dsimp only at hc
  split at hc
  rotate_left
  · cases hc
  split at hc
  rotate_left
  · cases hc
  rename_i n l x s on hl
  obtain rfl := cpuOf_eq hl
  cases hn : (n == 14) with
  | false => simp only [CT.run, hn, cond_false] at hc; cases hc
  | true =>
  obtain rfl := eq_of_beq hn
  have hr := r34 is1 is3 s on

  cases h1 : is1 s.s29 with
  | true =>
    simp only [CT.run, hn, h1, cond_true, Option.some.injEq] at hc hr
    subst hc
    exact keep_ok (run_ok (tab_cons h37 tab_nil) mixed Try.func34 hr hH ha)
  | false =>
    cases h3 : is3 s.s29 with
    | true =>
      simp only [CT.run, hn, h1, h3, cond_true, cond_false, Option.some.injEq] at hc hr
      subst hc
      exact keep_ok (run_ok (tab_cons h37 tab_nil) mixed Try.func34 hr hH ha)
    | false =>
      simp only [CT.run, hn, h1, h3, cond_true, cond_false] at hc
      cases hc

theorem r27 (is1 is3 : Int → Bool) (s : Sta) (on : Bool) : runBody std Try.prog (liftT (tab [e34c is1 is3])) 40 Try.f27 [.pointer (some ⟨0, 0, none⟩), .int .i64 14] [.cells (cpuL s on) 85] (ksAuto ([.cells (cpuL s on) 85] : Heap).length) =
    cond (is1 s.s29) (some (.ret (.int .u32 s.s19) [.cells (cpuL s on) 85])) (cond (is3 s.s29) (some (.ret (.int .u32 s.s21) [.cells (cpuL s on) 85])) none) := by kernel_rfl
theorem ok27c {is1 is3 : Int → Bool} (h34 : EntryOK Try.prog (e34c is1 is3)) : EntryOK Try.prog (e27c is1 is3) := by
  intro args H c hc hH ha
  unfold e27c at hc
  dsimp only at hc
  split at hc
  rotate_left
  · cases hc
  split at hc
  rotate_left
  · cases hc
  rename_i n l x s on hl
  obtain rfl := cpuOf_eq hl
  cases hn : (n == 14) with
  | false => simp only [CT.run, hn, cond_false] at hc; cases hc
  | true =>
  obtain rfl := eq_of_beq hn
  have hr := r27 is1 is3 s on

  cases h1 : is1 s.s29 with
  | true =>
    simp only [CT.run, hn, h1, cond_true, Option.some.injEq] at hc hr
    subst hc
    exact keep_ok (run_ok (tab_cons h34 tab_nil) mixed Try.func27 hr hH ha)
  | false =>
    cases h3 : is3 s.s29 with
    | true =>
      simp only [CT.run, hn, h1, h3, cond_true, cond_false, Option.some.injEq] at hc hr
      subst hc
      exact keep_ok (run_ok (tab_cons h34 tab_nil) mixed Try.func27 hr hH ha)
    | false =>
      simp only [CT.run, hn, h1, h3, cond_true, cond_false] at hc
      cases hc

/-- is that a mode? -/
def okM (m31 : Int → Int × Bool) (w : Int) : Bool := (m31 (IntKind.wrap .i64 (bits .and .u32 w 31))).2
def cut4 (a : Int) : Int := bits .andNot .u32 a 3
theorem r30 (is1 is3 : Int → Bool) (m31 : Int → Int × Bool) (s : Sta) (a : Int) : runBody std Try.prog (liftT (tab [e37c is1 is3, e31 m31])) 40 Try.f30 [stV s, .int .u32 a] [] (ksAuto ([] : Heap).length) =
    cond (is1 s.s29) (cond (!okM m31 s.s24) (some (.ret (.tuple #[stV s, .bool false]) [])) (some (.ret (.tuple #[stV (bkA s (cut4 a)), .bool true]) [])))
      (cond (is3 s.s29) (cond (!okM m31 s.s26) (some (.ret (.tuple #[stV s, .bool false]) [])) (some (.ret (.tuple #[stV (bkB s (cut4 a)), .bool true]) []))) none) := by kernel_rfl
theorem ok30c {is1 is3 : Int → Bool} {m31 : Int → Int × Bool} (h37 : EntryOK Try.prog (e37c is1 is3)) (h31 : EntryOK Try.prog (e31 m31)) : EntryOK Try.prog (e30c is1 is3 (okM m31) cut4) := by
  intro args H c hc hH ha
  unfold e30c at hc
  dsimp only at hc
  split at hc
  rotate_left
  · cases hc
  split at hc
  rotate_left
  · cases hc
  rename_i v a x s hv
  obtain rfl := staOf_eq hv
  have hr := r30 is1 is3 m31 s a
  have hl : ∀ e ∈ [e37c is1 is3, e31 m31], EntryOK Try.prog e := tab_cons h37 (tab_cons h31 tab_nil)
  cases h1 : is1 s.s29 with
  | true =>
    cases hk : okM m31 s.s24 with
    | false => simp only [CT.run, h1, hk, cond_true, cond_false] at hc; cases hc
    | true =>
      simp only [CT.run, h1, hk, cond_true, cond_false, Bool.not_true, Option.some.injEq] at hc hr
      subst hc
      exact keep_ok (run_ok hl mixed Try.func30 hr hH ha)
  | false =>
    cases h3 : is3 s.s29 with
    | false => simp only [CT.run, h1, h3, cond_false] at hc; cases hc
    | true =>
      cases hk : okM m31 s.s26 with
      | false => simp only [CT.run, h1, h3, hk, cond_true, cond_false] at hc; cases hc
      | true =>
        simp only [CT.run, h1, h3, hk, cond_true, cond_false, Bool.not_true, Option.some.injEq] at hc hr
        subst hc
        exact keep_ok (run_ok hl mixed Try.func30 hr hH ha)

def cutW (a : Int) : Int := cut4 (IntKind.wrap .u32 (a - 0))
def T15 (is1 is3 okm : Int → Bool) (cut : Int → Int) (s : Sta) (on : Bool) : RR :=
  bif (is1 s.s29) then
    bif (is1 s.s29) then
      bif (okm s.s24) then
        (some (.ret (.int .i64 0) [(Blk.cells [(.int .u32 s.s0), (.int .u32 s.s1), (.int .u32 s.s2), (.int .u32 s.s3), (.int .u32 s.s4), (.int .u32 s.s5), (.int .u32 s.s6), (.int .u32 s.s7), (.int .u32 s.s8), (.int .u32 s.s9), (.int .u32 s.s10), (.int .u32 s.s11), (.int .u32 s.s12), (.int .u32 s.s13), (.int .u32 s.s14), (.int .u32 s.s15), (.int .u32 s.s16), (.int .u32 s.s17), (.int .u32 s.s18), (.int .u32 s.s19), (.int .u32 s.s20), (.int .u32 s.s21), (.int .u32 s.s22), (.int .u32 s.s23), (.int .u32 s.s24), (.int .u32 s.s25), (.int .u32 s.s26), (.int .u32 s.s27), (.int .u32 (cut (IntKind.wrap .u32 (s.s19 - 0)))), (.int .u32 s.s24), (.bool on)] 85)]))
      else
        none
    else
      bif (is3 s.s29) then
        bif (okm s.s26) then
          (some (.ret (.int .i64 0) [(Blk.cells [(.int .u32 s.s0), (.int .u32 s.s1), (.int .u32 s.s2), (.int .u32 s.s3), (.int .u32 s.s4), (.int .u32 s.s5), (.int .u32 s.s6), (.int .u32 s.s7), (.int .u32 s.s8), (.int .u32 s.s9), (.int .u32 s.s10), (.int .u32 s.s11), (.int .u32 s.s12), (.int .u32 s.s13), (.int .u32 s.s14), (.int .u32 s.s15), (.int .u32 s.s16), (.int .u32 s.s17), (.int .u32 s.s18), (.int .u32 s.s19), (.int .u32 s.s20), (.int .u32 s.s21), (.int .u32 s.s22), (.int .u32 s.s23), (.int .u32 s.s24), (.int .u32 s.s25), (.int .u32 s.s26), (.int .u32 s.s27), (.int .u32 (cut (IntKind.wrap .u32 (s.s19 - 0)))), (.int .u32 s.s26), (.bool on)] 85)]))
        else
          none
      else
        none
  else
    bif (is3 s.s29) then
      bif (is1 s.s29) then
        bif (okm s.s24) then
          (some (.ret (.int .i64 0) [(Blk.cells [(.int .u32 s.s0), (.int .u32 s.s1), (.int .u32 s.s2), (.int .u32 s.s3), (.int .u32 s.s4), (.int .u32 s.s5), (.int .u32 s.s6), (.int .u32 s.s7), (.int .u32 s.s8), (.int .u32 s.s9), (.int .u32 s.s10), (.int .u32 s.s11), (.int .u32 s.s12), (.int .u32 s.s13), (.int .u32 s.s14), (.int .u32 s.s15), (.int .u32 s.s16), (.int .u32 s.s17), (.int .u32 s.s18), (.int .u32 s.s19), (.int .u32 s.s20), (.int .u32 s.s21), (.int .u32 s.s22), (.int .u32 s.s23), (.int .u32 s.s24), (.int .u32 s.s25), (.int .u32 s.s26), (.int .u32 s.s27), (.int .u32 (cut (IntKind.wrap .u32 (s.s21 - 0)))), (.int .u32 s.s24), (.bool on)] 85)]))
        else
          none
      else
        bif (is3 s.s29) then
          bif (okm s.s26) then
            (some (.ret (.int .i64 0) [(Blk.cells [(.int .u32 s.s0), (.int .u32 s.s1), (.int .u32 s.s2), (.int .u32 s.s3), (.int .u32 s.s4), (.int .u32 s.s5), (.int .u32 s.s6), (.int .u32 s.s7), (.int .u32 s.s8), (.int .u32 s.s9), (.int .u32 s.s10), (.int .u32 s.s11), (.int .u32 s.s12), (.int .u32 s.s13), (.int .u32 s.s14), (.int .u32 s.s15), (.int .u32 s.s16), (.int .u32 s.s17), (.int .u32 s.s18), (.int .u32 s.s19), (.int .u32 s.s20), (.int .u32 s.s21), (.int .u32 s.s22), (.int .u32 s.s23), (.int .u32 s.s24), (.int .u32 s.s25), (.int .u32 s.s26), (.int .u32 s.s27), (.int .u32 (cut (IntKind.wrap .u32 (s.s21 - 0)))), (.int .u32 s.s26), (.bool on)] 85)]))
          else
            none
        else
          none
    else
      none
theorem r15 (is1 is3 okm : Int → Bool) (cut : Int → Int) (s : Sta) (on : Bool) : runBody std Try.prog (liftT (tab [e27c is1 is3, e30c is1 is3 okm cut])) 40 Try.f15 [.pointer (some ⟨0, 0, none⟩), .int .u32 0] [.cells (cpuL s on) 85] (ksAuto ([.cells (cpuL s on) 85] : Heap).length) = T15 is1 is3 okm cut s on := by kernel_rfl
theorem ok15c {is1 is3 okm : Int → Bool} {cut : Int → Int} (h27 : EntryOK Try.prog (e27c is1 is3)) (h30 : EntryOK Try.prog (e30c is1 is3 okm cut)) : EntryOK Try.prog (e15c is1 is3 okm (fun a => cut (IntKind.wrap .u32 (a - 0)))) := by
  intro args H c hc hH ha
  unfold e15c at hc
  dsimp only at hc
  split at hc
  rotate_left
  · cases hc
  split at hc
  rotate_left
  · cases hc
  rename_i n l x s on hl
  obtain rfl := cpuOf_eq hl
  cases hn : (n == 0) with
  | false => simp only [CT.run, hn, cond_false] at hc; cases hc
  | true =>
  obtain rfl := eq_of_beq hn
  have hr := r15 is1 is3 okm cut s on
  have hl : ∀ e ∈ [e27c is1 is3, e30c is1 is3 okm cut], EntryOK Try.prog e := tab_cons h27 (tab_cons h30 tab_nil)
  cases h1 : is1 s.s29 with
  | true =>
    cases hk : okm s.s24 with
    | false => simp only [CT.run, hn, h1, hk, cond_true, cond_false] at hc; cases hc
    | true =>
      simp only [CT.run, hn, h1, hk, cond_true, Option.some.injEq] at hc
      simp only [T15, h1, hk, cond_true] at hr
      subst hc
      exact run_ok hl mixed Try.func15 hr hH ha
  | false =>
    cases h3 : is3 s.s29 with
    | false => simp only [CT.run, hn, h1, h3, cond_true, cond_false] at hc; cases hc
    | true =>
      cases hk : okm s.s26 with
      | false => simp only [CT.run, hn, h1, h3, hk, cond_true, cond_false] at hc; cases hc
      | true =>
        simp only [CT.run, hn, h1, h3, hk, cond_true, cond_false, Option.some.injEq] at hc
        simp only [T15, h1, h3, hk, cond_true, cond_false] at hr
        subst hc
        exact run_ok hl mixed Try.func15 hr hH ha
end Go.Vx
