/- Functions of the program: their trees, that they answer in one shape, their entries. -/
import Derived.Test.YtfheonbdapkgkaaEnts
import Derived.Test.YtfheonbdapkgkaaCpuLive
import Derived.Test.YtfheonbdapkgkaaCpuB
namespace Go.Vx
open Go Go.Proofs

def T38  (w : Int) (a : Int) (b : Int) : RR :=
  bif (decide (0 ≤ b)) then
    bif (decide (0 ≤ (IntKind.wrap .u64 ((IntKind.wrap .u64 (a - b)) + 1)))) then
      (some (.ret (.int .i64 (IntKind.wrap .i64 (bits .and .u32 (shrI .u32 w b) (IntKind.wrap .u32 ((shlI .u32 1 (IntKind.wrap .u64 ((IntKind.wrap .u64 (a - b)) + 1))) - 1))))) []))
    else
      none
  else
    none
theorem r38  (w : Int) (a : Int) (b : Int) : runBody std Try.prog (liftT (tab [])) 40 Try.f38 [.int .u32 w, .int .u64 a, .int .u64 b] [] (ksAuto ([] : Heap).length) = T38  w a b := by kernel_rfl
theorem u64_nonneg (n : Int) : 0 ≤ IntKind.u64.wrap n := by simp [IntKind.wrap, IntKind.bits, IntKind.signed]; omega
theorem g38 (w a b : Int) (hp : decide (0 ≤ b) = true) : Fits kI64 (T38 w a b) := by
  unfold T38
  exact fits_ob hp (fits_ob (decide_eq_true (u64_nonneg _)) (fits_leaf rfl))
noncomputable def M38  : Int → Int → Int → (Int) := fun w a b => kI64.of (T38  w a b)
theorem ok38   : EntryOK Try.prog (e38 (M38 )) := by
  intro args H c hc hH ha
  unfold e38 at hc
  dsimp only at hc
  split at hc
  rotate_left
  · cases hc
  rename_i w a b
  have hp : (decide (0 ≤ b)) = true := by
    cases hp : (decide (0 ≤ b)) with
    | true => rfl
    | false => rw [hp] at hc; cases hc
  rw [hp] at hc
  simp only [CT.run, cond_true, Option.some.injEq] at hc
  subst hc
  exact keep_ok (run_ok tab_nil mixed Try.func38 ((r38 w a b).trans (g38 w a b hp).eq) hH ha)

def T41  (w : Int) (a : Int) : RR :=
  bif (decide (0 ≤ a)) then
    (some (.ret (.bool ((bits .and .u32 (shrI .u32 w a) 1) == 1)) []))
  else
    none
theorem r41  (w : Int) (a : Int) : runBody std Try.prog (liftT (tab [])) 40 Try.f41 [.int .u32 w, .int .u64 a] [] (ksAuto ([] : Heap).length) = T41  w a := by kernel_rfl
theorem g41 (w a : Int) (hp : decide (0 ≤ a) = true) : Fits kBool (T41 w a) := by
  unfold T41
  exact fits_ob hp (fits_leaf rfl)
noncomputable def M41  : Int → Int → (Bool) := fun w a => kBool.of (T41  w a)
theorem ok41   : EntryOK Try.prog (e41 (M41 )) := by
  intro args H c hc hH ha
  unfold e41 at hc
  dsimp only at hc
  split at hc
  rotate_left
  · cases hc
  rename_i w a
  have hp : (decide (0 ≤ a)) = true := by
    cases hp : (decide (0 ≤ a)) with
    | true => rfl
    | false => rw [hp] at hc; cases hc
  rw [hp] at hc
  simp only [CT.run, cond_true, Option.some.injEq] at hc
  subst hc
  exact keep_ok (run_ok tab_nil mixed Try.func41 ((r41 w a).trans (g41 w a hp).eq) hH ha)

def T76  (o : Int) : RR :=
  bif (decide (9 ≤ o)) then
    (some (.ret (.bool (decide (o ≤ 12))) []))
  else
    (some (.ret (.bool false) []))
theorem r76  (o : Int) : runBody std Try.prog (liftT (tab [])) 40 Try.f76 [.int .i64 o] [] (ksAuto ([] : Heap).length) = T76  o := by kernel_rfl
theorem g76  (o : Int) : Fits kBool (T76  o) := by
  unfold T76; repeat' (first | apply fits_br | exact fits_leaf rfl)
noncomputable def M76  : Int → (Bool) := fun o => kBool.of (T76  o)
theorem ok76   : EntryOK Try.prog (e76 (M76 )) := by
  intro args H c hc hH ha
  unfold e76 at hc
  dsimp only at hc
  split at hc
  rotate_left
  · cases hc
  rename_i o
  simp only [CT.run, Option.some.injEq] at hc
  subst hc
  exact keep_ok (run_ok tab_nil mixed Try.func76 ((r76 o).trans (g76 o).eq) hH ha)

def T77  (o : Int) : RR :=
  bif (o == 14) then
    (some (.ret (.bool true) []))
  else
    (some (.ret (.bool (o == 16)) []))
theorem r77  (o : Int) : runBody std Try.prog (liftT (tab [])) 40 Try.f77 [.int .i64 o] [] (ksAuto ([] : Heap).length) = T77  o := by kernel_rfl
theorem g77  (o : Int) : Fits kBool (T77  o) := by
  unfold T77; repeat' (first | apply fits_br | exact fits_leaf rfl)
noncomputable def M77  : Int → (Bool) := fun o => kBool.of (T77  o)
theorem ok77   : EntryOK Try.prog (e77 (M77 )) := by
  intro args H c hc hH ha
  unfold e77 at hc
  dsimp only at hc
  split at hc
  rotate_left
  · cases hc
  rename_i o
  simp only [CT.run, Option.some.injEq] at hc
  subst hc
  exact keep_ok (run_ok tab_nil mixed Try.func77 ((r77 o).trans (g77 o).eq) hH ha)

def T46  (o : Int) : RR :=
  bif (decide (21 ≤ o)) then
    (some (.ret (.bool (decide (o ≤ 24))) []))
  else
    (some (.ret (.bool false) []))
theorem r46  (o : Int) : runBody std Try.prog (liftT (tab [])) 40 Try.f46 [.int .i64 o] [] (ksAuto ([] : Heap).length) = T46  o := by kernel_rfl
theorem g46  (o : Int) : Fits kBool (T46  o) := by
  unfold T46; repeat' (first | apply fits_br | exact fits_leaf rfl)
noncomputable def M46  : Int → (Bool) := fun o => kBool.of (T46  o)
theorem ok46   : EntryOK Try.prog (e46 (M46 )) := by
  intro args H c hc hH ha
  unfold e46 at hc
  dsimp only at hc
  split at hc
  rotate_left
  · cases hc
  rename_i o
  simp only [CT.run, Option.some.injEq] at hc
  subst hc
  exact keep_ok (run_ok tab_nil mixed Try.func46 ((r46 o).trans (g46 o).eq) hH ha)

def T61  (n : Int) : RR :=
  bif (n == 2) then
    (some (.ret (.int .i64 29) []))
  else
    bif (n == 3) then
      (some (.ret (.int .i64 30) []))
    else
      bif (n == 6) then
        (some (.ret (.int .i64 27) []))
      else
        bif (n == 7) then
          (some (.ret (.int .i64 28) []))
        else
          (some (.ret (.int .i64 0) []))
theorem r61  (n : Int) : runBody std Try.prog (liftT (tab [])) 40 Try.f61 [.int .i64 n] [] (ksAuto ([] : Heap).length) = T61  n := by kernel_rfl
theorem g61  (n : Int) : Fits kI64 (T61  n) := by
  unfold T61; repeat' (first | apply fits_br | exact fits_leaf rfl)
noncomputable def M61  : Int → (Int) := fun n => kI64.of (T61  n)
theorem ok61   : EntryOK Try.prog (e61 (M61 )) := by
  intro args H c hc hH ha
  unfold e61 at hc
  dsimp only at hc
  split at hc
  rotate_left
  · cases hc
  rename_i n
  simp only [CT.run, Option.some.injEq] at hc
  subst hc
  exact keep_ok (run_ok tab_nil mixed Try.func61 ((r61 n).trans (g61 n).eq) hH ha)

def T75  (l : Bool) (n : Int) : RR :=
  bif (!l) then
    bif (n == 1) then
      (some (.ret (.int .i64 36) []))
    else
      bif l then
        bif (decide (0 < n)) then
          bif (((decide (0 ≤ n)) && (decide (n < 4))) && (decide ((Int.toNat n) < 4))) then
            (some (.ret (.int .i64 (List.getD ([0, 35, 37, 38] : List Int) (Int.toNat n) 0)) []))
          else
            none
        else
          (some (.ret (.int .i64 0) []))
      else
        (some (.ret (.int .i64 0) []))
  else
    bif l then
      bif (decide (0 < n)) then
        bif (((decide (0 ≤ n)) && (decide (n < 4))) && (decide ((Int.toNat n) < 4))) then
          (some (.ret (.int .i64 (List.getD ([0, 35, 37, 38] : List Int) (Int.toNat n) 0)) []))
        else
          none
      else
        (some (.ret (.int .i64 0) []))
    else
      (some (.ret (.int .i64 0) []))
theorem r75  (l : Bool) (n : Int) : runBody std Try.prog (liftT (tab [])) 40 Try.f75 [.bool l, .int .i64 n] [] (ksAuto ([] : Heap).length) = T75  l n := by kernel_rfl
theorem g75 (l : Bool) (n : Int) (hp : decide (n < 4) = true) : Fits kI64 (T75 l n) := by
  have hb : decide (0 < n) = true → ((decide (0 ≤ n) && decide (n < 4)) && decide (Int.toNat n < 4)) = true := by
    intro h
    simp only [decide_eq_true_eq, Bool.and_eq_true] at *
    omega
  unfold T75
  exact fits_br (fits_br (fits_leaf rfl) (fits_br (fits_if (fun h => fits_ob (hb h) (fits_leaf rfl)) (fun _ => fits_leaf rfl)) (fits_leaf rfl)))
    (fits_br (fits_if (fun h => fits_ob (hb h) (fits_leaf rfl)) (fun _ => fits_leaf rfl)) (fits_leaf rfl))
noncomputable def M75  : Bool → Int → (Int) := fun l n => kI64.of (T75  l n)
theorem ok75   : EntryOK Try.prog (e75 (M75 )) := by
  intro args H c hc hH ha
  unfold e75 at hc
  dsimp only at hc
  split at hc
  rotate_left
  · cases hc
  rename_i l n
  have hp : (decide (n < 4)) = true := by
    cases hp : (decide (n < 4)) with
    | true => rfl
    | false => rw [hp] at hc; cases hc
  rw [hp] at hc
  simp only [CT.run, cond_true, Option.some.injEq] at hc
  subst hc
  exact keep_ok (run_ok tab_nil mixed Try.func75 ((r75 l n).trans (g75 l n hp).eq) hH ha)

def T22  (w : Int) : RR :=
  (some (.ret (.agg #[(.bool ((bits .and .u32 (shrI .u32 w 31) 1) == 1)), (.bool ((bits .and .u32 (shrI .u32 w 30) 1) == 1)), (.bool ((bits .and .u32 (shrI .u32 w 29) 1) == 1)), (.bool ((bits .and .u32 (shrI .u32 w 28) 1) == 1))]) []))
theorem r22  (w : Int) : runBody std Try.prog (liftT (tab [])) 40 Try.f22 [.int .u32 w] [] (ksAuto ([] : Heap).length) = T22  w := by kernel_rfl
theorem g22  (w : Int) : Fits kFlg (T22  w) := by
  unfold T22; repeat' (first | apply fits_br | exact fits_leaf rfl)
noncomputable def M22  : Int → (Flg) := fun w => kFlg.of (T22  w)
theorem ok22   : EntryOK Try.prog (e22 (M22 )) := by
  intro args H c hc hH ha
  unfold e22 at hc
  dsimp only at hc
  split at hc
  rotate_left
  · cases hc
  rename_i w
  simp only [CT.run, Option.some.injEq] at hc
  subst hc
  exact keep_ok (run_ok tab_nil mixed Try.func22 ((r22 w).trans (g22 w).eq) hH ha)

def T31  (n : Int) : RR :=
  bif (n == 16) then
    bif (n == 16) then
      (some (.ret (.tuple #[(.int .i64 0), (.bool true)]) []))
    else
      bif (n == 19) then
        (some (.ret (.tuple #[(.int .i64 1), (.bool true)]) []))
      else
        bif (n == 23) then
          (some (.ret (.tuple #[(.int .i64 2), (.bool true)]) []))
        else
          bif (n == 27) then
            (some (.ret (.tuple #[(.int .i64 3), (.bool true)]) []))
          else
            bif (n == 18) then
              (some (.ret (.tuple #[(.int .i64 4), (.bool true)]) []))
            else
              (some (.ret (.tuple #[(.int .i64 0), (.bool false)]) []))
  else
    bif (n == 31) then
      (some (.ret (.tuple #[(.int .i64 0), (.bool true)]) []))
    else
      bif (n == 19) then
        (some (.ret (.tuple #[(.int .i64 1), (.bool true)]) []))
      else
        bif (n == 23) then
          (some (.ret (.tuple #[(.int .i64 2), (.bool true)]) []))
        else
          bif (n == 27) then
            (some (.ret (.tuple #[(.int .i64 3), (.bool true)]) []))
          else
            bif (n == 18) then
              (some (.ret (.tuple #[(.int .i64 4), (.bool true)]) []))
            else
              (some (.ret (.tuple #[(.int .i64 0), (.bool false)]) []))
theorem r31  (n : Int) : runBody std Try.prog (liftT (tab [])) 40 Try.f31 [.int .i64 n] [] (ksAuto ([] : Heap).length) = T31  n := by kernel_rfl
theorem g31  (n : Int) : Fits kI64Ok (T31  n) := by
  unfold T31; repeat' (first | apply fits_br | exact fits_leaf rfl)
noncomputable def M31  : Int → (Int × Bool) := fun n => kI64Ok.of (T31  n)
theorem ok31   : EntryOK Try.prog (e31 (M31 )) := by
  intro args H c hc hH ha
  unfold e31 at hc
  dsimp only at hc
  split at hc
  rotate_left
  · cases hc
  rename_i n
  simp only [CT.run, Option.some.injEq] at hc
  subst hc
  exact keep_ok (run_ok tab_nil mixed Try.func31 ((r31 n).trans (g31 n).eq) hH ha)

def T37 (m31 : Int → (Int × Bool)) (w : Int) : RR :=
  (some (.ret (.int .i64 (Prod.fst (m31 (IntKind.wrap .i64 (bits .and .u32 w 31))))) []))
theorem r37 (m31 : Int → (Int × Bool)) (w : Int) : runBody std Try.prog (liftT (tab [e31 m31])) 40 Try.f37 [.int .u32 w] [] (ksAuto ([] : Heap).length) = T37 m31 w := by kernel_rfl
theorem g37 (m31 : Int → (Int × Bool)) (w : Int) : Fits kI64 (T37 m31 w) := by
  unfold T37; repeat' (first | apply fits_br | exact fits_leaf rfl)
noncomputable def M37 (m31 : Int → (Int × Bool)) : Int → (Int) := fun w => kI64.of (T37 m31 w)
theorem ok37 {m31 : Int → (Int × Bool)} (h31 : EntryOK Try.prog (e31 m31)) : EntryOK Try.prog (e37 (M37 m31)) := by
  intro args H c hc hH ha
  unfold e37 at hc
  dsimp only at hc
  split at hc
  rotate_left
  · cases hc
  rename_i w
  simp only [CT.run, Option.some.injEq] at hc
  subst hc
  exact keep_ok (run_ok (tab_cons h31 tab_nil) mixed Try.func37 ((r37 m31 w).trans (g37 m31 w).eq) hH ha)

def T14  (o : Int) : RR :=
  (some (.ret (.int .i64 o) []))
theorem r14  (o : Int) : runBody std Try.prog (liftT (tab [])) 40 Try.f14 [.int .i64 o] [] (ksAuto ([] : Heap).length) = T14  o := by kernel_rfl
theorem g14  (o : Int) : Fits kI64 (T14  o) := by
  unfold T14; repeat' (first | apply fits_br | exact fits_leaf rfl)
noncomputable def M14  : Int → (Int) := fun o => kI64.of (T14  o)
theorem ok14   : EntryOK Try.prog (e14 (M14 )) := by
  intro args H c hc hH ha
  unfold e14 at hc
  dsimp only at hc
  split at hc
  rotate_left
  · cases hc
  rename_i o
  simp only [CT.run, Option.some.injEq] at hc
  subst hc
  exact keep_ok (run_ok tab_nil mixed Try.func14 ((r14 o).trans (g14 o).eq) hH ha)

end Go.Vx
