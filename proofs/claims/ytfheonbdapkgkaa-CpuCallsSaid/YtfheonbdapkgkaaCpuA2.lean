/- Functions of the program: their trees, that they answer in one shape, their entries. -/
import Derived.Test.YtfheonbdapkgkaaEnts
import Derived.Test.YtfheonbdapkgkaaCpuLive
import Derived.Test.YtfheonbdapkgkaaCpuB
namespace Go.Vx
open Go Go.Proofs

def T60 (m38 : Int → Int → Int → (Int)) (m41 : Int → Int → (Bool)) (m76 : Int → (Bool)) (m77 : Int → (Bool)) (w : Int) (i : Ins) : RR :=
  bif (m76 (IntKind.wrap .i64 ((m38 w 24 21) + 1))) then
    bif (!(m41 w 20)) then
      (some (.ret (.agg #[(.int .i64 0), (.int .i64 0), (.bool false), (.int .i64 0), (.int .i64 0), (.int .i64 0), (.int .i64 0), (.int .i64 0), (.int .i64 0), (.int .u32 0), (.int .i64 0), (.int .i64 0), (.bool false), (.bool false), (.bool false), (.int .u16 0), (.int .i64 0), (.int .i64 0), (.int .i64 0), (.int .i64 0)]) []))
    else
      bif (!((m38 w 15 12) == 0)) then
        (some (.ret (.agg #[(.int .i64 0), (.int .i64 0), (.bool false), (.int .i64 0), (.int .i64 0), (.int .i64 0), (.int .i64 0), (.int .i64 0), (.int .i64 0), (.int .u32 0), (.int .i64 0), (.int .i64 0), (.bool false), (.bool false), (.bool false), (.int .u16 0), (.int .i64 0), (.int .i64 0), (.int .i64 0), (.int .i64 0)]) []))
      else
        bif (m77 (IntKind.wrap .i64 ((m38 w 24 21) + 1))) then
          bif (!((m38 w 19 16) == 0)) then
            (some (.ret (.agg #[(.int .i64 0), (.int .i64 0), (.bool false), (.int .i64 0), (.int .i64 0), (.int .i64 0), (.int .i64 0), (.int .i64 0), (.int .i64 0), (.int .u32 0), (.int .i64 0), (.int .i64 0), (.bool false), (.bool false), (.bool false), (.int .u16 0), (.int .i64 0), (.int .i64 0), (.int .i64 0), (.int .i64 0)]) []))
          else
            (some (.ret (.agg #[(.int .i64 i.Cond), (.int .i64 (IntKind.wrap .i64 ((m38 w 24 21) + 1))), (.bool (m41 w 20)), (.int .i64 i.Form), (.int .i64 (m38 w 15 12)), (.int .i64 (m38 w 19 16)), (.int .i64 i.Rm), (.int .i64 i.Rs), (.int .i64 i.Ra), (.int .u32 i.Imm), (.int .i64 i.Shift), (.int .i64 i.Amount), (.bool i.Pre), (.bool i.Up), (.bool i.Write), (.int .u16 i.List), (.int .i64 i.CRn), (.int .i64 i.Op1), (.int .i64 i.CRm), (.int .i64 i.Op2)]) []))
        else
          (some (.ret (.agg #[(.int .i64 i.Cond), (.int .i64 (IntKind.wrap .i64 ((m38 w 24 21) + 1))), (.bool (m41 w 20)), (.int .i64 i.Form), (.int .i64 (m38 w 15 12)), (.int .i64 (m38 w 19 16)), (.int .i64 i.Rm), (.int .i64 i.Rs), (.int .i64 i.Ra), (.int .u32 i.Imm), (.int .i64 i.Shift), (.int .i64 i.Amount), (.bool i.Pre), (.bool i.Up), (.bool i.Write), (.int .u16 i.List), (.int .i64 i.CRn), (.int .i64 i.Op1), (.int .i64 i.CRm), (.int .i64 i.Op2)]) []))
  else
    bif (m77 (IntKind.wrap .i64 ((m38 w 24 21) + 1))) then
      bif (!((m38 w 19 16) == 0)) then
        (some (.ret (.agg #[(.int .i64 0), (.int .i64 0), (.bool false), (.int .i64 0), (.int .i64 0), (.int .i64 0), (.int .i64 0), (.int .i64 0), (.int .i64 0), (.int .u32 0), (.int .i64 0), (.int .i64 0), (.bool false), (.bool false), (.bool false), (.int .u16 0), (.int .i64 0), (.int .i64 0), (.int .i64 0), (.int .i64 0)]) []))
      else
        (some (.ret (.agg #[(.int .i64 i.Cond), (.int .i64 (IntKind.wrap .i64 ((m38 w 24 21) + 1))), (.bool (m41 w 20)), (.int .i64 i.Form), (.int .i64 (m38 w 15 12)), (.int .i64 (m38 w 19 16)), (.int .i64 i.Rm), (.int .i64 i.Rs), (.int .i64 i.Ra), (.int .u32 i.Imm), (.int .i64 i.Shift), (.int .i64 i.Amount), (.bool i.Pre), (.bool i.Up), (.bool i.Write), (.int .u16 i.List), (.int .i64 i.CRn), (.int .i64 i.Op1), (.int .i64 i.CRm), (.int .i64 i.Op2)]) []))
    else
      (some (.ret (.agg #[(.int .i64 i.Cond), (.int .i64 (IntKind.wrap .i64 ((m38 w 24 21) + 1))), (.bool (m41 w 20)), (.int .i64 i.Form), (.int .i64 (m38 w 15 12)), (.int .i64 (m38 w 19 16)), (.int .i64 i.Rm), (.int .i64 i.Rs), (.int .i64 i.Ra), (.int .u32 i.Imm), (.int .i64 i.Shift), (.int .i64 i.Amount), (.bool i.Pre), (.bool i.Up), (.bool i.Write), (.int .u16 i.List), (.int .i64 i.CRn), (.int .i64 i.Op1), (.int .i64 i.CRm), (.int .i64 i.Op2)]) []))
theorem r60 (m38 : Int → Int → Int → (Int)) (m41 : Int → Int → (Bool)) (m76 : Int → (Bool)) (m77 : Int → (Bool)) (w : Int) (i : Ins) : runBody std Try.prog (liftT (tab [e38 m38, e41 m41, e76 m76, e77 m77])) 40 Try.f60 [.int .u32 w, insV i] [] (ksAuto ([] : Heap).length) = T60 m38 m41 m76 m77 w i := by kernel_rfl
theorem g60 (m38 : Int → Int → Int → (Int)) (m41 : Int → Int → (Bool)) (m76 : Int → (Bool)) (m77 : Int → (Bool)) (w : Int) (i : Ins) : Fits kIns (T60 m38 m41 m76 m77 w i) := by
  unfold T60; repeat' (first | apply fits_br | exact fits_leaf rfl)
noncomputable def M60 (m38 : Int → Int → Int → (Int)) (m41 : Int → Int → (Bool)) (m76 : Int → (Bool)) (m77 : Int → (Bool)) : Int → Ins → (Ins) := fun w i => kIns.of (T60 m38 m41 m76 m77 w i)
theorem ok60 {m38 : Int → Int → Int → (Int)} {m41 : Int → Int → (Bool)} {m76 : Int → (Bool)} {m77 : Int → (Bool)} (h38 : EntryOK Try.prog (e38 m38)) (h41 : EntryOK Try.prog (e41 m41)) (h76 : EntryOK Try.prog (e76 m76)) (h77 : EntryOK Try.prog (e77 m77)) : EntryOK Try.prog (e60 (M60 m38 m41 m76 m77)) := by
  intro args H c hc hH ha
  unfold e60 at hc
  dsimp only at hc
  split at hc
  rotate_left
  · cases hc
  rename_i w vi
  split at hc
  rotate_left
  · cases hc
  rename_i i hii
  obtain rfl := insOf_eq hii
  simp only [CT.run, Option.some.injEq] at hc
  subst hc
  exact keep_ok (run_ok (tab_cons h38 (tab_cons h41 (tab_cons h76 (tab_cons h77 tab_nil)))) mixed Try.func60 ((r60 m38 m41 m76 m77 w i).trans (g60 m38 m41 m76 m77 w i).eq) hH ha)

def T57 (m38 : Int → Int → Int → (Int)) (m41 : Int → Int → (Bool)) (w : Int) (i : Ins) : RR :=
  bif (!((m38 w 27 24) == 0)) then
    (some (.ret (.agg #[(.int .i64 0), (.int .i64 0), (.bool false), (.int .i64 0), (.int .i64 0), (.int .i64 0), (.int .i64 0), (.int .i64 0), (.int .i64 0), (.int .u32 0), (.int .i64 0), (.int .i64 0), (.bool false), (.bool false), (.bool false), (.int .u16 0), (.int .i64 0), (.int .i64 0), (.int .i64 0), (.int .i64 0)]) []))
  else
    bif ((decide (0 ≤ (m38 w 23 21))) && (decide ((m38 w 23 21) < 8))) then
      bif (decide ((Int.toNat (m38 w 23 21)) < 8)) then
        bif ((List.getD ([19, 20, 0, 0, 21, 22, 23, 24] : List Int) (Int.toNat (m38 w 23 21)) 0) == 0) then
          (some (.ret (.agg #[(.int .i64 0), (.int .i64 0), (.bool false), (.int .i64 0), (.int .i64 0), (.int .i64 0), (.int .i64 0), (.int .i64 0), (.int .i64 0), (.int .u32 0), (.int .i64 0), (.int .i64 0), (.bool false), (.bool false), (.bool false), (.int .u16 0), (.int .i64 0), (.int .i64 0), (.int .i64 0), (.int .i64 0)]) []))
        else
          bif ((List.getD ([19, 20, 0, 0, 21, 22, 23, 24] : List Int) (Int.toNat (m38 w 23 21)) 0) == 19) then
            bif (!((m38 w 15 12) == 0)) then
              (some (.ret (.agg #[(.int .i64 0), (.int .i64 0), (.bool false), (.int .i64 0), (.int .i64 0), (.int .i64 0), (.int .i64 0), (.int .i64 0), (.int .i64 0), (.int .u32 0), (.int .i64 0), (.int .i64 0), (.bool false), (.bool false), (.bool false), (.int .u16 0), (.int .i64 0), (.int .i64 0), (.int .i64 0), (.int .i64 0)]) []))
            else
              (some (.ret (.agg #[(.int .i64 i.Cond), (.int .i64 (List.getD ([19, 20, 0, 0, 21, 22, 23, 24] : List Int) (Int.toNat (m38 w 23 21)) 0)), (.bool (m41 w 20)), (.int .i64 i.Form), (.int .i64 (m38 w 19 16)), (.int .i64 i.Rn), (.int .i64 (m38 w 3 0)), (.int .i64 (m38 w 11 8)), (.int .i64 (m38 w 15 12)), (.int .u32 i.Imm), (.int .i64 i.Shift), (.int .i64 i.Amount), (.bool i.Pre), (.bool i.Up), (.bool i.Write), (.int .u16 i.List), (.int .i64 i.CRn), (.int .i64 i.Op1), (.int .i64 i.CRm), (.int .i64 i.Op2)]) []))
          else
            (some (.ret (.agg #[(.int .i64 i.Cond), (.int .i64 (List.getD ([19, 20, 0, 0, 21, 22, 23, 24] : List Int) (Int.toNat (m38 w 23 21)) 0)), (.bool (m41 w 20)), (.int .i64 i.Form), (.int .i64 (m38 w 19 16)), (.int .i64 i.Rn), (.int .i64 (m38 w 3 0)), (.int .i64 (m38 w 11 8)), (.int .i64 (m38 w 15 12)), (.int .u32 i.Imm), (.int .i64 i.Shift), (.int .i64 i.Amount), (.bool i.Pre), (.bool i.Up), (.bool i.Write), (.int .u16 i.List), (.int .i64 i.CRn), (.int .i64 i.Op1), (.int .i64 i.CRm), (.int .i64 i.Op2)]) []))
      else
        none
    else
      none
theorem r57 (m38 : Int → Int → Int → (Int)) (m41 : Int → Int → (Bool)) (w : Int) (i : Ins) : runBody std Try.prog (liftT (tab [e38 m38, e41 m41])) 40 Try.f57 [.int .u32 w, insV i] [] (ksAuto ([] : Heap).length) = T57 m38 m41 w i := by kernel_rfl
theorem g57 (m38 : Int → Int → Int → (Int)) (m41 : Int → Int → (Bool)) (w : Int) (i : Ins) (b38 : B38 m38) : Fits kIns (T57 m38 m41 w i) := by
  have hb := b38.h8 w
  unfold T57
  repeat' (first | exact fits_leaf rfl | (refine fits_ob (by first | (simp only [decide_eq_true_eq]; omega) | (simp only [decide_eq_true_eq, Bool.and_eq_true]; omega) | (simp only [IntKind.wrap_i64, decide_eq_true_eq]; omega) | (simp only [IntKind.wrap_i64, decide_eq_true_eq, Bool.and_eq_true]; omega)) ?_) | apply fits_br)
noncomputable def M57 (m38 : Int → Int → Int → (Int)) (m41 : Int → Int → (Bool)) : Int → Ins → (Ins) := fun w i => kIns.of (T57 m38 m41 w i)
theorem ok57 {m38 : Int → Int → Int → (Int)} {m41 : Int → Int → (Bool)} (h38 : EntryOK Try.prog (e38 m38)) (h41 : EntryOK Try.prog (e41 m41)) (b38 : B38 m38) : EntryOK Try.prog (e57 (M57 m38 m41)) := by
  intro args H c hc hH ha
  unfold e57 at hc
  dsimp only at hc
  split at hc
  rotate_left
  · cases hc
  rename_i w vi
  split at hc
  rotate_left
  · cases hc
  rename_i i hii
  obtain rfl := insOf_eq hii
  simp only [CT.run, Option.some.injEq] at hc
  subst hc
  exact keep_ok (run_ok (tab_cons h38 (tab_cons h41 tab_nil)) mixed Try.func57 ((r57 m38 m41 w i).trans (g57 m38 m41 w i b38).eq) hH ha)

def T58 (m38 : Int → Int → Int → (Int)) (m41 : Int → Int → (Bool)) (m75 : Bool → Int → (Int)) (w : Int) (i : Ins) : RR :=
  bif (decide ((m38 w 6 5) < 4)) then
    bif (m41 w 22) then
      bif ((m75 (m41 w 20) (m38 w 6 5)) == 0) then
        (some (.ret (.agg #[(.int .i64 0), (.int .i64 0), (.bool false), (.int .i64 0), (.int .i64 0), (.int .i64 0), (.int .i64 0), (.int .i64 0), (.int .i64 0), (.int .u32 0), (.int .i64 0), (.int .i64 0), (.bool false), (.bool false), (.bool false), (.int .u16 0), (.int .i64 0), (.int .i64 0), (.int .i64 0), (.int .i64 0)]) []))
      else
        (some (.ret (.agg #[(.int .i64 i.Cond), (.int .i64 (m75 (m41 w 20) (m38 w 6 5))), (.bool i.S), (.int .i64 1), (.int .i64 (m38 w 15 12)), (.int .i64 (m38 w 19 16)), (.int .i64 i.Rm), (.int .i64 i.Rs), (.int .i64 i.Ra), (.int .u32 (IntKind.wrap .u32 (bits .or .i64 (shlI .i64 (m38 w 11 8) 4) (m38 w 3 0)))), (.int .i64 i.Shift), (.int .i64 i.Amount), (.bool (m41 w 24)), (.bool (m41 w 23)), (.bool (m41 w 21)), (.int .u16 i.List), (.int .i64 i.CRn), (.int .i64 i.Op1), (.int .i64 i.CRm), (.int .i64 i.Op2)]) []))
    else
      bif (!((m38 w 11 8) == 0)) then
        (some (.ret (.agg #[(.int .i64 0), (.int .i64 0), (.bool false), (.int .i64 0), (.int .i64 0), (.int .i64 0), (.int .i64 0), (.int .i64 0), (.int .i64 0), (.int .u32 0), (.int .i64 0), (.int .i64 0), (.bool false), (.bool false), (.bool false), (.int .u16 0), (.int .i64 0), (.int .i64 0), (.int .i64 0), (.int .i64 0)]) []))
      else
        bif ((m75 (m41 w 20) (m38 w 6 5)) == 0) then
          (some (.ret (.agg #[(.int .i64 0), (.int .i64 0), (.bool false), (.int .i64 0), (.int .i64 0), (.int .i64 0), (.int .i64 0), (.int .i64 0), (.int .i64 0), (.int .u32 0), (.int .i64 0), (.int .i64 0), (.bool false), (.bool false), (.bool false), (.int .u16 0), (.int .i64 0), (.int .i64 0), (.int .i64 0), (.int .i64 0)]) []))
        else
          (some (.ret (.agg #[(.int .i64 i.Cond), (.int .i64 (m75 (m41 w 20) (m38 w 6 5))), (.bool i.S), (.int .i64 2), (.int .i64 (m38 w 15 12)), (.int .i64 (m38 w 19 16)), (.int .i64 (m38 w 3 0)), (.int .i64 i.Rs), (.int .i64 i.Ra), (.int .u32 i.Imm), (.int .i64 i.Shift), (.int .i64 i.Amount), (.bool (m41 w 24)), (.bool (m41 w 23)), (.bool (m41 w 21)), (.int .u16 i.List), (.int .i64 i.CRn), (.int .i64 i.Op1), (.int .i64 i.CRm), (.int .i64 i.Op2)]) []))
  else
    none
theorem r58 (m38 : Int → Int → Int → (Int)) (m41 : Int → Int → (Bool)) (m75 : Bool → Int → (Int)) (w : Int) (i : Ins) : runBody std Try.prog (liftT (tab [e38 m38, e41 m41, e75 m75])) 40 Try.f58 [.int .u32 w, insV i] [] (ksAuto ([] : Heap).length) = T58 m38 m41 m75 w i := by kernel_rfl
theorem g58 (m38 : Int → Int → Int → (Int)) (m41 : Int → Int → (Bool)) (m75 : Bool → Int → (Int)) (w : Int) (i : Ins) (b38 : B38 m38) : Fits kIns (T58 m38 m41 m75 w i) := by
  have hb := b38.h65 w
  unfold T58
  repeat' (first | exact fits_leaf rfl | (refine fits_ob (by first | (simp only [decide_eq_true_eq]; omega) | (simp only [decide_eq_true_eq, Bool.and_eq_true]; omega) | (simp only [IntKind.wrap_i64, decide_eq_true_eq]; omega) | (simp only [IntKind.wrap_i64, decide_eq_true_eq, Bool.and_eq_true]; omega)) ?_) | apply fits_br)
noncomputable def M58 (m38 : Int → Int → Int → (Int)) (m41 : Int → Int → (Bool)) (m75 : Bool → Int → (Int)) : Int → Ins → (Ins) := fun w i => kIns.of (T58 m38 m41 m75 w i)
theorem ok58 {m38 : Int → Int → Int → (Int)} {m41 : Int → Int → (Bool)} {m75 : Bool → Int → (Int)} (h38 : EntryOK Try.prog (e38 m38)) (h41 : EntryOK Try.prog (e41 m41)) (h75 : EntryOK Try.prog (e75 m75)) (b38 : B38 m38) : EntryOK Try.prog (e58 (M58 m38 m41 m75)) := by
  intro args H c hc hH ha
  unfold e58 at hc
  dsimp only at hc
  split at hc
  rotate_left
  · cases hc
  rename_i w vi
  split at hc
  rotate_left
  · cases hc
  rename_i i hii
  obtain rfl := insOf_eq hii
  simp only [CT.run, Option.some.injEq] at hc
  subst hc
  exact keep_ok (run_ok (tab_cons h38 (tab_cons h41 (tab_cons h75 tab_nil))) mixed Try.func58 ((r58 m38 m41 m75 w i).trans (g58 m38 m41 m75 w i b38).eq) hH ha)

end Go.Vx
