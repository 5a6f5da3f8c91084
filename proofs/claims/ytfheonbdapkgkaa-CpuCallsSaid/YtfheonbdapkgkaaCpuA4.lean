/- Functions of the program: their trees, that they answer in one shape, their entries. -/
import Derived.Test.YtfheonbdapkgkaaEnts
import Derived.Test.YtfheonbdapkgkaaCpuLive
import Derived.Test.YtfheonbdapkgkaaCpuB
namespace Go.Vx
open Go Go.Proofs

def T40 (m38 : Int → Int → Int → (Int)) (m41 : Int → Int → (Bool)) (m60 : Int → Ins → (Ins)) (w : Int) (i : Ins) : RR :=
  bif (!((m38 w 24 23) == 2)) then
    (some (.ret (insV (m60 w (Ins.mk i.Cond i.Op i.S 1 i.Rd i.Rn i.Rm i.Rs i.Ra (IntKind.wrap .u32 (m38 w 11 0)) i.Shift i.Amount i.Pre i.Up i.Write i.List i.CRn i.Op1 i.CRm i.Op2))) []))
  else
    bif (m41 w 20) then
      (some (.ret (insV (m60 w (Ins.mk i.Cond i.Op i.S 1 i.Rd i.Rn i.Rm i.Rs i.Ra (IntKind.wrap .u32 (m38 w 11 0)) i.Shift i.Amount i.Pre i.Up i.Write i.List i.CRn i.Op1 i.CRm i.Op2))) []))
    else
      bif ((m38 w 22 20) == 0) then
        (some (.ret (.agg #[(.int .i64 i.Cond), (.int .i64 17), (.bool i.S), (.int .i64 i.Form), (.int .i64 (m38 w 15 12)), (.int .i64 i.Rn), (.int .i64 i.Rm), (.int .i64 i.Rs), (.int .i64 i.Ra), (.int .u32 (bits .or .u32 (IntKind.wrap .u32 (m38 w 11 0)) (shlI .u32 (IntKind.wrap .u32 (m38 w 19 16)) 12))), (.int .i64 i.Shift), (.int .i64 i.Amount), (.bool i.Pre), (.bool i.Up), (.bool i.Write), (.int .u16 i.List), (.int .i64 i.CRn), (.int .i64 i.Op1), (.int .i64 i.CRm), (.int .i64 i.Op2)]) []))
      else
        bif ((m38 w 22 20) == 4) then
          (some (.ret (.agg #[(.int .i64 i.Cond), (.int .i64 18), (.bool i.S), (.int .i64 i.Form), (.int .i64 (m38 w 15 12)), (.int .i64 i.Rn), (.int .i64 i.Rm), (.int .i64 i.Rs), (.int .i64 i.Ra), (.int .u32 (bits .or .u32 (IntKind.wrap .u32 (m38 w 11 0)) (shlI .u32 (IntKind.wrap .u32 (m38 w 19 16)) 12))), (.int .i64 i.Shift), (.int .i64 i.Amount), (.bool i.Pre), (.bool i.Up), (.bool i.Write), (.int .u16 i.List), (.int .i64 i.CRn), (.int .i64 i.Op1), (.int .i64 i.CRm), (.int .i64 i.Op2)]) []))
        else
          bif ((bits .and .u32 w 268435455) == 52490240) then
            (some (.ret (.agg #[(.int .i64 i.Cond), (.int .i64 51), (.bool i.S), (.int .i64 i.Form), (.int .i64 i.Rd), (.int .i64 i.Rn), (.int .i64 i.Rm), (.int .i64 i.Rs), (.int .i64 i.Ra), (.int .u32 (IntKind.wrap .u32 (m38 w 11 0))), (.int .i64 i.Shift), (.int .i64 i.Amount), (.bool i.Pre), (.bool i.Up), (.bool i.Write), (.int .u16 i.List), (.int .i64 i.CRn), (.int .i64 i.Op1), (.int .i64 i.CRm), (.int .i64 i.Op2)]) []))
          else
            bif ((bits .and .u32 w 268435455) == 52490243) then
              (some (.ret (.agg #[(.int .i64 i.Cond), (.int .i64 52), (.bool i.S), (.int .i64 i.Form), (.int .i64 i.Rd), (.int .i64 i.Rn), (.int .i64 i.Rm), (.int .i64 i.Rs), (.int .i64 i.Ra), (.int .u32 0), (.int .i64 i.Shift), (.int .i64 i.Amount), (.bool i.Pre), (.bool i.Up), (.bool i.Write), (.int .u16 i.List), (.int .i64 i.CRn), (.int .i64 i.Op1), (.int .i64 i.CRm), (.int .i64 i.Op2)]) []))
            else
              bif ((m38 w 15 12) == 15) then
                (some (.ret (.agg #[(.int .i64 i.Cond), (.int .i64 48), (.bool (m41 w 22)), (.int .i64 1), (.int .i64 i.Rd), (.int .i64 i.Rn), (.int .i64 i.Rm), (.int .i64 i.Rs), (.int .i64 i.Ra), (.int .u32 (IntKind.wrap .u32 (m38 w 11 0))), (.int .i64 i.Shift), (.int .i64 (m38 w 19 16)), (.bool i.Pre), (.bool i.Up), (.bool i.Write), (.int .u16 i.List), (.int .i64 i.CRn), (.int .i64 i.Op1), (.int .i64 i.CRm), (.int .i64 i.Op2)]) []))
              else
                (some (.ret (.agg #[(.int .i64 0), (.int .i64 0), (.bool false), (.int .i64 0), (.int .i64 0), (.int .i64 0), (.int .i64 0), (.int .i64 0), (.int .i64 0), (.int .u32 0), (.int .i64 0), (.int .i64 0), (.bool false), (.bool false), (.bool false), (.int .u16 0), (.int .i64 0), (.int .i64 0), (.int .i64 0), (.int .i64 0)]) []))
theorem r40 (m38 : Int → Int → Int → (Int)) (m41 : Int → Int → (Bool)) (m60 : Int → Ins → (Ins)) (w : Int) (i : Ins) : runBody std Try.prog (liftT (tab [e38 m38, e41 m41, e60 m60])) 40 Try.f40 [.int .u32 w, insV i] [] (ksAuto ([] : Heap).length) = T40 m38 m41 m60 w i := by kernel_rfl
theorem g40 (m38 : Int → Int → Int → (Int)) (m41 : Int → Int → (Bool)) (m60 : Int → Ins → (Ins)) (w : Int) (i : Ins) : Fits kIns (T40 m38 m41 m60 w i) := by
  unfold T40; repeat' (first | apply fits_br | exact fits_leaf rfl)
noncomputable def M40 (m38 : Int → Int → Int → (Int)) (m41 : Int → Int → (Bool)) (m60 : Int → Ins → (Ins)) : Int → Ins → (Ins) := fun w i => kIns.of (T40 m38 m41 m60 w i)
theorem ok40 {m38 : Int → Int → Int → (Int)} {m41 : Int → Int → (Bool)} {m60 : Int → Ins → (Ins)} (h38 : EntryOK Try.prog (e38 m38)) (h41 : EntryOK Try.prog (e41 m41)) (h60 : EntryOK Try.prog (e60 m60)) : EntryOK Try.prog (e40 (M40 m38 m41 m60)) := by
  intro args H c hc hH ha
  unfold e40 at hc
  dsimp only at hc
  split at hc
  rotate_left
  · cases hc
  rename_i w vi
  split at hc
  rotate_left
  · cases hc
  rename_i i hii
  obtain rfl := insOf_eq hii
  simp only [CT.run, Option.some.injEq] at hc
  subst hc
  exact keep_ok (run_ok (tab_cons h38 (tab_cons h41 (tab_cons h60 tab_nil))) mixed Try.func40 ((r40 m38 m41 m60 w i).trans (g40 m38 m41 m60 w i).eq) hH ha)

def T43 (m38 : Int → Int → Int → (Int)) (m41 : Int → Int → (Bool)) (w : Int) (i : Ins) : RR :=
  bif ((decide (0 ≤ (IntKind.wrap .i64 ((IntKind.wrap .i64 ((m38 w 22 22) * 2)) + (m38 w 20 20))))) && (decide ((IntKind.wrap .i64 ((IntKind.wrap .i64 ((m38 w 22 22) * 2)) + (m38 w 20 20))) < 4))) then
    bif (decide ((Int.toNat (IntKind.wrap .i64 ((IntKind.wrap .i64 ((m38 w 22 22) * 2)) + (m38 w 20 20)))) < 4)) then
      bif (!(m41 w 25)) then
        (some (.ret (.agg #[(.int .i64 i.Cond), (.int .i64 (List.getD ([32, 31, 34, 33] : List Int) (Int.toNat (IntKind.wrap .i64 ((IntKind.wrap .i64 ((m38 w 22 22) * 2)) + (m38 w 20 20)))) 0)), (.bool i.S), (.int .i64 1), (.int .i64 (m38 w 15 12)), (.int .i64 (m38 w 19 16)), (.int .i64 i.Rm), (.int .i64 i.Rs), (.int .i64 i.Ra), (.int .u32 (IntKind.wrap .u32 (m38 w 11 0))), (.int .i64 i.Shift), (.int .i64 i.Amount), (.bool (m41 w 24)), (.bool (m41 w 23)), (.bool (m41 w 21)), (.int .u16 i.List), (.int .i64 i.CRn), (.int .i64 i.Op1), (.int .i64 i.CRm), (.int .i64 i.Op2)]) []))
      else
        (some (.ret (.agg #[(.int .i64 i.Cond), (.int .i64 (List.getD ([32, 31, 34, 33] : List Int) (Int.toNat (IntKind.wrap .i64 ((IntKind.wrap .i64 ((m38 w 22 22) * 2)) + (m38 w 20 20)))) 0)), (.bool i.S), (.int .i64 2), (.int .i64 (m38 w 15 12)), (.int .i64 (m38 w 19 16)), (.int .i64 (m38 w 3 0)), (.int .i64 i.Rs), (.int .i64 i.Ra), (.int .u32 i.Imm), (.int .i64 (m38 w 6 5)), (.int .i64 (m38 w 11 7)), (.bool (m41 w 24)), (.bool (m41 w 23)), (.bool (m41 w 21)), (.int .u16 i.List), (.int .i64 i.CRn), (.int .i64 i.Op1), (.int .i64 i.CRm), (.int .i64 i.Op2)]) []))
    else
      none
  else
    none
theorem r43 (m38 : Int → Int → Int → (Int)) (m41 : Int → Int → (Bool)) (w : Int) (i : Ins) : runBody std Try.prog (liftT (tab [e38 m38, e41 m41])) 40 Try.f43 [.int .u32 w, insV i] [] (ksAuto ([] : Heap).length) = T43 m38 m41 w i := by kernel_rfl
theorem g43 (m38 : Int → Int → Int → (Int)) (m41 : Int → Int → (Bool)) (w : Int) (i : Ins) (b38 : B38 m38) : Fits kIns (T43 m38 m41 w i) := by
  have hb := b38.h22 w
  have hb2 := b38.h20 w
  unfold T43
  repeat' (first | exact fits_leaf rfl | (refine fits_ob (by first | (simp only [decide_eq_true_eq]; omega) | (simp only [decide_eq_true_eq, Bool.and_eq_true]; omega) | (simp only [IntKind.wrap_i64, decide_eq_true_eq]; omega) | (simp only [IntKind.wrap_i64, decide_eq_true_eq, Bool.and_eq_true]; omega)) ?_) | apply fits_br)
noncomputable def M43 (m38 : Int → Int → Int → (Int)) (m41 : Int → Int → (Bool)) : Int → Ins → (Ins) := fun w i => kIns.of (T43 m38 m41 w i)
theorem ok43 {m38 : Int → Int → Int → (Int)} {m41 : Int → Int → (Bool)} (h38 : EntryOK Try.prog (e38 m38)) (h41 : EntryOK Try.prog (e41 m41)) (b38 : B38 m38) : EntryOK Try.prog (e43 (M43 m38 m41)) := by
  intro args H c hc hH ha
  unfold e43 at hc
  dsimp only at hc
  split at hc
  rotate_left
  · cases hc
  rename_i w vi
  split at hc
  rotate_left
  · cases hc
  rename_i i hii
  obtain rfl := insOf_eq hii
  simp only [CT.run, Option.some.injEq] at hc
  subst hc
  exact keep_ok (run_ok (tab_cons h38 (tab_cons h41 tab_nil)) mixed Try.func43 ((r43 m38 m41 w i).trans (g43 m38 m41 w i b38).eq) hH ha)

def T42 (m38 : Int → Int → Int → (Int)) (m61 : Int → (Int)) (w : Int) (i : Ins) : RR :=
  bif ((bits .and .u32 w 268374000) == 113184560) then
    (some (.ret (.agg #[(.int .i64 i.Cond), (.int .i64 26), (.bool i.S), (.int .i64 i.Form), (.int .i64 (m38 w 15 12)), (.int .i64 i.Rn), (.int .i64 (m38 w 3 0)), (.int .i64 i.Rs), (.int .i64 i.Ra), (.int .u32 i.Imm), (.int .i64 i.Shift), (.int .i64 i.Amount), (.bool i.Pre), (.bool i.Up), (.bool i.Write), (.int .u16 i.List), (.int .i64 i.CRn), (.int .i64 i.Op1), (.int .i64 i.CRm), (.int .i64 i.Op2)]) []))
  else
    bif ((bits .and .u32 w 261030896) == 110035056) then
      bif ((m38 w 19 16) == 15) then
        bif (!((m61 (m38 w 22 20)) == 0)) then
          (some (.ret (.agg #[(.int .i64 i.Cond), (.int .i64 (m61 (m38 w 22 20))), (.bool i.S), (.int .i64 i.Form), (.int .i64 (m38 w 15 12)), (.int .i64 i.Rn), (.int .i64 (m38 w 3 0)), (.int .i64 i.Rs), (.int .i64 i.Ra), (.int .u32 i.Imm), (.int .i64 i.Shift), (.int .i64 (m38 w 11 10)), (.bool i.Pre), (.bool i.Up), (.bool i.Write), (.int .u16 i.List), (.int .i64 i.CRn), (.int .i64 i.Op1), (.int .i64 i.CRm), (.int .i64 i.Op2)]) []))
        else
          (some (.ret (.agg #[(.int .i64 0), (.int .i64 0), (.bool false), (.int .i64 0), (.int .i64 0), (.int .i64 0), (.int .i64 0), (.int .i64 0), (.int .i64 0), (.int .u32 0), (.int .i64 0), (.int .i64 0), (.bool false), (.bool false), (.bool false), (.int .u16 0), (.int .i64 0), (.int .i64 0), (.int .i64 0), (.int .i64 0)]) []))
      else
        (some (.ret (.agg #[(.int .i64 0), (.int .i64 0), (.bool false), (.int .i64 0), (.int .i64 0), (.int .i64 0), (.int .i64 0), (.int .i64 0), (.int .i64 0), (.int .u32 0), (.int .i64 0), (.int .i64 0), (.bool false), (.bool false), (.bool false), (.int .u16 0), (.int .i64 0), (.int .i64 0), (.int .i64 0), (.int .i64 0)]) []))
    else
      (some (.ret (.agg #[(.int .i64 0), (.int .i64 0), (.bool false), (.int .i64 0), (.int .i64 0), (.int .i64 0), (.int .i64 0), (.int .i64 0), (.int .i64 0), (.int .u32 0), (.int .i64 0), (.int .i64 0), (.bool false), (.bool false), (.bool false), (.int .u16 0), (.int .i64 0), (.int .i64 0), (.int .i64 0), (.int .i64 0)]) []))
theorem r42 (m38 : Int → Int → Int → (Int)) (m61 : Int → (Int)) (w : Int) (i : Ins) : runBody std Try.prog (liftT (tab [e38 m38, e61 m61])) 40 Try.f42 [.int .u32 w, insV i] [] (ksAuto ([] : Heap).length) = T42 m38 m61 w i := by kernel_rfl
theorem g42 (m38 : Int → Int → Int → (Int)) (m61 : Int → (Int)) (w : Int) (i : Ins) : Fits kIns (T42 m38 m61 w i) := by
  unfold T42; repeat' (first | apply fits_br | exact fits_leaf rfl)
noncomputable def M42 (m38 : Int → Int → Int → (Int)) (m61 : Int → (Int)) : Int → Ins → (Ins) := fun w i => kIns.of (T42 m38 m61 w i)
theorem ok42 {m38 : Int → Int → Int → (Int)} {m61 : Int → (Int)} (h38 : EntryOK Try.prog (e38 m38)) (h61 : EntryOK Try.prog (e61 m61)) : EntryOK Try.prog (e42 (M42 m38 m61)) := by
  intro args H c hc hH ha
  unfold e42 at hc
  dsimp only at hc
  split at hc
  rotate_left
  · cases hc
  rename_i w vi
  split at hc
  rotate_left
  · cases hc
  rename_i i hii
  obtain rfl := insOf_eq hii
  simp only [CT.run, Option.some.injEq] at hc
  subst hc
  exact keep_ok (run_ok (tab_cons h38 (tab_cons h61 tab_nil)) mixed Try.func42 ((r42 m38 m61 w i).trans (g42 m38 m61 w i).eq) hH ha)

end Go.Vx
