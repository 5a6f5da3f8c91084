/- Functions of the program: their trees, that they answer in one shape, their entries. -/
import Derived.Test.YtfheonbdapkgkaaEnts
import Derived.Test.YtfheonbdapkgkaaCpuLive
import Derived.Test.YtfheonbdapkgkaaCpuB
namespace Go.Vx
open Go Go.Proofs

def T44 (m38 : Int → Int → Int → (Int)) (m41 : Int → Int → (Bool)) (w : Int) (i : Ins) : RR :=
  bif ((m38 w 27 24) == 8) then
    bif ((m38 w 27 24) == 8) then
      bif (m41 w 20) then
        bif (m41 w 22) then
          (some (.ret (.agg #[(.int .i64 0), (.int .i64 0), (.bool false), (.int .i64 0), (.int .i64 0), (.int .i64 0), (.int .i64 0), (.int .i64 0), (.int .i64 0), (.int .u32 0), (.int .i64 0), (.int .i64 0), (.bool false), (.bool false), (.bool false), (.int .u16 0), (.int .i64 0), (.int .i64 0), (.int .i64 0), (.int .i64 0)]) []))
        else
          (some (.ret (.agg #[(.int .i64 i.Cond), (.int .i64 39), (.bool i.S), (.int .i64 i.Form), (.int .i64 i.Rd), (.int .i64 (m38 w 19 16)), (.int .i64 i.Rm), (.int .i64 i.Rs), (.int .i64 i.Ra), (.int .u32 i.Imm), (.int .i64 i.Shift), (.int .i64 i.Amount), (.bool (m41 w 24)), (.bool (m41 w 23)), (.bool (m41 w 21)), (.int .u16 (IntKind.wrap .u16 w)), (.int .i64 i.CRn), (.int .i64 i.Op1), (.int .i64 i.CRm), (.int .i64 i.Op2)]) []))
      else
        bif (m41 w 22) then
          (some (.ret (.agg #[(.int .i64 0), (.int .i64 0), (.bool false), (.int .i64 0), (.int .i64 0), (.int .i64 0), (.int .i64 0), (.int .i64 0), (.int .i64 0), (.int .u32 0), (.int .i64 0), (.int .i64 0), (.bool false), (.bool false), (.bool false), (.int .u16 0), (.int .i64 0), (.int .i64 0), (.int .i64 0), (.int .i64 0)]) []))
        else
          (some (.ret (.agg #[(.int .i64 i.Cond), (.int .i64 40), (.bool i.S), (.int .i64 i.Form), (.int .i64 i.Rd), (.int .i64 (m38 w 19 16)), (.int .i64 i.Rm), (.int .i64 i.Rs), (.int .i64 i.Ra), (.int .u32 i.Imm), (.int .i64 i.Shift), (.int .i64 i.Amount), (.bool (m41 w 24)), (.bool (m41 w 23)), (.bool (m41 w 21)), (.int .u16 (IntKind.wrap .u16 w)), (.int .i64 i.CRn), (.int .i64 i.Op1), (.int .i64 i.CRm), (.int .i64 i.Op2)]) []))
    else
      bif ((m38 w 27 24) == 10) then
        bif ((m38 w 27 24) == 10) then
          (some (.ret (.agg #[(.int .i64 i.Cond), (.int .i64 (IntKind.wrap .i64 (41 + (m38 w 24 24)))), (.bool i.S), (.int .i64 i.Form), (.int .i64 i.Rd), (.int .i64 i.Rn), (.int .i64 i.Rm), (.int .i64 i.Rs), (.int .i64 i.Ra), (.int .u32 (IntKind.wrap .u32 (shrI .i32 (IntKind.wrap .i32 (shlI .u32 w 8)) 6))), (.int .i64 i.Shift), (.int .i64 i.Amount), (.bool i.Pre), (.bool i.Up), (.bool i.Write), (.int .u16 i.List), (.int .i64 i.CRn), (.int .i64 i.Op1), (.int .i64 i.CRm), (.int .i64 i.Op2)]) []))
        else
          bif ((m38 w 27 24) == 14) then
            bif (!(m41 w 4)) then
              (some (.ret (.agg #[(.int .i64 0), (.int .i64 0), (.bool false), (.int .i64 0), (.int .i64 0), (.int .i64 0), (.int .i64 0), (.int .i64 0), (.int .i64 0), (.int .u32 0), (.int .i64 0), (.int .i64 0), (.bool false), (.bool false), (.bool false), (.int .u16 0), (.int .i64 0), (.int .i64 0), (.int .i64 0), (.int .i64 0)]) []))
            else
              bif (!((m38 w 11 8) == 15)) then
                (some (.ret (.agg #[(.int .i64 0), (.int .i64 0), (.bool false), (.int .i64 0), (.int .i64 0), (.int .i64 0), (.int .i64 0), (.int .i64 0), (.int .i64 0), (.int .u32 0), (.int .i64 0), (.int .i64 0), (.bool false), (.bool false), (.bool false), (.int .u16 0), (.int .i64 0), (.int .i64 0), (.int .i64 0), (.int .i64 0)]) []))
              else
                (some (.ret (.agg #[(.int .i64 i.Cond), (.int .i64 (IntKind.wrap .i64 (49 + (m38 w 20 20)))), (.bool i.S), (.int .i64 i.Form), (.int .i64 (m38 w 15 12)), (.int .i64 i.Rn), (.int .i64 i.Rm), (.int .i64 i.Rs), (.int .i64 i.Ra), (.int .u32 i.Imm), (.int .i64 i.Shift), (.int .i64 i.Amount), (.bool i.Pre), (.bool i.Up), (.bool i.Write), (.int .u16 i.List), (.int .i64 (m38 w 19 16)), (.int .i64 (m38 w 23 21)), (.int .i64 (m38 w 3 0)), (.int .i64 (m38 w 7 5))]) []))
          else
            bif ((m38 w 27 24) == 15) then
              (some (.ret (.agg #[(.int .i64 i.Cond), (.int .i64 45), (.bool i.S), (.int .i64 i.Form), (.int .i64 i.Rd), (.int .i64 i.Rn), (.int .i64 i.Rm), (.int .i64 i.Rs), (.int .i64 i.Ra), (.int .u32 (IntKind.wrap .u32 (m38 w 23 0))), (.int .i64 i.Shift), (.int .i64 i.Amount), (.bool i.Pre), (.bool i.Up), (.bool i.Write), (.int .u16 i.List), (.int .i64 i.CRn), (.int .i64 i.Op1), (.int .i64 i.CRm), (.int .i64 i.Op2)]) []))
            else
              (some (.ret (.agg #[(.int .i64 0), (.int .i64 0), (.bool false), (.int .i64 0), (.int .i64 0), (.int .i64 0), (.int .i64 0), (.int .i64 0), (.int .i64 0), (.int .u32 0), (.int .i64 0), (.int .i64 0), (.bool false), (.bool false), (.bool false), (.int .u16 0), (.int .i64 0), (.int .i64 0), (.int .i64 0), (.int .i64 0)]) []))
      else
        bif ((m38 w 27 24) == 11) then
          (some (.ret (.agg #[(.int .i64 i.Cond), (.int .i64 (IntKind.wrap .i64 (41 + (m38 w 24 24)))), (.bool i.S), (.int .i64 i.Form), (.int .i64 i.Rd), (.int .i64 i.Rn), (.int .i64 i.Rm), (.int .i64 i.Rs), (.int .i64 i.Ra), (.int .u32 (IntKind.wrap .u32 (shrI .i32 (IntKind.wrap .i32 (shlI .u32 w 8)) 6))), (.int .i64 i.Shift), (.int .i64 i.Amount), (.bool i.Pre), (.bool i.Up), (.bool i.Write), (.int .u16 i.List), (.int .i64 i.CRn), (.int .i64 i.Op1), (.int .i64 i.CRm), (.int .i64 i.Op2)]) []))
        else
          bif ((m38 w 27 24) == 14) then
            bif (!(m41 w 4)) then
              (some (.ret (.agg #[(.int .i64 0), (.int .i64 0), (.bool false), (.int .i64 0), (.int .i64 0), (.int .i64 0), (.int .i64 0), (.int .i64 0), (.int .i64 0), (.int .u32 0), (.int .i64 0), (.int .i64 0), (.bool false), (.bool false), (.bool false), (.int .u16 0), (.int .i64 0), (.int .i64 0), (.int .i64 0), (.int .i64 0)]) []))
            else
              bif (!((m38 w 11 8) == 15)) then
                (some (.ret (.agg #[(.int .i64 0), (.int .i64 0), (.bool false), (.int .i64 0), (.int .i64 0), (.int .i64 0), (.int .i64 0), (.int .i64 0), (.int .i64 0), (.int .u32 0), (.int .i64 0), (.int .i64 0), (.bool false), (.bool false), (.bool false), (.int .u16 0), (.int .i64 0), (.int .i64 0), (.int .i64 0), (.int .i64 0)]) []))
              else
                (some (.ret (.agg #[(.int .i64 i.Cond), (.int .i64 (IntKind.wrap .i64 (49 + (m38 w 20 20)))), (.bool i.S), (.int .i64 i.Form), (.int .i64 (m38 w 15 12)), (.int .i64 i.Rn), (.int .i64 i.Rm), (.int .i64 i.Rs), (.int .i64 i.Ra), (.int .u32 i.Imm), (.int .i64 i.Shift), (.int .i64 i.Amount), (.bool i.Pre), (.bool i.Up), (.bool i.Write), (.int .u16 i.List), (.int .i64 (m38 w 19 16)), (.int .i64 (m38 w 23 21)), (.int .i64 (m38 w 3 0)), (.int .i64 (m38 w 7 5))]) []))
          else
            bif ((m38 w 27 24) == 15) then
              (some (.ret (.agg #[(.int .i64 i.Cond), (.int .i64 45), (.bool i.S), (.int .i64 i.Form), (.int .i64 i.Rd), (.int .i64 i.Rn), (.int .i64 i.Rm), (.int .i64 i.Rs), (.int .i64 i.Ra), (.int .u32 (IntKind.wrap .u32 (m38 w 23 0))), (.int .i64 i.Shift), (.int .i64 i.Amount), (.bool i.Pre), (.bool i.Up), (.bool i.Write), (.int .u16 i.List), (.int .i64 i.CRn), (.int .i64 i.Op1), (.int .i64 i.CRm), (.int .i64 i.Op2)]) []))
            else
              (some (.ret (.agg #[(.int .i64 0), (.int .i64 0), (.bool false), (.int .i64 0), (.int .i64 0), (.int .i64 0), (.int .i64 0), (.int .i64 0), (.int .i64 0), (.int .u32 0), (.int .i64 0), (.int .i64 0), (.bool false), (.bool false), (.bool false), (.int .u16 0), (.int .i64 0), (.int .i64 0), (.int .i64 0), (.int .i64 0)]) []))
  else
    bif ((m38 w 27 24) == 9) then
      bif (m41 w 20) then
        bif (m41 w 22) then
          (some (.ret (.agg #[(.int .i64 0), (.int .i64 0), (.bool false), (.int .i64 0), (.int .i64 0), (.int .i64 0), (.int .i64 0), (.int .i64 0), (.int .i64 0), (.int .u32 0), (.int .i64 0), (.int .i64 0), (.bool false), (.bool false), (.bool false), (.int .u16 0), (.int .i64 0), (.int .i64 0), (.int .i64 0), (.int .i64 0)]) []))
        else
          (some (.ret (.agg #[(.int .i64 i.Cond), (.int .i64 39), (.bool i.S), (.int .i64 i.Form), (.int .i64 i.Rd), (.int .i64 (m38 w 19 16)), (.int .i64 i.Rm), (.int .i64 i.Rs), (.int .i64 i.Ra), (.int .u32 i.Imm), (.int .i64 i.Shift), (.int .i64 i.Amount), (.bool (m41 w 24)), (.bool (m41 w 23)), (.bool (m41 w 21)), (.int .u16 (IntKind.wrap .u16 w)), (.int .i64 i.CRn), (.int .i64 i.Op1), (.int .i64 i.CRm), (.int .i64 i.Op2)]) []))
      else
        bif (m41 w 22) then
          (some (.ret (.agg #[(.int .i64 0), (.int .i64 0), (.bool false), (.int .i64 0), (.int .i64 0), (.int .i64 0), (.int .i64 0), (.int .i64 0), (.int .i64 0), (.int .u32 0), (.int .i64 0), (.int .i64 0), (.bool false), (.bool false), (.bool false), (.int .u16 0), (.int .i64 0), (.int .i64 0), (.int .i64 0), (.int .i64 0)]) []))
        else
          (some (.ret (.agg #[(.int .i64 i.Cond), (.int .i64 40), (.bool i.S), (.int .i64 i.Form), (.int .i64 i.Rd), (.int .i64 (m38 w 19 16)), (.int .i64 i.Rm), (.int .i64 i.Rs), (.int .i64 i.Ra), (.int .u32 i.Imm), (.int .i64 i.Shift), (.int .i64 i.Amount), (.bool (m41 w 24)), (.bool (m41 w 23)), (.bool (m41 w 21)), (.int .u16 (IntKind.wrap .u16 w)), (.int .i64 i.CRn), (.int .i64 i.Op1), (.int .i64 i.CRm), (.int .i64 i.Op2)]) []))
    else
      bif ((m38 w 27 24) == 10) then
        bif ((m38 w 27 24) == 10) then
          (some (.ret (.agg #[(.int .i64 i.Cond), (.int .i64 (IntKind.wrap .i64 (41 + (m38 w 24 24)))), (.bool i.S), (.int .i64 i.Form), (.int .i64 i.Rd), (.int .i64 i.Rn), (.int .i64 i.Rm), (.int .i64 i.Rs), (.int .i64 i.Ra), (.int .u32 (IntKind.wrap .u32 (shrI .i32 (IntKind.wrap .i32 (shlI .u32 w 8)) 6))), (.int .i64 i.Shift), (.int .i64 i.Amount), (.bool i.Pre), (.bool i.Up), (.bool i.Write), (.int .u16 i.List), (.int .i64 i.CRn), (.int .i64 i.Op1), (.int .i64 i.CRm), (.int .i64 i.Op2)]) []))
        else
          bif ((m38 w 27 24) == 14) then
            bif (!(m41 w 4)) then
              (some (.ret (.agg #[(.int .i64 0), (.int .i64 0), (.bool false), (.int .i64 0), (.int .i64 0), (.int .i64 0), (.int .i64 0), (.int .i64 0), (.int .i64 0), (.int .u32 0), (.int .i64 0), (.int .i64 0), (.bool false), (.bool false), (.bool false), (.int .u16 0), (.int .i64 0), (.int .i64 0), (.int .i64 0), (.int .i64 0)]) []))
            else
              bif (!((m38 w 11 8) == 15)) then
                (some (.ret (.agg #[(.int .i64 0), (.int .i64 0), (.bool false), (.int .i64 0), (.int .i64 0), (.int .i64 0), (.int .i64 0), (.int .i64 0), (.int .i64 0), (.int .u32 0), (.int .i64 0), (.int .i64 0), (.bool false), (.bool false), (.bool false), (.int .u16 0), (.int .i64 0), (.int .i64 0), (.int .i64 0), (.int .i64 0)]) []))
              else
                (some (.ret (.agg #[(.int .i64 i.Cond), (.int .i64 (IntKind.wrap .i64 (49 + (m38 w 20 20)))), (.bool i.S), (.int .i64 i.Form), (.int .i64 (m38 w 15 12)), (.int .i64 i.Rn), (.int .i64 i.Rm), (.int .i64 i.Rs), (.int .i64 i.Ra), (.int .u32 i.Imm), (.int .i64 i.Shift), (.int .i64 i.Amount), (.bool i.Pre), (.bool i.Up), (.bool i.Write), (.int .u16 i.List), (.int .i64 (m38 w 19 16)), (.int .i64 (m38 w 23 21)), (.int .i64 (m38 w 3 0)), (.int .i64 (m38 w 7 5))]) []))
          else
            bif ((m38 w 27 24) == 15) then
              (some (.ret (.agg #[(.int .i64 i.Cond), (.int .i64 45), (.bool i.S), (.int .i64 i.Form), (.int .i64 i.Rd), (.int .i64 i.Rn), (.int .i64 i.Rm), (.int .i64 i.Rs), (.int .i64 i.Ra), (.int .u32 (IntKind.wrap .u32 (m38 w 23 0))), (.int .i64 i.Shift), (.int .i64 i.Amount), (.bool i.Pre), (.bool i.Up), (.bool i.Write), (.int .u16 i.List), (.int .i64 i.CRn), (.int .i64 i.Op1), (.int .i64 i.CRm), (.int .i64 i.Op2)]) []))
            else
              (some (.ret (.agg #[(.int .i64 0), (.int .i64 0), (.bool false), (.int .i64 0), (.int .i64 0), (.int .i64 0), (.int .i64 0), (.int .i64 0), (.int .i64 0), (.int .u32 0), (.int .i64 0), (.int .i64 0), (.bool false), (.bool false), (.bool false), (.int .u16 0), (.int .i64 0), (.int .i64 0), (.int .i64 0), (.int .i64 0)]) []))
      else
        bif ((m38 w 27 24) == 11) then
          (some (.ret (.agg #[(.int .i64 i.Cond), (.int .i64 (IntKind.wrap .i64 (41 + (m38 w 24 24)))), (.bool i.S), (.int .i64 i.Form), (.int .i64 i.Rd), (.int .i64 i.Rn), (.int .i64 i.Rm), (.int .i64 i.Rs), (.int .i64 i.Ra), (.int .u32 (IntKind.wrap .u32 (shrI .i32 (IntKind.wrap .i32 (shlI .u32 w 8)) 6))), (.int .i64 i.Shift), (.int .i64 i.Amount), (.bool i.Pre), (.bool i.Up), (.bool i.Write), (.int .u16 i.List), (.int .i64 i.CRn), (.int .i64 i.Op1), (.int .i64 i.CRm), (.int .i64 i.Op2)]) []))
        else
          bif ((m38 w 27 24) == 14) then
            bif (!(m41 w 4)) then
              (some (.ret (.agg #[(.int .i64 0), (.int .i64 0), (.bool false), (.int .i64 0), (.int .i64 0), (.int .i64 0), (.int .i64 0), (.int .i64 0), (.int .i64 0), (.int .u32 0), (.int .i64 0), (.int .i64 0), (.bool false), (.bool false), (.bool false), (.int .u16 0), (.int .i64 0), (.int .i64 0), (.int .i64 0), (.int .i64 0)]) []))
            else
              bif (!((m38 w 11 8) == 15)) then
                (some (.ret (.agg #[(.int .i64 0), (.int .i64 0), (.bool false), (.int .i64 0), (.int .i64 0), (.int .i64 0), (.int .i64 0), (.int .i64 0), (.int .i64 0), (.int .u32 0), (.int .i64 0), (.int .i64 0), (.bool false), (.bool false), (.bool false), (.int .u16 0), (.int .i64 0), (.int .i64 0), (.int .i64 0), (.int .i64 0)]) []))
              else
                (some (.ret (.agg #[(.int .i64 i.Cond), (.int .i64 (IntKind.wrap .i64 (49 + (m38 w 20 20)))), (.bool i.S), (.int .i64 i.Form), (.int .i64 (m38 w 15 12)), (.int .i64 i.Rn), (.int .i64 i.Rm), (.int .i64 i.Rs), (.int .i64 i.Ra), (.int .u32 i.Imm), (.int .i64 i.Shift), (.int .i64 i.Amount), (.bool i.Pre), (.bool i.Up), (.bool i.Write), (.int .u16 i.List), (.int .i64 (m38 w 19 16)), (.int .i64 (m38 w 23 21)), (.int .i64 (m38 w 3 0)), (.int .i64 (m38 w 7 5))]) []))
          else
            bif ((m38 w 27 24) == 15) then
              (some (.ret (.agg #[(.int .i64 i.Cond), (.int .i64 45), (.bool i.S), (.int .i64 i.Form), (.int .i64 i.Rd), (.int .i64 i.Rn), (.int .i64 i.Rm), (.int .i64 i.Rs), (.int .i64 i.Ra), (.int .u32 (IntKind.wrap .u32 (m38 w 23 0))), (.int .i64 i.Shift), (.int .i64 i.Amount), (.bool i.Pre), (.bool i.Up), (.bool i.Write), (.int .u16 i.List), (.int .i64 i.CRn), (.int .i64 i.Op1), (.int .i64 i.CRm), (.int .i64 i.Op2)]) []))
            else
              (some (.ret (.agg #[(.int .i64 0), (.int .i64 0), (.bool false), (.int .i64 0), (.int .i64 0), (.int .i64 0), (.int .i64 0), (.int .i64 0), (.int .i64 0), (.int .u32 0), (.int .i64 0), (.int .i64 0), (.bool false), (.bool false), (.bool false), (.int .u16 0), (.int .i64 0), (.int .i64 0), (.int .i64 0), (.int .i64 0)]) []))
theorem r44 (m38 : Int → Int → Int → (Int)) (m41 : Int → Int → (Bool)) (w : Int) (i : Ins) : runBody std Try.prog (liftT (tab [e38 m38, e41 m41])) 40 Try.f44 [.int .u32 w, insV i] [] (ksAuto ([] : Heap).length) = T44 m38 m41 w i := by kernel_rfl
theorem g44 (m38 : Int → Int → Int → (Int)) (m41 : Int → Int → (Bool)) (w : Int) (i : Ins) : Fits kIns (T44 m38 m41 w i) := by
  unfold T44; repeat' (first | apply fits_br | exact fits_leaf rfl)
noncomputable def M44 (m38 : Int → Int → Int → (Int)) (m41 : Int → Int → (Bool)) : Int → Ins → (Ins) := fun w i => kIns.of (T44 m38 m41 w i)
theorem ok44 {m38 : Int → Int → Int → (Int)} {m41 : Int → Int → (Bool)} (h38 : EntryOK Try.prog (e38 m38)) (h41 : EntryOK Try.prog (e41 m41)) : EntryOK Try.prog (e44 (M44 m38 m41)) := by
  intro args H c hc hH ha
  unfold e44 at hc
  dsimp only at hc
  split at hc
  rotate_left
  · cases hc
  rename_i w vi
  split at hc
  rotate_left
  · cases hc
  rename_i i hii
  obtain rfl := insOf_eq hii
  simp only [CT.run, Option.some.injEq] at hc
  subst hc
  exact keep_ok (run_ok (tab_cons h38 (tab_cons h41 tab_nil)) mixed Try.func44 ((r44 m38 m41 w i).trans (g44 m38 m41 w i).eq) hH ha)

def T32 (m38 : Int → Int → Int → (Int)) (m41 : Int → Int → (Bool)) (m39 : Int → Ins → (Ins)) (m40 : Int → Ins → (Ins)) (m42 : Int → Ins → (Ins)) (m43 : Int → Ins → (Ins)) (m44 : Int → Ins → (Ins)) (w : Int) : RR :=
  bif ((m38 w 27 25) == 0) then
    (some (.ret (insV (m39 w (Ins.mk (m38 w 31 28) 0 false 0 0 0 0 0 0 0 0 0 false false false 0 0 0 0 0))) []))
  else
    bif ((m38 w 27 25) == 1) then
      (some (.ret (insV (m40 w (Ins.mk (m38 w 31 28) 0 false 0 0 0 0 0 0 0 0 0 false false false 0 0 0 0 0))) []))
    else
      bif ((m38 w 27 25) == 3) then
        bif (m41 w 4) then
          (some (.ret (insV (m42 w (Ins.mk (m38 w 31 28) 0 false 0 0 0 0 0 0 0 0 0 false false false 0 0 0 0 0))) []))
        else
          (some (.ret (insV (m43 w (Ins.mk (m38 w 31 28) 0 false 0 0 0 0 0 0 0 0 0 false false false 0 0 0 0 0))) []))
      else
        bif ((m38 w 27 25) == 2) then
          (some (.ret (insV (m43 w (Ins.mk (m38 w 31 28) 0 false 0 0 0 0 0 0 0 0 0 false false false 0 0 0 0 0))) []))
        else
          (some (.ret (insV (m44 w (Ins.mk (m38 w 31 28) 0 false 0 0 0 0 0 0 0 0 0 false false false 0 0 0 0 0))) []))
theorem r32 (m38 : Int → Int → Int → (Int)) (m41 : Int → Int → (Bool)) (m39 : Int → Ins → (Ins)) (m40 : Int → Ins → (Ins)) (m42 : Int → Ins → (Ins)) (m43 : Int → Ins → (Ins)) (m44 : Int → Ins → (Ins)) (w : Int) : runBody std Try.prog (liftT (tab [e38 m38, e41 m41, e39 m39, e40 m40, e42 m42, e43 m43, e44 m44])) 40 Try.f32 [.int .u32 w] [] (ksAuto ([] : Heap).length) = T32 m38 m41 m39 m40 m42 m43 m44 w := by kernel_rfl
theorem g32 (m38 : Int → Int → Int → (Int)) (m41 : Int → Int → (Bool)) (m39 : Int → Ins → (Ins)) (m40 : Int → Ins → (Ins)) (m42 : Int → Ins → (Ins)) (m43 : Int → Ins → (Ins)) (m44 : Int → Ins → (Ins)) (w : Int) : Fits kIns (T32 m38 m41 m39 m40 m42 m43 m44 w) := by
  unfold T32; repeat' (first | apply fits_br | exact fits_leaf rfl)
noncomputable def M32 (m38 : Int → Int → Int → (Int)) (m41 : Int → Int → (Bool)) (m39 : Int → Ins → (Ins)) (m40 : Int → Ins → (Ins)) (m42 : Int → Ins → (Ins)) (m43 : Int → Ins → (Ins)) (m44 : Int → Ins → (Ins)) : Int → (Ins) := fun w => kIns.of (T32 m38 m41 m39 m40 m42 m43 m44 w)
theorem ok32 {m38 : Int → Int → Int → (Int)} {m41 : Int → Int → (Bool)} {m39 : Int → Ins → (Ins)} {m40 : Int → Ins → (Ins)} {m42 : Int → Ins → (Ins)} {m43 : Int → Ins → (Ins)} {m44 : Int → Ins → (Ins)} (h38 : EntryOK Try.prog (e38 m38)) (h41 : EntryOK Try.prog (e41 m41)) (h39 : EntryOK Try.prog (e39 m39)) (h40 : EntryOK Try.prog (e40 m40)) (h42 : EntryOK Try.prog (e42 m42)) (h43 : EntryOK Try.prog (e43 m43)) (h44 : EntryOK Try.prog (e44 m44)) : EntryOK Try.prog (e32 (M32 m38 m41 m39 m40 m42 m43 m44)) := by
  intro args H c hc hH ha
  unfold e32 at hc
  dsimp only at hc
  split at hc
  rotate_left
  · cases hc
  rename_i w
  simp only [CT.run, Option.some.injEq] at hc
  subst hc
  exact keep_ok (run_ok (tab_cons h38 (tab_cons h41 (tab_cons h39 (tab_cons h40 (tab_cons h42 (tab_cons h43 (tab_cons h44 tab_nil))))))) mixed Try.func32 ((r32 m38 m41 m39 m40 m42 m43 m44 w).trans (g32 m38 m41 m39 m40 m42 m43 m44 w).eq) hH ha)

end Go.Vx
