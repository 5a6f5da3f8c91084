/- Functions of the program: their trees, that they answer in one shape, their entries. -/
import Derived.Test.YtfheonbdapkgkaaEnts
import Derived.Test.YtfheonbdapkgkaaCpuLive
import Derived.Test.YtfheonbdapkgkaaCpuB
namespace Go.Vx
open Go Go.Proofs

def T59 (m38 : Int → Int → Int → (Int)) (m41 : Int → Int → (Bool)) (w : Int) (i : Ins) : RR :=
  bif ((bits .and .u32 w 263196656) == 16777216) then
    bif ((m38 w 19 16) == 15) then
      bif ((m38 w 3 0) == 0) then
        (some (.ret (.agg #[(.int .i64 i.Cond), (.int .i64 47), (.bool (m41 w 22)), (.int .i64 i.Form), (.int .i64 (m38 w 15 12)), (.int .i64 i.Rn), (.int .i64 i.Rm), (.int .i64 i.Rs), (.int .i64 i.Ra), (.int .u32 i.Imm), (.int .i64 i.Shift), (.int .i64 i.Amount), (.bool i.Pre), (.bool i.Up), (.bool i.Write), (.int .u16 i.List), (.int .i64 i.CRn), (.int .i64 i.Op1), (.int .i64 i.CRm), (.int .i64 i.Op2)]) []))
      else
        bif ((bits .and .u32 w 263258096) == 18935808) then
          (some (.ret (.agg #[(.int .i64 i.Cond), (.int .i64 48), (.bool (m41 w 22)), (.int .i64 2), (.int .i64 i.Rd), (.int .i64 i.Rn), (.int .i64 (m38 w 3 0)), (.int .i64 i.Rs), (.int .i64 i.Ra), (.int .u32 i.Imm), (.int .i64 i.Shift), (.int .i64 (m38 w 19 16)), (.bool i.Pre), (.bool i.Up), (.bool i.Write), (.int .u16 i.List), (.int .i64 i.CRn), (.int .i64 i.Op1), (.int .i64 i.CRm), (.int .i64 i.Op2)]) []))
        else
          bif ((bits .and .u32 w 268435440) == 19922704) then
            (some (.ret (.agg #[(.int .i64 i.Cond), (.int .i64 43), (.bool i.S), (.int .i64 i.Form), (.int .i64 i.Rd), (.int .i64 i.Rn), (.int .i64 (m38 w 3 0)), (.int .i64 i.Rs), (.int .i64 i.Ra), (.int .u32 i.Imm), (.int .i64 i.Shift), (.int .i64 i.Amount), (.bool i.Pre), (.bool i.Up), (.bool i.Write), (.int .u16 i.List), (.int .i64 i.CRn), (.int .i64 i.Op1), (.int .i64 i.CRm), (.int .i64 i.Op2)]) []))
          else
            bif ((bits .and .u32 w 268435440) == 19922736) then
              (some (.ret (.agg #[(.int .i64 i.Cond), (.int .i64 44), (.bool i.S), (.int .i64 i.Form), (.int .i64 i.Rd), (.int .i64 i.Rn), (.int .i64 (m38 w 3 0)), (.int .i64 i.Rs), (.int .i64 i.Ra), (.int .u32 i.Imm), (.int .i64 i.Shift), (.int .i64 i.Amount), (.bool i.Pre), (.bool i.Up), (.bool i.Write), (.int .u16 i.List), (.int .i64 i.CRn), (.int .i64 i.Op1), (.int .i64 i.CRm), (.int .i64 i.Op2)]) []))
            else
              bif ((bits .and .u32 w 267387120) == 18874480) then
                (some (.ret (.agg #[(.int .i64 i.Cond), (.int .i64 46), (.bool i.S), (.int .i64 i.Form), (.int .i64 i.Rd), (.int .i64 i.Rn), (.int .i64 i.Rm), (.int .i64 i.Rs), (.int .i64 i.Ra), (.int .u32 (IntKind.wrap .u32 (bits .or .i64 (shlI .i64 (m38 w 19 8) 4) (m38 w 3 0)))), (.int .i64 i.Shift), (.int .i64 i.Amount), (.bool i.Pre), (.bool i.Up), (.bool i.Write), (.int .u16 i.List), (.int .i64 i.CRn), (.int .i64 i.Op1), (.int .i64 i.CRm), (.int .i64 i.Op2)]) []))
              else
                bif ((bits .and .u32 w 268374000) == 24055568) then
                  (some (.ret (.agg #[(.int .i64 i.Cond), (.int .i64 25), (.bool i.S), (.int .i64 i.Form), (.int .i64 (m38 w 15 12)), (.int .i64 i.Rn), (.int .i64 (m38 w 3 0)), (.int .i64 i.Rs), (.int .i64 i.Ra), (.int .u32 i.Imm), (.int .i64 i.Shift), (.int .i64 i.Amount), (.bool i.Pre), (.bool i.Up), (.bool i.Write), (.int .u16 i.List), (.int .i64 i.CRn), (.int .i64 i.Op1), (.int .i64 i.CRm), (.int .i64 i.Op2)]) []))
                else
                  (some (.ret (.agg #[(.int .i64 0), (.int .i64 0), (.bool false), (.int .i64 0), (.int .i64 0), (.int .i64 0), (.int .i64 0), (.int .i64 0), (.int .i64 0), (.int .u32 0), (.int .i64 0), (.int .i64 0), (.bool false), (.bool false), (.bool false), (.int .u16 0), (.int .i64 0), (.int .i64 0), (.int .i64 0), (.int .i64 0)]) []))
    else
      bif ((bits .and .u32 w 263258096) == 18935808) then
        (some (.ret (.agg #[(.int .i64 i.Cond), (.int .i64 48), (.bool (m41 w 22)), (.int .i64 2), (.int .i64 i.Rd), (.int .i64 i.Rn), (.int .i64 (m38 w 3 0)), (.int .i64 i.Rs), (.int .i64 i.Ra), (.int .u32 i.Imm), (.int .i64 i.Shift), (.int .i64 (m38 w 19 16)), (.bool i.Pre), (.bool i.Up), (.bool i.Write), (.int .u16 i.List), (.int .i64 i.CRn), (.int .i64 i.Op1), (.int .i64 i.CRm), (.int .i64 i.Op2)]) []))
      else
        bif ((bits .and .u32 w 268435440) == 19922704) then
          (some (.ret (.agg #[(.int .i64 i.Cond), (.int .i64 43), (.bool i.S), (.int .i64 i.Form), (.int .i64 i.Rd), (.int .i64 i.Rn), (.int .i64 (m38 w 3 0)), (.int .i64 i.Rs), (.int .i64 i.Ra), (.int .u32 i.Imm), (.int .i64 i.Shift), (.int .i64 i.Amount), (.bool i.Pre), (.bool i.Up), (.bool i.Write), (.int .u16 i.List), (.int .i64 i.CRn), (.int .i64 i.Op1), (.int .i64 i.CRm), (.int .i64 i.Op2)]) []))
        else
          bif ((bits .and .u32 w 268435440) == 19922736) then
            (some (.ret (.agg #[(.int .i64 i.Cond), (.int .i64 44), (.bool i.S), (.int .i64 i.Form), (.int .i64 i.Rd), (.int .i64 i.Rn), (.int .i64 (m38 w 3 0)), (.int .i64 i.Rs), (.int .i64 i.Ra), (.int .u32 i.Imm), (.int .i64 i.Shift), (.int .i64 i.Amount), (.bool i.Pre), (.bool i.Up), (.bool i.Write), (.int .u16 i.List), (.int .i64 i.CRn), (.int .i64 i.Op1), (.int .i64 i.CRm), (.int .i64 i.Op2)]) []))
          else
            bif ((bits .and .u32 w 267387120) == 18874480) then
              (some (.ret (.agg #[(.int .i64 i.Cond), (.int .i64 46), (.bool i.S), (.int .i64 i.Form), (.int .i64 i.Rd), (.int .i64 i.Rn), (.int .i64 i.Rm), (.int .i64 i.Rs), (.int .i64 i.Ra), (.int .u32 (IntKind.wrap .u32 (bits .or .i64 (shlI .i64 (m38 w 19 8) 4) (m38 w 3 0)))), (.int .i64 i.Shift), (.int .i64 i.Amount), (.bool i.Pre), (.bool i.Up), (.bool i.Write), (.int .u16 i.List), (.int .i64 i.CRn), (.int .i64 i.Op1), (.int .i64 i.CRm), (.int .i64 i.Op2)]) []))
            else
              bif ((bits .and .u32 w 268374000) == 24055568) then
                (some (.ret (.agg #[(.int .i64 i.Cond), (.int .i64 25), (.bool i.S), (.int .i64 i.Form), (.int .i64 (m38 w 15 12)), (.int .i64 i.Rn), (.int .i64 (m38 w 3 0)), (.int .i64 i.Rs), (.int .i64 i.Ra), (.int .u32 i.Imm), (.int .i64 i.Shift), (.int .i64 i.Amount), (.bool i.Pre), (.bool i.Up), (.bool i.Write), (.int .u16 i.List), (.int .i64 i.CRn), (.int .i64 i.Op1), (.int .i64 i.CRm), (.int .i64 i.Op2)]) []))
              else
                (some (.ret (.agg #[(.int .i64 0), (.int .i64 0), (.bool false), (.int .i64 0), (.int .i64 0), (.int .i64 0), (.int .i64 0), (.int .i64 0), (.int .i64 0), (.int .u32 0), (.int .i64 0), (.int .i64 0), (.bool false), (.bool false), (.bool false), (.int .u16 0), (.int .i64 0), (.int .i64 0), (.int .i64 0), (.int .i64 0)]) []))
  else
    bif ((bits .and .u32 w 263258096) == 18935808) then
      (some (.ret (.agg #[(.int .i64 i.Cond), (.int .i64 48), (.bool (m41 w 22)), (.int .i64 2), (.int .i64 i.Rd), (.int .i64 i.Rn), (.int .i64 (m38 w 3 0)), (.int .i64 i.Rs), (.int .i64 i.Ra), (.int .u32 i.Imm), (.int .i64 i.Shift), (.int .i64 (m38 w 19 16)), (.bool i.Pre), (.bool i.Up), (.bool i.Write), (.int .u16 i.List), (.int .i64 i.CRn), (.int .i64 i.Op1), (.int .i64 i.CRm), (.int .i64 i.Op2)]) []))
    else
      bif ((bits .and .u32 w 268435440) == 19922704) then
        (some (.ret (.agg #[(.int .i64 i.Cond), (.int .i64 43), (.bool i.S), (.int .i64 i.Form), (.int .i64 i.Rd), (.int .i64 i.Rn), (.int .i64 (m38 w 3 0)), (.int .i64 i.Rs), (.int .i64 i.Ra), (.int .u32 i.Imm), (.int .i64 i.Shift), (.int .i64 i.Amount), (.bool i.Pre), (.bool i.Up), (.bool i.Write), (.int .u16 i.List), (.int .i64 i.CRn), (.int .i64 i.Op1), (.int .i64 i.CRm), (.int .i64 i.Op2)]) []))
      else
        bif ((bits .and .u32 w 268435440) == 19922736) then
          (some (.ret (.agg #[(.int .i64 i.Cond), (.int .i64 44), (.bool i.S), (.int .i64 i.Form), (.int .i64 i.Rd), (.int .i64 i.Rn), (.int .i64 (m38 w 3 0)), (.int .i64 i.Rs), (.int .i64 i.Ra), (.int .u32 i.Imm), (.int .i64 i.Shift), (.int .i64 i.Amount), (.bool i.Pre), (.bool i.Up), (.bool i.Write), (.int .u16 i.List), (.int .i64 i.CRn), (.int .i64 i.Op1), (.int .i64 i.CRm), (.int .i64 i.Op2)]) []))
        else
          bif ((bits .and .u32 w 267387120) == 18874480) then
            (some (.ret (.agg #[(.int .i64 i.Cond), (.int .i64 46), (.bool i.S), (.int .i64 i.Form), (.int .i64 i.Rd), (.int .i64 i.Rn), (.int .i64 i.Rm), (.int .i64 i.Rs), (.int .i64 i.Ra), (.int .u32 (IntKind.wrap .u32 (bits .or .i64 (shlI .i64 (m38 w 19 8) 4) (m38 w 3 0)))), (.int .i64 i.Shift), (.int .i64 i.Amount), (.bool i.Pre), (.bool i.Up), (.bool i.Write), (.int .u16 i.List), (.int .i64 i.CRn), (.int .i64 i.Op1), (.int .i64 i.CRm), (.int .i64 i.Op2)]) []))
          else
            bif ((bits .and .u32 w 268374000) == 24055568) then
              (some (.ret (.agg #[(.int .i64 i.Cond), (.int .i64 25), (.bool i.S), (.int .i64 i.Form), (.int .i64 (m38 w 15 12)), (.int .i64 i.Rn), (.int .i64 (m38 w 3 0)), (.int .i64 i.Rs), (.int .i64 i.Ra), (.int .u32 i.Imm), (.int .i64 i.Shift), (.int .i64 i.Amount), (.bool i.Pre), (.bool i.Up), (.bool i.Write), (.int .u16 i.List), (.int .i64 i.CRn), (.int .i64 i.Op1), (.int .i64 i.CRm), (.int .i64 i.Op2)]) []))
            else
              (some (.ret (.agg #[(.int .i64 0), (.int .i64 0), (.bool false), (.int .i64 0), (.int .i64 0), (.int .i64 0), (.int .i64 0), (.int .i64 0), (.int .i64 0), (.int .u32 0), (.int .i64 0), (.int .i64 0), (.bool false), (.bool false), (.bool false), (.int .u16 0), (.int .i64 0), (.int .i64 0), (.int .i64 0), (.int .i64 0)]) []))
theorem r59 (m38 : Int → Int → Int → (Int)) (m41 : Int → Int → (Bool)) (w : Int) (i : Ins) : runBody std Try.prog (liftT (tab [e38 m38, e41 m41])) 40 Try.f59 [.int .u32 w, insV i] [] (ksAuto ([] : Heap).length) = T59 m38 m41 w i := by kernel_rfl
theorem g59 (m38 : Int → Int → Int → (Int)) (m41 : Int → Int → (Bool)) (w : Int) (i : Ins) : Fits kIns (T59 m38 m41 w i) := by
  unfold T59; repeat' (first | apply fits_br | exact fits_leaf rfl)
noncomputable def M59 (m38 : Int → Int → Int → (Int)) (m41 : Int → Int → (Bool)) : Int → Ins → (Ins) := fun w i => kIns.of (T59 m38 m41 w i)
theorem ok59 {m38 : Int → Int → Int → (Int)} {m41 : Int → Int → (Bool)} (h38 : EntryOK Try.prog (e38 m38)) (h41 : EntryOK Try.prog (e41 m41)) : EntryOK Try.prog (e59 (M59 m38 m41)) := by
  intro args H c hc hH ha
  unfold e59 at hc
  dsimp only at hc
  split at hc
  rotate_left
  · cases hc
  rename_i w vi
  split at hc
  rotate_left
  · cases hc
  rename_i i hii
  obtain rfl := insOf_eq hii
  simp only [CT.run, Option.some.injEq] at hc
  subst hc
  exact keep_ok (run_ok (tab_cons h38 (tab_cons h41 tab_nil)) mixed Try.func59 ((r59 m38 m41 w i).trans (g59 m38 m41 w i).eq) hH ha)

def T39 (m38 : Int → Int → Int → (Int)) (m41 : Int → Int → (Bool)) (m57 : Int → Ins → (Ins)) (m58 : Int → Ins → (Ins)) (m59 : Int → Ins → (Ins)) (m60 : Int → Ins → (Ins)) (w : Int) (i : Ins) : RR :=
  bif ((m38 w 7 4) == 9) then
    (some (.ret (insV (m57 w i)) []))
  else
    bif (m41 w 7) then
      bif (m41 w 4) then
        (some (.ret (insV (m58 w i)) []))
      else
        bif ((m38 w 24 23) == 2) then
          bif (!(m41 w 20)) then
            (some (.ret (insV (m59 w i)) []))
          else
            bif (m41 w 4) then
              (some (.ret (insV (m60 w (Ins.mk i.Cond i.Op i.S 3 i.Rd i.Rn (m38 w 3 0) (m38 w 11 8) i.Ra i.Imm (m38 w 6 5) i.Amount i.Pre i.Up i.Write i.List i.CRn i.Op1 i.CRm i.Op2))) []))
            else
              (some (.ret (insV (m60 w (Ins.mk i.Cond i.Op i.S 2 i.Rd i.Rn (m38 w 3 0) i.Rs i.Ra i.Imm (m38 w 6 5) (m38 w 11 7) i.Pre i.Up i.Write i.List i.CRn i.Op1 i.CRm i.Op2))) []))
        else
          bif (m41 w 4) then
            (some (.ret (insV (m60 w (Ins.mk i.Cond i.Op i.S 3 i.Rd i.Rn (m38 w 3 0) (m38 w 11 8) i.Ra i.Imm (m38 w 6 5) i.Amount i.Pre i.Up i.Write i.List i.CRn i.Op1 i.CRm i.Op2))) []))
          else
            (some (.ret (insV (m60 w (Ins.mk i.Cond i.Op i.S 2 i.Rd i.Rn (m38 w 3 0) i.Rs i.Ra i.Imm (m38 w 6 5) (m38 w 11 7) i.Pre i.Up i.Write i.List i.CRn i.Op1 i.CRm i.Op2))) []))
    else
      bif ((m38 w 24 23) == 2) then
        bif (!(m41 w 20)) then
          (some (.ret (insV (m59 w i)) []))
        else
          bif (m41 w 4) then
            (some (.ret (insV (m60 w (Ins.mk i.Cond i.Op i.S 3 i.Rd i.Rn (m38 w 3 0) (m38 w 11 8) i.Ra i.Imm (m38 w 6 5) i.Amount i.Pre i.Up i.Write i.List i.CRn i.Op1 i.CRm i.Op2))) []))
          else
            (some (.ret (insV (m60 w (Ins.mk i.Cond i.Op i.S 2 i.Rd i.Rn (m38 w 3 0) i.Rs i.Ra i.Imm (m38 w 6 5) (m38 w 11 7) i.Pre i.Up i.Write i.List i.CRn i.Op1 i.CRm i.Op2))) []))
      else
        bif (m41 w 4) then
          (some (.ret (insV (m60 w (Ins.mk i.Cond i.Op i.S 3 i.Rd i.Rn (m38 w 3 0) (m38 w 11 8) i.Ra i.Imm (m38 w 6 5) i.Amount i.Pre i.Up i.Write i.List i.CRn i.Op1 i.CRm i.Op2))) []))
        else
          (some (.ret (insV (m60 w (Ins.mk i.Cond i.Op i.S 2 i.Rd i.Rn (m38 w 3 0) i.Rs i.Ra i.Imm (m38 w 6 5) (m38 w 11 7) i.Pre i.Up i.Write i.List i.CRn i.Op1 i.CRm i.Op2))) []))
theorem r39 (m38 : Int → Int → Int → (Int)) (m41 : Int → Int → (Bool)) (m57 : Int → Ins → (Ins)) (m58 : Int → Ins → (Ins)) (m59 : Int → Ins → (Ins)) (m60 : Int → Ins → (Ins)) (w : Int) (i : Ins) : runBody std Try.prog (liftT (tab [e38 m38, e41 m41, e57 m57, e58 m58, e59 m59, e60 m60])) 40 Try.f39 [.int .u32 w, insV i] [] (ksAuto ([] : Heap).length) = T39 m38 m41 m57 m58 m59 m60 w i := by kernel_rfl
theorem g39 (m38 : Int → Int → Int → (Int)) (m41 : Int → Int → (Bool)) (m57 : Int → Ins → (Ins)) (m58 : Int → Ins → (Ins)) (m59 : Int → Ins → (Ins)) (m60 : Int → Ins → (Ins)) (w : Int) (i : Ins) : Fits kIns (T39 m38 m41 m57 m58 m59 m60 w i) := by
  unfold T39; repeat' (first | apply fits_br | exact fits_leaf rfl)
noncomputable def M39 (m38 : Int → Int → Int → (Int)) (m41 : Int → Int → (Bool)) (m57 : Int → Ins → (Ins)) (m58 : Int → Ins → (Ins)) (m59 : Int → Ins → (Ins)) (m60 : Int → Ins → (Ins)) : Int → Ins → (Ins) := fun w i => kIns.of (T39 m38 m41 m57 m58 m59 m60 w i)
theorem ok39 {m38 : Int → Int → Int → (Int)} {m41 : Int → Int → (Bool)} {m57 : Int → Ins → (Ins)} {m58 : Int → Ins → (Ins)} {m59 : Int → Ins → (Ins)} {m60 : Int → Ins → (Ins)} (h38 : EntryOK Try.prog (e38 m38)) (h41 : EntryOK Try.prog (e41 m41)) (h57 : EntryOK Try.prog (e57 m57)) (h58 : EntryOK Try.prog (e58 m58)) (h59 : EntryOK Try.prog (e59 m59)) (h60 : EntryOK Try.prog (e60 m60)) : EntryOK Try.prog (e39 (M39 m38 m41 m57 m58 m59 m60)) := by
  intro args H c hc hH ha
  unfold e39 at hc
  dsimp only at hc
  split at hc
  rotate_left
  · cases hc
  rename_i w vi
  split at hc
  rotate_left
  · cases hc
  rename_i i hii
  obtain rfl := insOf_eq hii
  simp only [CT.run, Option.some.injEq] at hc
  subst hc
  exact keep_ok (run_ok (tab_cons h38 (tab_cons h41 (tab_cons h57 (tab_cons h58 (tab_cons h59 (tab_cons h60 tab_nil)))))) mixed Try.func39 ((r39 m38 m41 m57 m58 m59 m60 w i).trans (g39 m38 m41 m57 m58 m59 m60 w i).eq) hH ha)

end Go.Vx
