/- Functions of the program: their trees, that they answer in one shape, their entries. -/
import Derived.Test.YtfheonbdapkgkaaEnts
import Derived.Test.YtfheonbdapkgkaaCpuLive
import Derived.Test.YtfheonbdapkgkaaCpuB
namespace Go.Vx
open Go Go.Proofs

def T45  (a : Int) (b : Int) (c : Int) (d : Int) (k : Nat) (e : TypeId) : RR :=
  bif (a == 15) then
    (some (.ret (.bool true) [(Blk.cells [(.int .i64 a), (.int .i64 b), (.int .i64 c), (.int .i64 d)] e)]))
  else
    bif (b == 15) then
      (some (.ret (.bool true) [(Blk.cells [(.int .i64 a), (.int .i64 b), (.int .i64 c), (.int .i64 d)] e)]))
    else
      bif (c == 15) then
        (some (.ret (.bool true) [(Blk.cells [(.int .i64 a), (.int .i64 b), (.int .i64 c), (.int .i64 d)] e)]))
      else
        bif (d == 15) then
          (some (.ret (.bool true) [(Blk.cells [(.int .i64 a), (.int .i64 b), (.int .i64 c), (.int .i64 d)] e)]))
        else
          (some (.ret (.bool false) [(Blk.cells [(.int .i64 a), (.int .i64 b), (.int .i64 c), (.int .i64 d)] e)]))
theorem r45  (a : Int) (b : Int) (c : Int) (d : Int) (k : Nat) (e : TypeId) : runBody std Try.prog (liftT (tab [])) 40 Try.f45 [.slice (some ⟨0, 0, none⟩) 4 k] [.cells [.int .i64 a, .int .i64 b, .int .i64 c, .int .i64 d] e] (ksAuto ([.cells [.int .i64 a, .int .i64 b, .int .i64 c, .int .i64 d] e] : Heap).length) = T45  a b c d k e := by kernel_rfl
theorem g45  (a : Int) (b : Int) (c : Int) (d : Int) (k : Nat) (e : TypeId) : Fits (kBool.at [.cells [.int .i64 a, .int .i64 b, .int .i64 c, .int .i64 d] e]) (T45  a b c d k e) := by
  unfold T45; repeat' (first | apply fits_br | exact fits_leaf rfl)
noncomputable def M45  : Int → Int → Int → Int → Nat → TypeId → (Bool) := fun a b c d k e => (kBool.at [.cells [.int .i64 a, .int .i64 b, .int .i64 c, .int .i64 d] e]).of (T45  a b c d k e)
theorem ok45   : EntryOK Try.prog (e45 (M45 )) := by
  intro args H c hc hH ha
  unfold e45 at hc
  dsimp only at hc
  split at hc
  rotate_left
  · cases hc
  rename_i k a b c d e
  simp only [CT.run, Option.some.injEq] at hc
  subst hc
  exact keep_ok (run_ok tab_nil mixed Try.func45 ((r45 a b c d k e).trans (g45 a b c d k e).eq) hH ha)

def T33 (m45 : Int → Int → Int → Int → Nat → TypeId → (Bool)) (m46 : Int → (Bool)) (i : Ins) : RR :=
  bif (i.Cond == 15) then
    (some (.ret (.bool false) []))
  else
    bif (i.Op == 0) then
      (some (.ret (.bool false) []))
    else
      bif (decide (i.Op ≤ 16)) then
        bif (!(i.Form == 3)) then
          (some (.ret (.bool true) []))
        else
          (some (.ret (.bool (!(m45 i.Rd i.Rn i.Rm i.Rs 4 3))) []))
      else
        bif (decide (i.Op ≤ 30)) then
          bif (!(m45 i.Rd i.Rm i.Rs i.Ra 4 3)) then
            bif (!(m46 i.Op)) then
              (some (.ret (.bool true) []))
            else
              (some (.ret (.bool (!(i.Rd == i.Ra))) []))
          else
            (some (.ret (.bool false) []))
        else
          bif (decide (i.Op ≤ 38)) then
            bif i.Write then
              bif i.Write then
                bif (!i.Pre) then
                  (some (.ret (.bool false) []))
                else
                  bif (i.Rn == 15) then
                    (some (.ret (.bool false) []))
                  else
                    bif (i.Rn == i.Rd) then
                      (some (.ret (.bool false) []))
                    else
                      bif (i.Form == 2) then
                        bif (i.Rm == 15) then
                          (some (.ret (.bool false) []))
                        else
                          bif (!(i.Rd == 15)) then
                            (some (.ret (.bool true) []))
                          else
                            (some (.ret (.bool (i.Op == 31)) []))
                      else
                        bif (!(i.Rd == 15)) then
                          (some (.ret (.bool true) []))
                        else
                          (some (.ret (.bool (i.Op == 31)) []))
              else
                bif (i.Rn == 15) then
                  (some (.ret (.bool false) []))
                else
                  bif (i.Rn == i.Rd) then
                    (some (.ret (.bool false) []))
                  else
                    bif (i.Form == 2) then
                      bif (i.Rm == 15) then
                        (some (.ret (.bool false) []))
                      else
                        bif (!(i.Rd == 15)) then
                          (some (.ret (.bool true) []))
                        else
                          (some (.ret (.bool (i.Op == 31)) []))
                    else
                      bif (!(i.Rd == 15)) then
                        (some (.ret (.bool true) []))
                      else
                        (some (.ret (.bool (i.Op == 31)) []))
            else
              bif i.Write then
                bif (!i.Pre) then
                  (some (.ret (.bool false) []))
                else
                  bif (!i.Pre) then
                    bif (i.Rn == 15) then
                      (some (.ret (.bool false) []))
                    else
                      bif (i.Rn == i.Rd) then
                        (some (.ret (.bool false) []))
                      else
                        bif (i.Form == 2) then
                          bif (i.Rm == 15) then
                            (some (.ret (.bool false) []))
                          else
                            bif (!(i.Rd == 15)) then
                              (some (.ret (.bool true) []))
                            else
                              (some (.ret (.bool (i.Op == 31)) []))
                        else
                          bif (!(i.Rd == 15)) then
                            (some (.ret (.bool true) []))
                          else
                            (some (.ret (.bool (i.Op == 31)) []))
                  else
                    bif (i.Form == 2) then
                      bif (i.Rm == 15) then
                        (some (.ret (.bool false) []))
                      else
                        bif (!(i.Rd == 15)) then
                          (some (.ret (.bool true) []))
                        else
                          (some (.ret (.bool (i.Op == 31)) []))
                    else
                      bif (!(i.Rd == 15)) then
                        (some (.ret (.bool true) []))
                      else
                        (some (.ret (.bool (i.Op == 31)) []))
              else
                bif (!i.Pre) then
                  bif (i.Rn == 15) then
                    (some (.ret (.bool false) []))
                  else
                    bif (i.Rn == i.Rd) then
                      (some (.ret (.bool false) []))
                    else
                      bif (i.Form == 2) then
                        bif (i.Rm == 15) then
                          (some (.ret (.bool false) []))
                        else
                          bif (!(i.Rd == 15)) then
                            (some (.ret (.bool true) []))
                          else
                            (some (.ret (.bool (i.Op == 31)) []))
                      else
                        bif (!(i.Rd == 15)) then
                          (some (.ret (.bool true) []))
                        else
                          (some (.ret (.bool (i.Op == 31)) []))
                else
                  bif (i.Form == 2) then
                    bif (i.Rm == 15) then
                      (some (.ret (.bool false) []))
                    else
                      bif (!(i.Rd == 15)) then
                        (some (.ret (.bool true) []))
                      else
                        (some (.ret (.bool (i.Op == 31)) []))
                  else
                    bif (!(i.Rd == 15)) then
                      (some (.ret (.bool true) []))
                    else
                      (some (.ret (.bool (i.Op == 31)) []))
          else
            bif (decide (i.Op ≤ 40)) then
              bif (decide (0 ≤ (IntKind.wrap .u64 i.Rn))) then
                bif (!(i.List == 0)) then
                  bif (!(i.Rn == 15)) then
                    bif i.Write then
                      bif (!((bits .and .u16 (shrI .u16 i.List (IntKind.wrap .u64 i.Rn)) 1) == 1)) then
                        bif (i.Op == 40) then
                          (some (.ret (.bool (!((shrI .u16 i.List 15) == 1))) []))
                        else
                          (some (.ret (.bool true) []))
                      else
                        (some (.ret (.bool false) []))
                    else
                      bif (i.Op == 40) then
                        (some (.ret (.bool (!((shrI .u16 i.List 15) == 1))) []))
                      else
                        (some (.ret (.bool true) []))
                  else
                    (some (.ret (.bool false) []))
                else
                  (some (.ret (.bool false) []))
              else
                none
            else
              bif (i.Op == 43) then
                bif (i.Op == 43) then
                  (some (.ret (.bool (!(i.Rm == 15))) []))
                else
                  bif (i.Op == 47) then
                    bif (i.Op == 47) then
                      (some (.ret (.bool (!(i.Rd == 15))) []))
                    else
                      bif (i.Op == 48) then
                        bif (!(i.Amount == 0)) then
                          (some (.ret (.bool (!(i.Rm == 15))) []))
                        else
                          (some (.ret (.bool false) []))
                      else
                        bif (i.Op == 46) then
                          (some (.ret (.bool (i.Cond == 14)) []))
                        else
                          (some (.ret (.bool true) []))
                  else
                    bif (i.Op == 49) then
                      bif (i.Op == 49) then
                        (some (.ret (.bool (!(i.Rd == 15))) []))
                      else
                        bif (i.Op == 48) then
                          bif (!(i.Amount == 0)) then
                            (some (.ret (.bool (!(i.Rm == 15))) []))
                          else
                            (some (.ret (.bool false) []))
                        else
                          bif (i.Op == 46) then
                            (some (.ret (.bool (i.Cond == 14)) []))
                          else
                            (some (.ret (.bool true) []))
                    else
                      bif (i.Op == 50) then
                        (some (.ret (.bool (!(i.Rd == 15))) []))
                      else
                        bif (i.Op == 48) then
                          bif (!(i.Amount == 0)) then
                            (some (.ret (.bool (!(i.Rm == 15))) []))
                          else
                            (some (.ret (.bool false) []))
                        else
                          bif (i.Op == 46) then
                            (some (.ret (.bool (i.Cond == 14)) []))
                          else
                            (some (.ret (.bool true) []))
              else
                bif (i.Op == 44) then
                  (some (.ret (.bool (!(i.Rm == 15))) []))
                else
                  bif (i.Op == 47) then
                    bif (i.Op == 47) then
                      (some (.ret (.bool (!(i.Rd == 15))) []))
                    else
                      bif (i.Op == 48) then
                        bif (!(i.Amount == 0)) then
                          (some (.ret (.bool (!(i.Rm == 15))) []))
                        else
                          (some (.ret (.bool false) []))
                      else
                        bif (i.Op == 46) then
                          (some (.ret (.bool (i.Cond == 14)) []))
                        else
                          (some (.ret (.bool true) []))
                  else
                    bif (i.Op == 49) then
                      bif (i.Op == 49) then
                        (some (.ret (.bool (!(i.Rd == 15))) []))
                      else
                        bif (i.Op == 48) then
                          bif (!(i.Amount == 0)) then
                            (some (.ret (.bool (!(i.Rm == 15))) []))
                          else
                            (some (.ret (.bool false) []))
                        else
                          bif (i.Op == 46) then
                            (some (.ret (.bool (i.Cond == 14)) []))
                          else
                            (some (.ret (.bool true) []))
                    else
                      bif (i.Op == 50) then
                        (some (.ret (.bool (!(i.Rd == 15))) []))
                      else
                        bif (i.Op == 48) then
                          bif (!(i.Amount == 0)) then
                            (some (.ret (.bool (!(i.Rm == 15))) []))
                          else
                            (some (.ret (.bool false) []))
                        else
                          bif (i.Op == 46) then
                            (some (.ret (.bool (i.Cond == 14)) []))
                          else
                            (some (.ret (.bool true) []))
theorem r33 (m45 : Int → Int → Int → Int → Nat → TypeId → (Bool)) (m46 : Int → (Bool)) (i : Ins) : runBody std Try.prog (liftT (tab [e45 m45, e46 m46])) 40 Try.f33 [insV i] [] (ksAuto ([] : Heap).length) = T33 m45 m46 i := by kernel_rfl
theorem u64_nonneg' (n : Int) : 0 ≤ IntKind.u64.wrap n := by simp [IntKind.wrap, IntKind.bits, IntKind.signed]; omega
theorem g33 (m45 : Int → Int → Int → Int → Nat → TypeId → Bool) (m46 : Int → Bool) (i : Ins) : Fits kBool (T33 m45 m46 i) := by
  unfold T33
  repeat' (first | exact fits_leaf rfl | (refine fits_ob (decide_eq_true (u64_nonneg' _)) ?_) | apply fits_br)
noncomputable def M33 (m45 : Int → Int → Int → Int → Nat → TypeId → (Bool)) (m46 : Int → (Bool)) : Ins → (Bool) := fun i => kBool.of (T33 m45 m46 i)
theorem ok33 {m45 : Int → Int → Int → Int → Nat → TypeId → (Bool)} {m46 : Int → (Bool)} (h45 : EntryOK Try.prog (e45 m45)) (h46 : EntryOK Try.prog (e46 m46)) : EntryOK Try.prog (e33 (M33 m45 m46)) := by
  intro args H c hc hH ha
  unfold e33 at hc
  dsimp only at hc
  split at hc
  rotate_left
  · cases hc
  rename_i vi
  split at hc
  rotate_left
  · cases hc
  rename_i i hii
  obtain rfl := insOf_eq hii
  simp only [CT.run, Option.some.injEq] at hc
  subst hc
  exact keep_ok (run_ok (tab_cons h45 (tab_cons h46 tab_nil)) mixed Try.func33 ((r33 m45 m46 i).trans (g33 m45 m46 i).eq) hH ha)

def T20 (m32 : Int → (Ins)) (m33 : Ins → (Bool)) (w : Int) : RR :=
  bif (!(m33 (m32 w))) then
    (some (.ret (.tuple #[(.agg #[(.int .i64 0), (.int .i64 0), (.bool false), (.int .i64 0), (.int .i64 0), (.int .i64 0), (.int .i64 0), (.int .i64 0), (.int .i64 0), (.int .u32 0), (.int .i64 0), (.int .i64 0), (.bool false), (.bool false), (.bool false), (.int .u16 0), (.int .i64 0), (.int .i64 0), (.int .i64 0), (.int .i64 0)]), (.bool false)]) []))
  else
    (some (.ret (.tuple #[(insV (m32 w)), (.bool true)]) []))
theorem r20 (m32 : Int → (Ins)) (m33 : Ins → (Bool)) (w : Int) : runBody std Try.prog (liftT (tab [e32 m32, e33 m33])) 40 Try.f20 [.int .u32 w] [] (ksAuto ([] : Heap).length) = T20 m32 m33 w := by kernel_rfl
theorem g20 (m32 : Int → (Ins)) (m33 : Ins → (Bool)) (w : Int) : Fits kInsOk (T20 m32 m33 w) := by
  unfold T20; repeat' (first | apply fits_br | exact fits_leaf rfl)
noncomputable def M20 (m32 : Int → (Ins)) (m33 : Ins → (Bool)) : Int → (Ins × Bool) := fun w => kInsOk.of (T20 m32 m33 w)
theorem ok20 {m32 : Int → (Ins)} {m33 : Ins → (Bool)} (h32 : EntryOK Try.prog (e32 m32)) (h33 : EntryOK Try.prog (e33 m33)) : EntryOK Try.prog (e20 (M20 m32 m33)) := by
  intro args H c hc hH ha
  unfold e20 at hc
  dsimp only at hc
  split at hc
  rotate_left
  · cases hc
  rename_i w
  simp only [CT.run, Option.some.injEq] at hc
  subst hc
  exact keep_ok (run_ok (tab_cons h32 (tab_cons h33 tab_nil)) mixed Try.func20 ((r20 m32 m33 w).trans (g20 m32 m33 w).eq) hH ha)

end Go.Vx
