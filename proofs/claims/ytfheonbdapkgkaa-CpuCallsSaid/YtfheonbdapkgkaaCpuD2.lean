/- The two statements' functions: what they come to. -/
import Derived.Test.YtfheonbdapkgkaaCpuD1
import Derived.Test.YtfheonbdapkgkaaCpuLiveZ
namespace Go.Vx
open Go Go.Proofs
def T5 (gp : Sta → Bool) (ld : Sta → Sta) (m20 : Int → Ins × Bool) (m21 : Int → Flg → Bool) (m22 : Int → Flg) (g4 : Int → Bool) (m120 : Int → Int → Int → Int) (nd : Int → Bool) (np : Int → Int → Bool) (sv : Int → Bool) (add4 : Int → Int) (priv : Int → Bool) (m28 : Int → Int → Int) (s : Sta) (w : Int) : RR :=
  bif (gp s) then
    bif (!(m20 w).snd) then
      (some (.ret (.bool true) []))
    else
      bif (m21 (Prod.fst (m20 w)).Cond (m22 (ld s).s29)) then
        (some (.ret (.bool true) []))
      else
        bif (g4 (ld s).s28) then
          bif (nd (m120 (ld s).s28 w (ld s).s28)) then
            (some (.ret (.bool false) []))
          else
            bif (np (m120 (ld s).s28 w (ld s).s28) (ld s).s29) then
              bif (true && (((ld s).s28 == (IntKind.wrap .u32 ((IntKind.wrap .u32 ((ld s).s28 + 4)) - 4))) && (((m120 (ld s).s28 w (ld s).s28) == w) && true))) then
                bif ((((ld s).s0 == (ld s).s0) && (((ld s).s1 == (ld s).s1) && (((ld s).s2 == (ld s).s2) && (((ld s).s3 == (ld s).s3) && (((ld s).s4 == (ld s).s4) && (((ld s).s5 == (ld s).s5) && (((ld s).s6 == (ld s).s6) && (((ld s).s7 == (ld s).s7) && (((ld s).s8 == (ld s).s8) && (((ld s).s9 == (ld s).s9) && (((ld s).s10 == (ld s).s10) && (((ld s).s11 == (ld s).s11) && (((ld s).s12 == (ld s).s12) && true))))))))))))) && ((((ld s).s13 == (ld s).s13) && (((ld s).s14 == (ld s).s14) && (((ld s).s15 == (ld s).s15) && (((ld s).s16 == (ld s).s16) && (((ld s).s17 == (ld s).s17) && true))))) && ((((ld s).s18 == (ld s).s18) && (((ld s).s19 == (ld s).s19) && (((ld s).s20 == (ld s).s20) && (((ld s).s21 == (ld s).s21) && (((ld s).s22 == (ld s).s22) && true))))) && ((((ld s).s23 == (ld s).s23) && (((ld s).s24 == (ld s).s24) && (((ld s).s25 == (ld s).s25) && (((ld s).s26 == (ld s).s26) && (((ld s).s27 == (ld s).s27) && true))))) && (((add4 (ld s).s28) == (IntKind.wrap .u32 ((ld s).s28 + 4))) && (((ld s).s29 == (ld s).s29) && true)))))) then
                  (some (.ret (.bool true) []))
                else
                  (some (.ret (.bool false) []))
              else
                (some (.ret (.bool false) []))
            else
              bif (sv (m120 (ld s).s28 w (ld s).s28)) then
                (some (.ret (.bool false) []))
              else
                none
        else
          none
  else
    none
theorem r5 (gp : Sta → Bool) (ld : Sta → Sta) (m20 : Int → Ins × Bool) (m21 : Int → Flg → Bool) (m22 : Int → Flg) (g4 : Int → Bool) (m120 : Int → Int → Int → Int) (nd : Int → Bool) (np : Int → Int → Bool) (sv : Int → Bool) (add4 : Int → Int) (priv : Int → Bool) (m28 : Int → Int → Int) (s : Sta) (w : Int) : runBody std Try.prog (liftT (tab [e9 gp ld, e10, e11, e20 m20, e22 m22, e21 m21, e12, e13 g4 m120 nd np sv add4 priv m28, e14i])) 40 Try.f5 [stV s, .int .u32 w] [] (ksAuto ([] : Heap).length) = T5 gp ld m20 m21 m22 g4 m120 nd np sv add4 priv m28 s w := by kernel_rfl
def T6 (gp : Sta → Bool) (ld : Sta → Sta) (m20 : Int → Ins × Bool) (m21 : Int → Flg → Bool) (m22 : Int → Flg) (g4 : Int → Bool) (m120 : Int → Int → Int → Int) (nd : Int → Bool) (np : Int → Int → Bool) (sv : Int → Bool) (add4 : Int → Int) (priv : Int → Bool) (m28 : Int → Int → Int) (s : Sta) (n w : Int) (is1 is3 okm : Int → Bool) (cut : Int → Int) : RR :=
  bif (gp s) then
    bif (g4 (ld s).s28) then
      bif (nd (m120 (ld s).s28 (bits .or .u32 4009754624 (bits .and .u32 n 16777215)) (ld s).s28)) then
        (some (.ret (.bool false) []))
      else
        bif (np (m120 (ld s).s28 (bits .or .u32 4009754624 (bits .and .u32 n 16777215)) (ld s).s28) (ld s).s29) then
          (some (.ret (.bool false) []))
        else
          bif (sv (m120 (ld s).s28 (bits .or .u32 4009754624 (bits .and .u32 n 16777215)) (ld s).s28)) then
            bif (!(true && (((ld s).s28 == (ld s).s28) && (((m120 (ld s).s28 (bits .or .u32 4009754624 (bits .and .u32 n 16777215)) (ld s).s28) == (bits .or .u32 4009754624 (bits .and .u32 n 16777215))) && true)))) then
              (some (.ret (.bool false) []))
            else
              bif (!((ld s).s29 == (ld s).s29)) then
                (some (.ret (.bool false) []))
              else
                bif (is1 (m28 19 (ld s).s29)) then
                  bif (okm (ld s).s29) then
                    bif (!((((ld s).s0 == (ld s).s0) && (((ld s).s1 == (ld s).s1) && (((ld s).s2 == (ld s).s2) && (((ld s).s3 == (ld s).s3) && (((ld s).s4 == (ld s).s4) && (((ld s).s5 == (ld s).s5) && (((ld s).s6 == (ld s).s6) && (((ld s).s7 == (ld s).s7) && (((ld s).s8 == (ld s).s8) && (((ld s).s9 == (ld s).s9) && (((ld s).s10 == (ld s).s10) && (((ld s).s11 == (ld s).s11) && (((ld s).s12 == (ld s).s12) && true))))))))))))) && ((((ld s).s13 == (ld s).s13) && (((ld s).s14 == (ld s).s14) && (((ld s).s15 == (ld s).s15) && (((ld s).s16 == (ld s).s16) && (((ld s).s17 == (ld s).s17) && true))))) && ((((ld s).s18 == (ld s).s18) && (((add4 (ld s).s28) == (IntKind.wrap .u32 ((ld s).s28 + 4))) && (((ld s).s20 == (ld s).s20) && (((ld s).s21 == (ld s).s21) && (((ld s).s22 == (ld s).s22) && true))))) && ((((ld s).s23 == (ld s).s23) && (((ld s).s29 == (ld s).s29) && (((ld s).s25 == (ld s).s25) && (((ld s).s26 == (ld s).s26) && (((ld s).s27 == (ld s).s27) && true))))) && (((cut (add4 (ld s).s28)) == (IntKind.wrap .u32 ((ld s).s28 + 4))) && (((ld s).s29 == (ld s).s29) && true))))))) then
                      (some (.ret (.bool false) []))
                    else
                      bif (m20 w).snd then
                        (some (.ret (.bool true) []))
                      else
                        bif (g4 (cut (add4 (ld s).s28))) then
                          bif (nd (m120 (IntKind.wrap .u32 ((ld s).s28 + 4)) w (cut (add4 (ld s).s28)))) then
                            bif (!(true && (((cut (add4 (ld s).s28)) == (IntKind.wrap .u32 ((ld s).s28 + 4))) && (((m120 (IntKind.wrap .u32 ((ld s).s28 + 4)) w (cut (add4 (ld s).s28))) == w) && true)))) then
                              (some (.ret (.bool false) []))
                            else
                              bif (is1 (m28 27 (ld s).s29)) then
                                bif (okm (ld s).s29) then
                                  (some (.ret (.bool ((((ld s).s0 == (ld s).s0) && (((ld s).s1 == (ld s).s1) && (((ld s).s2 == (ld s).s2) && (((ld s).s3 == (ld s).s3) && (((ld s).s4 == (ld s).s4) && (((ld s).s5 == (ld s).s5) && (((ld s).s6 == (ld s).s6) && (((ld s).s7 == (ld s).s7) && (((ld s).s8 == (ld s).s8) && (((ld s).s9 == (ld s).s9) && (((ld s).s10 == (ld s).s10) && (((ld s).s11 == (ld s).s11) && (((ld s).s12 == (ld s).s12) && true))))))))))))) && ((((ld s).s13 == (ld s).s13) && (((ld s).s14 == (ld s).s14) && (((ld s).s15 == (ld s).s15) && (((ld s).s16 == (ld s).s16) && (((ld s).s17 == (ld s).s17) && true))))) && ((((ld s).s18 == (ld s).s18) && (((add4 (ld s).s28) == (IntKind.wrap .u32 ((ld s).s28 + 4))) && (((ld s).s20 == (ld s).s20) && (((add4 (cut (add4 (ld s).s28))) == (IntKind.wrap .u32 ((IntKind.wrap .u32 ((ld s).s28 + 4)) + 4))) && (((ld s).s22 == (ld s).s22) && true))))) && ((((ld s).s23 == (ld s).s23) && (((ld s).s29 == (ld s).s29) && (((ld s).s25 == (ld s).s25) && (((ld s).s29 == (ld s).s29) && (((ld s).s27 == (ld s).s27) && true))))) && (((cut (add4 (ld s).s28)) == (IntKind.wrap .u32 ((IntKind.wrap .u32 ((ld s).s28 + 4)) + 4))) && (((ld s).s29 == (ld s).s29) && true))))))) []))
                                else
                                  none
                              else
                                bif (is3 (m28 27 (ld s).s29)) then
                                  bif (okm (ld s).s29) then
                                    (some (.ret (.bool ((((ld s).s0 == (ld s).s0) && (((ld s).s1 == (ld s).s1) && (((ld s).s2 == (ld s).s2) && (((ld s).s3 == (ld s).s3) && (((ld s).s4 == (ld s).s4) && (((ld s).s5 == (ld s).s5) && (((ld s).s6 == (ld s).s6) && (((ld s).s7 == (ld s).s7) && (((ld s).s8 == (ld s).s8) && (((ld s).s9 == (ld s).s9) && (((ld s).s10 == (ld s).s10) && (((ld s).s11 == (ld s).s11) && (((ld s).s12 == (ld s).s12) && true))))))))))))) && ((((ld s).s13 == (ld s).s13) && (((ld s).s14 == (ld s).s14) && (((ld s).s15 == (ld s).s15) && (((ld s).s16 == (ld s).s16) && (((ld s).s17 == (ld s).s17) && true))))) && ((((ld s).s18 == (ld s).s18) && (((add4 (ld s).s28) == (IntKind.wrap .u32 ((ld s).s28 + 4))) && (((ld s).s20 == (ld s).s20) && (((add4 (cut (add4 (ld s).s28))) == (IntKind.wrap .u32 ((IntKind.wrap .u32 ((ld s).s28 + 4)) + 4))) && (((ld s).s22 == (ld s).s22) && true))))) && ((((ld s).s23 == (ld s).s23) && (((ld s).s29 == (ld s).s29) && (((ld s).s25 == (ld s).s25) && (((ld s).s29 == (ld s).s29) && (((ld s).s27 == (ld s).s27) && true))))) && (((cut (add4 (cut (add4 (ld s).s28)))) == (IntKind.wrap .u32 ((IntKind.wrap .u32 ((ld s).s28 + 4)) + 4))) && (((ld s).s29 == (ld s).s29) && true))))))) []))
                                  else
                                    none
                                else
                                  none
                          else
                            bif (np (m120 (IntKind.wrap .u32 ((ld s).s28 + 4)) w (cut (add4 (ld s).s28))) (ld s).s29) then
                              (some (.ret (.bool false) []))
                            else
                              bif (sv (m120 (IntKind.wrap .u32 ((ld s).s28 + 4)) w (cut (add4 (ld s).s28)))) then
                                (some (.ret (.bool false) []))
                              else
                                none
                        else
                          none
                  else
                    none
                else
                  bif (is3 (m28 19 (ld s).s29)) then
                    bif (okm (ld s).s26) then
                      bif (!((((ld s).s0 == (ld s).s0) && (((ld s).s1 == (ld s).s1) && (((ld s).s2 == (ld s).s2) && (((ld s).s3 == (ld s).s3) && (((ld s).s4 == (ld s).s4) && (((ld s).s5 == (ld s).s5) && (((ld s).s6 == (ld s).s6) && (((ld s).s7 == (ld s).s7) && (((ld s).s8 == (ld s).s8) && (((ld s).s9 == (ld s).s9) && (((ld s).s10 == (ld s).s10) && (((ld s).s11 == (ld s).s11) && (((ld s).s12 == (ld s).s12) && true))))))))))))) && ((((ld s).s13 == (ld s).s13) && (((ld s).s14 == (ld s).s14) && (((ld s).s15 == (ld s).s15) && (((ld s).s16 == (ld s).s16) && (((ld s).s17 == (ld s).s17) && true))))) && ((((ld s).s18 == (ld s).s18) && (((add4 (ld s).s28) == (IntKind.wrap .u32 ((ld s).s28 + 4))) && (((ld s).s20 == (ld s).s20) && (((ld s).s21 == (ld s).s21) && (((ld s).s22 == (ld s).s22) && true))))) && ((((ld s).s23 == (ld s).s23) && (((ld s).s29 == (ld s).s29) && (((ld s).s25 == (ld s).s25) && (((ld s).s26 == (ld s).s26) && (((ld s).s27 == (ld s).s27) && true))))) && (((cut (ld s).s21) == (IntKind.wrap .u32 ((ld s).s28 + 4))) && (((ld s).s26 == (ld s).s29) && true))))))) then
                        (some (.ret (.bool false) []))
                      else
                        bif (m20 w).snd then
                          (some (.ret (.bool true) []))
                        else
                          bif (g4 (cut (ld s).s21)) then
                            bif (nd (m120 (IntKind.wrap .u32 ((ld s).s28 + 4)) w (cut (ld s).s21))) then
                              bif (!(true && (((cut (ld s).s21) == (IntKind.wrap .u32 ((ld s).s28 + 4))) && (((m120 (IntKind.wrap .u32 ((ld s).s28 + 4)) w (cut (ld s).s21)) == w) && true)))) then
                                (some (.ret (.bool false) []))
                              else
                                bif (is1 (m28 27 (ld s).s26)) then
                                  bif (okm (ld s).s29) then
                                    (some (.ret (.bool ((((ld s).s0 == (ld s).s0) && (((ld s).s1 == (ld s).s1) && (((ld s).s2 == (ld s).s2) && (((ld s).s3 == (ld s).s3) && (((ld s).s4 == (ld s).s4) && (((ld s).s5 == (ld s).s5) && (((ld s).s6 == (ld s).s6) && (((ld s).s7 == (ld s).s7) && (((ld s).s8 == (ld s).s8) && (((ld s).s9 == (ld s).s9) && (((ld s).s10 == (ld s).s10) && (((ld s).s11 == (ld s).s11) && (((ld s).s12 == (ld s).s12) && true))))))))))))) && ((((ld s).s13 == (ld s).s13) && (((ld s).s14 == (ld s).s14) && (((ld s).s15 == (ld s).s15) && (((ld s).s16 == (ld s).s16) && (((ld s).s17 == (ld s).s17) && true))))) && ((((ld s).s18 == (ld s).s18) && (((add4 (ld s).s28) == (IntKind.wrap .u32 ((ld s).s28 + 4))) && (((ld s).s20 == (ld s).s20) && (((add4 (cut (ld s).s21)) == (IntKind.wrap .u32 ((IntKind.wrap .u32 ((ld s).s28 + 4)) + 4))) && (((ld s).s22 == (ld s).s22) && true))))) && ((((ld s).s23 == (ld s).s23) && (((ld s).s29 == (ld s).s29) && (((ld s).s25 == (ld s).s25) && (((ld s).s26 == (ld s).s29) && (((ld s).s27 == (ld s).s27) && true))))) && (((cut (add4 (ld s).s28)) == (IntKind.wrap .u32 ((IntKind.wrap .u32 ((ld s).s28 + 4)) + 4))) && (((ld s).s29 == (ld s).s29) && true))))))) []))
                                  else
                                    none
                                else
                                  bif (is3 (m28 27 (ld s).s26)) then
                                    bif (okm (ld s).s26) then
                                      (some (.ret (.bool ((((ld s).s0 == (ld s).s0) && (((ld s).s1 == (ld s).s1) && (((ld s).s2 == (ld s).s2) && (((ld s).s3 == (ld s).s3) && (((ld s).s4 == (ld s).s4) && (((ld s).s5 == (ld s).s5) && (((ld s).s6 == (ld s).s6) && (((ld s).s7 == (ld s).s7) && (((ld s).s8 == (ld s).s8) && (((ld s).s9 == (ld s).s9) && (((ld s).s10 == (ld s).s10) && (((ld s).s11 == (ld s).s11) && (((ld s).s12 == (ld s).s12) && true))))))))))))) && ((((ld s).s13 == (ld s).s13) && (((ld s).s14 == (ld s).s14) && (((ld s).s15 == (ld s).s15) && (((ld s).s16 == (ld s).s16) && (((ld s).s17 == (ld s).s17) && true))))) && ((((ld s).s18 == (ld s).s18) && (((add4 (ld s).s28) == (IntKind.wrap .u32 ((ld s).s28 + 4))) && (((ld s).s20 == (ld s).s20) && (((add4 (cut (ld s).s21)) == (IntKind.wrap .u32 ((IntKind.wrap .u32 ((ld s).s28 + 4)) + 4))) && (((ld s).s22 == (ld s).s22) && true))))) && ((((ld s).s23 == (ld s).s23) && (((ld s).s29 == (ld s).s29) && (((ld s).s25 == (ld s).s25) && (((ld s).s26 == (ld s).s29) && (((ld s).s27 == (ld s).s27) && true))))) && (((cut (add4 (cut (ld s).s21))) == (IntKind.wrap .u32 ((IntKind.wrap .u32 ((ld s).s28 + 4)) + 4))) && (((ld s).s26 == (ld s).s29) && true))))))) []))
                                    else
                                      none
                                  else
                                    none
                            else
                              bif (np (m120 (IntKind.wrap .u32 ((ld s).s28 + 4)) w (cut (ld s).s21)) (ld s).s26) then
                                (some (.ret (.bool false) []))
                              else
                                bif (sv (m120 (IntKind.wrap .u32 ((ld s).s28 + 4)) w (cut (ld s).s21))) then
                                  (some (.ret (.bool false) []))
                                else
                                  none
                          else
                            none
                    else
                      none
                  else
                    none
          else
            none
    else
      none
  else
    none
theorem r6 (gp : Sta → Bool) (ld : Sta → Sta) (m20 : Int → Ins × Bool) (m21 : Int → Flg → Bool) (m22 : Int → Flg) (g4 : Int → Bool) (m120 : Int → Int → Int → Int) (nd : Int → Bool) (np : Int → Int → Bool) (sv : Int → Bool) (add4 : Int → Int) (priv : Int → Bool) (m28 : Int → Int → Int) (s : Sta) (n w : Int) (is1 is3 okm : Int → Bool) (cut : Int → Int) : runBody std Try.prog (liftT (tab [e9 gp ld, e10, e11, e20 m20, e22 m22, e21 m21, e12, e13 g4 m120 nd np sv add4 priv m28, e14i, e15c is1 is3 okm cut])) 40 Try.f6 [stV s, .int .u32 n, .int .u32 w] [] (ksAuto ([] : Heap).length) = T6 gp ld m20 m21 m22 g4 m120 nd np sv add4 priv m28 s n w is1 is3 okm cut := by kernel_rfl

noncomputable abbrev LD := ldS M31
def u32 (x : Int) : Prop := 0 ≤ x ∧ x < 4294967296
theorem gpS_ok {s : Sta} (h : u32 s.s28) : gpS s = true := by
  simp only [gpS, Bool.and_eq_true, decide_eq_true_eq]; exact h
theorem isZ : isS M31 staZ = true := by kernel_rfl
/-- what is loaded is a state -/
theorem isLD (s : Sta) : isS M31 (LD s) = true := by
  show isS M31 (cond (isS M31 s) s staZ) = true
  cases h : isS M31 s
  · exact isZ
  · exact h
theorem ld28 {s : Sta} (h : u32 s.s28) : u32 (LD s).s28 := by
  show u32 (cond (isS M31 s) s staZ).s28
  cases isS M31 s
  · show (0 : Int) ≤ 0 ∧ (0 : Int) < 4294967296; omega
  · exact h
theorem ld29 {s : Sta} (h : u32 s.s29) : u32 (LD s).s29 := by
  show u32 (cond (isS M31 s) s staZ).s29
  cases isS M31 s
  · show (0 : Int) ≤ 147 ∧ (147 : Int) < 4294967296; omega
  · exact h
theorem isS_mode {t : Sta} (h : isS M31 t = true) : okm t.s29 = true := by
  simp only [isS, c26, List.all_cons, id, Bool.and_eq_true] at h
  exact h.1
theorem isS_al {t : Sta} (h : isS M31 t = true) : Int.tmod t.s28 4 = 0 := by
  simp only [isS, c26, List.all_cons, id, Bool.and_eq_true] at h
  exact eq_of_beq h.2.1
theorem al4_of {x : Int} (h : Int.tmod x 4 = 0) : al4 x = true := by simp [al4, h]

theorem law5 {s : Sta} {w : Int} (h28 : u32 s.s28) (hw : u32 w) : T5 gpS LD D20 M21 M22 al4 w120 (nd D20) (np D20 M21 M22) (sv D20) add4 priv m28 s w = some (.ret (.bool true) []) := by
  have hal := isS_al (isLD s)
  have hld := ld28 h28
  have e1 : w120 (LD s).s28 w (LD s).s28 = w := w120_eq hal hld.1 hld.2 hw.1 hw.2
  have e2 : IntKind.wrap .u32 (IntKind.wrap .u32 ((LD s).s28 + 4) - 4) = (LD s).s28 := by
    have h1 := hld.1; have h2 := hld.2
    rw [IntKind.wrap_u32, IntKind.wrap_u32]; omega
  have e3 : add4 (LD s).s28 = IntKind.wrap .u32 ((LD s).s28 + 4) := rfl
  unfold T5
  rw [gpS_ok h28, cond_true]
  cases hok : (D20 w).2 with
  | false => rfl
  | true =>
  cases hp : M21 (D20 w).1.Cond (M22 (LD s).s29) with
  | true => rfl
  | false =>
  have hnd : nd D20 w = false := by simp [nd, hok]
  have hnp : np D20 M21 M22 w (LD s).s29 = true := by simp [np, hp]
  simp only [Bool.not_true, cond_false, cond_true, al4_of hal, e1, e2, e3, hnd, hnp, beq_self_eq_true, Bool.and_self]
end Go.Vx
