/- A bus of one word; a step over it. -/
import Derived.Test.YtfheonbdapkgkaaCpuC2
namespace Go.Vx
open Go Go.Proofs

theorem okB_row1 (p : Nat → Bool) (a w : Int) : okB p (row1 a w) := fun i => cellsF_ok rfl rfl i
theorem row1_imp {f : Nat → List Value} {a w : Int} (h : f 0 = [.int .u32 a, .int .u32 w]) : ∀ i, i < 1 → f i = cellsF 2 [.int .u32 a, .int .u32 w] i := by
  intro i hi
  obtain rfl : i = 0 := by omega
  exact h

theorem r123 (f F : Nat → List Value) (cop x : Int) (p : Bool) : runBody std Try.prog (liftT (tab [])) 40 Try.f123 [.pointer (some ⟨0, 0, none⟩), .agg #[.int .i64 1, .int .u32 x, .int .i64 4, .int .u32 0, .bool p]]
    [.cells (lineL true cop) 48, .row 2 1 f 69, .row 12 1 F 54] (ksAuto ([.cells (lineL true cop) 48, .row 2 1 f 69, .row 12 1 F 54] : Heap).length) =
    cond (!al4 x) (some (.ret (.agg #[.int .i64 1, .int .i64 0, .int .i64 0]) [.cells (lineL true cop) 48, .row 2 1 f 69, .row 12 1 F 54])) (some (.ret (.agg #[.int .i64 0, .int .i64 0, .int .i64 0]) [.cells (lineL true cop) 48, .row 2 1 f 69, .row 12 1 F 54])) := by kernel_rfl
theorem ok123 : EntryOK Try.prog (e123 al4) := by
  intro args H c hc hH ha
  unfold e123 at hc
  dsimp only at hc
  split at hc
  rotate_left
  · cases hc
  rename_i x p cop f F
  have hr := r123 f F cop x p
  cases hk : al4 x with
  | false => simp only [CT.run, hk, cond_false] at hc; cases hc
  | true =>
    simp only [CT.run, hk, cond_true, Bool.not_true, cond_false, Option.some.injEq] at hc hr
    subst hc
    exact keep_ok (run_ok tab_nil mixed Try.func123 hr hH ha)

theorem r17 (F : Nat → List Value) (a w cop x : Int) : runBody std Try.prog (liftT (tab [])) 40 Try.f17 [.pointer (some ⟨0, 0, none⟩), .int .u32 x]
    [.cells (lineL true cop) 48, row1 a w, .row 12 1 F 54] (ksAuto ([.cells (lineL true cop) 48, row1 a w, .row 12 1 F 54] : Heap).length) =
    cond (IntKind.wrap .u32 (a - Int.tmod a 4) == x) (some (.ret (.int .u32 w) [.cells (lineL true cop) 48, row1 a w, .row 12 1 F 54])) (some (.ret (.int .u32 0) [.cells (lineL true cop) 48, row1 a w, .row 12 1 F 54])) := by kernel_rfl
theorem r17' (F : Nat → List Value) (a w cop x : Int) : runBody std Try.prog (liftT (tab [])) 40 Try.f17 [.pointer (some ⟨0, 0, none⟩), .int .u32 x]
    [.cells (lineL true cop) 48, row1 a w, .row 12 1 F 54] (ksAuto ([.cells (lineL true cop) 48, row1 a w, .row 12 1 F 54] : Heap).length) =
    some (.ret (.int .u32 (word1 a w x)) [.cells (lineL true cop) 48, row1 a w, .row 12 1 F 54]) := by
  rw [r17, word1]
  cases (IntKind.wrap .u32 (a - Int.tmod a 4) == x) <;> rfl
theorem ok17 : EntryOK Try.prog (e17 word1) := by
  intro args H c hc hH ha
  unfold e17 at hc
  dsimp only at hc
  split at hc
  rotate_left
  · cases hc
  split at hc
  rotate_left
  · cases hc
  rename_i x cop f F l a w hf
  simp only [CT.run, Option.some.injEq] at hc
  subst hc
  have h0 : okH [.cells (lineL true cop) 48, row1 a w, .row 12 1 F 54] := by
    intro B hB
    simp only [List.mem_cons, List.not_mem_nil, or_false] at hB
    rcases hB with rfl | rfl | rfl
    · exact hH (.cells (lineL true cop) 48) (List.mem_cons_self ..)
    · exact okB_row1 _ a w
    · exact hH (.row 12 1 F 54) (by simp)
  exact CallsOK.swapKeep (H0 := [.cells (lineL true cop) 48, row1 a w, .row 12 1 F 54]) ⟨fun _ _ _ _ h => h, row_imp (row1_imp hf), fun _ _ _ _ h => h, trivial⟩
    ⟨fun _ _ _ _ h => h, row_imp (fun i hi => (row1_imp hf i hi).symm), fun _ _ _ _ h => h, trivial⟩ h0 hH (keep_ok (run_ok tab_nil mixed Try.func17 (r17' F a w cop x) h0 ha))

theorem u32_nonneg (n : Int) : 0 ≤ IntKind.u32.wrap n := by rw [IntKind.wrap_u32]; omega
def m120 (m17 : Int → Int → Int → Int) (a w x : Int) : Int := bits .and .u32 (shrI .u32 (m17 a w (IntKind.wrap .u32 (x - Int.tmod x 4))) (IntKind.wrap .u32 (8 * Int.tmod x 4))) 4294967295
def T120 (m17 : Int → Int → Int → Int) (g4 : Int → Bool) (a w cop : Int) (x : Int) (p : Bool) : RR :=
  bif (g4 x) then
    bif (decide (0 ≤ (IntKind.wrap .u32 (8 * (Int.tmod x 4))))) then
      (some (.ret (.agg #[(.int .u32 (bits .and .u32 (shrI .u32 (m17 a w (IntKind.wrap .u32 (x - (Int.tmod x 4)))) (IntKind.wrap .u32 (8 * (Int.tmod x 4)))) 4294967295)), (.int .i64 0), (.int .i64 0), (.int .i64 0)]) [(.cells [(.slice (some ⟨1, 0, none⟩) 1 0), (.slice none 0 0), (.slice (some ⟨2, 0, none⟩) 1 0), (.int .u32 cop)] 48), (.row 2 1 (cellsF 2 [(.int .u32 a), (.int .u32 w)]) 69), (.row 12 1 (cellsF 12 [(.int .i64 1), (.int .u32 x), (.int .i64 4), (.int .u32 0), (.bool p), (.int .i64 0), (.int .i64 0), (.int .i64 0), (.int .i64 0), (.int .u32 0), (.int .i64 0), (.bool false)]) 54)]))
    else
      none
  else
    none
theorem r120 (m17 : Int → Int → Int → Int) (g4 : Int → Bool) (a w cop : Int) (x : Int) (p : Bool) : runBody std Try.prog (liftT (tab [e17 m17, e123 g4])) 40 Try.f120 [.pointer (some ⟨0, 0, none⟩), .agg #[.int .i64 1, .int .u32 x, .int .i64 4, .int .u32 0, .bool p]]
    [.cells (lineL false cop) 48, row1 a w] (ksAuto ([.cells (lineL false cop) 48, row1 a w] : Heap).length) = T120 m17 g4 a w cop x p := by kernel_rfl
theorem ok120 {m17 : Int → Int → Int → Int} {g4 : Int → Bool} (h17 : EntryOK Try.prog (e17 m17)) (h123 : EntryOK Try.prog (e123 g4)) : EntryOK Try.prog (e120 g4 (m120 m17)) := by
  intro args H c hc hH ha
  unfold e120 at hc
  dsimp only at hc
  split at hc
  rotate_left
  · cases hc
  split at hc
  rotate_left
  · cases hc
  rename_i x p cop f l a w hf
  have hr := r120 m17 g4 a w cop x p
  cases hk : g4 x with
  | false => simp only [CT.run, hk, cond_false] at hc; cases hc
  | true =>
    simp only [CT.run, hk, cond_true, Option.some.injEq] at hc
    simp only [T120, hk, cond_true, decide_eq_true (u32_nonneg _)] at hr
    subst hc
    have h0 : okH [.cells (lineL false cop) 48, row1 a w] := by
      intro B hB
      simp only [List.mem_cons, List.not_mem_nil, or_false] at hB
      rcases hB with rfl | rfl
      · exact hH (.cells (lineL false cop) 48) (List.mem_cons_self ..)
      · exact okB_row1 _ a w
    exact CallsOK.swap (H0 := [.cells (lineL false cop) 48, row1 a w]) ⟨fun _ _ _ _ h => h, row_imp (row1_imp hf), trivial⟩ h0 (run_ok (tab_cons h17 (tab_cons h123 tab_nil)) mixed Try.func120 hr h0 ha)

def T13 (m120 : Int → Int → Int → Int) (g4 : Int → Bool) (m20 : Int → Ins × Bool) (m21 : Int → Flg → Bool) (m22 : Int → Flg) (m28 : Int → Int → Int) (s : Sta) (a w cop : Int) : RR :=
  bif (g4 s.s28) then
    bif (!(m20 (m120 a w s.s28)).snd) then
      (some (.ret (.tuple #[(.agg #[(.int .i64 1), (.int .u32 s.s28), (.int .u32 (m120 a w s.s28)), (.int .u32 0), (.int .i64 0), (.int .i64 0), (.int .i64 0), (.bool false)]), (.int .i64 0)]) [(.cells [(.int .u32 s.s0), (.int .u32 s.s1), (.int .u32 s.s2), (.int .u32 s.s3), (.int .u32 s.s4), (.int .u32 s.s5), (.int .u32 s.s6), (.int .u32 s.s7), (.int .u32 s.s8), (.int .u32 s.s9), (.int .u32 s.s10), (.int .u32 s.s11), (.int .u32 s.s12), (.int .u32 s.s13), (.int .u32 s.s14), (.int .u32 s.s15), (.int .u32 s.s16), (.int .u32 s.s17), (.int .u32 s.s18), (.int .u32 s.s19), (.int .u32 s.s20), (.int .u32 (IntKind.wrap .u32 (s.s28 + 4))), (.int .u32 s.s22), (.int .u32 s.s23), (.int .u32 s.s24), (.int .u32 s.s25), (.int .u32 s.s29), (.int .u32 s.s27), (.int .u32 4), (.int .u32 (m28 27 s.s29)), (.bool false)] 85), (.cells [(.slice (some ⟨2, 0, none⟩) 1 0), (.slice none 0 0), (.slice (some ⟨3, 0, none⟩) 1 0), (.int .u32 cop)] 48), (.row 2 1 (cellsF 2 [(.int .u32 a), (.int .u32 w)]) 69), (.row 12 1 (cellsF 12 [(.int .i64 1), (.int .u32 s.s28), (.int .i64 4), (.int .u32 0), (.bool (!((bits .and .u32 s.s29 31) == 16))), (.int .i64 0), (.int .i64 0), (.int .i64 0), (.int .i64 0), (.int .u32 0), (.int .i64 0), (.bool false)]) 54)]))
    else
      bif (!(m21 (Prod.fst (m20 (m120 a w s.s28))).Cond (m22 s.s29))) then
        (some (.ret (.tuple #[(.agg #[(.int .i64 0), (.int .u32 s.s28), (.int .u32 (m120 a w s.s28)), (.int .u32 0), (.int .i64 0), (.int .i64 0), (.int .i64 0), (.bool false)]), (.int .i64 0)]) [(.cells [(.int .u32 s.s0), (.int .u32 s.s1), (.int .u32 s.s2), (.int .u32 s.s3), (.int .u32 s.s4), (.int .u32 s.s5), (.int .u32 s.s6), (.int .u32 s.s7), (.int .u32 s.s8), (.int .u32 s.s9), (.int .u32 s.s10), (.int .u32 s.s11), (.int .u32 s.s12), (.int .u32 s.s13), (.int .u32 s.s14), (.int .u32 s.s15), (.int .u32 s.s16), (.int .u32 s.s17), (.int .u32 s.s18), (.int .u32 s.s19), (.int .u32 s.s20), (.int .u32 s.s21), (.int .u32 s.s22), (.int .u32 s.s23), (.int .u32 s.s24), (.int .u32 s.s25), (.int .u32 s.s26), (.int .u32 s.s27), (.int .u32 (IntKind.wrap .u32 (s.s28 + 4))), (.int .u32 s.s29), (.bool false)] 85), (.cells [(.slice (some ⟨2, 0, none⟩) 1 0), (.slice none 0 0), (.slice (some ⟨3, 0, none⟩) 1 0), (.int .u32 cop)] 48), (.row 2 1 (cellsF 2 [(.int .u32 a), (.int .u32 w)]) 69), (.row 12 1 (cellsF 12 [(.int .i64 1), (.int .u32 s.s28), (.int .i64 4), (.int .u32 0), (.bool (!((bits .and .u32 s.s29 31) == 16))), (.int .i64 0), (.int .i64 0), (.int .i64 0), (.int .i64 0), (.int .u32 0), (.int .i64 0), (.bool false)]) 54)]))
      else
        bif ((Prod.fst (m20 (m120 a w s.s28))).Op == 45) then
          (some (.ret (.tuple #[(.agg #[(.int .i64 2), (.int .u32 s.s28), (.int .u32 (m120 a w s.s28)), (.int .u32 0), (.int .i64 0), (.int .i64 0), (.int .i64 0), (.bool false)]), (.int .i64 0)]) [(.cells [(.int .u32 s.s0), (.int .u32 s.s1), (.int .u32 s.s2), (.int .u32 s.s3), (.int .u32 s.s4), (.int .u32 s.s5), (.int .u32 s.s6), (.int .u32 s.s7), (.int .u32 s.s8), (.int .u32 s.s9), (.int .u32 s.s10), (.int .u32 s.s11), (.int .u32 s.s12), (.int .u32 s.s13), (.int .u32 s.s14), (.int .u32 s.s15), (.int .u32 s.s16), (.int .u32 s.s17), (.int .u32 s.s18), (.int .u32 (IntKind.wrap .u32 (s.s28 + 4))), (.int .u32 s.s20), (.int .u32 s.s21), (.int .u32 s.s22), (.int .u32 s.s23), (.int .u32 s.s29), (.int .u32 s.s25), (.int .u32 s.s26), (.int .u32 s.s27), (.int .u32 8), (.int .u32 (m28 19 s.s29)), (.bool false)] 85), (.cells [(.slice (some ⟨2, 0, none⟩) 1 0), (.slice none 0 0), (.slice (some ⟨3, 0, none⟩) 1 0), (.int .u32 cop)] 48), (.row 2 1 (cellsF 2 [(.int .u32 a), (.int .u32 w)]) 69), (.row 12 1 (cellsF 12 [(.int .i64 1), (.int .u32 s.s28), (.int .i64 4), (.int .u32 0), (.bool (!((bits .and .u32 s.s29 31) == 16))), (.int .i64 0), (.int .i64 0), (.int .i64 0), (.int .i64 0), (.int .u32 0), (.int .i64 0), (.bool false)]) 54)]))
        else
          bif ((Prod.fst (m20 (m120 a w s.s28))).Op == 46) then
            none
          else
            bif ((Prod.fst (m20 (m120 a w s.s28))).Op == 52) then
              (some (.ret (.tuple #[(.agg #[(.int .i64 6), (.int .u32 s.s28), (.int .u32 (m120 a w s.s28)), (.int .u32 0), (.int .i64 0), (.int .i64 0), (.int .i64 0), (.bool false)]), (.int .i64 0)]) [(.cells [(.int .u32 s.s0), (.int .u32 s.s1), (.int .u32 s.s2), (.int .u32 s.s3), (.int .u32 s.s4), (.int .u32 s.s5), (.int .u32 s.s6), (.int .u32 s.s7), (.int .u32 s.s8), (.int .u32 s.s9), (.int .u32 s.s10), (.int .u32 s.s11), (.int .u32 s.s12), (.int .u32 s.s13), (.int .u32 s.s14), (.int .u32 s.s15), (.int .u32 s.s16), (.int .u32 s.s17), (.int .u32 s.s18), (.int .u32 s.s19), (.int .u32 s.s20), (.int .u32 s.s21), (.int .u32 s.s22), (.int .u32 s.s23), (.int .u32 s.s24), (.int .u32 s.s25), (.int .u32 s.s26), (.int .u32 s.s27), (.int .u32 s.s28), (.int .u32 s.s29), (.bool false)] 85), (.cells [(.slice (some ⟨2, 0, none⟩) 1 0), (.slice none 0 0), (.slice (some ⟨3, 0, none⟩) 1 0), (.int .u32 cop)] 48), (.row 2 1 (cellsF 2 [(.int .u32 a), (.int .u32 w)]) 69), (.row 12 1 (cellsF 12 [(.int .i64 1), (.int .u32 s.s28), (.int .i64 4), (.int .u32 0), (.bool (!((bits .and .u32 s.s29 31) == 16))), (.int .i64 0), (.int .i64 0), (.int .i64 0), (.int .i64 0), (.int .u32 0), (.int .i64 0), (.bool false)]) 54)]))
            else
              none
  else
    none
theorem r13 (m120 : Int → Int → Int → Int) (g4 : Int → Bool) (m20 : Int → Ins × Bool) (m21 : Int → Flg → Bool) (m22 : Int → Flg) (m28 : Int → Int → Int) (s : Sta) (a w cop : Int) :
    runBody std Try.prog (liftT (tab [e120 g4 m120, e20 m20, e21 m21, e22 m22, e28 m28])) 40 Try.f13 [.pointer (some ⟨0, 0, none⟩), .iface 33 (.pointer (some ⟨1, 0, none⟩))] [.cells (cpuL s false) 85, .cells (lineM false cop) 48, row1 a w]
      (ksAuto ([.cells (cpuL s false) 85, .cells (lineM false cop) 48, row1 a w] : Heap).length) = T13 m120 g4 m20 m21 m22 m28 s a w cop := by kernel_rfl
def nd (m20 : Int → Ins × Bool) (x : Int) : Bool := !(m20 x).2
def np (m20 : Int → Ins × Bool) (m21 : Int → Flg → Bool) (m22 : Int → Flg) (x c : Int) : Bool := !m21 (m20 x).1.Cond (m22 c)
def sv (m20 : Int → Ins × Bool) (x : Int) : Bool := (m20 x).1.Op == 45
def add4 (x : Int) : Int := IntKind.wrap .u32 (x + 4)
def priv (c : Int) : Bool := !(bits .and .u32 c 31 == 16)
theorem ok13 {m120 : Int → Int → Int → Int} {g4 : Int → Bool} {m20 : Int → Ins × Bool} {m21 : Int → Flg → Bool} {m22 : Int → Flg} {m28 : Int → Int → Int}
    (h120 : EntryOK Try.prog (e120 g4 m120)) (h20 : EntryOK Try.prog (e20 m20)) (h21 : EntryOK Try.prog (e21 m21)) (h22 : EntryOK Try.prog (e22 m22)) (h28 : EntryOK Try.prog (e28 m28)) :
    EntryOK Try.prog (e13 g4 m120 (nd m20) (np m20 m21 m22) (sv m20) add4 priv m28) := by
  intro args H c hc hH ha
  unfold e13 at hc
  dsimp only at hc
  split at hc
  rotate_left
  · cases hc
  split at hc
  rotate_left
  · cases hc
  rename_i l cop f x y s a w hl hf
  obtain rfl := cpuOf_eq hl
  have hr := r13 m120 g4 m20 m21 m22 m28 s a w cop
  have h0 : okH [.cells (cpuL s false) 85, .cells (lineM false cop) 48, row1 a w] := by
    intro B hB
    simp only [List.mem_cons, List.not_mem_nil, or_false] at hB
    rcases hB with rfl | rfl | rfl
    · exact hH (.cells (cpuL s false) 85) (List.mem_cons_self ..)
    · exact hH (.cells (lineM false cop) 48) (by simp [lineM])
    · exact okB_row1 _ a w
  have hi : HImp [.cells (cpuL s false) 85, .cells (lineM false cop) 48, row1 a w] [.cells (cpuL s false) 85, .cells (lineM false cop) 48, .row 2 1 f 69] := ⟨fun _ _ _ _ h => h, fun _ _ _ _ h => h, row_imp (row1_imp hf), trivial⟩
  have hT : ∀ e ∈ [e120 g4 m120, e20 m20, e21 m21, e22 m22, e28 m28], EntryOK Try.prog e := tab_cons h120 (tab_cons h20 (tab_cons h21 (tab_cons h22 (tab_cons h28 tab_nil))))
  cases hg : g4 s.s28 with
  | false => simp only [CT.run, hg, cond_false] at hc; cases hc
  | true =>
  cases hnd : nd m20 (m120 a w s.s28) with
  | true =>
    simp only [CT.run, hg, hnd, cond_true, Option.some.injEq] at hc
    have h' : (!(m20 (m120 a w s.s28)).2) = true := hnd
    simp only [T13, hg, h', cond_true] at hr
    subst hc
    exact CallsOK.swap hi h0 (run_ok hT mixed Try.func13 hr h0 ha)
  | false =>
  have hnd' : (!(m20 (m120 a w s.s28)).2) = false := hnd
  cases hnp : np m20 m21 m22 (m120 a w s.s28) s.s29 with
  | true =>
    simp only [CT.run, hg, hnd, hnp, cond_true, cond_false, Option.some.injEq] at hc
    have h' : (!m21 (m20 (m120 a w s.s28)).1.Cond (m22 s.s29)) = true := hnp
    simp only [T13, hg, hnd', h', cond_true, cond_false] at hr
    subst hc
    exact CallsOK.swap hi h0 (run_ok hT mixed Try.func13 hr h0 ha)
  | false =>
  have hnp' : (!m21 (m20 (m120 a w s.s28)).1.Cond (m22 s.s29)) = false := hnp
  cases hsv : sv m20 (m120 a w s.s28) with
  | true =>
    simp only [CT.run, hg, hnd, hnp, hsv, cond_true, cond_false, Option.some.injEq] at hc
    have h' : ((m20 (m120 a w s.s28)).1.Op == 45) = true := hsv
    simp only [T13, hg, hnd', hnp', h', cond_true, cond_false] at hr
    subst hc
    exact CallsOK.swap hi h0 (run_ok hT mixed Try.func13 hr h0 ha)
  | false =>
    simp only [CT.run, hg, hnd, hnp, hsv, cond_true, cond_false] at hc
    cases hc
end Go.Vx
