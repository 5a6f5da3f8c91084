/- The word of a supervisor call, read. -/
import Derived.Test.YtfheonbdapkgkaaCpuD2
namespace Go.Vx
open Go Go.Proofs

def svcW (n : Int) : Int := bits .or .u32 4009754624 (bits .and .u32 n 16777215)
theorem svcW_eq (n : Int) : ∃ r : Int, 0 ≤ r ∧ r ≤ 16777215 ∧ svcW n = 4009754624 + r := by
  obtain ⟨h0, h1⟩ := and_le n 16777215 (by omega)
  have h0 : 0 ≤ bits .and .u32 n 16777215 := h0
  have h1 : bits .and .u32 n 16777215 ≤ 16777215 := h1
  refine ⟨bits .and .u32 n 16777215, h0, h1, ?_⟩
  exact bits_join .u32 32 (by decide) (fun n h0 h1 => by rw [IntKind.wrap_u32]; omega) 24 _ _ (by omega) (by decide) (by omega) h0 (by omega) (by omega)
theorem svcW_u32 (n : Int) : u32 (svcW n) := by
  obtain ⟨r, h0, h1, h2⟩ := svcW_eq n
  rw [h2]; exact ⟨by omega, by omega⟩
theorem svc28 (n : Int) : M38 (svcW n) 31 28 = 14 := by
  obtain ⟨r, h0, h1, h2⟩ := svcW_eq n
  rw [f38e, h2, show (28 : Int) = ((28 : Nat) : Int) by rfl, shr_eq _ _ _ (by decide) (by omega), show (4009754624 + r) / 2 ^ 28 = 14 by omega]
  decide +kernel
theorem svc25 (n : Int) : M38 (svcW n) 27 25 = 7 := by
  obtain ⟨r, h0, h1, h2⟩ := svcW_eq n
  rw [f38f, h2, show (25 : Int) = ((25 : Nat) : Int) by rfl, shr_eq _ _ _ (by decide) (by omega), show (4009754624 + r) / 2 ^ 25 = 119 by omega]
  decide +kernel
theorem svc24 (n : Int) : M38 (svcW n) 27 24 = 15 := by
  obtain ⟨r, h0, h1, h2⟩ := svcW_eq n
  rw [f38g, h2, show (24 : Int) = ((24 : Nat) : Int) by rfl, shr_eq _ _ _ (by decide) (by omega), show (4009754624 + r) / 2 ^ 24 = 239 by omega]
  decide +kernel

theorem svc44 (w : Int) (i : Ins) (h : M38 w 27 24 = 15) : (D44 w i).Op = 45 ∧ (D44 w i).Cond = i.Cond := by
  show (kIns.of (T44 M38 M41 w i)).Op = 45 ∧ (kIns.of (T44 M38 M41 w i)).Cond = i.Cond
  unfold T44
  rw [h]
  exact ⟨rfl, rfl⟩
theorem svc32 (w : Int) (h : M38 w 27 25 = 7) : ∃ i : Ins, i.Cond = M38 w 31 28 ∧ D32 w = D44 w i := by
  refine ⟨⟨M38 w 31 28, 0, false, 0, 0, 0, 0, 0, 0, 0, 0, 0, false, false, false, 0, 0, 0, 0, 0⟩, rfl, ?_⟩
  show kIns.of (T32 M38 M41 D39 D40 D42 D43 D44 w) = _
  unfold T32
  rw [h]
  rfl
theorem svc33 (i : Ins) (h1 : i.Cond = 14) (h2 : i.Op = 45) : D33 i = true := by
  show kBool.of (T33 M45 M46 i) = true
  unfold T33
  rw [h1, h2]
  rfl
theorem D20_eq (w : Int) : D20 w = (cond (!D33 (D32 w)) (insZ, false) (D32 w, true)) := by
  show kInsOk.of (T20 D32 D33 w) = _
  unfold T20
  cases D33 (D32 w) <;> rfl
theorem svc20 (n : Int) : (D20 (svcW n)).2 = true ∧ (D20 (svcW n)).1.Op = 45 ∧ (D20 (svcW n)).1.Cond = 14 := by
  obtain ⟨i, hi, hd⟩ := svc32 (svcW n) (svc25 n)
  obtain ⟨h1, h2⟩ := svc44 (svcW n) i (svc24 n)
  rw [hi, svc28] at h2
  rw [← hd] at h1 h2
  rw [D20_eq, svc33 _ h2 h1]
  exact ⟨rfl, h1, h2⟩
theorem al21 (f : Flg) : M21 14 f = true := by
  show kBool.of (T21 14 f) = true
  rfl

theorem D37_eq (w m : Int) (h : bits .and .u32 w 31 = m) (hm : IntKind.wrap .i64 m = m) : D37 w = (M31 m).1 := by
  show kI64.of (T37 M31 w) = _
  unfold T37
  rw [h, hm]
  rfl
theorem M31a : M31 19 = (1, true) := by kernel_rfl
theorem M31b : M31 27 = (3, true) := by kernel_rfl
theorem is1a {c : Int} (h : u32 c) : is1 (m28 19 c) = true := by
  have : D37 (m28 19 c) = (M31 19).1 := D37_eq _ 19 (mode28 19 (by omega) h.1 h.2) (by decide +kernel)
  show (D37 (m28 19 c) == 1) = true
  rw [this, M31a]; rfl
theorem is1b {c : Int} (h : u32 c) : is1 (m28 27 c) = false := by
  have : D37 (m28 27 c) = (M31 27).1 := D37_eq _ 27 (mode28 27 (by omega) h.1 h.2) (by decide +kernel)
  show (D37 (m28 27 c) == 1) = false
  rw [this, M31b]; rfl
theorem is3b {c : Int} (h : u32 c) : is3 (m28 27 c) = true := by
  have : D37 (m28 27 c) = (M31 27).1 := D37_eq _ 27 (mode28 27 (by omega) h.1 h.2) (by decide +kernel)
  show (D37 (m28 27 c) == 3) = true
  rw [this, M31b]; rfl

theorem law6 {s : Sta} {n w : Int} (h28 : u32 s.s28) (h29 : u32 s.s29) (hw : u32 w) :
    T6 gpS LD D20 M21 M22 al4 w120 (nd D20) (np D20 M21 M22) (sv D20) add4 priv m28 s n w is1 is3 okm cutR = some (.ret (.bool true) []) := by
  have hal := isS_al (isLD s)
  have hld := ld28 h28
  have hld9 := ld29 h29
  have hmo := isS_mode (isLD s)
  have hsw := svcW_u32 n
  obtain ⟨q1, q2, q3⟩ := svc20 n
  have hm4 : (LD s).s28 % 4 = 0 := by rw [← Int.tmod_eq_emod_of_nonneg hld.1]; exact hal
  have e1 : w120 (LD s).s28 (svcW n) (LD s).s28 = svcW n := w120_eq hal hld.1 hld.2 hsw.1 hsw.2
  have e0 : bits .or .u32 4009754624 (bits .and .u32 n 16777215) = svcW n := rfl
  have hnx : u32 (IntKind.wrap .u32 ((LD s).s28 + 4)) := by rw [IntKind.wrap_u32]; exact ⟨by omega, by omega⟩
  have hnm : IntKind.wrap .u32 ((LD s).s28 + 4) % 4 = 0 := by rw [IntKind.wrap_u32]; omega
  have hcut : ∀ a : Int, u32 a → a % 4 = 0 → cutR a = a := by
    intro a ha h4
    have h1 := ha.1; have h2 := ha.2
    unfold cutR
    rw [show IntKind.wrap .u32 (a - 0) = a by rw [IntKind.wrap_u32]; omega]
    exact cut4_eq h4 h1 h2
  have e2 : cutR (IntKind.wrap .u32 ((LD s).s28 + 4)) = IntKind.wrap .u32 ((LD s).s28 + 4) := hcut _ hnx hnm
  have hnal : Int.tmod (IntKind.wrap .u32 ((LD s).s28 + 4)) 4 = 0 := by rw [Int.tmod_eq_emod_of_nonneg hnx.1]; exact hnm
  have e3 : w120 (IntKind.wrap .u32 ((LD s).s28 + 4)) w (IntKind.wrap .u32 ((LD s).s28 + 4)) = w := w120_eq hnal hnx.1 hnx.2 hw.1 hw.2
  have e4 : ∀ x, add4 x = IntKind.wrap .u32 (x + 4) := fun _ => rfl
  have e5 : cutR (IntKind.wrap .u32 (IntKind.wrap .u32 ((LD s).s28 + 4) + 4)) = IntKind.wrap .u32 (IntKind.wrap .u32 ((LD s).s28 + 4) + 4) := by
    refine hcut _ ?_ ?_
    · show u32 (IntKind.wrap .u32 _); rw [IntKind.wrap_u32]; exact ⟨by omega, by omega⟩
    · show IntKind.wrap .u32 _ % 4 = 0; rw [IntKind.wrap_u32]; omega
  have hnd : nd D20 (svcW n) = false := by simp [nd, q1]
  have hnp : ∀ c, np D20 M21 M22 (svcW n) c = false := by intro c; simp [np, q3, al21]
  have hsv : sv D20 (svcW n) = true := by simp [sv, q2]
  unfold T6
  simp only [gpS_ok h28, cond_true, al4_of hal, e0, e1, hnd, hnp, hsv, cond_false, beq_self_eq_true, Bool.and_self, Bool.not_true, is1a hld9, hmo, e2, e4]
  cases hok : (D20 w).2 with
  | true => rfl
  | false =>
  have hnd2 : nd D20 w = true := by simp [nd, hok]
  simp only [cond_true, al4_of hnal, e3, hnd2, cond_false, beq_self_eq_true, Bool.and_self, Bool.not_true, is1b hld9, is3b hld9, e5]
end Go.Vx
