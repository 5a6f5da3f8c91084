/- The models of the functions, put together; facts on bits. -/
import Derived.Test.YtfheonbdapkgkaaCpuC1
import Derived.Test.YtfheonbdapkgkaaCpuC3
import Derived.Test.YtfheonbdapkgkaaCpuA2
import Derived.Test.YtfheonbdapkgkaaCpuA3
import Derived.Test.YtfheonbdapkgkaaCpuA4
import Derived.Test.YtfheonbdapkgkaaCpuA5
import Derived.Test.YtfheonbdapkgkaaCpuA6
import Derived.Test.YtfheonbdapkgkaaCpuA7
namespace Go.Vx
open Go Go.Proofs

theorem and_le (x : Int) (m : Nat) (hm : m < 4294967296) : 0 ≤ bits .and .u32 x m ∧ bits .and .u32 x m ≤ m := by
  unfold bits
  simp only [IntKind.wrap_u32, BitVec.toNat_and]
  have h2 : (BitVec.ofInt 32 (m : Int)).toNat = m := ofInt_u32 m hm
  have h3 : (BitVec.ofInt IntKind.u32.bits x).toNat &&& (BitVec.ofInt IntKind.u32.bits (m : Int)).toNat ≤ m := by
    have h4 : (BitVec.ofInt IntKind.u32.bits (m : Int)).toNat = m := h2
    rw [h4]; exact Nat.and_le_right
  omega

theorem f38a (w : Int) : M38 w 23 21 = IntKind.wrap .i64 (bits .and .u32 (shrI .u32 w 21) (7 : Nat)) := by kernel_rfl
theorem f38b (w : Int) : M38 w 6 5 = IntKind.wrap .i64 (bits .and .u32 (shrI .u32 w 5) (3 : Nat)) := by kernel_rfl
theorem f38c (w : Int) : M38 w 22 22 = IntKind.wrap .i64 (bits .and .u32 (shrI .u32 w 22) (1 : Nat)) := by kernel_rfl
theorem f38d (w : Int) : M38 w 20 20 = IntKind.wrap .i64 (bits .and .u32 (shrI .u32 w 20) (1 : Nat)) := by kernel_rfl
theorem f38e (w : Int) : M38 w 31 28 = IntKind.wrap .i64 (bits .and .u32 (shrI .u32 w 28) (15 : Nat)) := by kernel_rfl
theorem f38f (w : Int) : M38 w 27 25 = IntKind.wrap .i64 (bits .and .u32 (shrI .u32 w 25) (7 : Nat)) := by kernel_rfl
theorem f38g (w : Int) : M38 w 27 24 = IntKind.wrap .i64 (bits .and .u32 (shrI .u32 w 24) (15 : Nat)) := by kernel_rfl
theorem b38 : B38 M38 where
  h8 w := by have := and_le (shrI .u32 w 21) 7 (by omega); rw [f38a, IntKind.wrap_i64]; omega
  h65 w := by have := and_le (shrI .u32 w 5) 3 (by omega); rw [f38b, IntKind.wrap_i64]; omega
  h22 w := by have := and_le (shrI .u32 w 22) 1 (by omega); rw [f38c, IntKind.wrap_i64]; omega
  h20 w := by have := and_le (shrI .u32 w 20) 1 (by omega); rw [f38d, IntKind.wrap_i64]; omega

noncomputable def D60 := M60 M38 M41 M76 M77
noncomputable def D57 := M57 M38 M41
noncomputable def D58 := M58 M38 M41 M75
noncomputable def D59 := M59 M38 M41
noncomputable def D39 := M39 M38 M41 D57 D58 D59 D60
noncomputable def D40 := M40 M38 M41 D60
noncomputable def D43 := M43 M38 M41
noncomputable def D42 := M42 M38 M61
noncomputable def D44 := M44 M38 M41
noncomputable def D32 := M32 M38 M41 D39 D40 D42 D43 D44
noncomputable def D33 := M33 M45 M46
noncomputable def D20 := M20 D32 D33
theorem okD60 : EntryOK Try.prog (e60 D60) := ok60 ok38 ok41 ok76 ok77
theorem okD39 : EntryOK Try.prog (e39 D39) := ok39 ok38 ok41 (ok57 ok38 ok41 b38) (ok58 ok38 ok41 ok75 b38) (ok59 ok38 ok41) okD60
theorem okD32 : EntryOK Try.prog (e32 D32) := ok32 ok38 ok41 okD39 (ok40 ok38 ok41 okD60) (ok42 ok38 ok61) (ok43 ok38 ok41 b38) (ok44 ok38 ok41)
theorem okD20 : EntryOK Try.prog (e20 D20) := ok20 okD32 (ok33 ok45 ok46)

noncomputable def D37 := M37 M31
theorem okD37 : EntryOK Try.prog (e37 D37) := ok37 ok31
noncomputable abbrev is1 := bk D37 1
noncomputable abbrev is3 := bk D37 3
noncomputable abbrev okm := okM M31
def cutR (a : Int) : Int := cut4 (IntKind.wrap .u32 (a - 0))
theorem okD15 : EntryOK Try.prog (e15c is1 is3 okm cutR) :=
  ok15c (ok27c (ok34c (ok37c okD37))) (ok30c (ok37c okD37) ok31)
def w120 := m120 word1
theorem okD13 : EntryOK Try.prog (e13 al4 w120 (nd D20) (np D20 M21 M22) (sv D20) add4 priv m28) :=
  ok13 (ok120 ok17 ok123) okD20 ok21 ok22 ok28

/-! ### bits -/
theorem shr_eq (k : IntKind) (x : Int) (n : Nat) (h : n ≤ k.bits) (_ : 0 ≤ x) : shrI k x n = x / 2 ^ n := by
  unfold shrI
  rw [show min (n : Int).toNat k.bits = n by simp; omega, Int.fdiv_eq_ediv_of_nonneg _ (by exact_mod_cast Nat.zero_le _)]

/-- the word that was put at an address, read there -/
theorem w120_eq {a w : Int} (ha : Int.tmod a 4 = 0) (h0 : 0 ≤ a) (h1 : a < 4294967296) (hw0 : 0 ≤ w) (hw1 : w < 4294967296) : w120 a w a = w := by
  have e1 : IntKind.wrap .u32 (a - 0) = a := by rw [IntKind.wrap_u32]; omega
  have e2 : word1 a w a = w := by unfold word1; rw [ha, e1]; simp
  show bits .and .u32 (shrI .u32 (word1 a w (IntKind.wrap .u32 (a - Int.tmod a 4))) (IntKind.wrap .u32 (8 * Int.tmod a 4))) 4294967295 = w
  rw [ha, e1, e2, show IntKind.wrap .u32 (8 * 0) = ((0 : Nat) : Int) by rfl, shr_eq _ _ _ (by decide) hw0]
  rw [show w / 2 ^ 0 = w by simp]
  have := bits_mask .u32 32 (by decide) (fun n h0 h1 => by rw [IntKind.wrap_u32]; omega) 32 (by decide) w hw0 (by simpa using hw1)
  rw [show (2 : Int) ^ 32 - 1 = 4294967295 by decide] at this
  rw [this]
  omega

theorem cut4_eq {a : Int} (ha : a % 4 = 0) (h0 : 0 ≤ a) (h1 : a < 4294967296) : cut4 a = a := by
  unfold cut4
  rw [u32_andNot a 3 h0 h1 (by omega) (by omega)]
  obtain ⟨n, rfl⟩ := Int.eq_ofNat_of_zero_le h0
  have h4 : n % 4 = 0 := by omega
  have h5 : n < 4294967296 := by omega
  have : n &&& (4294967295 - 3) = n := by
    have e : n = (n / 4) <<< 2 := by rw [Nat.shiftLeft_eq]; omega
    rw [e, show (4294967295 - 3 : Nat) = 1073741823 <<< 2 by decide, ← Nat.shiftLeft_and_distrib]
    congr 1
    rw [show (1073741823 : Nat) = 2 ^ 30 - 1 by decide, Nat.and_two_pow_sub_one_eq_mod]
    omega
  show ((n &&& (4294967295 - 3) : Nat) : Int) = n
  rw [this]

theorem or_lt {a b : Nat} (ha : a < 4294967296) (hb : b < 4294967296) : a ||| b < 4294967296 := Nat.or_lt_two_pow (n := 32) ha hb
theorem mode28 (m : Nat) (hm : m < 32) {c : Int} (h0 : 0 ≤ c) (h1 : c < 4294967296) : bits .and .u32 (m28 m c) 31 = m := by
  obtain ⟨n, rfl⟩ := Int.eq_ofNat_of_zero_le h0
  have hn : n < 4294967296 := by omega
  have hx : n &&& 4294967264 < 4294967296 := Nat.lt_of_le_of_lt Nat.and_le_left hn
  have hy := or_lt hx (show m < 4294967296 by omega)
  have hz := or_lt hy (show 128 < 4294967296 by omega)
  unfold m28
  have e1 : bits .andNot .u32 (n : Int) 31 = ((n &&& 4294967264 : Nat) : Int) := u32_andNot_nat n 31 hn (by omega)
  have e2 : bits .or .u32 ((n &&& 4294967264 : Nat) : Int) (m : Int) = (((n &&& 4294967264) ||| m : Nat) : Int) := u32_or_nat _ m hx (by omega)
  have e3 : bits .or .u32 (((n &&& 4294967264) ||| m : Nat) : Int) 128 = ((((n &&& 4294967264) ||| m) ||| 128 : Nat) : Int) := u32_or_nat _ 128 hy (by omega)
  have e4 : bits .and .u32 ((((n &&& 4294967264) ||| m) ||| 128 : Nat) : Int) 31 = (((((n &&& 4294967264) ||| m) ||| 128) &&& 31 : Nat) : Int) := u32_and_nat _ 31 hz (by omega)
  rw [e1, e2, e3, e4]
  congr 1
  rw [show (31 : Nat) = 2 ^ 5 - 1 by decide, Nat.and_two_pow_sub_one_eq_mod, Nat.or_mod_two_pow, Nat.or_mod_two_pow, Nat.and_mod_two_pow]
  rw [show 4294967264 % 2 ^ 5 = 0 by decide, Nat.and_zero, Nat.zero_or, Nat.or_zero]
  exact Nat.mod_eq_of_lt hm
end Go.Vx
