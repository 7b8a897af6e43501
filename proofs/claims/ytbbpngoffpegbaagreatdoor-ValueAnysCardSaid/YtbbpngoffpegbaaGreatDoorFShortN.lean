/- shortFloat, all ways together. -/
import Derived.Test.YtbbpngoffpegbaaGreatDoorFShort
namespace Go.Proofs.YtbbpngoffpegbaaGreatDoor
open Go.RowKit
set_option linter.unusedVariables false
set_option linter.unusedSimpArgs false
theorem i64_and1 (x : Nat) (hx : x < 9223372036854775808) : bits .and .i64 (x : Int) 1 = ((x % 2 : Nat) : Int) := by
  have := bits_mask .i64 63 (by decide) (fun n a b => by rw [IntKind.wrap_i64]; omega) 1 (by decide) (x : Int) (by omega) (by omega)
  rw [show ((2 : Int) ^ 1 - 1) = 1 by decide] at this
  rw [this]; omega
/-- What shortFloat gives for the mantissa m and the exponent e. -/
def shortN (hi lo : Nat → Nat) (m : Nat) (e : Int) : Nat × Int :=
  if e < -1085 then
    let z := (11 + (-1085 - e)).toNat
    shortC hi lo m e 324 (m - 2 ^ (z - 1)) ((m + 2 ^ (z - 1)) % 18446744073709551616) (m / 2 ^ z % 2)
  else if m = 9223372036854775808 ∧ -1085 < e then shortC hi lo m e (-(((e + 11) * 631305 - 261663) / 2097152)) (m - 512) ((m + 1024) % 18446744073709551616) (m / 2048 % 2)
  else shortC hi lo m e (-((e + 11) * 78913 / 262144)) (m - 1024) ((m + 1024) % 18446744073709551616) (m / 2048 % 2)
theorem pow_le62 (Y : Nat) (h : Y ≤ 62) : 2 ^ Y ≤ 4611686018427387904 := Nat.pow_le_pow_right (n := 2) (by decide) h
def shortS (hi lo : Nat → Nat) (m : Nat) (e : Int) (P R : Nat) : Nat × Int := shortC hi lo m e 324 (m - P) ((m + P) % 18446744073709551616) (m / R % 2)
theorem shortN_s (hi lo : Nat → Nat) (m : Nat) (e : Int) (h : e < -1085) : shortN hi lo m e = shortS hi lo m e (2 ^ ((11 + (-1085 - e)).toNat - 1)) (2 ^ (11 + (-1085 - e)).toNat) := if_pos h
theorem short_s (hi lo : Nat → Nat) (m : Nat) (e : Int) (w : World) (hT : Pows w hi lo) (hm : m < 18446744073709551616) (hm0 : 9223372036854775808 ≤ m) (he0 : -1137 ≤ e) (he1 : e < -1085) (hg : 4 < w.heap.size)
    (Z P R : Nat) (hZ : 11 + (-1085 - e) = (Z : Int)) (hZ1 : 1 ≤ Z) (hP : (2 : Int) ^ (Z - 1) = (P : Int)) (hR : (2 : Int) ^ Z = (R : Int)) (hP1 : P ≤ 4611686018427387904) (hG : m / R < 9223372036854775808) :
    Calls Tryz.prog 118 #[.int .u64 m, .int .i64 e] w fun r w' => r = .returned (.tuple #[.int .u64 (shortS hi lo m e P R).1, .int .i64 (shortS hi lo m e P R).2]) ∧ Below w.heap.size w w' := by
  have q324 : (324 : Int) = -(-1074 * 78913 / 262144 : Int) := by decide
  have c1 : (m : Int) - (P : Int) = ((m - P : Nat) : Int) := by omega
  have c2 : IntKind.u64.wrap ((m : Int) + (P : Int)) = (((m + P) % 18446744073709551616 : Nat) : Int) := by rw [IntKind.wrap_u64]; omega
  have c3 := i64_and1 (m / R) hG
  have c4 : wrap64 ((m : Int) / (R : Int)) = ((m / R : Nat) : Int) := by
    rw [show (m : Int) / (R : Int) = ((m / R : Nat) : Int) from rfl]
    generalize m / R = g at hG
    unfold wrap64; omega
  have c5 : m / R % 2 ≤ 1 := Nat.le_of_lt_succ (Nat.mod_lt _ (by decide))
  unfold shortS
  rw [q324]
  obtain ⟨S, hS⟩ : ∃ S : Nat, -(e + -(-1074 * 78913 / 262144 : Int) * 108853 / 32768 + 3) = (S : Int) := ⟨(-(e + -(-1074 * 78913 / 262144 : Int) * 108853 / 32768 + 3)).toNat, by omega⟩
  by_cases h2 : m = 9223372036854775808
  · exact short_e hi lo m _ _ _ S e _ w hT hm hm0 h2 he1 he0 Z (Z - 1) hZ (by omega) P R hP hP1 hR (m / R) c4 (by omega) rfl c1 c2 c3 c5 hS hg
  · exact short_c hi lo m _ _ _ S e _ w hT hm hm0 h2 he1 he0 Z (Z - 1) hZ (by omega) P R hP hP1 hR (m / R) c4 (by omega) rfl c1 c2 c3 c5 hS hg
theorem half_div (m Z : Nat) (h : m < 18446744073709551616) (hZ1 : 1 ≤ Z) : m / 2 ^ Z < 9223372036854775808 := by
  have h1 : m / 2 ^ Z ≤ m / 2 ^ 1 := Nat.div_le_div_left (Nat.pow_le_pow_right (by decide) hZ1) (by decide)
  exact Nat.lt_of_le_of_lt h1 (by omega)
theorem short_any (hi lo : Nat → Nat) (m : Nat) (e : Int) (w : World) (hT : Pows w hi lo) (hm : m < 18446744073709551616) (hm0 : 9223372036854775808 ≤ m) (he0 : -1137 ≤ e) (he1 : e ≤ 960) (hg : 4 < w.heap.size) :
    Calls Tryz.prog 118 #[.int .u64 m, .int .i64 e] w fun r w' => r = .returned (.tuple #[.int .u64 (shortN hi lo m e).1, .int .i64 (shortN hi lo m e).2]) ∧ Below w.heap.size w w' := by
  by_cases h1 : e < -1085
  · rw [shortN_s hi lo m e h1]
    have hZ : 11 + (-1085 - e) = ((11 + (-1085 - e)).toNat : Int) := by omega
    have hZ1 : 1 ≤ (11 + (-1085 - e)).toNat := by omega
    have hY : (11 + (-1085 - e)).toNat - 1 ≤ 62 := by omega
    revert hZ hZ1 hY
    generalize (11 + (-1085 - e)).toNat = Z
    intro hZ hZ1 hY
    exact short_s hi lo m e w hT hm hm0 he0 h1 hg Z _ _ hZ hZ1 (by simp) (by simp) (pow_le62 _ hY) (half_div m Z hm hZ1)
  · have c1 : (m : Int) - 1024 = ((m - 1024 : Nat) : Int) := by omega
    have c1' : (m : Int) - 512 = ((m - 512 : Nat) : Int) := by omega
    have c2 : IntKind.u64.wrap ((m : Int) + 1024) = (((m + 1024) % 18446744073709551616 : Nat) : Int) := by rw [IntKind.wrap_u64]; omega
    have c3 := i64_and1 (m / 2048) (by omega)
    have c5 : m / 2048 % 2 ≤ 1 := by omega
    by_cases h2 : m = 9223372036854775808 ∧ -1085 < e
    · have hE : shortN hi lo m e = shortC hi lo m e (-(((e + 11) * 631305 - 261663) / 2097152)) (m - 512) ((m + 1024) % 18446744073709551616) (m / 2048 % 2) := by
        unfold shortN; rw [if_neg h1, if_pos h2]
      rw [hE]
      obtain ⟨S, hS⟩ : ∃ S : Nat, -(e + -(((e + 11) * 631305 - 261663) / 2097152) * 108853 / 32768 + 3) = (S : Int) := ⟨(-(e + -(((e + 11) * 631305 - 261663) / 2097152) * 108853 / 32768 + 3)).toNat, by omega⟩
      exact short_a hi lo m _ _ _ S e _ w hT hm hm0 h2.1 h2.2 he1 rfl c1' c2 c3 c5 hS hg
    · have hE : shortN hi lo m e = shortC hi lo m e (-((e + 11) * 78913 / 262144)) (m - 1024) ((m + 1024) % 18446744073709551616) (m / 2048 % 2) := by
        unfold shortN; rw [if_neg h1, if_neg h2]
      rw [hE]
      obtain ⟨S, hS⟩ : ∃ S : Nat, -(e + -((e + 11) * 78913 / 262144) * 108853 / 32768 + 3) = (S : Int) := ⟨(-(e + -((e + 11) * 78913 / 262144) * 108853 / 32768 + 3)).toNat, by omega⟩
      by_cases h3 : m = 9223372036854775808
      · exact short_d hi lo m _ _ _ S e _ w hT hm hm0 h3 (by omega) he1 rfl c1 c2 c3 c5 hS hg
      · exact short_b hi lo m _ _ _ S e _ w hT hm hm0 h3 (by omega) he1 rfl c1 c2 c3 c5 hS hg
theorem shortC_lt (hi lo : Nat → Nat) (m : Nat) (e p : Int) (mn mx o : Nat) : (shortC hi lo m e p mn mx o).1 < 4611686018427387904 ∧ ((shortC hi lo m e p mn mx o).2 = -p ∨ (shortC hi lo m e p mn mx o).2 = -(p - 1)) := by
  unfold shortC
  simp only
  have h1 := nudgeN_lt (uscN mx (hi (p + 348).toNat) (lo (p + 348).toNat) (-(e + p * 108853 / 32768 + 3)).toNat) (-(o : Int))
  have h2 := ceilN_lt (nudgeN (uscN mn (hi (p + 348).toNat) (lo (p + 348).toNat) (-(e + p * 108853 / 32768 + 3)).toNat) (o : Int))
  have h3 := roundN_lt (uscN m (hi (p + 348).toNat) (lo (p + 348).toNat) (-(e + p * 108853 / 32768 + 3)).toNat)
  split
  · exact ⟨by omega, .inr rfl⟩
  · split
    · exact ⟨h3, .inl rfl⟩
    · exact ⟨h2, .inl rfl⟩
theorem shortN_lt (hi lo : Nat → Nat) (m : Nat) (e : Int) (he0 : -1137 ≤ e) (he1 : e ≤ 960) : (shortN hi lo m e).1 < 4611686018427387904 ∧ -400 ≤ (shortN hi lo m e).2 ∧ (shortN hi lo m e).2 ≤ 400 := by
  unfold shortN
  split
  · simp only
    obtain ⟨h1, h2⟩ := shortC_lt hi lo m e 324 (m - 2 ^ ((11 + (-1085 - e)).toNat - 1)) ((m + 2 ^ ((11 + (-1085 - e)).toNat - 1)) % 18446744073709551616) (m / 2 ^ (11 + (-1085 - e)).toNat % 2)
    exact ⟨h1, by omega, by omega⟩
  · split
    · obtain ⟨h1, h2⟩ := shortC_lt hi lo m e (-(((e + 11) * 631305 - 261663) / 2097152)) (m - 512) ((m + 1024) % 18446744073709551616) (m / 2048 % 2)
      exact ⟨h1, by omega, by omega⟩
    · obtain ⟨h1, h2⟩ := shortC_lt hi lo m e (-((e + 11) * 78913 / 262144)) (m - 1024) ((m + 1024) % 18446744073709551616) (m / 2048 % 2)
      exact ⟨h1, by omega, by omega⟩
end Go.Proofs.YtbbpngoffpegbaaGreatDoor
