/- The walk of shortFloat. -/
import Derived.Test.YtbbpngoffpegbaaGreatDoorFScale
namespace Go.Proofs.YtbbpngoffpegbaaGreatDoor
open Go.RowKit
set_option linter.unusedVariables false
set_option linter.unusedSimpArgs false
theorem nudgeN_lt (u : Nat) (o : Int) : nudgeN u o < 18446744073709551616 := by unfold nudgeN; omega
theorem ceilN_lt (u : Nat) : ceilN u < 4611686018427387904 := by unfold ceilN; omega
theorem roundN_lt (u : Nat) : roundN u < 4611686018427387904 := by unfold roundN; omega
/-- What shortFloat gives, of its table, the power, the ends, and whether the mantissa is odd. -/
def shortC (hi lo : Nat → Nat) (m : Nat) (e p : Int) (mn mx o : Nat) : Nat × Int :=
  let u := fun x => uscN x (hi (p + 348).toNat) (lo (p + 348).toNat) (-(e + p * 108853 / 32768 + 3)).toNat
  let dmin := ceilN (nudgeN (u mn) o)
  let dmax := nudgeN (u mx) (-(o : Int)) / 4
  if dmin ≤ dmax / 10 * 10 then (dmax / 10, -(p - 1)) else if dmin < dmax then (roundN (u m), -p) else (dmin, -p)
def shortE (C D a3 : Nat) (p : Int) : Nat × Int := if C ≤ D / 10 * 10 then (D / 10, -(p - 1)) else if C < D then (roundN a3, -p) else (C, -p)
theorem shortE_1 {C D a3 : Nat} {p : Int} (h : (C : Int) ≤ ((D / 10 * 10 : Nat) : Int)) : shortE C D a3 p = (D / 10, -(p - 1)) := if_pos (by omega)
theorem shortE_2 {C D a3 : Nat} {p : Int} (h : ((D / 10 * 10 : Nat) : Int) < (C : Int)) (k : (C : Int) < (D : Int)) : shortE C D a3 p = (roundN a3, -p) := by unfold shortE; rw [if_neg (by omega), if_pos (by omega)]
theorem shortE_3 {C D a3 : Nat} {p : Int} (h : ((D / 10 * 10 : Nat) : Int) < (C : Int)) (k : (D : Int) ≤ (C : Int)) : shortE C D a3 p = (C, -p) := by unfold shortE; rw [if_neg (by omega), if_neg (by omega)]
def shortD (a1 a2 a3 : Nat) (p : Int) (o : Nat) : Nat × Int := shortE (ceilN (nudgeN a1 o)) (nudgeN a2 (-(o : Int)) / 4) a3 p
theorem short_b (hi lo : Nat → Nat) (m mn mx o S : Nat) (e q : Int) (w : World) (hT : Pows w hi lo) (hm : m < 18446744073709551616) (hm0 : 9223372036854775808 ≤ m) (hm1 : m ≠ 9223372036854775808) (he0 : -1085 ≤ e) (he1 : e ≤ 960)
    (hq : (e + 11) * 78913 / 262144 = q) (hmn : (m : Int) - 1024 = (mn : Int)) (hmx : IntKind.u64.wrap ((m : Int) + 1024) = (mx : Int)) (ho : bits .and .i64 ((m : Int) / 2048) 1 = (o : Int)) (ho1 : o ≤ 1) (hS : -(e + -q * 108853 / 32768 + 3) = (S : Int)) (hg : 4 < w.heap.size) :
    Calls Tryz.prog 118 #[.int .u64 m, .int .i64 e] w fun r w' =>
      r = .returned (.tuple #[.int .u64 (shortC hi lo m e (-q) mn mx o).1, .int .i64 (shortC hi lo m e (-q) mn mx o).2]) ∧ Below w.heap.size w w' := by
  have n1 : ((m : Int) == 9223372036854775808) = false := by simp; omega
  have n2 : ¬ ((m : Int) = 9223372036854775808) := by omega
  have n3 : e ≥ -1085 := he0
  have q0 : -324 ≤ q := by omega
  have q1 : q ≤ 300 := by omega
  have S1 : S < 64 := by omega
  have C1 := log10Pow2_any (e + 11) (by omega) (by omega) w
  rw [hq] at C1
  obtain ⟨_, _, HH, LL⟩ := hT.h (-q + 348).toNat (by omega)
  have P1 := prescale_new e (-q) (-q * 108853 / 32768) hi lo w hT hg (by omega) (by omega) (by omega) (by omega) (by omega) (by omega) S hS S1
  have E1 : shortC hi lo m e (-q) mn mx o = shortD (uscN mn (hi (-q + 348).toNat) (lo (-q + 348).toNat) S) (uscN mx (hi (-q + 348).toNat) (lo (-q + 348).toNat) S) (uscN m (hi (-q + 348).toNat) (lo (-q + 348).toNat) S) (-q) o := by
    unfold shortC; rw [hS, Int.toNat_natCast]; rfl
  rw [E1]
  clear E1
  revert P1 HH LL
  generalize hi (-q + 348).toNat = H
  generalize lo (-q + 348).toNat = L
  intro HH LL P1
  have Lmx : mx < 18446744073709551616 := by rw [IntKind.wrap_u64] at hmx; omega
  have U1 := fun w3 HS => uscale_any mn H L S w.heap.size w3 HS (by omega) HH LL S1
  have L1 := uscN_lt mn H L S (by omega) HH
  have U2 := fun w3 HS => uscale_any mx H L S w.heap.size w3 HS Lmx HH LL S1
  have L2 := uscN_lt mx H L S Lmx HH
  have U3 := fun w3 HS => uscale_any m H L S w.heap.size w3 HS hm HH LL S1
  have L3 := uscN_lt m H L S hm HH
  revert U1 U2 U3 L1 L2 L3
  generalize uscN mn H L S = a1
  generalize uscN mx H L S = a2
  generalize uscN m H L S = a3
  intro U1 L1 U2 L2 U3 L3
  have N1 := nudge_any a1 o L1 (by omega) (by omega)
  have N2 := nudge_any a2 (-(o : Int)) L2 (by omega) (by omega)
  have N3 := ceil_any _ (nudgeN_lt a1 o)
  have N4 := floor_any _ (nudgeN_lt a2 (-(o : Int)))
  have N5 : nudgeN a2 (-(o : Int)) / 4 < 4611686018427387904 := by have := nudgeN_lt a2 (-(o : Int)); omega
  unfold shortD
  revert N1 N2 N3 N4 N5
  generalize nudgeN a2 (-(o : Int)) / 4 = D
  generalize ceilN (nudgeN a1 o) = C
  generalize nudgeN a2 (-(o : Int)) = y2
  generalize nudgeN a1 o = y1
  intro N1 N2 N3 N4 N5
  have kd : IntKind.u64.wrap ((D : Int).tdiv 10) = ((D / 10 : Nat) : Int) := by rw [IntKind.wrap_u64, Int.tdiv_eq_ediv_of_nonneg (by omega)]; omega
  have kd2 : IntKind.u64.wrap (((D / 10 : Nat) : Int) * 10) = ((D / 10 * 10 : Nat) : Int) := by rw [IntKind.wrap_u64]; omega
  go_enter Tryz.func118, Tryz.ntmps118
  go_wp2_with fail
  refine C1.mono ?_
  rintro r w1 ⟨rfl, rfl⟩
  go_wp2_with fail
  refine (log2Pow10_any _ (by omega) (by omega) _).mono ?_
  rintro r w2 ⟨rfl, rfl⟩
  go_wp2_with fail
  refine P1.mono ?_
  rintro r w3 ⟨rfl, HS, HB⟩
  clear hT hmn hmx ho hS
  go_wp2_with fail
  refine (U1 w3 HS).mono ?_
  rintro r w4 ⟨rfl, n4, rfl⟩
  go_wp2_with fail
  refine (N1 _).mono ?_
  rintro r w5 ⟨rfl, rfl⟩
  go_wp2_with fail
  refine (N3 _).mono ?_
  rintro r w6 ⟨rfl, rfl⟩
  go_wp2_with fail
  refine (U2 _ (HS.drew n4)).mono ?_
  rintro r w7 ⟨rfl, n7, rfl⟩
  go_wp2_with fail
  refine (N2 _).mono ?_
  rintro r w8 ⟨rfl, rfl⟩
  go_wp2_with fail
  refine (N4 _).mono ?_
  rintro r w9 ⟨rfl, rfl⟩
  go_wp2_with fail
  · go_ret2
    rw [shortE_1 (by omega)]
    exact ⟨by simp only [Int.neg_neg]; rfl, HB.trans ⟨rfl, rfl, rfl, Nat.le_refl _, fun _ _ => rfl⟩⟩
  · refine (U3 _ (HS.drew _)).mono ?_
    rintro r w10 ⟨rfl, n10, rfl⟩
    go_wp2_with fail
    refine (round_any a3 L3 _).mono ?_
    rintro r w11 ⟨rfl, rfl⟩
    go_wp2_with fail
    go_ret2
    rw [shortE_2 (by omega) (by omega)]
    exact ⟨by simp only [Int.neg_neg]; rfl, HB.trans ⟨rfl, rfl, rfl, Nat.le_refl _, fun _ _ => rfl⟩⟩
  · go_ret2
    rw [shortE_3 (by omega) (by omega)]
    exact ⟨by simp only [Int.neg_neg]; rfl, HB.trans ⟨rfl, rfl, rfl, Nat.le_refl _, fun _ _ => rfl⟩⟩
theorem short_d (hi lo : Nat → Nat) (m mn mx o S : Nat) (e q : Int) (w : World) (hT : Pows w hi lo) (hm : m < 18446744073709551616) (hm0 : 9223372036854775808 ≤ m) (hm1 : m = 9223372036854775808) (he0 : e = -1085) (he1 : e ≤ 960)
    (hq : (e + 11) * 78913 / 262144 = q) (hmn : (m : Int) - 1024 = (mn : Int)) (hmx : IntKind.u64.wrap ((m : Int) + 1024) = (mx : Int)) (ho : bits .and .i64 ((m : Int) / 2048) 1 = (o : Int)) (ho1 : o ≤ 1) (hS : -(e + -q * 108853 / 32768 + 3) = (S : Int)) (hg : 4 < w.heap.size) :
    Calls Tryz.prog 118 #[.int .u64 m, .int .i64 e] w fun r w' =>
      r = .returned (.tuple #[.int .u64 (shortC hi lo m e (-q) mn mx o).1, .int .i64 (shortC hi lo m e (-q) mn mx o).2]) ∧ Below w.heap.size w w' := by
  have n1 : ((m : Int) == 9223372036854775808) = true := by simp; omega
  clear hm1
  have n3 : e ≥ -1085 := by omega
  have n4 : ¬ (e > -1085) := by omega
  clear he0
  have q0 : -324 ≤ q := by omega
  have q1 : q ≤ 300 := by omega
  have S1 : S < 64 := by omega
  have C1 := log10Pow2_any (e + 11) (by omega) (by omega) w
  rw [hq] at C1
  obtain ⟨_, _, HH, LL⟩ := hT.h (-q + 348).toNat (by omega)
  have P1 := prescale_new e (-q) (-q * 108853 / 32768) hi lo w hT hg (by omega) (by omega) (by omega) (by omega) (by omega) (by omega) S hS S1
  have E1 : shortC hi lo m e (-q) mn mx o = shortD (uscN mn (hi (-q + 348).toNat) (lo (-q + 348).toNat) S) (uscN mx (hi (-q + 348).toNat) (lo (-q + 348).toNat) S) (uscN m (hi (-q + 348).toNat) (lo (-q + 348).toNat) S) (-q) o := by
    unfold shortC; rw [hS, Int.toNat_natCast]; rfl
  rw [E1]
  clear E1
  revert P1 HH LL
  generalize hi (-q + 348).toNat = H
  generalize lo (-q + 348).toNat = L
  intro HH LL P1
  have Lmx : mx < 18446744073709551616 := by rw [IntKind.wrap_u64] at hmx; omega
  have U1 := fun w3 HS => uscale_any mn H L S w.heap.size w3 HS (by omega) HH LL S1
  have L1 := uscN_lt mn H L S (by omega) HH
  have U2 := fun w3 HS => uscale_any mx H L S w.heap.size w3 HS Lmx HH LL S1
  have L2 := uscN_lt mx H L S Lmx HH
  have U3 := fun w3 HS => uscale_any m H L S w.heap.size w3 HS hm HH LL S1
  have L3 := uscN_lt m H L S hm HH
  revert U1 U2 U3 L1 L2 L3
  generalize uscN mn H L S = a1
  generalize uscN mx H L S = a2
  generalize uscN m H L S = a3
  intro U1 L1 U2 L2 U3 L3
  have N1 := nudge_any a1 o L1 (by omega) (by omega)
  have N2 := nudge_any a2 (-(o : Int)) L2 (by omega) (by omega)
  have N3 := ceil_any _ (nudgeN_lt a1 o)
  have N4 := floor_any _ (nudgeN_lt a2 (-(o : Int)))
  have N5 : nudgeN a2 (-(o : Int)) / 4 < 4611686018427387904 := by have := nudgeN_lt a2 (-(o : Int)); omega
  unfold shortD
  revert N1 N2 N3 N4 N5
  generalize nudgeN a2 (-(o : Int)) / 4 = D
  generalize ceilN (nudgeN a1 o) = C
  generalize nudgeN a2 (-(o : Int)) = y2
  generalize nudgeN a1 o = y1
  intro N1 N2 N3 N4 N5
  have kd : IntKind.u64.wrap ((D : Int).tdiv 10) = ((D / 10 : Nat) : Int) := by rw [IntKind.wrap_u64, Int.tdiv_eq_ediv_of_nonneg (by omega)]; omega
  have kd2 : IntKind.u64.wrap (((D / 10 : Nat) : Int) * 10) = ((D / 10 * 10 : Nat) : Int) := by rw [IntKind.wrap_u64]; omega
  go_enter Tryz.func118, Tryz.ntmps118
  go_wp2_with fail
  refine C1.mono ?_
  rintro r w1 ⟨rfl, rfl⟩
  go_wp2_with fail
  refine (log2Pow10_any _ (by omega) (by omega) _).mono ?_
  rintro r w2 ⟨rfl, rfl⟩
  go_wp2_with fail
  refine P1.mono ?_
  rintro r w3 ⟨rfl, HS, HB⟩
  clear hT hmn hmx ho hS
  go_wp2_with fail
  refine (U1 w3 HS).mono ?_
  rintro r w4 ⟨rfl, n4, rfl⟩
  go_wp2_with fail
  refine (N1 _).mono ?_
  rintro r w5 ⟨rfl, rfl⟩
  go_wp2_with fail
  refine (N3 _).mono ?_
  rintro r w6 ⟨rfl, rfl⟩
  go_wp2_with fail
  refine (U2 _ (HS.drew n4)).mono ?_
  rintro r w7 ⟨rfl, n7, rfl⟩
  go_wp2_with fail
  refine (N2 _).mono ?_
  rintro r w8 ⟨rfl, rfl⟩
  go_wp2_with fail
  refine (N4 _).mono ?_
  rintro r w9 ⟨rfl, rfl⟩
  go_wp2_with fail
  · go_ret2
    rw [shortE_1 (by omega)]
    exact ⟨by simp only [Int.neg_neg]; rfl, HB.trans ⟨rfl, rfl, rfl, Nat.le_refl _, fun _ _ => rfl⟩⟩
  · refine (U3 _ (HS.drew _)).mono ?_
    rintro r w10 ⟨rfl, n10, rfl⟩
    go_wp2_with fail
    refine (round_any a3 L3 _).mono ?_
    rintro r w11 ⟨rfl, rfl⟩
    go_wp2_with fail
    go_ret2
    rw [shortE_2 (by omega) (by omega)]
    exact ⟨by simp only [Int.neg_neg]; rfl, HB.trans ⟨rfl, rfl, rfl, Nat.le_refl _, fun _ _ => rfl⟩⟩
  · go_ret2
    rw [shortE_3 (by omega) (by omega)]
    exact ⟨by simp only [Int.neg_neg]; rfl, HB.trans ⟨rfl, rfl, rfl, Nat.le_refl _, fun _ _ => rfl⟩⟩
theorem short_a (hi lo : Nat → Nat) (m mn mx o S : Nat) (e q : Int) (w : World) (hT : Pows w hi lo) (hm : m < 18446744073709551616) (hm0 : 9223372036854775808 ≤ m) (hm1 : m = 9223372036854775808) (he0 : -1085 < e) (he1 : e ≤ 960)
    (hq : ((e + 11) * 631305 - 261663) / 2097152 = q) (hmn : (m : Int) - 512 = (mn : Int)) (hmx : IntKind.u64.wrap ((m : Int) + 1024) = (mx : Int)) (ho : bits .and .i64 ((m : Int) / 2048) 1 = (o : Int)) (ho1 : o ≤ 1) (hS : -(e + -q * 108853 / 32768 + 3) = (S : Int)) (hg : 4 < w.heap.size) :
    Calls Tryz.prog 118 #[.int .u64 m, .int .i64 e] w fun r w' =>
      r = .returned (.tuple #[.int .u64 (shortC hi lo m e (-q) mn mx o).1, .int .i64 (shortC hi lo m e (-q) mn mx o).2]) ∧ Below w.heap.size w w' := by
  have n1 : ((m : Int) == 9223372036854775808) = true := by simp; omega
  clear hm1
  have n3 : e > -1085 := he0
  have q0 : -324 ≤ q := by omega
  have q1 : q ≤ 300 := by omega
  have S1 : S < 64 := by omega
  have C1 := skewed_any (e + 11) (by omega) (by omega) w
  rw [hq] at C1
  obtain ⟨_, _, HH, LL⟩ := hT.h (-q + 348).toNat (by omega)
  have P1 := prescale_new e (-q) (-q * 108853 / 32768) hi lo w hT hg (by omega) (by omega) (by omega) (by omega) (by omega) (by omega) S hS S1
  have E1 : shortC hi lo m e (-q) mn mx o = shortD (uscN mn (hi (-q + 348).toNat) (lo (-q + 348).toNat) S) (uscN mx (hi (-q + 348).toNat) (lo (-q + 348).toNat) S) (uscN m (hi (-q + 348).toNat) (lo (-q + 348).toNat) S) (-q) o := by
    unfold shortC; rw [hS, Int.toNat_natCast]; rfl
  rw [E1]
  clear E1
  revert P1 HH LL
  generalize hi (-q + 348).toNat = H
  generalize lo (-q + 348).toNat = L
  intro HH LL P1
  have Lmx : mx < 18446744073709551616 := by rw [IntKind.wrap_u64] at hmx; omega
  have U1 := fun w3 HS => uscale_any mn H L S w.heap.size w3 HS (by omega) HH LL S1
  have L1 := uscN_lt mn H L S (by omega) HH
  have U2 := fun w3 HS => uscale_any mx H L S w.heap.size w3 HS Lmx HH LL S1
  have L2 := uscN_lt mx H L S Lmx HH
  have U3 := fun w3 HS => uscale_any m H L S w.heap.size w3 HS hm HH LL S1
  have L3 := uscN_lt m H L S hm HH
  revert U1 U2 U3 L1 L2 L3
  generalize uscN mn H L S = a1
  generalize uscN mx H L S = a2
  generalize uscN m H L S = a3
  intro U1 L1 U2 L2 U3 L3
  have N1 := nudge_any a1 o L1 (by omega) (by omega)
  have N2 := nudge_any a2 (-(o : Int)) L2 (by omega) (by omega)
  have N3 := ceil_any _ (nudgeN_lt a1 o)
  have N4 := floor_any _ (nudgeN_lt a2 (-(o : Int)))
  have N5 : nudgeN a2 (-(o : Int)) / 4 < 4611686018427387904 := by have := nudgeN_lt a2 (-(o : Int)); omega
  unfold shortD
  revert N1 N2 N3 N4 N5
  generalize nudgeN a2 (-(o : Int)) / 4 = D
  generalize ceilN (nudgeN a1 o) = C
  generalize nudgeN a2 (-(o : Int)) = y2
  generalize nudgeN a1 o = y1
  intro N1 N2 N3 N4 N5
  have kd : IntKind.u64.wrap ((D : Int).tdiv 10) = ((D / 10 : Nat) : Int) := by rw [IntKind.wrap_u64, Int.tdiv_eq_ediv_of_nonneg (by omega)]; omega
  have kd2 : IntKind.u64.wrap (((D / 10 : Nat) : Int) * 10) = ((D / 10 * 10 : Nat) : Int) := by rw [IntKind.wrap_u64]; omega
  go_enter Tryz.func118, Tryz.ntmps118
  go_wp2_with fail
  refine C1.mono ?_
  rintro r w1 ⟨rfl, rfl⟩
  go_wp2_with fail
  refine (log2Pow10_any _ (by omega) (by omega) _).mono ?_
  rintro r w2 ⟨rfl, rfl⟩
  go_wp2_with fail
  refine P1.mono ?_
  rintro r w3 ⟨rfl, HS, HB⟩
  clear hT hmn hmx ho hS
  go_wp2_with fail
  refine (U1 w3 HS).mono ?_
  rintro r w4 ⟨rfl, n4, rfl⟩
  go_wp2_with fail
  refine (N1 _).mono ?_
  rintro r w5 ⟨rfl, rfl⟩
  go_wp2_with fail
  refine (N3 _).mono ?_
  rintro r w6 ⟨rfl, rfl⟩
  go_wp2_with fail
  refine (U2 _ (HS.drew n4)).mono ?_
  rintro r w7 ⟨rfl, n7, rfl⟩
  go_wp2_with fail
  refine (N2 _).mono ?_
  rintro r w8 ⟨rfl, rfl⟩
  go_wp2_with fail
  refine (N4 _).mono ?_
  rintro r w9 ⟨rfl, rfl⟩
  go_wp2_with fail
  · go_ret2
    rw [shortE_1 (by omega)]
    exact ⟨by simp only [Int.neg_neg]; rfl, HB.trans ⟨rfl, rfl, rfl, Nat.le_refl _, fun _ _ => rfl⟩⟩
  · refine (U3 _ (HS.drew _)).mono ?_
    rintro r w10 ⟨rfl, n10, rfl⟩
    go_wp2_with fail
    refine (round_any a3 L3 _).mono ?_
    rintro r w11 ⟨rfl, rfl⟩
    go_wp2_with fail
    go_ret2
    rw [shortE_2 (by omega) (by omega)]
    exact ⟨by simp only [Int.neg_neg]; rfl, HB.trans ⟨rfl, rfl, rfl, Nat.le_refl _, fun _ _ => rfl⟩⟩
  · go_ret2
    rw [shortE_3 (by omega) (by omega)]
    exact ⟨by simp only [Int.neg_neg]; rfl, HB.trans ⟨rfl, rfl, rfl, Nat.le_refl _, fun _ _ => rfl⟩⟩
theorem short_c (hi lo : Nat → Nat) (m mn mx o S : Nat) (e q : Int) (w : World) (hT : Pows w hi lo) (hm : m < 18446744073709551616) (hm0 : 9223372036854775808 ≤ m) (hm1 : m ≠ 9223372036854775808) (he0 : e < -1085) (he2 : -1137 ≤ e) (Z Y : Nat) (hz : 11 + (-1085 - e) = (Z : Int)) (hy : (Z : Int) - 1 = (Y : Int)) (Pw Rw : Nat) (hP : (2 : Int) ^ Y = (Pw : Int)) (hP2 : Pw ≤ 4611686018427387904) (hR : (2 : Int) ^ Z = (Rw : Int)) (G : Nat) (hG : wrap64 ((m : Int) / (Rw : Int)) = (G : Int)) (he1 : e ≤ 960)
    (hq : (-1074 : Int) * 78913 / 262144 = q) (hmn : (m : Int) - (Pw : Int) = (mn : Int)) (hmx : IntKind.u64.wrap ((m : Int) + (Pw : Int)) = (mx : Int)) (ho : bits .and .i64 ((G : Int)) 1 = (o : Int)) (ho1 : o ≤ 1) (hS : -(e + -q * 108853 / 32768 + 3) = (S : Int)) (hg : 4 < w.heap.size) :
    Calls Tryz.prog 118 #[.int .u64 m, .int .i64 e] w fun r w' =>
      r = .returned (.tuple #[.int .u64 (shortC hi lo m e (-q) mn mx o).1, .int .i64 (shortC hi lo m e (-q) mn mx o).2]) ∧ Below w.heap.size w w' := by
  have n1 : ((m : Int) == 9223372036854775808) = false := by simp; omega
  have n2 : ¬ ((m : Int) = 9223372036854775808) := by omega
  have n3 : ¬ (e ≥ -1085) := by omega
  have n4 : ¬ (e > -1085) := by omega
  have n5 : e + (Z : Int) = -1074 := by omega
  have n6 : Y ≤ 62 := by omega
  have q0 : -324 ≤ q := by omega
  have q1 : q ≤ 300 := by omega
  have S1 : S < 64 := by omega
  have C1 := log10Pow2_any (-1074) (by omega) (by omega) w
  rw [hq] at C1
  obtain ⟨_, _, HH, LL⟩ := hT.h (-q + 348).toNat (by omega)
  have P1 := prescale_new e (-q) (-q * 108853 / 32768) hi lo w hT hg (by omega) (by omega) (by omega) (by omega) (by omega) (by omega) S hS S1
  have E1 : shortC hi lo m e (-q) mn mx o = shortD (uscN mn (hi (-q + 348).toNat) (lo (-q + 348).toNat) S) (uscN mx (hi (-q + 348).toNat) (lo (-q + 348).toNat) S) (uscN m (hi (-q + 348).toNat) (lo (-q + 348).toNat) S) (-q) o := by
    unfold shortC; rw [hS, Int.toNat_natCast]; rfl
  rw [E1]
  clear E1
  revert P1 HH LL
  generalize hi (-q + 348).toNat = H
  generalize lo (-q + 348).toNat = L
  intro HH LL P1
  have Lmx : mx < 18446744073709551616 := by rw [IntKind.wrap_u64] at hmx; omega
  have U1 := fun w3 HS => uscale_any mn H L S w.heap.size w3 HS (by omega) HH LL S1
  have L1 := uscN_lt mn H L S (by omega) HH
  have U2 := fun w3 HS => uscale_any mx H L S w.heap.size w3 HS Lmx HH LL S1
  have L2 := uscN_lt mx H L S Lmx HH
  have U3 := fun w3 HS => uscale_any m H L S w.heap.size w3 HS hm HH LL S1
  have L3 := uscN_lt m H L S hm HH
  revert U1 U2 U3 L1 L2 L3
  generalize uscN mn H L S = a1
  generalize uscN mx H L S = a2
  generalize uscN m H L S = a3
  intro U1 L1 U2 L2 U3 L3
  have N1 := nudge_any a1 o L1 (by omega) (by omega)
  have N2 := nudge_any a2 (-(o : Int)) L2 (by omega) (by omega)
  have N3 := ceil_any _ (nudgeN_lt a1 o)
  have N4 := floor_any _ (nudgeN_lt a2 (-(o : Int)))
  have N5 : nudgeN a2 (-(o : Int)) / 4 < 4611686018427387904 := by have := nudgeN_lt a2 (-(o : Int)); omega
  unfold shortD
  revert N1 N2 N3 N4 N5
  generalize nudgeN a2 (-(o : Int)) / 4 = D
  generalize ceilN (nudgeN a1 o) = C
  generalize nudgeN a2 (-(o : Int)) = y2
  generalize nudgeN a1 o = y1
  intro N1 N2 N3 N4 N5
  have kd : IntKind.u64.wrap ((D : Int).tdiv 10) = ((D / 10 : Nat) : Int) := by rw [IntKind.wrap_u64, Int.tdiv_eq_ediv_of_nonneg (by omega)]; omega
  have kd2 : IntKind.u64.wrap (((D / 10 : Nat) : Int) * 10) = ((D / 10 * 10 : Nat) : Int) := by rw [IntKind.wrap_u64]; omega
  go_enter Tryz.func118, Tryz.ntmps118
  go_wp2_with fail
  refine C1.mono ?_
  rintro r w1 ⟨rfl, rfl⟩
  go_wp2_with fail
  refine (log2Pow10_any _ (by omega) (by omega) _).mono ?_
  rintro r w2 ⟨rfl, rfl⟩
  go_wp2_with fail
  refine P1.mono ?_
  rintro r w3 ⟨rfl, HS, HB⟩
  clear hT hmn hmx ho hS
  go_wp2_with fail
  refine (U1 w3 HS).mono ?_
  rintro r w4 ⟨rfl, n4, rfl⟩
  go_wp2_with fail
  refine (N1 _).mono ?_
  rintro r w5 ⟨rfl, rfl⟩
  go_wp2_with fail
  refine (N3 _).mono ?_
  rintro r w6 ⟨rfl, rfl⟩
  go_wp2_with fail
  refine (U2 _ (HS.drew n4)).mono ?_
  rintro r w7 ⟨rfl, n7, rfl⟩
  go_wp2_with fail
  refine (N2 _).mono ?_
  rintro r w8 ⟨rfl, rfl⟩
  go_wp2_with fail
  refine (N4 _).mono ?_
  rintro r w9 ⟨rfl, rfl⟩
  go_wp2_with fail
  · go_ret2
    rw [shortE_1 (by omega)]
    exact ⟨by simp only [Int.neg_neg]; rfl, HB.trans ⟨rfl, rfl, rfl, Nat.le_refl _, fun _ _ => rfl⟩⟩
  · refine (U3 _ (HS.drew _)).mono ?_
    rintro r w10 ⟨rfl, n10, rfl⟩
    go_wp2_with fail
    refine (round_any a3 L3 _).mono ?_
    rintro r w11 ⟨rfl, rfl⟩
    go_wp2_with fail
    go_ret2
    rw [shortE_2 (by omega) (by omega)]
    exact ⟨by simp only [Int.neg_neg]; rfl, HB.trans ⟨rfl, rfl, rfl, Nat.le_refl _, fun _ _ => rfl⟩⟩
  · go_ret2
    rw [shortE_3 (by omega) (by omega)]
    exact ⟨by simp only [Int.neg_neg]; rfl, HB.trans ⟨rfl, rfl, rfl, Nat.le_refl _, fun _ _ => rfl⟩⟩
theorem short_e (hi lo : Nat → Nat) (m mn mx o S : Nat) (e q : Int) (w : World) (hT : Pows w hi lo) (hm : m < 18446744073709551616) (hm0 : 9223372036854775808 ≤ m) (hm1 : m = 9223372036854775808) (he0 : e < -1085) (he2 : -1137 ≤ e) (Z Y : Nat) (hz : 11 + (-1085 - e) = (Z : Int)) (hy : (Z : Int) - 1 = (Y : Int)) (Pw Rw : Nat) (hP : (2 : Int) ^ Y = (Pw : Int)) (hP2 : Pw ≤ 4611686018427387904) (hR : (2 : Int) ^ Z = (Rw : Int)) (G : Nat) (hG : wrap64 ((m : Int) / (Rw : Int)) = (G : Int)) (he1 : e ≤ 960)
    (hq : (-1074 : Int) * 78913 / 262144 = q) (hmn : (m : Int) - (Pw : Int) = (mn : Int)) (hmx : IntKind.u64.wrap ((m : Int) + (Pw : Int)) = (mx : Int)) (ho : bits .and .i64 ((G : Int)) 1 = (o : Int)) (ho1 : o ≤ 1) (hS : -(e + -q * 108853 / 32768 + 3) = (S : Int)) (hg : 4 < w.heap.size) :
    Calls Tryz.prog 118 #[.int .u64 m, .int .i64 e] w fun r w' =>
      r = .returned (.tuple #[.int .u64 (shortC hi lo m e (-q) mn mx o).1, .int .i64 (shortC hi lo m e (-q) mn mx o).2]) ∧ Below w.heap.size w w' := by
  have n1 : ((m : Int) == 9223372036854775808) = true := by simp; omega
  clear hm1
  have n3 : ¬ (e ≥ -1085) := by omega
  have n4 : ¬ (e > -1085) := by omega
  have n5 : e + (Z : Int) = -1074 := by omega
  have n6 : Y ≤ 62 := by omega
  have q0 : -324 ≤ q := by omega
  have q1 : q ≤ 300 := by omega
  have S1 : S < 64 := by omega
  have C1 := log10Pow2_any (-1074) (by omega) (by omega) w
  rw [hq] at C1
  obtain ⟨_, _, HH, LL⟩ := hT.h (-q + 348).toNat (by omega)
  have P1 := prescale_new e (-q) (-q * 108853 / 32768) hi lo w hT hg (by omega) (by omega) (by omega) (by omega) (by omega) (by omega) S hS S1
  have E1 : shortC hi lo m e (-q) mn mx o = shortD (uscN mn (hi (-q + 348).toNat) (lo (-q + 348).toNat) S) (uscN mx (hi (-q + 348).toNat) (lo (-q + 348).toNat) S) (uscN m (hi (-q + 348).toNat) (lo (-q + 348).toNat) S) (-q) o := by
    unfold shortC; rw [hS, Int.toNat_natCast]; rfl
  rw [E1]
  clear E1
  revert P1 HH LL
  generalize hi (-q + 348).toNat = H
  generalize lo (-q + 348).toNat = L
  intro HH LL P1
  have Lmx : mx < 18446744073709551616 := by rw [IntKind.wrap_u64] at hmx; omega
  have U1 := fun w3 HS => uscale_any mn H L S w.heap.size w3 HS (by omega) HH LL S1
  have L1 := uscN_lt mn H L S (by omega) HH
  have U2 := fun w3 HS => uscale_any mx H L S w.heap.size w3 HS Lmx HH LL S1
  have L2 := uscN_lt mx H L S Lmx HH
  have U3 := fun w3 HS => uscale_any m H L S w.heap.size w3 HS hm HH LL S1
  have L3 := uscN_lt m H L S hm HH
  revert U1 U2 U3 L1 L2 L3
  generalize uscN mn H L S = a1
  generalize uscN mx H L S = a2
  generalize uscN m H L S = a3
  intro U1 L1 U2 L2 U3 L3
  have N1 := nudge_any a1 o L1 (by omega) (by omega)
  have N2 := nudge_any a2 (-(o : Int)) L2 (by omega) (by omega)
  have N3 := ceil_any _ (nudgeN_lt a1 o)
  have N4 := floor_any _ (nudgeN_lt a2 (-(o : Int)))
  have N5 : nudgeN a2 (-(o : Int)) / 4 < 4611686018427387904 := by have := nudgeN_lt a2 (-(o : Int)); omega
  unfold shortD
  revert N1 N2 N3 N4 N5
  generalize nudgeN a2 (-(o : Int)) / 4 = D
  generalize ceilN (nudgeN a1 o) = C
  generalize nudgeN a2 (-(o : Int)) = y2
  generalize nudgeN a1 o = y1
  intro N1 N2 N3 N4 N5
  have kd : IntKind.u64.wrap ((D : Int).tdiv 10) = ((D / 10 : Nat) : Int) := by rw [IntKind.wrap_u64, Int.tdiv_eq_ediv_of_nonneg (by omega)]; omega
  have kd2 : IntKind.u64.wrap (((D / 10 : Nat) : Int) * 10) = ((D / 10 * 10 : Nat) : Int) := by rw [IntKind.wrap_u64]; omega
  go_enter Tryz.func118, Tryz.ntmps118
  go_wp2_with fail
  refine C1.mono ?_
  rintro r w1 ⟨rfl, rfl⟩
  go_wp2_with fail
  refine (log2Pow10_any _ (by omega) (by omega) _).mono ?_
  rintro r w2 ⟨rfl, rfl⟩
  go_wp2_with fail
  refine P1.mono ?_
  rintro r w3 ⟨rfl, HS, HB⟩
  clear hT hmn hmx ho hS
  go_wp2_with fail
  refine (U1 w3 HS).mono ?_
  rintro r w4 ⟨rfl, n4, rfl⟩
  go_wp2_with fail
  refine (N1 _).mono ?_
  rintro r w5 ⟨rfl, rfl⟩
  go_wp2_with fail
  refine (N3 _).mono ?_
  rintro r w6 ⟨rfl, rfl⟩
  go_wp2_with fail
  refine (U2 _ (HS.drew n4)).mono ?_
  rintro r w7 ⟨rfl, n7, rfl⟩
  go_wp2_with fail
  refine (N2 _).mono ?_
  rintro r w8 ⟨rfl, rfl⟩
  go_wp2_with fail
  refine (N4 _).mono ?_
  rintro r w9 ⟨rfl, rfl⟩
  go_wp2_with fail
  · go_ret2
    rw [shortE_1 (by omega)]
    exact ⟨by simp only [Int.neg_neg]; rfl, HB.trans ⟨rfl, rfl, rfl, Nat.le_refl _, fun _ _ => rfl⟩⟩
  · refine (U3 _ (HS.drew _)).mono ?_
    rintro r w10 ⟨rfl, n10, rfl⟩
    go_wp2_with fail
    refine (round_any a3 L3 _).mono ?_
    rintro r w11 ⟨rfl, rfl⟩
    go_wp2_with fail
    go_ret2
    rw [shortE_2 (by omega) (by omega)]
    exact ⟨by simp only [Int.neg_neg]; rfl, HB.trans ⟨rfl, rfl, rfl, Nat.le_refl _, fun _ _ => rfl⟩⟩
  · go_ret2
    rw [shortE_3 (by omega) (by omega)]
    exact ⟨by simp only [Int.neg_neg]; rfl, HB.trans ⟨rfl, rfl, rfl, Nat.le_refl _, fun _ _ => rfl⟩⟩
end Go.Proofs.YtbbpngoffpegbaaGreatDoor
