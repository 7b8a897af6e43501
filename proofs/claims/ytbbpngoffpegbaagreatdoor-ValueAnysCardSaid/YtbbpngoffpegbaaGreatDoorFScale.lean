/- The walks of prescale and uscale. -/
import Derived.Test.YtbbpngoffpegbaaGreatDoorFLeaf
import Derived.Test.YtbbpngoffpegbaaGreatDoorShelf
import Derived.Test.YtbbpngoffpegbaaGreatDoorTree
namespace Go.Proofs.YtbbpngoffpegbaaGreatDoor
open Go.RowKit
set_option linter.unusedVariables false
set_option linter.unusedSimpArgs false
/-- A scaler in memory. -/
structure Sc (w : World) (b : Nat) (hi lo : Nat) (s : Int) : Prop where
  c0 : w.cell? ⟨b, 0, none⟩ = some (.int .u64 hi)
  c1 : w.cell? ⟨b, 1, none⟩ = some (.int .u64 lo)
  c2 : w.cell? ⟨b, 2, none⟩ = some (.int .i64 s)
  fz : ∀ j, w.frozen? ⟨b, j, none⟩ = false
theorem Sc.drew {w : World} {b hi lo : Nat} {s : Int} (h : Sc w b hi lo s) (n : Nat) : Sc (w.drewN n) b hi lo s :=
  ⟨by rw [World.cell?_drewN, h.c0], by rw [World.cell?_drewN, h.c1], by rw [World.cell?_drewN, h.c2], fun j => h.fz j⟩
/-- The table of powers in memory. -/
structure Pows (w : World) (hi lo : Nat → Nat) : Prop where
  h : ∀ p, p < 696 → w.cell? ⟨4, p * 2, none⟩ = some (.int .u64 (hi p)) ∧ w.cell? ⟨4, p * 2 + 1, none⟩ = some (.int .u64 (lo p)) ∧ hi p < 18446744073709551616 ∧ lo p < 18446744073709551616
def uscC (h m m2 s : Nat) : Nat :=
  if h / 2 ^ s * 2 ^ s ≠ h then h / 2 ^ s ||| 1
  else ((h + 18446744073709551616 - (if m < m2 then 1 else 0)) % 18446744073709551616) / 2 ^ s ||| (if (m + 18446744073709551616 - m2) % 18446744073709551616 > 1 then 1 else 0)
def uscN (x hi lo s : Nat) : Nat := uscC (x * hi / 18446744073709551616) (x * hi % 18446744073709551616) (x * lo / 18446744073709551616) s
theorem wrap_nat (n : Nat) (h : n < 18446744073709551616) : IntKind.u64.wrap (n : Int) = (n : Int) := by rw [IntKind.wrap_u64]; omega
theorem div_pow_lt (h s : Nat) (hh : h < 18446744073709551616) : h / 2 ^ s < 18446744073709551616 := Nat.lt_of_le_of_lt (Nat.div_le_self _ _) hh
theorem div_pow_int (h s : Nat) : (h : Int) / 2 ^ s = ((h / 2 ^ s : Nat) : Int) := by simp
theorem back_int (h s : Nat) (hh : h < 18446744073709551616) : IntKind.u64.wrap ((h : Int) / 2 ^ s * 2 ^ s) = ((h / 2 ^ s * 2 ^ s : Nat) : Int) := by
  rw [show (h : Int) / 2 ^ s * 2 ^ s = ((h / 2 ^ s * 2 ^ s : Nat) : Int) by simp]
  exact wrap_nat _ (Nat.lt_of_le_of_lt (Nat.div_mul_le_self _ _) hh)
theorem or_u64 (a b : Nat) (ha : a < 18446744073709551616) (hb : b < 18446744073709551616) : bits .or .u64 (a : Int) (b : Int) = ((a ||| b : Nat) : Int) := u64_or_nat a b ha hb
theorem sub_u64 (a b : Nat) (ha : a < 18446744073709551616) (hb : b < 18446744073709551616) : IntKind.u64.wrap ((a : Int) - (b : Int)) = (((a + 18446744073709551616 - b) % 18446744073709551616 : Nat) : Int) := by
  rw [IntKind.wrap_u64]; omega
theorem bit_int (c : Bool) : (if c = true then (1 : Int) else 0) = (((if c = true then 1 else 0) : Nat) : Int) := by cases c <;> rfl
theorem bit_lt (c : Prop) [Decidable c] : (if c then 1 else 0 : Nat) < 18446744073709551616 := by split <;> decide
theorem back_nat (h s : Nat) : (h : Int) / 2 ^ s * 2 ^ s = ((h / 2 ^ s * 2 ^ s : Nat) : Int) := by simp
theorem usc_1 (h m m2 s : Nat) (b1 : h < 18446744073709551616) (hn : ((h : Int) / 2 ^ s * 2 ^ s != h) = true) : bits .or .u64 ((h : Int) / 2 ^ s) 1 = (uscC h m m2 s : Int) := by
  have hn' : h / 2 ^ s * 2 ^ s ≠ h := fun e => by rw [back_nat, e] at hn; simp at hn
  rw [div_pow_int, uscC, if_pos hn']
  exact or_u64 _ 1 (div_pow_lt h s b1) (by decide)
theorem usc_core (h m m2 s : Nat) (b1 : h < 18446744073709551616) (b2 : m < 18446744073709551616) (b3 : m2 < 18446744073709551616) (hn : ((h : Int) / 2 ^ s * 2 ^ s != h) = false) (c d : Nat)
    (hc : c = if m < m2 then 1 else 0) (hd : d = if 1 < IntKind.u64.wrap ((m : Int) - (m2 : Int)) then 1 else 0) : bits .or .u64 (IntKind.u64.wrap ((h : Int) - (c : Int)) / 2 ^ s) (d : Int) = (uscC h m m2 s : Int) := by
  have hn' : ¬ (h / 2 ^ s * 2 ^ s ≠ h) := fun e => e (by rw [back_nat] at hn; exact Int.ofNat_inj.1 (by simpa only [bne_eq_false_iff_eq] using hn))
  have hc1 : c < 18446744073709551616 := by rw [hc]; exact bit_lt _
  have hd1 : d < 18446744073709551616 := by rw [hd]; exact bit_lt _
  rw [sub_u64 h c b1 hc1, div_pow_int, uscC, if_neg hn', or_u64 _ d (div_pow_lt _ s (Nat.mod_lt _ (by decide))) hd1]
  rw [sub_u64 m m2 b2 b3] at hd
  rw [hd, hc]
  have : (1 < (((m + 18446744073709551616 - m2) % 18446744073709551616 : Nat) : Int)) ↔ (m + 18446744073709551616 - m2) % 18446744073709551616 > 1 := by omega
  simp only [this]
theorem usc_11 (h m m2 s : Nat) (b1 : h < 18446744073709551616) (b2 : m < 18446744073709551616) (b3 : m2 < 18446744073709551616) (hn : ((h : Int) / 2 ^ s * 2 ^ s != h) = false)
    (hc : m < m2) (hd : 1 < IntKind.u64.wrap ((m : Int) - (m2 : Int))) : bits .or .u64 (IntKind.u64.wrap ((h : Int) - 1) / 2 ^ s) 1 = (uscC h m m2 s : Int) :=
  usc_core h m m2 s b1 b2 b3 hn 1 1 (by rw [if_pos hc]) (by rw [if_pos hd])
theorem usc_10 (h m m2 s : Nat) (b1 : h < 18446744073709551616) (b2 : m < 18446744073709551616) (b3 : m2 < 18446744073709551616) (hn : ((h : Int) / 2 ^ s * 2 ^ s != h) = false)
    (hc : m < m2) (hd : IntKind.u64.wrap ((m : Int) - (m2 : Int)) ≤ 1) : bits .or .u64 (IntKind.u64.wrap ((h : Int) - 1) / 2 ^ s) 0 = (uscC h m m2 s : Int) :=
  usc_core h m m2 s b1 b2 b3 hn 1 0 (by rw [if_pos hc]) (by rw [if_neg (by omega)])
theorem usc_01 (h m m2 s : Nat) (b1 : h < 18446744073709551616) (b2 : m < 18446744073709551616) (b3 : m2 < 18446744073709551616) (hn : ((h : Int) / 2 ^ s * 2 ^ s != h) = false)
    (hc : ¬ m < m2) (hd : 1 < (m : Int) - (m2 : Int)) : bits .or .u64 ((h : Int) / 2 ^ s) 1 = (uscC h m m2 s : Int) := by
  have := usc_core h m m2 s b1 b2 b3 hn 0 1 (by rw [if_neg hc]) (by rw [if_pos (by rw [IntKind.wrap_u64]; omega)])
  rw [show (h : Int) - ((0 : Nat) : Int) = (h : Int) by simp, wrap_nat h b1] at this
  exact this
theorem usc_00 (h m m2 s : Nat) (b1 : h < 18446744073709551616) (b2 : m < 18446744073709551616) (b3 : m2 < 18446744073709551616) (hn : ((h : Int) / 2 ^ s * 2 ^ s != h) = false)
    (hc : ¬ m < m2) (hd : (m : Int) - (m2 : Int) ≤ 1) : bits .or .u64 ((h : Int) / 2 ^ s) 0 = (uscC h m m2 s : Int) := by
  have := usc_core h m m2 s b1 b2 b3 hn 0 0 (by rw [if_neg hc]) (by rw [if_neg (by rw [IntKind.wrap_u64]; omega)])
  rw [show (h : Int) - ((0 : Nat) : Int) = (h : Int) by simp, wrap_nat h b1] at this
  exact this
theorem uscale_any (x hi lo s b : Nat) (w : World) (h : Sc w b hi lo s) (hx : x < 18446744073709551616) (hh : hi < 18446744073709551616) (hl : lo < 18446744073709551616) (hs : s < 64) :
    Calls Tryz.prog 144 #[.int .u64 x, .pointer (some ⟨b, 0, none⟩)] w fun e w' => e = .returned (.int .u64 (uscN x hi lo s)) ∧ ∃ n, w' = w.drewN n := by
  have h0 := h.c0
  have h1 := h.c1
  have h2 := h.c2
  have k63 : bits .and .i64 (s : Int) 63 = (s : Int) := by
    have := bits_mask .i64 63 (by decide) (fun n a b => by rw [IntKind.wrap_i64]; omega) 6 (by decide) (s : Int) (by omega) (by omega)
    rw [show ((2 : Int) ^ 6 - 1) = 63 by decide] at this
    rw [this]; omega
  have M1 := Tryz.bits_Mul64 x hi hx hh w
  have M2 := Tryz.bits_Mul64 x lo hx hl w
  rw [show uscN x hi lo s = uscC (x * hi / 18446744073709551616) (x * hi % 18446744073709551616) (x * lo / 18446744073709551616) s from rfl]
  have b1 : x * hi / 18446744073709551616 < 18446744073709551616 := by
    have : x * hi ≤ 18446744073709551615 * 18446744073709551615 := Nat.mul_le_mul (by omega) (by omega)
    omega
  have b3 : x * lo / 18446744073709551616 < 18446744073709551616 := by
    have : x * lo ≤ 18446744073709551615 * 18446744073709551615 := Nat.mul_le_mul (by omega) (by omega)
    omega
  have b2 : x * hi % 18446744073709551616 < 18446744073709551616 := Nat.mod_lt _ (by decide)
  revert M1 M2 b1 b2 b3
  generalize x * hi / 18446744073709551616 = hh
  generalize x * hi % 18446744073709551616 = m
  generalize x * lo / 18446744073709551616 = m2
  generalize x * lo % 18446744073709551616 = m3
  intro M1 M2 b1 b2 b3
  have kB := back_int hh s b1
  go_enter Tryz.func144, Tryz.ntmps144
  go_wp2_with fail
  refine M1.mono ?_
  rintro e w1 ⟨rfl, rfl⟩
  go_wp2_with fail
  · rename_i hn
    go_ret
    exact ⟨congrArg (fun z => Ending.returned (Value.int .u64 z)) (usc_1 hh m m2 s b1 hn), 0, rfl⟩
  · refine M2.mono ?_
    rintro e w1 ⟨rfl, rfl⟩
    go_wp2_with fail
    refine (bool2u_any _ _).mono ?_
    rintro e w1 ⟨rfl, rfl⟩
    go_wp2_with fail
    · have hn : ((hh : Int) / 2 ^ s * 2 ^ s != hh) = false := by assumption
      have hc := h
      go_quiet ((go_at_call 169; exact Calls.quiet_of_same (bool2u_any _ _)))
      go_wp2_with fail
      · have hd := h
        go_ret
        exact ⟨congrArg (fun z => Ending.returned (Value.int .u64 z)) (usc_11 hh m m2 s b1 b3 b2 hn hc hd), _, rfl⟩
      · have hd := h
        go_ret
        exact ⟨congrArg (fun z => Ending.returned (Value.int .u64 z)) (usc_10 hh m m2 s b1 b3 b2 hn hc hd), _, rfl⟩
    · have hn : ((hh : Int) / 2 ^ s * 2 ^ s != hh) = false := by assumption
      have hc := h
      go_quiet ((go_at_call 169; exact Calls.quiet_of_same (bool2u_any _ _)))
      go_wp2_with fail
      · have hd := h
        go_ret
        exact ⟨congrArg (fun z => Ending.returned (Value.int .u64 z)) (usc_01 hh m m2 s b1 b3 b2 hn hc hd), _, rfl⟩
      · have hd := h
        go_ret
        exact ⟨congrArg (fun z => Ending.returned (Value.int .u64 z)) (usc_00 hh m m2 s b1 b3 b2 hn hc hd), _, rfl⟩
theorem sc_put {w : World} {b : Nat} {v0 v1 v2 : Value} (h0 : w.cell? ⟨b, 0, none⟩ = some v0) (h1 : w.cell? ⟨b, 1, none⟩ = some v1) (h2 : w.cell? ⟨b, 2, none⟩ = some v2) (hf : ∀ j, w.frozen? ⟨b, j, none⟩ = false) (hi lo : Nat) (s : Int) :
    Sc (((w.setCell ⟨b, 0, none⟩ (.int .u64 hi)).setCell ⟨b, 1, none⟩ (.int .u64 lo)).setCell ⟨b, 2, none⟩ (.int .i64 s)) b hi lo s ∧
    Wr (fun j => j = b) w (((w.setCell ⟨b, 0, none⟩ (.int .u64 hi)).setCell ⟨b, 1, none⟩ (.int .u64 lo)).setCell ⟨b, 2, none⟩ (.int .i64 s)) := by
  refine ⟨⟨?_, ?_, ?_, fun j => ?_⟩, ?_⟩
  · rw [World.cell?_setCell_other _ _ _ _ (by simp), World.cell?_setCell_other _ _ _ _ (by simp)]
    exact World.cell?_setCell_same _ _ _ (by rw [h0])
  · rw [World.cell?_setCell_other _ _ _ _ (by simp)]
    exact World.cell?_setCell_same _ _ _ (by rw [World.cell?_setCell_other _ _ _ _ (by simp), h1])
  · exact World.cell?_setCell_same _ _ _ (by rw [World.cell?_setCell_other _ _ _ _ (by simp), World.cell?_setCell_other _ _ _ _ (by simp), h2])
  · rw [World.frozen?_setCell, World.frozen?_setCell, World.frozen?_setCell, hf]
  · exact ((((Wr.refl (fun j => j = b) w).setCell (p := ⟨b, 0, none⟩) (.inl rfl) _).setCell (p := ⟨b, 1, none⟩) (.inl rfl) _).setCell (p := ⟨b, 2, none⟩) (.inl rfl) _)
theorem uscC_lt (h m m2 s : Nat) (b1 : h < 18446744073709551616) : uscC h m m2 s < 18446744073709551616 := by
  unfold uscC
  split
  · exact Nat.or_lt_two_pow (n := 64) (div_pow_lt h s b1) (by decide)
  · exact Nat.or_lt_two_pow (n := 64) (div_pow_lt _ s (Nat.mod_lt _ (by decide))) (bit_lt _)
theorem uscN_lt (x hi lo s : Nat) (hx : x < 18446744073709551616) (hh : hi < 18446744073709551616) : uscN x hi lo s < 18446744073709551616 := by
  refine uscC_lt _ _ _ _ ?_
  have : x * hi ≤ 18446744073709551615 * 18446744073709551615 := Nat.mul_le_mul (by omega) (by omega)
  omega
theorem prescale_any (b : Nat) (e p lp : Int) (hi lo : Nat → Nat) (z0 z1 : Int) (z2 : Int) (w : World) (hb : b ≠ 4) (hT : Pows w hi lo) (h0 : w.cell? ⟨b, 0, none⟩ = some (.int .u64 z0)) (h1 : w.cell? ⟨b, 1, none⟩ = some (.int .u64 z1)) (h2 : w.cell? ⟨b, 2, none⟩ = some (.int .i64 z2)) (hf : ∀ j, w.frozen? ⟨b, j, none⟩ = false)
    (he0 : -4000 ≤ e) (he1 : e ≤ 4000) (hp0 : -348 ≤ p) (hp1 : p < 348) (hl0 : -4000 ≤ lp) (hl1 : lp ≤ 4000) :
    Calls Tryz.prog 142 #[.pointer (some ⟨b, 0, none⟩), .int .i64 e, .int .i64 p, .int .i64 lp] w fun r w' => r = .returned (.tuple #[]) ∧ Sc w' b (hi (p + 348).toNat) (lo (p + 348).toNat) (-(e + lp + 3)) ∧ Wr (fun j => j = b) w w' := by
  obtain ⟨t0, t1, _, _⟩ := hT.h (p + 348).toNat (by omega)
  have f0 := hf 0
  have f1 := hf 1
  have f2 := hf 2
  go_enter Tryz.func142, Tryz.ntmps142
  go_wp2_with fail
  go_end0
  exact ⟨rfl, sc_put h0 h1 h2 hf _ _ _⟩
theorem Pows.below {w w' : World} {hi lo : Nat → Nat} (h : Pows w hi lo) (hB : Below w.heap.size w w') (hg : 4 < w.heap.size) : Pows w' hi lo :=
  ⟨fun p hp => ⟨(hB.cell hg).trans (h.h p hp).1, (hB.cell hg).trans (h.h p hp).2.1, (h.h p hp).2.2⟩⟩
theorem prescale_new (e p lp : Int) (hi lo : Nat → Nat) (w : World) (hT : Pows w hi lo) (hg : 4 < w.heap.size)
    (he0 : -4000 ≤ e) (he1 : e ≤ 4000) (hp0 : -348 ≤ p) (hp1 : p < 348) (hl0 : -4000 ≤ lp) (hl1 : lp ≤ 4000) (S : Nat) (hS : -(e + lp + 3) = (S : Int)) (hS1 : S < 64) :
    Calls Tryz.prog 142 #[.pointer (some ⟨w.heap.size, 0, none⟩), .int .i64 e, .int .i64 p, .int .i64 lp] (w.alloc (.cells #[.int .u64 0, .int .u64 0, .int .i64 0] 187)) fun r w' =>
      r = .returned (.tuple #[]) ∧ Sc w' w.heap.size (hi (p + 348).toNat) (lo (p + 348).toNat) S ∧ Below w.heap.size w w' := by
  have hB : Below w.heap.size w (w.alloc (.cells #[.int .u64 0, .int .u64 0, .int .i64 0] 187)) := (Below.refl _ _).alloc (Nat.le_refl _) _
  refine (prescale_any w.heap.size e p lp hi lo 0 0 0 _ (by omega) (hT.below hB hg) (cell_top _ _ _ _ _ rfl) (cell_top _ _ _ _ _ rfl) (cell_top _ _ _ _ _ rfl) (fun j => World.frozen?_alloc_new _ _ _ _) he0 he1 hp0 hp1 hl0 hl1).mono ?_
  rintro r w' ⟨rfl, HS, HW⟩
  rw [hS] at HS
  exact ⟨rfl, HS, hB.trans (HW.below (by simp) (fun k hk => by omega))⟩
end Go.Proofs.YtbbpngoffpegbaaGreatDoor
