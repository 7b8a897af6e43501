/- The walks of the reference's number, floats, texts; math.Signbit. -/
import Derived.Test.YtbbpngoffpegbaaGreatDoorRLeaf
namespace Go.Proofs.YtbbpngoffpegbaaGreatDoor
open Go.RowKit
set_option linter.unusedVariables false
set_option linter.unusedSimpArgs false
theorem number_any (a b : Bool) (w : World) : Calls Tryz.prog 102 #[.bool a, .bool b] w fun e w' => e = .returned (.int .i8 (numb a b)) ∧ w = w' := by
  cases a <;> cases b
  all_goals
    go_enter Tryz.func102, Tryz.ntmps102
    go_wp2_with fail
    go_ret
    exact ⟨rfl, rfl⟩
theorem bytesLess_cmp : ∀ a b : List UInt8, numb (Op.bytesLess a b) (!Op.bytesLess a b && !(a == b)) = Lib.compareBytes a b
  | [], [] => rfl
  | [], _ :: _ => rfl
  | _ :: _, [] => rfl
  | a :: u, b :: v => by
    have ih := bytesLess_cmp u v
    unfold Op.bytesLess Lib.compareBytes
    by_cases h1 : a < b
    · simp [h1, numb]
    · rw [if_neg h1]
      by_cases h2 : b < a
      · have h3 : (a == b) = false := by
          rw [beq_eq_false_iff_ne]
          rintro rfl
          exact h1 h2
        rw [if_pos h2]
        have h4 : ¬ a = b := by simpa using h3
        simp [h1, h3, h4, numb]
      · have h3 : a = b := by
          simp only [UInt8.lt_iff_toNat_lt] at h1 h2
          exact UInt8.toNat_inj.1 (by omega)
        subst h3
        rw [if_neg h2, ← ih]
        simp
theorem rtexts_any (s t : ByteArray) (w : World) : Calls Tryz.prog 104 #[.string s, .string t] w fun e w' => e = .returned (.int .i8 (ordS s t)) ∧ w = w' := by
  go_enter Tryz.func104, Tryz.ntmps104
  go_wp2_with (go_at_call 102; (with_reducible refine (number_any _ _ _).mono ?_); rintro e w' ⟨rfl, rfl⟩)
  go_ret
  refine ⟨?_, rfl⟩
  show Ending.returned (.int .i8 _) = _
  rw [bytesLess_cmp]
  unfold ordS
  rw [ByteArray.toList_eq, ByteArray.toList_eq]
theorem signbit_any (x : Nat) (hx : x < 18446744073709551616) (w : World) : Calls Tryz.prog 137 #[.float .f64 x] w fun e w' => e = .returned (.bool (sgB x)) ∧ w = w' := by
  have kb := run_bits
  go_enter Tryz.func137, Tryz.ntmps137
  go_wp2_with fail
  go_ret
  refine ⟨rb ?_, rfl⟩
  unfold sgB
  by_cases h : 9223372036854775808 ≤ x
  · rw [decide_eq_true h]
    exact decide_eq_true (by unfold wrap64; omega)
  · rw [decide_eq_false h]
    exact decide_eq_false (by unfold wrap64; omega)
theorem nan_ne {x : Nat} {b : Bool} (h : nanB x = b) : (FloatKind.f64.format.order x x != some .eq) = b := by
  have := fo_self x
  unfold fo at this
  rw [this, h]
  cases b <;> rfl
theorem nan_eq {x : Nat} {b : Bool} (h : nanB x = b) : (FloatKind.f64.format.order x x == some .eq) = !b := by
  have := fo_self x
  unfold fo at this
  rw [this, h]
  cases b <;> rfl
theorem zer_is {x : Nat} {b : Bool} (h : zerB x = b) : (FloatKind.f64.format.order x 0 == some .eq) = b := by
  have := fo_zero x
  unfold fo at this
  rw [h] at this
  cases b
  · rw [beq_eq_false_iff_ne]
    intro e
    exact absurd (this.1 e) (by simp)
  · rw [this.2 rfl]; rfl
theorem zer_ne {x : Nat} {b : Bool} (h : zerB x = b) : (FloatKind.f64.format.order x 0 != some .eq) = !b := by
  rw [bne, zer_is h]
set_option maxHeartbeats 1000000 in
theorem rfloats_any (x y : Nat) (hx : x < 18446744073709551616) (hy : y < 18446744073709551616) (w : World) : Calls Tryz.prog 103 #[.float .f64 x, .float .f64 y] w fun e w' => e = .returned (.int .i8 (ordF x y)) ∧ w = w' := by
  cases h1 : nanB x <;> cases h2 : nanB y <;> cases h3 : zerB x <;> cases h4 : zerB y
  all_goals
    have n1 := nan_ne h1
    have n2 := nan_ne h2
    have n3 := nan_eq h1
    have n4 := nan_eq h2
    have n5 := zer_is h3
    have n6 := zer_is h4
    have H := Lib.hid (And.intro h1 (And.intro h2 (And.intro h3 h4)))
    clear h1 h2 h3 h4
    simp only [Bool.not_true, Bool.not_false] at n3 n4
    go_enter Tryz.func103, Tryz.ntmps103
    go_wp2_with (first | (go_at_call 102; (with_reducible refine (number_any _ _ _).mono ?_); rintro e w' ⟨rfl, rfl⟩) | (go_at_call 137; (with_reducible refine (signbit_any x hx _).mono ?_); rintro e w' ⟨rfl, rfl⟩) | (go_at_call 137; (with_reducible refine (signbit_any y hy _).mono ?_); rintro e w' ⟨rfl, rfl⟩))
    all_goals
      go_ret
      refine ⟨?_, rfl⟩
      obtain ⟨h1, h2, h3, h4⟩ := H.out
      unfold ordF fo
      rw [h1, h2, h3, h4]
      first | rfl | simp [*]
end Go.Proofs.YtbbpngoffpegbaaGreatDoor
