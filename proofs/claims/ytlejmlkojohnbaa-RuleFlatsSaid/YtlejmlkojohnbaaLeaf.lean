/- The walks of the small functions beneath 'rule.Check' and 'errataref22.May'. -/
import Derived.Test.YtlejmlkojohnbaaRl
import Derived.Test.YtlejmlkojohnbaaProg
import Derived.WalkLawsBesides
import Derived.WalkSpells
import Derived.Lib.Hide
import Derived.Laws.Externs
import Derived.Laws.BitsAllLaws
namespace Go.Proofs.Ytlejmlkojohnbaa
open Go.RowKit
attribute [local go_sem] run_store_float
theorem run_bits (x : Nat) (w : World) : Sem.run Try.prog (callFunc 21 #[.float .f64 x]) w = .ok (.value (.int .u64 x)) w := by
  have h := run_callFunc_extern (P := Try.prog) (f := 21) (fn := Try.f21) (e := Extern.MathFloatBits.float64bits) Try.func21 (by kernel_rfl) (by kernel_rfl) (by kernel_rfl) (by kernel_rfl) #[.float .f64 x] w
  rw [h]; rfl

def inB (a b c : Int) : Bool := decide (b ≤ a) && decide (a ≤ c)
theorem in_any (a b c : Int) (w : World) : Calls Try.prog 20 #[.int .i64 a, .int .i64 b, .int .i64 c] w fun e w' => e = .returned (.bool (inB a b c)) ∧ w = w' := by
  by_cases h1 : b ≤ a
  · by_cases h2 : a ≤ c
    · go_enter Try.func20, Try.ntmps20
      go_wp2_with fail
      go_ret
      exact ⟨rb (by simp [inB, h1, h2]), rfl⟩
    · have d2 : decide (a ≤ c) = false := by simpa using h2
      go_enter Try.func20, Try.ntmps20
      go_wp2_with fail
      go_ret
      exact ⟨rb (by unfold inB; rw [d2]; simp), rfl⟩
  · have d1 : decide (b ≤ a) = false := by simpa using h1
    go_enter Try.func20, Try.ntmps20
    go_wp2_with fail
    go_ret
    exact ⟨rb (by unfold inB; rw [d1]; simp), rfl⟩
theorem fit_any (a b c : Int) (pb pc : Addr) (w : World) (hb : w.cell? pb = some (.int .i64 b)) (hc : w.cell? pc = some (.int .i64 c)) :
    Calls Try.prog 23 #[.int .i64 a, .pointer (some pb), .pointer (some pc)] w fun e w' => e = .returned (.bool (inB a b c)) ∧ w = w' := by
  by_cases h1 : b ≤ a
  · by_cases h2 : a ≤ c
    · go_enter Try.func23, Try.ntmps23
      go_wp2_with fail
      go_ret
      exact ⟨rb (by simp [inB, h1, h2]), rfl⟩
    · have d2 : decide (a ≤ c) = false := by simpa using h2
      go_enter Try.func23, Try.ntmps23
      go_wp2_with fail
      go_ret
      exact ⟨rb (by unfold inB; rw [d2]; simp), rfl⟩
  · have d1 : decide (b ≤ a) = false := by simpa using h1
    go_enter Try.func23, Try.ntmps23
    go_wp2_with fail
    go_ret
    exact ⟨rb (by unfold inB; rw [d1]; simp), rfl⟩

/-- 'zero': are the fields zero that an Op doesn't use? -/
def zeroB (n m : Int) (x y : Nat) (s : ByteArray) (bn bm bx bt : Bool) : Bool := (bn || n == 0) && ((bm || m == 0) && ((bx || (x == 0 && y == 0)) && (bt || s.toList.isEmpty)))
set_option maxHeartbeats 1000000 in
theorem zero_any (op n m : Int) (x y : Nat) (s : ByteArray) (sl : Value) (bn bm bx bt : Bool) (w : World) :
    Calls Try.prog 19 #[.agg #[.int .u8 op, .int .i64 n, .int .i64 m, .float .f64 x, .float .f64 y, .string s, sl], .bool bn, .bool bm, .bool bx, .bool bt] w fun e w' =>
      e = .returned (.bool (zeroB n m x y s bn bm bx bt)) ∧ Below w.heap.size w w' := by
  have kb := run_bits
  go_enter Try.func19, Try.ntmps19
  go_wp2_with fail
  all_goals
    go_ret
    refine ⟨rb ?_, (Below.refl _ _).alloc (Nat.le_refl _) _⟩
    simp [zeroB, *]
set_option maxHeartbeats 1000000 in
theorem btw0_any (op n m lo hi : Int) (x y : Nat) (s : ByteArray) (sl : Value) (w : World) :
    Calls Try.prog 22 #[.agg #[.int .u8 op, .int .i64 n, .int .i64 m, .float .f64 x, .float .f64 y, .string s, sl], .int .i64 lo, .int .i64 hi, .int .i64 0] w fun e w' => e = .returned (.bool (n == 0 && m == 0)) ∧ Below w.heap.size w w' := by
  go_enter Try.func22, Try.ntmps22
  go_wp2_with (go_at_call 23; refine (fit_any _ lo hi _ _ _ ?_ ?_).mono ?_; (simp [go_sem]); (simp [go_sem]); rintro e w' ⟨rfl, rfl⟩)
  all_goals
    go_ret
    refine ⟨rb ?_, bnew (bnew (bnew (Below.refl _ _) _) _) _⟩
    simp [*]
set_option maxHeartbeats 1000000 in
theorem btw1_any (op n m lo hi : Int) (x y : Nat) (s : ByteArray) (sl : Value) (w : World) :
    Calls Try.prog 22 #[.agg #[.int .u8 op, .int .i64 n, .int .i64 m, .float .f64 x, .float .f64 y, .string s, sl], .int .i64 lo, .int .i64 hi, .int .i64 1] w fun e w' => e = .returned (.bool (inB n lo hi && m == 0)) ∧ Below w.heap.size w w' := by
  go_enter Try.func22, Try.ntmps22
  go_wp2_with (go_at_call 23; refine (fit_any _ lo hi _ _ _ ?_ ?_).mono ?_; (simp [go_sem]); (simp [go_sem]); rintro e w' ⟨rfl, rfl⟩)
  all_goals
    go_ret
    refine ⟨rb ?_, bnew (bnew (bnew (Below.refl _ _) _) _) _⟩
    simp [*]
set_option maxHeartbeats 1000000 in
theorem btw2_any (op n m lo hi : Int) (x y : Nat) (s : ByteArray) (sl : Value) (w : World) :
    Calls Try.prog 22 #[.agg #[.int .u8 op, .int .i64 n, .int .i64 m, .float .f64 x, .float .f64 y, .string s, sl], .int .i64 lo, .int .i64 hi, .int .i64 2] w fun e w' => e = .returned (.bool (inB n lo hi && inB m lo hi)) ∧ Below w.heap.size w w' := by
  go_enter Try.func22, Try.ntmps22
  go_wp2_with (go_at_call 23; refine (fit_any _ lo hi _ _ _ ?_ ?_).mono ?_; (simp [go_sem]); (simp [go_sem]); rintro e w' ⟨rfl, rfl⟩)
  all_goals
    go_ret
    refine ⟨rb ?_, bnew (bnew (bnew (Below.refl _ _) _) _) _⟩
    simp [*]
theorem or_zero (x y : Nat) (hx : x < 18446744073709551616) (hy : y < 18446744073709551616) (b : Bool) (h : (x == 0 && y == 0) = b) : (bits .or .u64 (x : Int) (y : Int) != 0) = !b := by
  rw [u64_or_nat x y hx hy, ← h]
  by_cases hk : x = 0 ∧ y = 0
  · obtain ⟨rfl, rfl⟩ := hk
    rfl
  · have h1 : ((x ||| y : Nat) : Int) ≠ 0 := fun e => hk (Nat.or_eq_zero_iff.1 (Int.natCast_eq_zero.1 e))
    have h2 : (x == 0 && y == 0) = false := by
      rw [Bool.and_eq_false_iff]
      by_cases h3 : x = 0
      · exact .inr (beq_eq_false_iff_ne.2 fun h4 => hk ⟨h3, h4⟩)
      · exact .inl (beq_eq_false_iff_ne.2 h3)
    rw [h2, bne_iff_ne.2 h1]
    rfl
end Go.Proofs.Ytlejmlkojohnbaa
