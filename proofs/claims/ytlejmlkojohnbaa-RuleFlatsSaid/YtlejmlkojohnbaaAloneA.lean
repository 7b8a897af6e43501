/- The walk of 'rule.alone', one theorem an Op. -/
import Derived.Test.YtlejmlkojohnbaaOwn
import Derived.WalkLawsBesides
import Derived.WalkSpells
import Derived.Lib.Hide
import Derived.Deep.QuietTactic
import Derived.BigQuiet
namespace Go.Proofs.Ytlejmlkojohnbaa
open Go.RowKit
attribute [local go_sem] run_store_float
theorem size_nil (s : ByteArray) (h : s.toList = []) : s.size = 0 := by
  rw [ByteArray.toList_eq] at h
  have h1 := congrArg List.length h
  simpa using h1
set_option maxRecDepth 100000 in
set_option maxHeartbeats 2000000 in
theorem alone_1 (n m : Int) (x y : Nat) (s : ByteArray) (a : Option Addr) (len cap : Nat) (w : World) (hn1 : n ≤ 9223372036854775807) (hx : x < 18446744073709551616) (hy : y < 18446744073709551616) :
    Calls Try.prog 18 #[.agg #[.int .u8 1, .int .i64 n, .int .i64 m, .float .f64 x, .float .f64 y, .string s, .slice a len cap]] w fun e w' => e = .returned (.bool (okB 1 n m x y s len)) ∧ Below w.heap.size w w' := by
  have kb := run_bits
  have hs0 : Hid (s.toList = [] → s.size = 0) := fun h => size_nil s h
  cases hfl : (x == 0 && y == 0)
  all_goals
    have hor := or_zero x y hx hy _ hfl
    simp only [Bool.not_true, Bool.not_false] at hor
    have HX := Lib.hid hx
    have HY := Lib.hid hy
    have HF := Lib.hid hfl
    have HN := Lib.hid hn1
    clear hx hy hfl hn1
    rcases Nat.eq_zero_or_pos len with hl | hl
    all_goals
      first | (have hd : ((len : Int) == 0) = true := by simp; omega) | (have hd : ((len : Int) == 0) = false := by simp; omega)
      first | (have hp : decide ((0 : Int) < len) = true := by simp; omega) | (have hp : decide ((0 : Int) < len) = false := by simp; omega)
      clear hl
      go_enter Try.func18, Try.ntmps18
      go_wp2_with fail
      go_quiet (fail)
      go_wp2_with (go_at_call 22; refine (btw0_any _ _ _ _ _ _ _ _ _ _).mono ?_; rintro e w2 ⟨rfl, hb2⟩)
      all_goals
        go_ret
        refine ⟨rb ?_, ?_⟩
        · have hfl := HF.out
          have hn1 := HN.out
          have hs1 := hs0.out
          simp_all [okB, zeroB, inB] <;> try omega
        · (repeat (first | exact Below.refl _ _ | refine bnew ?_ _ | refine bdrewN ?_ _ | refine bthen ?_ (by assumption)))
set_option maxRecDepth 100000 in
set_option maxHeartbeats 2000000 in
theorem alone_2 (n m : Int) (x y : Nat) (s : ByteArray) (a : Option Addr) (len cap : Nat) (w : World) (hn1 : n ≤ 9223372036854775807) (hx : x < 18446744073709551616) (hy : y < 18446744073709551616) :
    Calls Try.prog 18 #[.agg #[.int .u8 2, .int .i64 n, .int .i64 m, .float .f64 x, .float .f64 y, .string s, .slice a len cap]] w fun e w' => e = .returned (.bool (okB 2 n m x y s len)) ∧ Below w.heap.size w w' := by
  have kb := run_bits
  have hs0 : Hid (s.toList = [] → s.size = 0) := fun h => size_nil s h
  cases hfl : (x == 0 && y == 0)
  all_goals
    have hor := or_zero x y hx hy _ hfl
    simp only [Bool.not_true, Bool.not_false] at hor
    have HX := Lib.hid hx
    have HY := Lib.hid hy
    have HF := Lib.hid hfl
    have HN := Lib.hid hn1
    clear hx hy hfl hn1
    rcases Nat.eq_zero_or_pos len with hl | hl
    all_goals
      first | (have hd : ((len : Int) == 0) = true := by simp; omega) | (have hd : ((len : Int) == 0) = false := by simp; omega)
      first | (have hp : decide ((0 : Int) < len) = true := by simp; omega) | (have hp : decide ((0 : Int) < len) = false := by simp; omega)
      clear hl
      go_enter Try.func18, Try.ntmps18
      go_wp2_with fail
      go_quiet (fail)
      go_wp2_with (go_at_call 22; refine (btw0_any _ _ _ _ _ _ _ _ _ _).mono ?_; rintro e w2 ⟨rfl, hb2⟩)
      all_goals
        go_ret
        refine ⟨rb ?_, ?_⟩
        · have hfl := HF.out
          have hn1 := HN.out
          have hs1 := hs0.out
          simp_all [okB, zeroB, inB] <;> try omega
        · (repeat (first | exact Below.refl _ _ | refine bnew ?_ _ | refine bdrewN ?_ _ | refine bthen ?_ (by assumption)))
set_option maxRecDepth 100000 in
set_option maxHeartbeats 2000000 in
theorem alone_3 (n m : Int) (x y : Nat) (s : ByteArray) (a : Option Addr) (len cap : Nat) (w : World) (hn1 : n ≤ 9223372036854775807) (hx : x < 18446744073709551616) (hy : y < 18446744073709551616) :
    Calls Try.prog 18 #[.agg #[.int .u8 3, .int .i64 n, .int .i64 m, .float .f64 x, .float .f64 y, .string s, .slice a len cap]] w fun e w' => e = .returned (.bool (okB 3 n m x y s len)) ∧ Below w.heap.size w w' := by
  have kb := run_bits
  have hs0 : Hid (s.toList = [] → s.size = 0) := fun h => size_nil s h
  cases hfl : (x == 0 && y == 0)
  all_goals
    have hor := or_zero x y hx hy _ hfl
    simp only [Bool.not_true, Bool.not_false] at hor
    have HX := Lib.hid hx
    have HY := Lib.hid hy
    have HF := Lib.hid hfl
    have HN := Lib.hid hn1
    clear hx hy hfl hn1
    rcases Nat.eq_zero_or_pos len with hl | hl
    all_goals
      first | (have hd : ((len : Int) == 0) = true := by simp; omega) | (have hd : ((len : Int) == 0) = false := by simp; omega)
      first | (have hp : decide ((0 : Int) < len) = true := by simp; omega) | (have hp : decide ((0 : Int) < len) = false := by simp; omega)
      clear hl
      go_enter Try.func18, Try.ntmps18
      go_wp2_with fail
      go_quiet (fail)
      go_wp2_with (go_at_call 22; refine (btw1_any _ _ _ _ _ _ _ _ _ _).mono ?_; rintro e w2 ⟨rfl, hb2⟩)
      all_goals
        go_ret
        refine ⟨rb ?_, ?_⟩
        · have hfl := HF.out
          have hn1 := HN.out
          have hs1 := hs0.out
          simp_all [okB, zeroB, inB] <;> try omega
        · (repeat (first | exact Below.refl _ _ | refine bnew ?_ _ | refine bdrewN ?_ _ | refine bthen ?_ (by assumption)))
set_option maxRecDepth 100000 in
set_option maxHeartbeats 2000000 in
theorem alone_4 (n m : Int) (x y : Nat) (s : ByteArray) (a : Option Addr) (len cap : Nat) (w : World) (hn1 : n ≤ 9223372036854775807) (hx : x < 18446744073709551616) (hy : y < 18446744073709551616) :
    Calls Try.prog 18 #[.agg #[.int .u8 4, .int .i64 n, .int .i64 m, .float .f64 x, .float .f64 y, .string s, .slice a len cap]] w fun e w' => e = .returned (.bool (okB 4 n m x y s len)) ∧ Below w.heap.size w w' := by
  have kb := run_bits
  have hs0 : Hid (s.toList = [] → s.size = 0) := fun h => size_nil s h
  cases hfl : (x == 0 && y == 0)
  all_goals
    have hor := or_zero x y hx hy _ hfl
    simp only [Bool.not_true, Bool.not_false] at hor
    have HX := Lib.hid hx
    have HY := Lib.hid hy
    have HF := Lib.hid hfl
    have HN := Lib.hid hn1
    clear hx hy hfl hn1
    rcases Nat.eq_zero_or_pos len with hl | hl
    all_goals
      first | (have hd : ((len : Int) == 0) = true := by simp; omega) | (have hd : ((len : Int) == 0) = false := by simp; omega)
      first | (have hp : decide ((0 : Int) < len) = true := by simp; omega) | (have hp : decide ((0 : Int) < len) = false := by simp; omega)
      clear hl
      go_enter Try.func18, Try.ntmps18
      go_wp2_with fail
      go_quiet (fail)
      go_wp2_with (go_at_call 22; refine (btw1_any _ _ _ _ _ _ _ _ _ _).mono ?_; rintro e w2 ⟨rfl, hb2⟩)
      all_goals
        go_ret
        refine ⟨rb ?_, ?_⟩
        · have hfl := HF.out
          have hn1 := HN.out
          have hs1 := hs0.out
          simp_all [okB, zeroB, inB] <;> try omega
        · (repeat (first | exact Below.refl _ _ | refine bnew ?_ _ | refine bdrewN ?_ _ | refine bthen ?_ (by assumption)))
set_option maxRecDepth 100000 in
set_option maxHeartbeats 2000000 in
theorem alone_5 (n m : Int) (x y : Nat) (s : ByteArray) (a : Option Addr) (len cap : Nat) (w : World) (hn1 : n ≤ 9223372036854775807) (hx : x < 18446744073709551616) (hy : y < 18446744073709551616) :
    Calls Try.prog 18 #[.agg #[.int .u8 5, .int .i64 n, .int .i64 m, .float .f64 x, .float .f64 y, .string s, .slice a len cap]] w fun e w' => e = .returned (.bool (okB 5 n m x y s len)) ∧ Below w.heap.size w w' := by
  have kb := run_bits
  have hs0 : Hid (s.toList = [] → s.size = 0) := fun h => size_nil s h
  cases hfl : (x == 0 && y == 0)
  all_goals
    have hor := or_zero x y hx hy _ hfl
    simp only [Bool.not_true, Bool.not_false] at hor
    have HX := Lib.hid hx
    have HY := Lib.hid hy
    have HF := Lib.hid hfl
    have HN := Lib.hid hn1
    clear hx hy hfl hn1
    rcases Nat.eq_zero_or_pos len with hl | hl
    all_goals
      first | (have hd : ((len : Int) == 0) = true := by simp; omega) | (have hd : ((len : Int) == 0) = false := by simp; omega)
      first | (have hp : decide ((0 : Int) < len) = true := by simp; omega) | (have hp : decide ((0 : Int) < len) = false := by simp; omega)
      clear hl
      go_enter Try.func18, Try.ntmps18
      go_wp2_with fail
      go_quiet (fail)
      go_wp2_with (go_at_call 22; refine (btw1_any _ _ _ _ _ _ _ _ _ _).mono ?_; rintro e w2 ⟨rfl, hb2⟩)
      all_goals
        go_ret
        refine ⟨rb ?_, ?_⟩
        · have hfl := HF.out
          have hn1 := HN.out
          have hs1 := hs0.out
          simp_all [okB, zeroB, inB] <;> try omega
        · (repeat (first | exact Below.refl _ _ | refine bnew ?_ _ | refine bdrewN ?_ _ | refine bthen ?_ (by assumption)))
set_option maxRecDepth 100000 in
set_option maxHeartbeats 2000000 in
theorem alone_6 (n m : Int) (x y : Nat) (s : ByteArray) (a : Option Addr) (len cap : Nat) (w : World) (hn1 : n ≤ 9223372036854775807) (hx : x < 18446744073709551616) (hy : y < 18446744073709551616) :
    Calls Try.prog 18 #[.agg #[.int .u8 6, .int .i64 n, .int .i64 m, .float .f64 x, .float .f64 y, .string s, .slice a len cap]] w fun e w' => e = .returned (.bool (okB 6 n m x y s len)) ∧ Below w.heap.size w w' := by
  have kb := run_bits
  have hs0 : Hid (s.toList = [] → s.size = 0) := fun h => size_nil s h
  cases hfl : (x == 0 && y == 0)
  all_goals
    have hor := or_zero x y hx hy _ hfl
    simp only [Bool.not_true, Bool.not_false] at hor
    have HX := Lib.hid hx
    have HY := Lib.hid hy
    have HF := Lib.hid hfl
    have HN := Lib.hid hn1
    clear hx hy hfl hn1
    rcases Nat.eq_zero_or_pos len with hl | hl
    all_goals
      first | (have hd : ((len : Int) == 0) = true := by simp; omega) | (have hd : ((len : Int) == 0) = false := by simp; omega)
      first | (have hp : decide ((0 : Int) < len) = true := by simp; omega) | (have hp : decide ((0 : Int) < len) = false := by simp; omega)
      clear hl
      go_enter Try.func18, Try.ntmps18
      go_wp2_with fail
      go_quiet (fail)
      go_wp2_with (go_at_call 22; refine (btw1_any _ _ _ _ _ _ _ _ _ _).mono ?_; rintro e w2 ⟨rfl, hb2⟩)
      all_goals
        go_ret
        refine ⟨rb ?_, ?_⟩
        · have hfl := HF.out
          have hn1 := HN.out
          have hs1 := hs0.out
          simp_all [okB, zeroB, inB] <;> try omega
        · (repeat (first | exact Below.refl _ _ | refine bnew ?_ _ | refine bdrewN ?_ _ | refine bthen ?_ (by assumption)))
set_option maxRecDepth 100000 in
set_option maxHeartbeats 2000000 in
theorem alone_7 (n m : Int) (x y : Nat) (s : ByteArray) (a : Option Addr) (len cap : Nat) (w : World) (hn1 : n ≤ 9223372036854775807) (hx : x < 18446744073709551616) (hy : y < 18446744073709551616) :
    Calls Try.prog 18 #[.agg #[.int .u8 7, .int .i64 n, .int .i64 m, .float .f64 x, .float .f64 y, .string s, .slice a len cap]] w fun e w' => e = .returned (.bool (okB 7 n m x y s len)) ∧ Below w.heap.size w w' := by
  have kb := run_bits
  have hs0 : Hid (s.toList = [] → s.size = 0) := fun h => size_nil s h
  cases hfl : (x == 0 && y == 0)
  all_goals
    have hor := or_zero x y hx hy _ hfl
    simp only [Bool.not_true, Bool.not_false] at hor
    have HX := Lib.hid hx
    have HY := Lib.hid hy
    have HF := Lib.hid hfl
    have HN := Lib.hid hn1
    clear hx hy hfl hn1
    rcases Nat.eq_zero_or_pos len with hl | hl
    all_goals
      first | (have hd : ((len : Int) == 0) = true := by simp; omega) | (have hd : ((len : Int) == 0) = false := by simp; omega)
      first | (have hp : decide ((0 : Int) < len) = true := by simp; omega) | (have hp : decide ((0 : Int) < len) = false := by simp; omega)
      clear hl
      go_enter Try.func18, Try.ntmps18
      go_wp2_with fail
      go_quiet (fail)
      go_wp2_with (go_at_call 22; refine (btw1_any _ _ _ _ _ _ _ _ _ _).mono ?_; rintro e w2 ⟨rfl, hb2⟩)
      all_goals
        go_ret
        refine ⟨rb ?_, ?_⟩
        · have hfl := HF.out
          have hn1 := HN.out
          have hs1 := hs0.out
          simp_all [okB, zeroB, inB] <;> try omega
        · (repeat (first | exact Below.refl _ _ | refine bnew ?_ _ | refine bdrewN ?_ _ | refine bthen ?_ (by assumption)))
end Go.Proofs.Ytlejmlkojohnbaa
