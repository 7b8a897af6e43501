/- The walk of 'rule.alone', one theorem an Op. -/
import Derived.Test.YtlejmlkojohnbaaAloneB
import Derived.WalkLawsBesides
import Derived.WalkSpells
import Derived.Lib.Hide
import Derived.Deep.QuietTactic
import Derived.BigQuiet
namespace Go.Proofs.Ytlejmlkojohnbaa
open Go.RowKit
attribute [local go_sem] run_store_float
set_option maxRecDepth 100000 in
set_option maxHeartbeats 2000000 in
theorem alone_15 (n m : Int) (x y : Nat) (s : ByteArray) (a : Option Addr) (len cap : Nat) (w : World) (hn1 : n ≤ 9223372036854775807) (hx : x < 18446744073709551616) (hy : y < 18446744073709551616) :
    Calls Try.prog 18 #[.agg #[.int .u8 15, .int .i64 n, .int .i64 m, .float .f64 x, .float .f64 y, .string s, .slice a len cap]] w fun e w' => e = .returned (.bool (okB 15 n m x y s len)) ∧ Below w.heap.size w w' := by
  have kb := run_bits
  have hs0 : Hid (s.toList = [] → s.size = 0) := fun h => size_nil s h
  cases hfl : (x == 0 && y == 0)
  all_goals
    have hor := or_zero x y hx hy _ hfl
    simp only [Bool.not_true, Bool.not_false] at hor
    have HX := Lib.hid hx
    have HY := Lib.hid hy
    have HF := Lib.hid hfl
    have HN := Lib.hid hn1
    clear hx hy hfl hn1
    go_enter Try.func18, Try.ntmps18
    go_wp2_with fail
    go_quiet (fail)
    go_wp2_with (go_at_call 22; refine (btw0_any _ _ _ _ _ _ _ _ _ _).mono ?_; rintro e w2 ⟨rfl, hb2⟩)
    all_goals
      go_ret
      refine ⟨rb ?_, ?_⟩
      · have hfl := HF.out
        have hn1 := HN.out
        have hs1 := hs0.out
        simp_all [okB, zeroB, inB] <;> try omega
      · (repeat (first | exact Below.refl _ _ | refine bnew ?_ _ | refine bdrewN ?_ _ | refine bthen ?_ (by assumption)))
set_option maxRecDepth 100000 in
set_option maxHeartbeats 2000000 in
theorem alone_16 (n m : Int) (x y : Nat) (s : ByteArray) (a : Option Addr) (len cap : Nat) (w : World) (hn1 : n ≤ 9223372036854775807) (hx : x < 18446744073709551616) (hy : y < 18446744073709551616) :
    Calls Try.prog 18 #[.agg #[.int .u8 16, .int .i64 n, .int .i64 m, .float .f64 x, .float .f64 y, .string s, .slice a len cap]] w fun e w' => e = .returned (.bool (okB 16 n m x y s len)) ∧ Below w.heap.size w w' := by
  have kb := run_bits
  have hs0 : Hid (s.toList = [] → s.size = 0) := fun h => size_nil s h
  cases hfl : (x == 0 && y == 0)
  all_goals
    have hor := or_zero x y hx hy _ hfl
    simp only [Bool.not_true, Bool.not_false] at hor
    have HX := Lib.hid hx
    have HY := Lib.hid hy
    have HF := Lib.hid hfl
    have HN := Lib.hid hn1
    clear hx hy hfl hn1
    go_enter Try.func18, Try.ntmps18
    go_wp2_with fail
    go_quiet (fail)
    go_wp2_with (go_at_call 22; refine (btw0_any _ _ _ _ _ _ _ _ _ _).mono ?_; rintro e w2 ⟨rfl, hb2⟩)
    all_goals
      go_ret
      refine ⟨rb ?_, ?_⟩
      · have hfl := HF.out
        have hn1 := HN.out
        have hs1 := hs0.out
        simp_all [okB, zeroB, inB] <;> try omega
      · (repeat (first | exact Below.refl _ _ | refine bnew ?_ _ | refine bdrewN ?_ _ | refine bthen ?_ (by assumption)))
set_option maxRecDepth 100000 in
set_option maxHeartbeats 2000000 in
theorem alone_17 (n m : Int) (x y : Nat) (s : ByteArray) (a : Option Addr) (len cap : Nat) (w : World) (hn1 : n ≤ 9223372036854775807) (hx : x < 18446744073709551616) (hy : y < 18446744073709551616) :
    Calls Try.prog 18 #[.agg #[.int .u8 17, .int .i64 n, .int .i64 m, .float .f64 x, .float .f64 y, .string s, .slice a len cap]] w fun e w' => e = .returned (.bool (okB 17 n m x y s len)) ∧ Below w.heap.size w w' := by
  have kb := run_bits
  have hs0 : Hid (s.toList = [] → s.size = 0) := fun h => size_nil s h
  cases hfl : (x == 0 && y == 0)
  all_goals
    have hor := or_zero x y hx hy _ hfl
    simp only [Bool.not_true, Bool.not_false] at hor
    have HX := Lib.hid hx
    have HY := Lib.hid hy
    have HF := Lib.hid hfl
    have HN := Lib.hid hn1
    clear hx hy hfl hn1
    cases hd : ((len : Int) == 3)
    all_goals
      go_enter Try.func18, Try.ntmps18
      go_wp2_with fail
      go_quiet (fail)
      go_wp2_with (go_at_call 22; refine (btw0_any _ _ _ _ _ _ _ _ _ _).mono ?_; rintro e w2 ⟨rfl, hb2⟩)
      all_goals
        go_ret
        refine ⟨rb ?_, ?_⟩
        · have hfl := HF.out
          have hn1 := HN.out
          have hs1 := hs0.out
          simp_all [okB, zeroB, inB] <;> try omega
        · (repeat (first | exact Below.refl _ _ | refine bnew ?_ _ | refine bdrewN ?_ _ | refine bthen ?_ (by assumption)))
set_option maxRecDepth 100000 in
set_option maxHeartbeats 2000000 in
theorem alone_18 (n m : Int) (x y : Nat) (s : ByteArray) (a : Option Addr) (len cap : Nat) (w : World) (hn1 : n ≤ 9223372036854775807) (hx : x < 18446744073709551616) (hy : y < 18446744073709551616) :
    Calls Try.prog 18 #[.agg #[.int .u8 18, .int .i64 n, .int .i64 m, .float .f64 x, .float .f64 y, .string s, .slice a len cap]] w fun e w' => e = .returned (.bool (okB 18 n m x y s len)) ∧ Below w.heap.size w w' := by
  have kb := run_bits
  have hs0 : Hid (s.toList = [] → s.size = 0) := fun h => size_nil s h
  cases hfl : (x == 0 && y == 0)
  all_goals
    have hor := or_zero x y hx hy _ hfl
    simp only [Bool.not_true, Bool.not_false] at hor
    have HX := Lib.hid hx
    have HY := Lib.hid hy
    have HF := Lib.hid hfl
    have HN := Lib.hid hn1
    clear hx hy hfl hn1
    cases hd : ((len : Int) == 1)
    all_goals
      go_enter Try.func18, Try.ntmps18
      go_wp2_with fail
      go_quiet (fail)
      go_wp2_with (go_at_call 22; refine (btw0_any _ _ _ _ _ _ _ _ _ _).mono ?_; rintro e w2 ⟨rfl, hb2⟩)
      all_goals
        go_ret
        refine ⟨rb ?_, ?_⟩
        · have hfl := HF.out
          have hn1 := HN.out
          have hs1 := hs0.out
          simp_all [okB, zeroB, inB] <;> try omega
        · (repeat (first | exact Below.refl _ _ | refine bnew ?_ _ | refine bdrewN ?_ _ | refine bthen ?_ (by assumption)))
set_option maxRecDepth 100000 in
set_option maxHeartbeats 2000000 in
theorem alone_19 (n m : Int) (x y : Nat) (s : ByteArray) (a : Option Addr) (len cap : Nat) (w : World) (hn1 : n ≤ 9223372036854775807) (hx : x < 18446744073709551616) (hy : y < 18446744073709551616) :
    Calls Try.prog 18 #[.agg #[.int .u8 19, .int .i64 n, .int .i64 m, .float .f64 x, .float .f64 y, .string s, .slice a len cap]] w fun e w' => e = .returned (.bool (okB 19 n m x y s len)) ∧ Below w.heap.size w w' := by
  have kb := run_bits
  have hs0 : Hid (s.toList = [] → s.size = 0) := fun h => size_nil s h
  cases hfl : (x == 0 && y == 0)
  all_goals
    have hor := or_zero x y hx hy _ hfl
    simp only [Bool.not_true, Bool.not_false] at hor
    have HX := Lib.hid hx
    have HY := Lib.hid hy
    have HF := Lib.hid hfl
    have HN := Lib.hid hn1
    clear hx hy hfl hn1
    cases hd : ((len : Int) == 1)
    all_goals
      go_enter Try.func18, Try.ntmps18
      go_wp2_with fail
      go_quiet (fail)
      go_wp2_with (go_at_call 22; refine (btw0_any _ _ _ _ _ _ _ _ _ _).mono ?_; rintro e w2 ⟨rfl, hb2⟩)
      all_goals
        go_ret
        refine ⟨rb ?_, ?_⟩
        · have hfl := HF.out
          have hn1 := HN.out
          have hs1 := hs0.out
          simp_all [okB, zeroB, inB] <;> try omega
        · (repeat (first | exact Below.refl _ _ | refine bnew ?_ _ | refine bdrewN ?_ _ | refine bthen ?_ (by assumption)))
set_option maxRecDepth 100000 in
set_option maxHeartbeats 2000000 in
theorem alone_20 (n m : Int) (x y : Nat) (s : ByteArray) (a : Option Addr) (len cap : Nat) (w : World) (hn1 : n ≤ 9223372036854775807) (hx : x < 18446744073709551616) (hy : y < 18446744073709551616) :
    Calls Try.prog 18 #[.agg #[.int .u8 20, .int .i64 n, .int .i64 m, .float .f64 x, .float .f64 y, .string s, .slice a len cap]] w fun e w' => e = .returned (.bool (okB 20 n m x y s len)) ∧ Below w.heap.size w w' := by
  have kb := run_bits
  have hs0 : Hid (s.toList = [] → s.size = 0) := fun h => size_nil s h
  cases hfl : (x == 0 && y == 0)
  all_goals
    have hor := or_zero x y hx hy _ hfl
    simp only [Bool.not_true, Bool.not_false] at hor
    have HX := Lib.hid hx
    have HY := Lib.hid hy
    have HF := Lib.hid hfl
    have HN := Lib.hid hn1
    clear hx hy hfl hn1
    cases hd : ((len : Int) == 1)
    all_goals
      go_enter Try.func18, Try.ntmps18
      go_wp2_with fail
      go_quiet (fail)
      go_wp2_with (go_at_call 22; refine (btw0_any _ _ _ _ _ _ _ _ _ _).mono ?_; rintro e w2 ⟨rfl, hb2⟩)
      all_goals
        go_ret
        refine ⟨rb ?_, ?_⟩
        · have hfl := HF.out
          have hn1 := HN.out
          have hs1 := hs0.out
          simp_all [okB, zeroB, inB] <;> try omega
        · (repeat (first | exact Below.refl _ _ | refine bnew ?_ _ | refine bdrewN ?_ _ | refine bthen ?_ (by assumption)))
set_option maxRecDepth 100000 in
set_option maxHeartbeats 2000000 in
theorem alone_none (op n m : Int) (x y : Nat) (s : ByteArray) (a : Option Addr) (len cap : Nat) (w : World) (h1 : (op == 1) = false) (h2 : (op == 2) = false) (h3 : (op == 3) = false) (h4 : (op == 4) = false) (h5 : (op == 5) = false) (h6 : (op == 6) = false) (h7 : (op == 7) = false) (h8 : (op == 8) = false) (h9 : (op == 9) = false) (h10 : (op == 10) = false) (h11 : (op == 11) = false) (h12 : (op == 12) = false) (h13 : (op == 13) = false) (h14 : (op == 14) = false) (h15 : (op == 15) = false) (h16 : (op == 16) = false) (h17 : (op == 17) = false) (h18 : (op == 18) = false) (h19 : (op == 19) = false) (h20 : (op == 20) = false) :
    Calls Try.prog 18 #[.agg #[.int .u8 op, .int .i64 n, .int .i64 m, .float .f64 x, .float .f64 y, .string s, .slice a len cap]] w fun e w' => e = .returned (.bool (okB op n m x y s len)) ∧ Below w.heap.size w w' := by
  have hf : okB op n m x y s len = false := by
    simp only [beq_eq_false_iff_ne, ne_eq] at *
    simp [okB, *]
  have HF := Lib.hid hf
  clear hf
  have n10 : (op != 10) = true := by simpa using h10
  have n12 : (op != 12) = true := by simpa using h12
  have kb := run_bits
  go_enter Try.func18, Try.ntmps18
  go_wp2_with fail
  go_quiet (fail)
  go_wp2_with fail
  all_goals
    go_ret
    refine ⟨rb HF.out.symm, ?_⟩
    (repeat (first | exact Below.refl _ _ | refine bnew ?_ _ | refine bdrewN ?_ _ | refine bthen ?_ (by assumption)))
theorem alone_any (op n m : Int) (x y : Nat) (s : ByteArray) (a : Option Addr) (len cap : Nat) (w : World) (hn1 : n ≤ 9223372036854775807) (hx : x < 18446744073709551616) (hy : y < 18446744073709551616) :
    Calls Try.prog 18 #[.agg #[.int .u8 op, .int .i64 n, .int .i64 m, .float .f64 x, .float .f64 y, .string s, .slice a len cap]] w fun e w' => e = .returned (.bool (okB op n m x y s len)) ∧ Below w.heap.size w w' := by
  by_cases h1 : op = 1
  · subst h1; exact alone_1 n m x y s a len cap w hn1 hx hy
  by_cases h2 : op = 2
  · subst h2; exact alone_2 n m x y s a len cap w hn1 hx hy
  by_cases h3 : op = 3
  · subst h3; exact alone_3 n m x y s a len cap w hn1 hx hy
  by_cases h4 : op = 4
  · subst h4; exact alone_4 n m x y s a len cap w hn1 hx hy
  by_cases h5 : op = 5
  · subst h5; exact alone_5 n m x y s a len cap w hn1 hx hy
  by_cases h6 : op = 6
  · subst h6; exact alone_6 n m x y s a len cap w hn1 hx hy
  by_cases h7 : op = 7
  · subst h7; exact alone_7 n m x y s a len cap w hn1 hx hy
  by_cases h8 : op = 8
  · subst h8; exact alone_8 n m x y s a len cap w hn1 hx hy
  by_cases h9 : op = 9
  · subst h9; exact alone_9 n m x y s a len cap w hn1 hx hy
  by_cases h10 : op = 10
  · subst h10; exact alone_10 n m x y s a len cap w hn1 hx hy
  by_cases h11 : op = 11
  · subst h11; exact alone_11 n m x y s a len cap w hn1 hx hy
  by_cases h12 : op = 12
  · subst h12; exact alone_12 n m x y s a len cap w hn1 hx hy
  by_cases h13 : op = 13
  · subst h13; exact alone_13 n m x y s a len cap w hn1 hx hy
  by_cases h14 : op = 14
  · subst h14; exact alone_14 n m x y s a len cap w hn1 hx hy
  by_cases h15 : op = 15
  · subst h15; exact alone_15 n m x y s a len cap w hn1 hx hy
  by_cases h16 : op = 16
  · subst h16; exact alone_16 n m x y s a len cap w hn1 hx hy
  by_cases h17 : op = 17
  · subst h17; exact alone_17 n m x y s a len cap w hn1 hx hy
  by_cases h18 : op = 18
  · subst h18; exact alone_18 n m x y s a len cap w hn1 hx hy
  by_cases h19 : op = 19
  · subst h19; exact alone_19 n m x y s a len cap w hn1 hx hy
  by_cases h20 : op = 20
  · subst h20; exact alone_20 n m x y s a len cap w hn1 hx hy
  exact alone_none op n m x y s a len cap w (beq_eq_false_iff_ne.2 h1) (beq_eq_false_iff_ne.2 h2) (beq_eq_false_iff_ne.2 h3) (beq_eq_false_iff_ne.2 h4) (beq_eq_false_iff_ne.2 h5) (beq_eq_false_iff_ne.2 h6) (beq_eq_false_iff_ne.2 h7) (beq_eq_false_iff_ne.2 h8) (beq_eq_false_iff_ne.2 h9) (beq_eq_false_iff_ne.2 h10) (beq_eq_false_iff_ne.2 h11) (beq_eq_false_iff_ne.2 h12) (beq_eq_false_iff_ne.2 h13) (beq_eq_false_iff_ne.2 h14) (beq_eq_false_iff_ne.2 h15) (beq_eq_false_iff_ne.2 h16) (beq_eq_false_iff_ne.2 h17) (beq_eq_false_iff_ne.2 h18) (beq_eq_false_iff_ne.2 h19) (beq_eq_false_iff_ne.2 h20)
end Go.Proofs.Ytlejmlkojohnbaa
