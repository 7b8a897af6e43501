/- The walk of 'errataref22.own', one theorem an Op. -/
import Derived.Test.YtlejmlkojohnbaaLeaf
import Derived.WalkLawsBesides
import Derived.WalkSpells
import Derived.Lib.Hide
import Derived.Deep.QuietTactic
import Derived.BigQuiet
namespace Go.Proofs.Ytlejmlkojohnbaa
open Go.RowKit
attribute [local go_sem] run_store_float
/-- Is a rule as said, but for the rules within? -/
def okB (op n m : Int) (x y : Nat) (s : ByteArray) (len : Int) : Bool :=
  if op = 1 then (len == 0) && zeroB n m x y s false false false false
  else if op = 2 then (len == 0) && zeroB n m x y s false false false false
  else if op = 3 then (len == 0) && (decide (0 ≤ n) && zeroB n m x y s true false false false)
  else if op = 4 then (len == 0) && (inB n 1 26 && zeroB n m x y s true false false false)
  else if op = 5 then (len == 0) && (inB n 1 19 && zeroB n m x y s true false false false)
  else if op = 6 then (len == 0) && (inB n 0 26 && zeroB n m x y s true false false false)
  else if op = 7 then (len == 0) && (inB n 1 19 && zeroB n m x y s true false false false)
  else if op = 8 then (len == 0) && (inB n (-32768) 32767 && (inB m (-32768) 32767 && zeroB n m x y s true true false false))
  else if op = 9 then (len == 0) && (inB n (-128) 127 && (inB m (-128) 127 && zeroB n m x y s true true false false))
  else if op = 10 then (len == 0) && zeroB n m x y s false false true false
  else if op = 11 then (len == 0) && zeroB n m x y s false false false false
  else if op = 12 then (len == 0) && (decide ((s.size : Int) ≤ 4096) && zeroB n m x y s false false false true)
  else if op = 13 then (len == 0) && (inB n 0 64 && (inB m 0 64 && zeroB n m x y s true true false false))
  else if op = 14 then (len == 1) && zeroB n m x y s false false false false
  else if op = 15 then zeroB n m x y s false false false false
  else if op = 16 then zeroB n m x y s false false false false
  else if op = 17 then (len == 3) && zeroB n m x y s false false false false
  else if op = 18 then (len == 1) && zeroB n m x y s false false false false
  else if op = 19 then (len == 1) && zeroB n m x y s false false false false
  else if op = 20 then (len == 1) && zeroB n m x y s false false false false
  else false
set_option maxRecDepth 100000 in
set_option maxHeartbeats 1000000 in
theorem own_1 (n m : Int) (x y : Nat) (s : ByteArray) (a : Option Addr) (len cap : Nat) (w : World) :
    Calls Try.prog 17 #[.agg #[.int .u8 1, .int .i64 n, .int .i64 m, .float .f64 x, .float .f64 y, .string s, .slice a len cap]] w fun e w' => e = .returned (.bool (okB 1 n m x y s len)) ∧ Below w.heap.size w w' := by
  cases hl : ((len : Int) == 0)
  all_goals
    go_enter Try.func17, Try.ntmps17
    go_wp2_with (first | (go_at_call 20; refine (in_any _ _ _ _).mono ?_; rintro e w1 ⟨rfl, rfl⟩) | (go_at_call 19; refine (zero_any _ _ _ _ _ _ _ _ _ _ _ _).mono ?_; rintro e w2 ⟨rfl, hb2⟩))
    all_goals
      go_ret
      refine ⟨rb ?_, ?_⟩
      · simp [okB, *] <;> try omega
      · (repeat (first | exact Below.refl _ _ | refine bnew ?_ _ | refine bdrewN ?_ _ | refine bthen ?_ (by assumption)))
set_option maxRecDepth 100000 in
set_option maxHeartbeats 1000000 in
theorem own_2 (n m : Int) (x y : Nat) (s : ByteArray) (a : Option Addr) (len cap : Nat) (w : World) :
    Calls Try.prog 17 #[.agg #[.int .u8 2, .int .i64 n, .int .i64 m, .float .f64 x, .float .f64 y, .string s, .slice a len cap]] w fun e w' => e = .returned (.bool (okB 2 n m x y s len)) ∧ Below w.heap.size w w' := by
  cases hl : ((len : Int) == 0)
  all_goals
    go_enter Try.func17, Try.ntmps17
    go_wp2_with (first | (go_at_call 20; refine (in_any _ _ _ _).mono ?_; rintro e w1 ⟨rfl, rfl⟩) | (go_at_call 19; refine (zero_any _ _ _ _ _ _ _ _ _ _ _ _).mono ?_; rintro e w2 ⟨rfl, hb2⟩))
    all_goals
      go_ret
      refine ⟨rb ?_, ?_⟩
      · simp [okB, *] <;> try omega
      · (repeat (first | exact Below.refl _ _ | refine bnew ?_ _ | refine bdrewN ?_ _ | refine bthen ?_ (by assumption)))
set_option maxRecDepth 100000 in
set_option maxHeartbeats 1000000 in
theorem own_3 (n m : Int) (x y : Nat) (s : ByteArray) (a : Option Addr) (len cap : Nat) (w : World) :
    Calls Try.prog 17 #[.agg #[.int .u8 3, .int .i64 n, .int .i64 m, .float .f64 x, .float .f64 y, .string s, .slice a len cap]] w fun e w' => e = .returned (.bool (okB 3 n m x y s len)) ∧ Below w.heap.size w w' := by
  cases hl : ((len : Int) == 0)
  all_goals
    by_cases hn : 0 ≤ n
    all_goals
      go_enter Try.func17, Try.ntmps17
      go_wp2_with (first | (go_at_call 20; refine (in_any _ _ _ _).mono ?_; rintro e w1 ⟨rfl, rfl⟩) | (go_at_call 19; refine (zero_any _ _ _ _ _ _ _ _ _ _ _ _).mono ?_; rintro e w2 ⟨rfl, hb2⟩))
      all_goals
        go_ret
        refine ⟨rb ?_, ?_⟩
        · simp [okB, *] <;> try omega
        · (repeat (first | exact Below.refl _ _ | refine bnew ?_ _ | refine bdrewN ?_ _ | refine bthen ?_ (by assumption)))
set_option maxRecDepth 100000 in
set_option maxHeartbeats 1000000 in
theorem own_4 (n m : Int) (x y : Nat) (s : ByteArray) (a : Option Addr) (len cap : Nat) (w : World) :
    Calls Try.prog 17 #[.agg #[.int .u8 4, .int .i64 n, .int .i64 m, .float .f64 x, .float .f64 y, .string s, .slice a len cap]] w fun e w' => e = .returned (.bool (okB 4 n m x y s len)) ∧ Below w.heap.size w w' := by
  cases hl : ((len : Int) == 0)
  all_goals
    go_enter Try.func17, Try.ntmps17
    go_wp2_with (first | (go_at_call 20; refine (in_any _ _ _ _).mono ?_; rintro e w1 ⟨rfl, rfl⟩) | (go_at_call 19; refine (zero_any _ _ _ _ _ _ _ _ _ _ _ _).mono ?_; rintro e w2 ⟨rfl, hb2⟩))
    all_goals
      go_ret
      refine ⟨rb ?_, ?_⟩
      · simp [okB, *] <;> try omega
      · (repeat (first | exact Below.refl _ _ | refine bnew ?_ _ | refine bdrewN ?_ _ | refine bthen ?_ (by assumption)))
set_option maxRecDepth 100000 in
set_option maxHeartbeats 1000000 in
theorem own_5 (n m : Int) (x y : Nat) (s : ByteArray) (a : Option Addr) (len cap : Nat) (w : World) :
    Calls Try.prog 17 #[.agg #[.int .u8 5, .int .i64 n, .int .i64 m, .float .f64 x, .float .f64 y, .string s, .slice a len cap]] w fun e w' => e = .returned (.bool (okB 5 n m x y s len)) ∧ Below w.heap.size w w' := by
  cases hl : ((len : Int) == 0)
  all_goals
    go_enter Try.func17, Try.ntmps17
    go_wp2_with (first | (go_at_call 20; refine (in_any _ _ _ _).mono ?_; rintro e w1 ⟨rfl, rfl⟩) | (go_at_call 19; refine (zero_any _ _ _ _ _ _ _ _ _ _ _ _).mono ?_; rintro e w2 ⟨rfl, hb2⟩))
    all_goals
      go_ret
      refine ⟨rb ?_, ?_⟩
      · simp [okB, *] <;> try omega
      · (repeat (first | exact Below.refl _ _ | refine bnew ?_ _ | refine bdrewN ?_ _ | refine bthen ?_ (by assumption)))
set_option maxRecDepth 100000 in
set_option maxHeartbeats 1000000 in
theorem own_6 (n m : Int) (x y : Nat) (s : ByteArray) (a : Option Addr) (len cap : Nat) (w : World) :
    Calls Try.prog 17 #[.agg #[.int .u8 6, .int .i64 n, .int .i64 m, .float .f64 x, .float .f64 y, .string s, .slice a len cap]] w fun e w' => e = .returned (.bool (okB 6 n m x y s len)) ∧ Below w.heap.size w w' := by
  cases hl : ((len : Int) == 0)
  all_goals
    go_enter Try.func17, Try.ntmps17
    go_wp2_with (first | (go_at_call 20; refine (in_any _ _ _ _).mono ?_; rintro e w1 ⟨rfl, rfl⟩) | (go_at_call 19; refine (zero_any _ _ _ _ _ _ _ _ _ _ _ _).mono ?_; rintro e w2 ⟨rfl, hb2⟩))
    all_goals
      go_ret
      refine ⟨rb ?_, ?_⟩
      · simp [okB, *] <;> try omega
      · (repeat (first | exact Below.refl _ _ | refine bnew ?_ _ | refine bdrewN ?_ _ | refine bthen ?_ (by assumption)))
set_option maxRecDepth 100000 in
set_option maxHeartbeats 1000000 in
theorem own_7 (n m : Int) (x y : Nat) (s : ByteArray) (a : Option Addr) (len cap : Nat) (w : World) :
    Calls Try.prog 17 #[.agg #[.int .u8 7, .int .i64 n, .int .i64 m, .float .f64 x, .float .f64 y, .string s, .slice a len cap]] w fun e w' => e = .returned (.bool (okB 7 n m x y s len)) ∧ Below w.heap.size w w' := by
  cases hl : ((len : Int) == 0)
  all_goals
    go_enter Try.func17, Try.ntmps17
    go_wp2_with (first | (go_at_call 20; refine (in_any _ _ _ _).mono ?_; rintro e w1 ⟨rfl, rfl⟩) | (go_at_call 19; refine (zero_any _ _ _ _ _ _ _ _ _ _ _ _).mono ?_; rintro e w2 ⟨rfl, hb2⟩))
    all_goals
      go_ret
      refine ⟨rb ?_, ?_⟩
      · simp [okB, *] <;> try omega
      · (repeat (first | exact Below.refl _ _ | refine bnew ?_ _ | refine bdrewN ?_ _ | refine bthen ?_ (by assumption)))
set_option maxRecDepth 100000 in
set_option maxHeartbeats 1000000 in
theorem own_8 (n m : Int) (x y : Nat) (s : ByteArray) (a : Option Addr) (len cap : Nat) (w : World) :
    Calls Try.prog 17 #[.agg #[.int .u8 8, .int .i64 n, .int .i64 m, .float .f64 x, .float .f64 y, .string s, .slice a len cap]] w fun e w' => e = .returned (.bool (okB 8 n m x y s len)) ∧ Below w.heap.size w w' := by
  cases hl : ((len : Int) == 0)
  all_goals
    go_enter Try.func17, Try.ntmps17
    go_wp2_with (first | (go_at_call 20; refine (in_any _ _ _ _).mono ?_; rintro e w1 ⟨rfl, rfl⟩) | (go_at_call 19; refine (zero_any _ _ _ _ _ _ _ _ _ _ _ _).mono ?_; rintro e w2 ⟨rfl, hb2⟩))
    all_goals
      go_ret
      refine ⟨rb ?_, ?_⟩
      · simp [okB, *] <;> try omega
      · (repeat (first | exact Below.refl _ _ | refine bnew ?_ _ | refine bdrewN ?_ _ | refine bthen ?_ (by assumption)))
set_option maxRecDepth 100000 in
set_option maxHeartbeats 1000000 in
theorem own_9 (n m : Int) (x y : Nat) (s : ByteArray) (a : Option Addr) (len cap : Nat) (w : World) :
    Calls Try.prog 17 #[.agg #[.int .u8 9, .int .i64 n, .int .i64 m, .float .f64 x, .float .f64 y, .string s, .slice a len cap]] w fun e w' => e = .returned (.bool (okB 9 n m x y s len)) ∧ Below w.heap.size w w' := by
  cases hl : ((len : Int) == 0)
  all_goals
    go_enter Try.func17, Try.ntmps17
    go_wp2_with (first | (go_at_call 20; refine (in_any _ _ _ _).mono ?_; rintro e w1 ⟨rfl, rfl⟩) | (go_at_call 19; refine (zero_any _ _ _ _ _ _ _ _ _ _ _ _).mono ?_; rintro e w2 ⟨rfl, hb2⟩))
    all_goals
      go_ret
      refine ⟨rb ?_, ?_⟩
      · simp [okB, *] <;> try omega
      · (repeat (first | exact Below.refl _ _ | refine bnew ?_ _ | refine bdrewN ?_ _ | refine bthen ?_ (by assumption)))
set_option maxRecDepth 100000 in
set_option maxHeartbeats 1000000 in
theorem own_10 (n m : Int) (x y : Nat) (s : ByteArray) (a : Option Addr) (len cap : Nat) (w : World) :
    Calls Try.prog 17 #[.agg #[.int .u8 10, .int .i64 n, .int .i64 m, .float .f64 x, .float .f64 y, .string s, .slice a len cap]] w fun e w' => e = .returned (.bool (okB 10 n m x y s len)) ∧ Below w.heap.size w w' := by
  cases hl : ((len : Int) == 0)
  all_goals
    go_enter Try.func17, Try.ntmps17
    go_wp2_with (first | (go_at_call 20; refine (in_any _ _ _ _).mono ?_; rintro e w1 ⟨rfl, rfl⟩) | (go_at_call 19; refine (zero_any _ _ _ _ _ _ _ _ _ _ _ _).mono ?_; rintro e w2 ⟨rfl, hb2⟩))
    all_goals
      go_ret
      refine ⟨rb ?_, ?_⟩
      · simp [okB, *] <;> try omega
      · (repeat (first | exact Below.refl _ _ | refine bnew ?_ _ | refine bdrewN ?_ _ | refine bthen ?_ (by assumption)))
set_option maxRecDepth 100000 in
set_option maxHeartbeats 1000000 in
theorem own_11 (n m : Int) (x y : Nat) (s : ByteArray) (a : Option Addr) (len cap : Nat) (w : World) :
    Calls Try.prog 17 #[.agg #[.int .u8 11, .int .i64 n, .int .i64 m, .float .f64 x, .float .f64 y, .string s, .slice a len cap]] w fun e w' => e = .returned (.bool (okB 11 n m x y s len)) ∧ Below w.heap.size w w' := by
  cases hl : ((len : Int) == 0)
  all_goals
    go_enter Try.func17, Try.ntmps17
    go_wp2_with (first | (go_at_call 20; refine (in_any _ _ _ _).mono ?_; rintro e w1 ⟨rfl, rfl⟩) | (go_at_call 19; refine (zero_any _ _ _ _ _ _ _ _ _ _ _ _).mono ?_; rintro e w2 ⟨rfl, hb2⟩))
    all_goals
      go_ret
      refine ⟨rb ?_, ?_⟩
      · simp [okB, *] <;> try omega
      · (repeat (first | exact Below.refl _ _ | refine bnew ?_ _ | refine bdrewN ?_ _ | refine bthen ?_ (by assumption)))
set_option maxRecDepth 100000 in
set_option maxHeartbeats 1000000 in
theorem own_12 (n m : Int) (x y : Nat) (s : ByteArray) (a : Option Addr) (len cap : Nat) (w : World) :
    Calls Try.prog 17 #[.agg #[.int .u8 12, .int .i64 n, .int .i64 m, .float .f64 x, .float .f64 y, .string s, .slice a len cap]] w fun e w' => e = .returned (.bool (okB 12 n m x y s len)) ∧ Below w.heap.size w w' := by
  cases hl : ((len : Int) == 0)
  all_goals
    go_enter Try.func17, Try.ntmps17
    go_wp2_with (first | (go_at_call 20; refine (in_any _ _ _ _).mono ?_; rintro e w1 ⟨rfl, rfl⟩) | (go_at_call 19; refine (zero_any _ _ _ _ _ _ _ _ _ _ _ _).mono ?_; rintro e w2 ⟨rfl, hb2⟩))
    all_goals
      go_ret
      refine ⟨rb ?_, ?_⟩
      · simp [okB, *] <;> try omega
      · (repeat (first | exact Below.refl _ _ | refine bnew ?_ _ | refine bdrewN ?_ _ | refine bthen ?_ (by assumption)))
set_option maxRecDepth 100000 in
set_option maxHeartbeats 1000000 in
theorem own_13 (n m : Int) (x y : Nat) (s : ByteArray) (a : Option Addr) (len cap : Nat) (w : World) :
    Calls Try.prog 17 #[.agg #[.int .u8 13, .int .i64 n, .int .i64 m, .float .f64 x, .float .f64 y, .string s, .slice a len cap]] w fun e w' => e = .returned (.bool (okB 13 n m x y s len)) ∧ Below w.heap.size w w' := by
  cases hl : ((len : Int) == 0)
  all_goals
    go_enter Try.func17, Try.ntmps17
    go_wp2_with (first | (go_at_call 20; refine (in_any _ _ _ _).mono ?_; rintro e w1 ⟨rfl, rfl⟩) | (go_at_call 19; refine (zero_any _ _ _ _ _ _ _ _ _ _ _ _).mono ?_; rintro e w2 ⟨rfl, hb2⟩))
    all_goals
      go_ret
      refine ⟨rb ?_, ?_⟩
      · simp [okB, *] <;> try omega
      · (repeat (first | exact Below.refl _ _ | refine bnew ?_ _ | refine bdrewN ?_ _ | refine bthen ?_ (by assumption)))
set_option maxRecDepth 100000 in
set_option maxHeartbeats 1000000 in
theorem own_14 (n m : Int) (x y : Nat) (s : ByteArray) (a : Option Addr) (len cap : Nat) (w : World) :
    Calls Try.prog 17 #[.agg #[.int .u8 14, .int .i64 n, .int .i64 m, .float .f64 x, .float .f64 y, .string s, .slice a len cap]] w fun e w' => e = .returned (.bool (okB 14 n m x y s len)) ∧ Below w.heap.size w w' := by
  cases hl : ((len : Int) == 1)
  all_goals
    go_enter Try.func17, Try.ntmps17
    go_wp2_with (first | (go_at_call 20; refine (in_any _ _ _ _).mono ?_; rintro e w1 ⟨rfl, rfl⟩) | (go_at_call 19; refine (zero_any _ _ _ _ _ _ _ _ _ _ _ _).mono ?_; rintro e w2 ⟨rfl, hb2⟩))
    all_goals
      go_ret
      refine ⟨rb ?_, ?_⟩
      · simp [okB, *] <;> try omega
      · (repeat (first | exact Below.refl _ _ | refine bnew ?_ _ | refine bdrewN ?_ _ | refine bthen ?_ (by assumption)))
set_option maxRecDepth 100000 in
set_option maxHeartbeats 1000000 in
theorem own_15 (n m : Int) (x y : Nat) (s : ByteArray) (a : Option Addr) (len cap : Nat) (w : World) :
    Calls Try.prog 17 #[.agg #[.int .u8 15, .int .i64 n, .int .i64 m, .float .f64 x, .float .f64 y, .string s, .slice a len cap]] w fun e w' => e = .returned (.bool (okB 15 n m x y s len)) ∧ Below w.heap.size w w' := by
  go_enter Try.func17, Try.ntmps17
  go_wp2_with (first | (go_at_call 20; refine (in_any _ _ _ _).mono ?_; rintro e w1 ⟨rfl, rfl⟩) | (go_at_call 19; refine (zero_any _ _ _ _ _ _ _ _ _ _ _ _).mono ?_; rintro e w2 ⟨rfl, hb2⟩))
  all_goals
    go_ret
    refine ⟨rb ?_, ?_⟩
    · simp [okB, *] <;> try omega
    · (repeat (first | exact Below.refl _ _ | refine bnew ?_ _ | refine bdrewN ?_ _ | refine bthen ?_ (by assumption)))
set_option maxRecDepth 100000 in
set_option maxHeartbeats 1000000 in
theorem own_16 (n m : Int) (x y : Nat) (s : ByteArray) (a : Option Addr) (len cap : Nat) (w : World) :
    Calls Try.prog 17 #[.agg #[.int .u8 16, .int .i64 n, .int .i64 m, .float .f64 x, .float .f64 y, .string s, .slice a len cap]] w fun e w' => e = .returned (.bool (okB 16 n m x y s len)) ∧ Below w.heap.size w w' := by
  go_enter Try.func17, Try.ntmps17
  go_wp2_with (first | (go_at_call 20; refine (in_any _ _ _ _).mono ?_; rintro e w1 ⟨rfl, rfl⟩) | (go_at_call 19; refine (zero_any _ _ _ _ _ _ _ _ _ _ _ _).mono ?_; rintro e w2 ⟨rfl, hb2⟩))
  all_goals
    go_ret
    refine ⟨rb ?_, ?_⟩
    · simp [okB, *] <;> try omega
    · (repeat (first | exact Below.refl _ _ | refine bnew ?_ _ | refine bdrewN ?_ _ | refine bthen ?_ (by assumption)))
set_option maxRecDepth 100000 in
set_option maxHeartbeats 1000000 in
theorem own_17 (n m : Int) (x y : Nat) (s : ByteArray) (a : Option Addr) (len cap : Nat) (w : World) :
    Calls Try.prog 17 #[.agg #[.int .u8 17, .int .i64 n, .int .i64 m, .float .f64 x, .float .f64 y, .string s, .slice a len cap]] w fun e w' => e = .returned (.bool (okB 17 n m x y s len)) ∧ Below w.heap.size w w' := by
  cases hl : ((len : Int) == 3)
  all_goals
    go_enter Try.func17, Try.ntmps17
    go_wp2_with (first | (go_at_call 20; refine (in_any _ _ _ _).mono ?_; rintro e w1 ⟨rfl, rfl⟩) | (go_at_call 19; refine (zero_any _ _ _ _ _ _ _ _ _ _ _ _).mono ?_; rintro e w2 ⟨rfl, hb2⟩))
    all_goals
      go_ret
      refine ⟨rb ?_, ?_⟩
      · simp [okB, *] <;> try omega
      · (repeat (first | exact Below.refl _ _ | refine bnew ?_ _ | refine bdrewN ?_ _ | refine bthen ?_ (by assumption)))
set_option maxRecDepth 100000 in
set_option maxHeartbeats 1000000 in
theorem own_18 (n m : Int) (x y : Nat) (s : ByteArray) (a : Option Addr) (len cap : Nat) (w : World) :
    Calls Try.prog 17 #[.agg #[.int .u8 18, .int .i64 n, .int .i64 m, .float .f64 x, .float .f64 y, .string s, .slice a len cap]] w fun e w' => e = .returned (.bool (okB 18 n m x y s len)) ∧ Below w.heap.size w w' := by
  cases hl : ((len : Int) == 1)
  all_goals
    go_enter Try.func17, Try.ntmps17
    go_wp2_with (first | (go_at_call 20; refine (in_any _ _ _ _).mono ?_; rintro e w1 ⟨rfl, rfl⟩) | (go_at_call 19; refine (zero_any _ _ _ _ _ _ _ _ _ _ _ _).mono ?_; rintro e w2 ⟨rfl, hb2⟩))
    all_goals
      go_ret
      refine ⟨rb ?_, ?_⟩
      · simp [okB, *] <;> try omega
      · (repeat (first | exact Below.refl _ _ | refine bnew ?_ _ | refine bdrewN ?_ _ | refine bthen ?_ (by assumption)))
set_option maxRecDepth 100000 in
set_option maxHeartbeats 1000000 in
theorem own_19 (n m : Int) (x y : Nat) (s : ByteArray) (a : Option Addr) (len cap : Nat) (w : World) :
    Calls Try.prog 17 #[.agg #[.int .u8 19, .int .i64 n, .int .i64 m, .float .f64 x, .float .f64 y, .string s, .slice a len cap]] w fun e w' => e = .returned (.bool (okB 19 n m x y s len)) ∧ Below w.heap.size w w' := by
  cases hl : ((len : Int) == 1)
  all_goals
    go_enter Try.func17, Try.ntmps17
    go_wp2_with (first | (go_at_call 20; refine (in_any _ _ _ _).mono ?_; rintro e w1 ⟨rfl, rfl⟩) | (go_at_call 19; refine (zero_any _ _ _ _ _ _ _ _ _ _ _ _).mono ?_; rintro e w2 ⟨rfl, hb2⟩))
    all_goals
      go_ret
      refine ⟨rb ?_, ?_⟩
      · simp [okB, *] <;> try omega
      · (repeat (first | exact Below.refl _ _ | refine bnew ?_ _ | refine bdrewN ?_ _ | refine bthen ?_ (by assumption)))
set_option maxRecDepth 100000 in
set_option maxHeartbeats 1000000 in
theorem own_20 (n m : Int) (x y : Nat) (s : ByteArray) (a : Option Addr) (len cap : Nat) (w : World) :
    Calls Try.prog 17 #[.agg #[.int .u8 20, .int .i64 n, .int .i64 m, .float .f64 x, .float .f64 y, .string s, .slice a len cap]] w fun e w' => e = .returned (.bool (okB 20 n m x y s len)) ∧ Below w.heap.size w w' := by
  cases hl : ((len : Int) == 1)
  all_goals
    go_enter Try.func17, Try.ntmps17
    go_wp2_with (first | (go_at_call 20; refine (in_any _ _ _ _).mono ?_; rintro e w1 ⟨rfl, rfl⟩) | (go_at_call 19; refine (zero_any _ _ _ _ _ _ _ _ _ _ _ _).mono ?_; rintro e w2 ⟨rfl, hb2⟩))
    all_goals
      go_ret
      refine ⟨rb ?_, ?_⟩
      · simp [okB, *] <;> try omega
      · (repeat (first | exact Below.refl _ _ | refine bnew ?_ _ | refine bdrewN ?_ _ | refine bthen ?_ (by assumption)))
set_option maxRecDepth 100000 in
set_option maxHeartbeats 1000000 in
theorem own_none (op n m : Int) (x y : Nat) (s : ByteArray) (a : Option Addr) (len cap : Nat) (w : World) (h1 : (op == 1) = false) (h2 : (op == 2) = false) (h3 : (op == 3) = false) (h4 : (op == 4) = false) (h5 : (op == 5) = false) (h6 : (op == 6) = false) (h7 : (op == 7) = false) (h8 : (op == 8) = false) (h9 : (op == 9) = false) (h10 : (op == 10) = false) (h11 : (op == 11) = false) (h12 : (op == 12) = false) (h13 : (op == 13) = false) (h14 : (op == 14) = false) (h15 : (op == 15) = false) (h16 : (op == 16) = false) (h17 : (op == 17) = false) (h18 : (op == 18) = false) (h19 : (op == 19) = false) (h20 : (op == 20) = false) :
    Calls Try.prog 17 #[.agg #[.int .u8 op, .int .i64 n, .int .i64 m, .float .f64 x, .float .f64 y, .string s, .slice a len cap]] w fun e w' => e = .returned (.bool (okB op n m x y s len)) ∧ Below w.heap.size w w' := by
  have hf : okB op n m x y s len = false := by
    simp only [beq_eq_false_iff_ne, ne_eq] at *
    simp [okB, *]
  have HF := Lib.hid hf
  clear hf
  go_enter Try.func17, Try.ntmps17
  go_wp2_with fail
  go_ret
  exact ⟨rb HF.out.symm, bnew (Below.refl _ _) _⟩
theorem own_any (op n m : Int) (x y : Nat) (s : ByteArray) (a : Option Addr) (len cap : Nat) (w : World) :
    Calls Try.prog 17 #[.agg #[.int .u8 op, .int .i64 n, .int .i64 m, .float .f64 x, .float .f64 y, .string s, .slice a len cap]] w fun e w' => e = .returned (.bool (okB op n m x y s len)) ∧ Below w.heap.size w w' := by
  by_cases h1 : op = 1
  · subst h1; exact own_1 n m x y s a len cap w
  by_cases h2 : op = 2
  · subst h2; exact own_2 n m x y s a len cap w
  by_cases h3 : op = 3
  · subst h3; exact own_3 n m x y s a len cap w
  by_cases h4 : op = 4
  · subst h4; exact own_4 n m x y s a len cap w
  by_cases h5 : op = 5
  · subst h5; exact own_5 n m x y s a len cap w
  by_cases h6 : op = 6
  · subst h6; exact own_6 n m x y s a len cap w
  by_cases h7 : op = 7
  · subst h7; exact own_7 n m x y s a len cap w
  by_cases h8 : op = 8
  · subst h8; exact own_8 n m x y s a len cap w
  by_cases h9 : op = 9
  · subst h9; exact own_9 n m x y s a len cap w
  by_cases h10 : op = 10
  · subst h10; exact own_10 n m x y s a len cap w
  by_cases h11 : op = 11
  · subst h11; exact own_11 n m x y s a len cap w
  by_cases h12 : op = 12
  · subst h12; exact own_12 n m x y s a len cap w
  by_cases h13 : op = 13
  · subst h13; exact own_13 n m x y s a len cap w
  by_cases h14 : op = 14
  · subst h14; exact own_14 n m x y s a len cap w
  by_cases h15 : op = 15
  · subst h15; exact own_15 n m x y s a len cap w
  by_cases h16 : op = 16
  · subst h16; exact own_16 n m x y s a len cap w
  by_cases h17 : op = 17
  · subst h17; exact own_17 n m x y s a len cap w
  by_cases h18 : op = 18
  · subst h18; exact own_18 n m x y s a len cap w
  by_cases h19 : op = 19
  · subst h19; exact own_19 n m x y s a len cap w
  by_cases h20 : op = 20
  · subst h20; exact own_20 n m x y s a len cap w
  exact own_none op n m x y s a len cap w (beq_eq_false_iff_ne.2 h1) (beq_eq_false_iff_ne.2 h2) (beq_eq_false_iff_ne.2 h3) (beq_eq_false_iff_ne.2 h4) (beq_eq_false_iff_ne.2 h5) (beq_eq_false_iff_ne.2 h6) (beq_eq_false_iff_ne.2 h7) (beq_eq_false_iff_ne.2 h8) (beq_eq_false_iff_ne.2 h9) (beq_eq_false_iff_ne.2 h10) (beq_eq_false_iff_ne.2 h11) (beq_eq_false_iff_ne.2 h12) (beq_eq_false_iff_ne.2 h13) (beq_eq_false_iff_ne.2 h14) (beq_eq_false_iff_ne.2 h15) (beq_eq_false_iff_ne.2 h16) (beq_eq_false_iff_ne.2 h17) (beq_eq_false_iff_ne.2 h18) (beq_eq_false_iff_ne.2 h19) (beq_eq_false_iff_ne.2 h20)
end Go.Proofs.Ytlejmlkojohnbaa
