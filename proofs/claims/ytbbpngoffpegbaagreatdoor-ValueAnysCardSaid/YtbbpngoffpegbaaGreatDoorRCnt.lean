/- The walks of the reference's 'count' and 'Check'. -/
import Derived.Test.YtbbpngoffpegbaaGreatDoorRLeaf
namespace Go.Proofs.YtbbpngoffpegbaaGreatDoor
open Go.RowKit
set_option linter.unusedVariables false
set_option linter.unusedSimpArgs false
attribute [local go_sem] run_store_float
def CntIs (r : Va) (nest left : Int) (w : World) (e : Ending) (w' : World) : Prop := e = .returned (.int .i64 (r.cnt nest left)) ∧ Below w.heap.size w w'
theorem isEmpty_size (s : ByteArray) : s.toList.isEmpty = decide (s.size = 0) := by
  cases s with
  | mk d => cases d with
    | mk l => cases l <;> simp [ByteArray.size, ByteArray.isEmpty]
theorem cnt_leaf {kd n : Int} {x y : Nat} {s : ByteArray} {rs : List Va} {nest left : Int} (h7 : kd ≠ 7) : (Va.mk kd n x y s rs).cnt nest left = if okB kd n x y s rs.length nest = false ∨ left - 1 < 0 then -1 else left - 1 := by
  unfold Va.cnt
  split
  · rfl
  · rename_i h
    have hl : rs.length = 0 := okB_list (nest := nest) (by cases ho : okB kd n x y s rs.length nest with | true => rfl | false => exact absurd (.inl ho) h) h7
    rw [List.eq_nil_of_length_eq_zero hl]
    unfold Va.cnts
    rfl
theorem okB_ge {kd n : Int} {x y : Nat} {s : ByteArray} {len : Nat} {nest : Int} (h0 : kd ≠ 0) (h1 : kd ≠ 1) (h2 : kd ≠ 2) (h3 : kd ≠ 3) (h4 : kd ≠ 4) (h5 : kd ≠ 5) (h6 : kd ≠ 6) (h7 : kd ≠ 7) : okB kd n x y s len nest = false := by
  unfold okB
  rw [if_neg h0, if_neg h1, if_neg h2, if_neg h3, if_neg h4, if_neg (by omega), if_neg h7]
theorem okB_0 (n : Int) (x y : Nat) (s : ByteArray) (len : Nat) (nest : Int) : okB 0 n x y s len nest = onlyB n x y s len false false false false false := by
  unfold onlyB
  rw [isEmpty_size]
  apply Bool.eq_iff_iff.2
  simp [okB]
  try (constructor <;> (intro h; simp_all <;> try omega))
theorem okB_1 (n : Int) (x y : Nat) (s : ByteArray) (len : Nat) (nest : Int) : okB 1 n x y s len nest = (onlyB n x y s len true false false false false && (n == 0 || n == 1)) := by
  unfold onlyB
  rw [isEmpty_size]
  apply Bool.eq_iff_iff.2
  simp [okB]
  try (constructor <;> (intro h; simp_all <;> try omega))
theorem okB_2 (n : Int) (x y : Nat) (s : ByteArray) (len : Nat) (nest : Int) : okB 2 n x y s len nest = onlyB n x y s len true false false false false := by
  unfold onlyB
  rw [isEmpty_size]
  apply Bool.eq_iff_iff.2
  simp [okB]
  try (constructor <;> (intro h; simp_all <;> try omega))
theorem okB_3 (n : Int) (x y : Nat) (s : ByteArray) (len : Nat) (nest : Int) : okB 3 n x y s len nest = onlyB n x y s len false true false false false := by
  unfold onlyB
  rw [isEmpty_size]
  apply Bool.eq_iff_iff.2
  simp [okB]
  try (constructor <;> (intro h; simp_all <;> try omega))
theorem okB_4 (n : Int) (x y : Nat) (s : ByteArray) (len : Nat) (nest : Int) : okB 4 n x y s len nest = onlyB n x y s len false true true false false := by
  unfold onlyB
  rw [isEmpty_size]
  apply Bool.eq_iff_iff.2
  simp [okB]
  try (constructor <;> (intro h; simp_all <;> try omega))
theorem okB_5 (n : Int) (x y : Nat) (s : ByteArray) (len : Nat) (nest : Int) : okB 5 n x y s len nest = (onlyB n x y s len false false false true false && decide ((s.size : Int) ≤ 4096)) := by
  unfold onlyB
  rw [isEmpty_size]
  apply Bool.eq_iff_iff.2
  simp [okB]
  try (constructor <;> (intro h; simp_all <;> try omega))
theorem okB_6 (n : Int) (x y : Nat) (s : ByteArray) (len : Nat) (nest : Int) : okB 6 n x y s len nest = (onlyB n x y s len false false false true false && decide ((s.size : Int) ≤ 4096)) := by
  unfold onlyB
  rw [isEmpty_size]
  apply Bool.eq_iff_iff.2
  simp [okB]
  try (constructor <;> (intro h; simp_all <;> try omega))
theorem okB_7 (n : Int) (x y : Nat) (s : ByteArray) (len : Nat) (nest : Int) : okB 7 n x y s len nest = (onlyB n x y s len false false false false true && decide (nest < 16)) := by
  unfold onlyB
  rw [isEmpty_size]
  apply Bool.eq_iff_iff.2
  simp [okB]
  try (constructor <;> (intro h; simp_all <;> try omega))
def CntL (kd n : Int) (x y : Nat) (s : ByteArray) (len : Nat) (nest left : Int) (w : World) (e : Ending) (w' : World) : Prop := e = .returned (.int .i64 (if okB kd n x y s len nest = false ∨ left - 1 < 0 then -1 else left - 1)) ∧ Below w.heap.size w w'
set_option maxRecDepth 100000 in
set_option maxHeartbeats 1000000 in
theorem count_0 (n : Int) (x y : Nat) (s : ByteArray) (a : Option Addr) (len cap : Nat) (nest left : Int) (w : World) (g0 : 0 ≤ left) (g1 : left ≤ 1024) :
    Calls Tryz.prog 29 #[.agg #[.int .u8 0, .int .i64 n, .float .f64 x, .float .f64 y, .string s, .slice a len cap], .int .i64 nest, .int .i64 left] w (CntL 0 n x y s len nest left w) := by
  have HK := Lib.hid (okB_0 n x y s len nest)
  by_cases hl : left - 1 < 0
  all_goals
    cases ho : onlyB n x y s len false false false false false
    all_goals
      have HO := Lib.hid ho
      clear ho
      go_enter Tryz.func29, Tryz.ntmps29
      go_wp2_with (go_at_call 42; (with_reducible refine (only_any _ _ _ _ _ _ _ _ _ _ _ _ _ _).mono ?_); rintro e w1 ⟨rfl, hb1⟩; rw [HO.out]; have k0 : w1.cell? ⟨w.heap.size, 0, none⟩ = some (.int .u8 0) := (hb1.cell (p := ⟨w.heap.size, 0, none⟩) (by simp)).trans (by simp [go_sem]); have k1 : w1.cell? ⟨w.heap.size, 1, none⟩ = some (.int .i64 n) := (hb1.cell (p := ⟨w.heap.size, 1, none⟩) (by simp)).trans (by simp [go_sem]); have k4 : w1.cell? ⟨w.heap.size, 4, none⟩ = some (.string s) := (hb1.cell (p := ⟨w.heap.size, 4, none⟩) (by simp)).trans (by simp [go_sem]))
      all_goals
        go_ret
        refine ⟨ri ?_, bthen (bnew (Below.refl _ _) _) hb1⟩
        rw [HK.out, HO.out]
        simp [*]
        try omega
set_option maxRecDepth 100000 in
set_option maxHeartbeats 1000000 in
theorem count_1 (n : Int) (x y : Nat) (s : ByteArray) (a : Option Addr) (len cap : Nat) (nest left : Int) (w : World) (g0 : 0 ≤ left) (g1 : left ≤ 1024) :
    Calls Tryz.prog 29 #[.agg #[.int .u8 1, .int .i64 n, .float .f64 x, .float .f64 y, .string s, .slice a len cap], .int .i64 nest, .int .i64 left] w (CntL 1 n x y s len nest left w) := by
  have HK := Lib.hid (okB_1 n x y s len nest)
  by_cases hl : left - 1 < 0
  all_goals
    cases ho : onlyB n x y s len true false false false false
    all_goals
      have HO := Lib.hid ho
      clear ho
      go_enter Tryz.func29, Tryz.ntmps29
      go_wp2_with (go_at_call 42; (with_reducible refine (only_any _ _ _ _ _ _ _ _ _ _ _ _ _ _).mono ?_); rintro e w1 ⟨rfl, hb1⟩; rw [HO.out]; have k0 : w1.cell? ⟨w.heap.size, 0, none⟩ = some (.int .u8 1) := (hb1.cell (p := ⟨w.heap.size, 0, none⟩) (by simp)).trans (by simp [go_sem]); have k1 : w1.cell? ⟨w.heap.size, 1, none⟩ = some (.int .i64 n) := (hb1.cell (p := ⟨w.heap.size, 1, none⟩) (by simp)).trans (by simp [go_sem]); have k4 : w1.cell? ⟨w.heap.size, 4, none⟩ = some (.string s) := (hb1.cell (p := ⟨w.heap.size, 4, none⟩) (by simp)).trans (by simp [go_sem]))
      all_goals
        go_ret
        refine ⟨ri ?_, bthen (bnew (Below.refl _ _) _) hb1⟩
        rw [HK.out, HO.out]
        simp [*]
        try omega
set_option maxRecDepth 100000 in
set_option maxHeartbeats 1000000 in
theorem count_2 (n : Int) (x y : Nat) (s : ByteArray) (a : Option Addr) (len cap : Nat) (nest left : Int) (w : World) (g0 : 0 ≤ left) (g1 : left ≤ 1024) :
    Calls Tryz.prog 29 #[.agg #[.int .u8 2, .int .i64 n, .float .f64 x, .float .f64 y, .string s, .slice a len cap], .int .i64 nest, .int .i64 left] w (CntL 2 n x y s len nest left w) := by
  have HK := Lib.hid (okB_2 n x y s len nest)
  by_cases hl : left - 1 < 0
  all_goals
    cases ho : onlyB n x y s len true false false false false
    all_goals
      have HO := Lib.hid ho
      clear ho
      go_enter Tryz.func29, Tryz.ntmps29
      go_wp2_with (go_at_call 42; (with_reducible refine (only_any _ _ _ _ _ _ _ _ _ _ _ _ _ _).mono ?_); rintro e w1 ⟨rfl, hb1⟩; rw [HO.out]; have k0 : w1.cell? ⟨w.heap.size, 0, none⟩ = some (.int .u8 2) := (hb1.cell (p := ⟨w.heap.size, 0, none⟩) (by simp)).trans (by simp [go_sem]); have k1 : w1.cell? ⟨w.heap.size, 1, none⟩ = some (.int .i64 n) := (hb1.cell (p := ⟨w.heap.size, 1, none⟩) (by simp)).trans (by simp [go_sem]); have k4 : w1.cell? ⟨w.heap.size, 4, none⟩ = some (.string s) := (hb1.cell (p := ⟨w.heap.size, 4, none⟩) (by simp)).trans (by simp [go_sem]))
      all_goals
        go_ret
        refine ⟨ri ?_, bthen (bnew (Below.refl _ _) _) hb1⟩
        rw [HK.out, HO.out]
        simp [*]
        try omega
set_option maxRecDepth 100000 in
set_option maxHeartbeats 1000000 in
theorem count_3 (n : Int) (x y : Nat) (s : ByteArray) (a : Option Addr) (len cap : Nat) (nest left : Int) (w : World) (g0 : 0 ≤ left) (g1 : left ≤ 1024) :
    Calls Tryz.prog 29 #[.agg #[.int .u8 3, .int .i64 n, .float .f64 x, .float .f64 y, .string s, .slice a len cap], .int .i64 nest, .int .i64 left] w (CntL 3 n x y s len nest left w) := by
  have HK := Lib.hid (okB_3 n x y s len nest)
  by_cases hl : left - 1 < 0
  all_goals
    cases ho : onlyB n x y s len false true false false false
    all_goals
      have HO := Lib.hid ho
      clear ho
      go_enter Tryz.func29, Tryz.ntmps29
      go_wp2_with (go_at_call 42; (with_reducible refine (only_any _ _ _ _ _ _ _ _ _ _ _ _ _ _).mono ?_); rintro e w1 ⟨rfl, hb1⟩; rw [HO.out]; have k0 : w1.cell? ⟨w.heap.size, 0, none⟩ = some (.int .u8 3) := (hb1.cell (p := ⟨w.heap.size, 0, none⟩) (by simp)).trans (by simp [go_sem]); have k1 : w1.cell? ⟨w.heap.size, 1, none⟩ = some (.int .i64 n) := (hb1.cell (p := ⟨w.heap.size, 1, none⟩) (by simp)).trans (by simp [go_sem]); have k4 : w1.cell? ⟨w.heap.size, 4, none⟩ = some (.string s) := (hb1.cell (p := ⟨w.heap.size, 4, none⟩) (by simp)).trans (by simp [go_sem]))
      all_goals
        go_ret
        refine ⟨ri ?_, bthen (bnew (Below.refl _ _) _) hb1⟩
        rw [HK.out, HO.out]
        simp [*]
        try omega
set_option maxRecDepth 100000 in
set_option maxHeartbeats 1000000 in
theorem count_4 (n : Int) (x y : Nat) (s : ByteArray) (a : Option Addr) (len cap : Nat) (nest left : Int) (w : World) (g0 : 0 ≤ left) (g1 : left ≤ 1024) :
    Calls Tryz.prog 29 #[.agg #[.int .u8 4, .int .i64 n, .float .f64 x, .float .f64 y, .string s, .slice a len cap], .int .i64 nest, .int .i64 left] w (CntL 4 n x y s len nest left w) := by
  have HK := Lib.hid (okB_4 n x y s len nest)
  by_cases hl : left - 1 < 0
  all_goals
    cases ho : onlyB n x y s len false true true false false
    all_goals
      have HO := Lib.hid ho
      clear ho
      go_enter Tryz.func29, Tryz.ntmps29
      go_wp2_with (go_at_call 42; (with_reducible refine (only_any _ _ _ _ _ _ _ _ _ _ _ _ _ _).mono ?_); rintro e w1 ⟨rfl, hb1⟩; rw [HO.out]; have k0 : w1.cell? ⟨w.heap.size, 0, none⟩ = some (.int .u8 4) := (hb1.cell (p := ⟨w.heap.size, 0, none⟩) (by simp)).trans (by simp [go_sem]); have k1 : w1.cell? ⟨w.heap.size, 1, none⟩ = some (.int .i64 n) := (hb1.cell (p := ⟨w.heap.size, 1, none⟩) (by simp)).trans (by simp [go_sem]); have k4 : w1.cell? ⟨w.heap.size, 4, none⟩ = some (.string s) := (hb1.cell (p := ⟨w.heap.size, 4, none⟩) (by simp)).trans (by simp [go_sem]))
      all_goals
        go_ret
        refine ⟨ri ?_, bthen (bnew (Below.refl _ _) _) hb1⟩
        rw [HK.out, HO.out]
        simp [*]
        try omega
set_option maxRecDepth 100000 in
set_option maxHeartbeats 1000000 in
theorem count_5 (n : Int) (x y : Nat) (s : ByteArray) (a : Option Addr) (len cap : Nat) (nest left : Int) (w : World) (g0 : 0 ≤ left) (g1 : left ≤ 1024) :
    Calls Tryz.prog 29 #[.agg #[.int .u8 5, .int .i64 n, .float .f64 x, .float .f64 y, .string s, .slice a len cap], .int .i64 nest, .int .i64 left] w (CntL 5 n x y s len nest left w) := by
  have HK := Lib.hid (okB_5 n x y s len nest)
  by_cases hl : left - 1 < 0
  all_goals
    cases ho : onlyB n x y s len false false false true false
    all_goals
      have HO := Lib.hid ho
      clear ho
      go_enter Tryz.func29, Tryz.ntmps29
      go_wp2_with (go_at_call 42; (with_reducible refine (only_any _ _ _ _ _ _ _ _ _ _ _ _ _ _).mono ?_); rintro e w1 ⟨rfl, hb1⟩; rw [HO.out]; have k0 : w1.cell? ⟨w.heap.size, 0, none⟩ = some (.int .u8 5) := (hb1.cell (p := ⟨w.heap.size, 0, none⟩) (by simp)).trans (by simp [go_sem]); have k1 : w1.cell? ⟨w.heap.size, 1, none⟩ = some (.int .i64 n) := (hb1.cell (p := ⟨w.heap.size, 1, none⟩) (by simp)).trans (by simp [go_sem]); have k4 : w1.cell? ⟨w.heap.size, 4, none⟩ = some (.string s) := (hb1.cell (p := ⟨w.heap.size, 4, none⟩) (by simp)).trans (by simp [go_sem]))
      all_goals
        go_ret
        refine ⟨ri ?_, bthen (bnew (Below.refl _ _) _) hb1⟩
        rw [HK.out, HO.out]
        simp [*]
        try omega
set_option maxRecDepth 100000 in
set_option maxHeartbeats 1000000 in
theorem count_6 (n : Int) (x y : Nat) (s : ByteArray) (a : Option Addr) (len cap : Nat) (nest left : Int) (w : World) (g0 : 0 ≤ left) (g1 : left ≤ 1024) :
    Calls Tryz.prog 29 #[.agg #[.int .u8 6, .int .i64 n, .float .f64 x, .float .f64 y, .string s, .slice a len cap], .int .i64 nest, .int .i64 left] w (CntL 6 n x y s len nest left w) := by
  have HK := Lib.hid (okB_6 n x y s len nest)
  by_cases hl : left - 1 < 0
  all_goals
    cases ho : onlyB n x y s len false false false true false
    all_goals
      have HO := Lib.hid ho
      clear ho
      go_enter Tryz.func29, Tryz.ntmps29
      go_wp2_with (go_at_call 42; (with_reducible refine (only_any _ _ _ _ _ _ _ _ _ _ _ _ _ _).mono ?_); rintro e w1 ⟨rfl, hb1⟩; rw [HO.out]; have k0 : w1.cell? ⟨w.heap.size, 0, none⟩ = some (.int .u8 6) := (hb1.cell (p := ⟨w.heap.size, 0, none⟩) (by simp)).trans (by simp [go_sem]); have k1 : w1.cell? ⟨w.heap.size, 1, none⟩ = some (.int .i64 n) := (hb1.cell (p := ⟨w.heap.size, 1, none⟩) (by simp)).trans (by simp [go_sem]); have k4 : w1.cell? ⟨w.heap.size, 4, none⟩ = some (.string s) := (hb1.cell (p := ⟨w.heap.size, 4, none⟩) (by simp)).trans (by simp [go_sem]))
      all_goals
        go_ret
        refine ⟨ri ?_, bthen (bnew (Below.refl _ _) _) hb1⟩
        rw [HK.out, HO.out]
        simp [*]
        try omega
set_option maxRecDepth 100000 in
set_option maxHeartbeats 1000000 in
theorem count_none (kd n : Int) (x y : Nat) (s : ByteArray) (a : Option Addr) (len cap : Nat) (nest left : Int) (w : World) (g0 : 0 ≤ left) (g1 : left ≤ 1024) (h0 : (kd == 0) = false) (h1 : (kd == 1) = false) (h2 : (kd == 2) = false) (h3 : (kd == 3) = false) (h4 : (kd == 4) = false) (h5 : (kd == 5) = false) (h6 : (kd == 6) = false) (h7 : (kd == 7) = false) :
    Calls Tryz.prog 29 #[.agg #[.int .u8 kd, .int .i64 n, .float .f64 x, .float .f64 y, .string s, .slice a len cap], .int .i64 nest, .int .i64 left] w (CntL kd n x y s len nest left w) := by
  have HK : Hid (okB kd n x y s len nest = false) := by
    simp only [beq_eq_false_iff_ne, ne_eq] at *
    exact okB_ge h0 h1 h2 h3 h4 h5 h6 h7
  go_enter Tryz.func29, Tryz.ntmps29
  go_wp2_with fail
  go_ret
  exact ⟨ri (by rw [if_pos (.inl HK.out)]), bnew (Below.refl _ _) _⟩
theorem okB_list7 {n : Int} {x y : Nat} {s : ByteArray} {len : Nat} {nest : Int} (h : okB 7 n x y s len nest = true) : nest < 16 := by
  rw [okB_7] at h
  simp only [Bool.and_eq_true, decide_eq_true_eq] at h
  exact h.2
set_option maxRecDepth 100000 in
set_option maxHeartbeats 2000000 in
theorem count_N (N : Nat) : ∀ (r : Va) (_ : r.size ≤ N) (c : List Value) (F : List Nat) (w : World) (nest left : Int) (_ : r.tr.own 6 w c F) (_ : 0 ≤ nest) (_ : nest ≤ 16) (_ : 0 ≤ left) (_ : left ≤ 1024),
    Calls Tryz.prog 29 #[.agg c.toArray, .int .i64 nest, .int .i64 left] w (CntIs r nest left w) := by
  induction N with
  | zero => intro r hN; have := r.size_pos; omega
  | succ N ih =>
  intro r hN c F w nest left hr g0 g1 g2 g3
  obtain ⟨kd, n, x, y, s, rs⟩ := r
  obtain ⟨a, cap, rfl, hcap, hcap', hc⟩ := Va.open hr
  clear hr
  by_cases h7 : ¬ kd = 7
  · unfold CntIs
    rw [cnt_leaf h7]
    by_cases h0 : kd = 0
    · subst h0; exact count_0 n x y s a rs.length cap nest left w g2 g3
    by_cases h1 : kd = 1
    · subst h1; exact count_1 n x y s a rs.length cap nest left w g2 g3
    by_cases h2 : kd = 2
    · subst h2; exact count_2 n x y s a rs.length cap nest left w g2 g3
    by_cases h3 : kd = 3
    · subst h3; exact count_3 n x y s a rs.length cap nest left w g2 g3
    by_cases h4 : kd = 4
    · subst h4; exact count_4 n x y s a rs.length cap nest left w g2 g3
    by_cases h5 : kd = 5
    · subst h5; exact count_5 n x y s a rs.length cap nest left w g2 g3
    by_cases h6 : kd = 6
    · subst h6; exact count_6 n x y s a rs.length cap nest left w g2 g3
    exact count_none kd n x y s a rs.length cap nest left w g2 g3 (beq_eq_false_iff_ne.2 h0) (beq_eq_false_iff_ne.2 h1) (beq_eq_false_iff_ne.2 h2) (beq_eq_false_iff_ne.2 h3) (beq_eq_false_iff_ne.2 h4) (beq_eq_false_iff_ne.2 h5) (beq_eq_false_iff_ne.2 h6) (beq_eq_false_iff_ne.2 h7)
  have h7 := Classical.not_not.1 h7
  subst h7
  unfold Va.size at hN
  have IH := Lib.hid ih
  clear ih
  have HK := Lib.hid (okB_7 n x y s rs.length nest)
  by_cases hl : left - 1 < 0
  · cases ho : onlyB n x y s rs.length false false false false true
    all_goals
      have HO := Lib.hid ho
      clear ho
      go_enter Tryz.func29, Tryz.ntmps29
      go_wp2_with (go_at_call 42; (with_reducible refine (only_any _ _ _ _ _ _ _ _ _ _ _ _ _ _).mono ?_); rintro e w1 ⟨rfl, hb1⟩; rw [HO.out])
      all_goals
        go_ret
        refine ⟨ri ?_, bthen (bnew (Below.refl _ _) _) hb1⟩
        unfold Va.cnt
        rw [if_pos (.inr hl)]
  have HL := Lib.hid hl
  by_cases hne : ¬ nest < 16
  · cases ho : onlyB n x y s rs.length false false false false true
    all_goals
      have HO := Lib.hid ho
      clear ho
      go_enter Tryz.func29, Tryz.ntmps29
      go_wp2_with (go_at_call 42; (with_reducible refine (only_any _ _ _ _ _ _ _ _ _ _ _ _ _ _).mono ?_); rintro e w1 ⟨rfl, hb1⟩; rw [HO.out])
      all_goals
        go_ret
        refine ⟨ri ?_, bthen (bnew (Below.refl _ _) _) hb1⟩
        unfold Va.cnt
        rw [if_pos (.inl (by rw [HK.out, HO.out]; simp; try omega))]
  have hne := Classical.not_not.1 hne
  cases ho : onlyB n x y s rs.length false false false false true
  · have HO := Lib.hid ho
    clear ho
    go_enter Tryz.func29, Tryz.ntmps29
    go_wp2_with (go_at_call 42; (with_reducible refine (only_any _ _ _ _ _ _ _ _ _ _ _ _ _ _).mono ?_); rintro e w1 ⟨rfl, hb1⟩; rw [HO.out])
    go_ret
    refine ⟨ri ?_, bthen (bnew (Below.refl _ _) _) hb1⟩
    unfold Va.cnt
    rw [if_pos (.inl (by rw [HK.out, HO.out]; simp))]
  have HO : Hid (¬ (okB 7 n x y s rs.length nest = false ∨ left - 1 < 0)) := by
    show ¬ _
    rw [HK.out, ho]
    simp
    omega
  have HQ := Lib.hid ho
  clear ho
  go_enter Tryz.func29, Tryz.ntmps29
  go_wp2_with (go_at_call 42; (with_reducible refine (only_any _ _ _ _ _ _ _ _ _ _ _ _ _ _).mono ?_); rintro e w1 ⟨rfl, hb1⟩; rw [HQ.out]; have k0 : w1.cell? ⟨w.heap.size, 0, none⟩ = some (.int .u8 7) := (hb1.cell (p := ⟨w.heap.size, 0, none⟩) (by simp)).trans (by simp [go_sem]))
  go_loopw [2, 8] (fun u2 u8 wr => ∃ (k : Nat) (l : Int), k ≤ rs.length ∧ u8 = .int .i64 k ∧ u2 = .int .i64 l ∧ 0 ≤ l ∧ l ≤ 1024 ∧ Hid (Va.cnts (rs.drop k) (nest + 1) l = Va.cnts rs (nest + 1) (left - 1)) ∧ Below w.heap.size w wr ∧ w.heap.size < wr.heap.size ∧
    wr.cell? ⟨w.heap.size, 5, none⟩ = some (.slice a rs.length cap)) (fun _ u8 _ => rs.length - (intOf u8).toNat)
  case atStart =>
    have hs1 := hb1.size
    exact ⟨0, left - 1, by omega, rfl, rfl, by omega, by omega, rfl, bthen (bnew (Below.refl _ _) _) hb1, by simp at hs1; omega, (hb1.cell (p := ⟨w.heap.size, 5, none⟩) (by simp)).trans (by simp [go_sem])⟩
  case round =>
    obtain ⟨k, l, hk, rfl, rfl, l0, l1, hf, hb, hz, hcell⟩ := hrel
    by_cases hlt : k < rs.length
    · rcases hc with ⟨h0', _⟩ | ⟨_, b, o, cs, F', rfl, rfl, hra, hkl⟩
      · omega
      have hbl : b < w.heap.size := rangeAt_lt hra (by rw [Tr.ownL_len hkl, Va.trs_len]; omega)
      have hra' := rangeAt_of_block hra (hb.block b hbl)
      have hkl' := Tr.ownL_same _ _ _ (fun i hi => hb.block i (Tr.ownL_lt _ _ _ hkl i hi)) hkl
      obtain ⟨v0, v1, v2, v3, v4, v5, Fa, F1, Fb, hF, hkid, c0, c1, c2, c3, c4, c5⟩ := Va.kid k hlt hkl' hra'
      have HZ := Va.sizes_at rs k hlt
      have HF := Lib.hid hF
      clear hra hkl hra' hkl' hF hb1
      have hbd := Va.cnt_bd rs[k] (nest + 1) l
      by_cases hneg : rs[k].cnt (nest + 1) l < 0
      · go_wp2_with (go_at_call 29; refine (IH.out rs[k] (by omega) [v0, v1, v2, v3, v4, v5] F1 _ (nest + 1) l hkid (by omega) (by omega) (by omega) (by omega)).mono ?_; rintro e w' ⟨rfl, hb'⟩)
        go_ret
        refine ⟨ri ?_, bthen hb hb'⟩
        unfold Va.cnt
        rw [if_neg HO.out, ← hf.out, Va.cnts_bad rs k hlt _ _ hneg]
      · go_wp2_with (go_at_call 29; refine (IH.out rs[k] (by omega) [v0, v1, v2, v3, v4, v5] F1 _ (nest + 1) l hkid (by omega) (by omega) (by omega) (by omega)).mono ?_; rintro e w' ⟨rfl, hb'⟩)
        go_roundw
        case rel => exact ⟨k + 1, rs[k].cnt (nest + 1) l, by omega, by go_num, rfl, by omega, by omega, (Va.cnts_drop rs k hlt _ l (by omega)).symm.trans hf, bthen hb hb', by have := hb'.size; omega, by rw [hb'.cell (p := ⟨w.heap.size, 5, none⟩) (by simpa using hz)]; exact hcell⟩
        case measure => simp [intOf]; omega
    · have hk' : k = rs.length := by omega
      go_wp2_with fail
      go_ret
      refine ⟨ri ?_, hb⟩
      subst hk'
      unfold Va.cnt
      rw [if_neg HO.out, ← hf.out]
      simp [Va.cnts]
def CheckIs (r : Va) (w : World) (e : Ending) (w' : World) : Prop := e = .returned (.int .i64 (if r.okV then 0 else 20)) ∧ Below w.heap.size w w'
set_option maxHeartbeats 400000 in
theorem rCheck_any (r : Va) (c : List Value) (F : List Nat) (w : World) (hr : r.tr.own 6 w c F) :
    Calls Tryz.prog 10 #[.agg c.toArray] w (CheckIs r w) := by
  obtain ⟨v0, v1, v2, v3, v4, v5, rfl⟩ := Va.shape hr
  have HR := Lib.hid (fun o => Tr.own_below hr (bnew (Below.refl _ w) o))
  clear hr
  have hbd := Va.cnt_bd r 0 1024
  by_cases h1 : r.cnt 0 1024 < 0
  · go_enter Tryz.func10, Tryz.ntmps10
    go_wp2_with (go_at_call 29; refine (count_N _ r (Nat.le_refl _) [v0, v1, v2, v3, v4, v5] F _ 0 1024 (HR.out _) (by omega) (by omega) (by omega) (by omega)).mono ?_; rintro e w1 ⟨rfl, hb1⟩)
    go_ret
    exact ⟨ri (by unfold Va.okV; rw [decide_eq_false (by omega)]; rfl), bthen (bnew (Below.refl _ _) _) hb1⟩
  · go_enter Tryz.func10, Tryz.ntmps10
    go_wp2_with (go_at_call 29; refine (count_N _ r (Nat.le_refl _) [v0, v1, v2, v3, v4, v5] F _ 0 1024 (HR.out _) (by omega) (by omega) (by omega) (by omega)).mono ?_; rintro e w1 ⟨rfl, hb1⟩)
    go_ret
    exact ⟨ri (by unfold Va.okV; rw [decide_eq_true (by omega)]; rfl), bthen (bnew (Below.refl _ _) _) hb1⟩
end Go.Proofs.YtbbpngoffpegbaaGreatDoor
