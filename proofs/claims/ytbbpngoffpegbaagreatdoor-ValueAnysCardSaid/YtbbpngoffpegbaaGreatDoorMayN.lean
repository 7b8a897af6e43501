/- '(*value.census).may', whole; 'value.Check'. -/
import Derived.Test.YtbbpngoffpegbaaGreatDoorMayW0
import Derived.Test.YtbbpngoffpegbaaGreatDoorMayW1
import Derived.Test.YtbbpngoffpegbaaGreatDoorMayW2
import Derived.Test.YtbbpngoffpegbaaGreatDoorMayW3
import Derived.Test.YtbbpngoffpegbaaGreatDoorMayW4
import Derived.Test.YtbbpngoffpegbaaGreatDoorMayW5
import Derived.Test.YtbbpngoffpegbaaGreatDoorMayW6
import Derived.Test.YtbbpngoffpegbaaGreatDoorMayW7
namespace Go.Proofs.YtbbpngoffpegbaaGreatDoor
open Go.RowKit
set_option linter.unusedVariables false
set_option linter.unusedSimpArgs false
attribute [local go_sem] run_store_float
theorem toList_nil {s : ByteArray} (h : s.toList = []) : s = ⟨#[]⟩ := size_nil (by
  rw [ByteArray.toList_eq] at h
  have : s.data = #[] := by simpa using h
  show s.data.size = 0
  rw [this]; rfl)
theorem size_nz {s : ByteArray} (h : ¬ s.toList = []) : ¬ s.size = 0 := fun h0 => h (by rw [size_nil h0]; simp [ByteArray.toList_eq])
theorem no_n {n : Int} (h : ¬ n = 0) : (n != 0) = true := bne_iff_ne.2 h
theorem no_x {x : Nat} (h : ¬ x = 0) : ((x : Int) != 0) = true := bne_iff_ne.2 (by omega)
theorem root_bad {kd n : Int} {x y : Nat} {s : ByteArray} {rs : List Va} {nest left : Int} (h : okB kd n x y s rs.length nest = false) : (Va.mk kd n x y s rs).cnt nest left < 0 := by
  unfold Va.cnt
  rw [if_pos (.inl h)]
  omega
theorem left_bad {r : Va} {nest left : Int} (h : decide (left - 1 < 0) = true) : r.cnt nest left < 0 := by
  cases r
  unfold Va.cnt
  rw [if_pos (.inr (of_decide_eq_true h))]
  omega
theorem leaf_ok {kd n : Int} {x y : Nat} {s : ByteArray} {nest left : Int} (h : okB kd n x y s 0 nest = true) (hl : decide (left - 1 < 0) = false) : (Va.mk kd n x y s []).cnt nest left = left - 1 := by
  have := of_decide_eq_false hl
  unfold Va.cnt
  rw [if_neg (by rw [show ([] : List Va).length = 0 from rfl, h]; simp; omega)]
  unfold Va.cnts
  rfl
theorem may_0 (n : Int) (x y : Nat) (s : ByteArray) (rs : List Va) (a : Option Addr) (cap : Nat) (nest left : Int) (p : Addr) (w : World) (hp : w.cell? p = some (.int .i64 left)) (hz : w.frozen? p = false) (g0 : 0 ≤ left) (g1 : left ≤ 1024) : Calls Tryz.prog 40 #[.pointer (some p), .agg #[.int .u8 0, .int .i64 n, .float .f64 x, .float .f64 y, .string s, .slice a rs.length cap], .int .i64 nest] w (MayIs (Va.mk 0 n x y s rs) nest left p w) := by
  cases hl : decide (left - 1 < 0)
  case true => exact (mayL_0 n x y s rs.length a cap nest left p w hp hz g0 g1 hl).mono fun _ _ h => h.is (left_bad hl)
  case false =>
  by_cases q : n = 0
  case neg => exact (mayN_0_n n x y s rs.length a cap nest left p w hp hz g0 g1 hl (no_n q)).mono fun _ _ h => h.is (root_bad (by unfold okB; simp [*]))
  subst q
  by_cases q : x = 0
  case neg => exact (mayN_0_x x y s rs.length a cap nest left p w hp hz g0 g1 hl (no_x q)).mono fun _ _ h => h.is (root_bad (by unfold okB; simp [*]))
  subst q
  by_cases q : y = 0
  case neg => exact (mayN_0_y y s rs.length a cap nest left p w hp hz g0 g1 hl (no_x q)).mono fun _ _ h => h.is (root_bad (by unfold okB; simp [*]))
  subst q
  by_cases q : s.toList = []
  case neg => exact (mayN_0_s s rs.length a cap nest left p w hp hz g0 g1 hl q).mono fun _ _ h => h.is (root_bad (by have := size_nz q; unfold okB; simp [*]))
  obtain rfl := toList_nil q
  clear q
  by_cases q : rs.length = 0
  case neg => exact (mayN_0_len rs.length a cap nest left p w hp hz g0 g1 hl q).mono fun _ _ h => h.is (root_bad (by unfold okB; simp [*]))
  obtain rfl := List.eq_nil_of_length_eq_zero q
  clear q
  exact (mayY_0  a cap nest left p w hp hz g0 g1 hl).mono fun _ _ h => h.is (leaf_ok (by unfold okB; simp; try rfl) hl) (by have := of_decide_eq_false hl; omega)
theorem may_1 (n : Int) (x y : Nat) (s : ByteArray) (rs : List Va) (a : Option Addr) (cap : Nat) (nest left : Int) (p : Addr) (w : World) (hp : w.cell? p = some (.int .i64 left)) (hz : w.frozen? p = false) (g0 : 0 ≤ left) (g1 : left ≤ 1024) : Calls Tryz.prog 40 #[.pointer (some p), .agg #[.int .u8 1, .int .i64 n, .float .f64 x, .float .f64 y, .string s, .slice a rs.length cap], .int .i64 nest] w (MayIs (Va.mk 1 n x y s rs) nest left p w) := by
  cases hl : decide (left - 1 < 0)
  case true => exact (mayL_1 n x y s rs.length a cap nest left p w hp hz g0 g1 hl).mono fun _ _ h => h.is (left_bad hl)
  case false =>
  by_cases q : x = 0
  case neg => exact (mayN_1_x n x y s rs.length a cap nest left p w hp hz g0 g1 hl (no_x q)).mono fun _ _ h => h.is (root_bad (by unfold okB; simp [*]))
  subst q
  by_cases q : y = 0
  case neg => exact (mayN_1_y n y s rs.length a cap nest left p w hp hz g0 g1 hl (no_x q)).mono fun _ _ h => h.is (root_bad (by unfold okB; simp [*]))
  subst q
  by_cases q : s.toList = []
  case neg => exact (mayN_1_s n s rs.length a cap nest left p w hp hz g0 g1 hl q).mono fun _ _ h => h.is (root_bad (by have := size_nz q; unfold okB; simp [*]))
  obtain rfl := toList_nil q
  clear q
  by_cases q : rs.length = 0
  case neg => exact (mayN_1_len n rs.length a cap nest left p w hp hz g0 g1 hl q).mono fun _ _ h => h.is (root_bad (by unfold okB; simp [*]))
  obtain rfl := List.eq_nil_of_length_eq_zero q
  clear q
  by_cases q0 : n = 0
  case pos => subst q0; exact (mayY_1_0 a cap nest left p w hp hz g0 g1 hl).mono fun _ _ h => h.is (leaf_ok (by unfold okB; simp; try rfl) hl) (by have := of_decide_eq_false hl; omega)
  by_cases q1 : n = 1
  case pos => subst q1; exact (mayY_1_1 a cap nest left p w hp hz g0 g1 hl).mono fun _ _ h => h.is (leaf_ok (by unfold okB; simp; try rfl) hl) (by have := of_decide_eq_false hl; omega)
  exact (mayN_1_n01 n a cap nest left p w hp hz g0 g1 hl (no_n q0) (bne_iff_ne.2 q1)).mono fun _ _ h => h.is (root_bad (by unfold okB; simp [*]))
theorem may_2 (n : Int) (x y : Nat) (s : ByteArray) (rs : List Va) (a : Option Addr) (cap : Nat) (nest left : Int) (p : Addr) (w : World) (hp : w.cell? p = some (.int .i64 left)) (hz : w.frozen? p = false) (g0 : 0 ≤ left) (g1 : left ≤ 1024) : Calls Tryz.prog 40 #[.pointer (some p), .agg #[.int .u8 2, .int .i64 n, .float .f64 x, .float .f64 y, .string s, .slice a rs.length cap], .int .i64 nest] w (MayIs (Va.mk 2 n x y s rs) nest left p w) := by
  cases hl : decide (left - 1 < 0)
  case true => exact (mayL_2 n x y s rs.length a cap nest left p w hp hz g0 g1 hl).mono fun _ _ h => h.is (left_bad hl)
  case false =>
  by_cases q : x = 0
  case neg => exact (mayN_2_x n x y s rs.length a cap nest left p w hp hz g0 g1 hl (no_x q)).mono fun _ _ h => h.is (root_bad (by unfold okB; simp [*]))
  subst q
  by_cases q : y = 0
  case neg => exact (mayN_2_y n y s rs.length a cap nest left p w hp hz g0 g1 hl (no_x q)).mono fun _ _ h => h.is (root_bad (by unfold okB; simp [*]))
  subst q
  by_cases q : s.toList = []
  case neg => exact (mayN_2_s n s rs.length a cap nest left p w hp hz g0 g1 hl q).mono fun _ _ h => h.is (root_bad (by have := size_nz q; unfold okB; simp [*]))
  obtain rfl := toList_nil q
  clear q
  by_cases q : rs.length = 0
  case neg => exact (mayN_2_len n rs.length a cap nest left p w hp hz g0 g1 hl q).mono fun _ _ h => h.is (root_bad (by unfold okB; simp [*]))
  obtain rfl := List.eq_nil_of_length_eq_zero q
  clear q
  exact (mayY_2 n a cap nest left p w hp hz g0 g1 hl).mono fun _ _ h => h.is (leaf_ok (by unfold okB; simp; try rfl) hl) (by have := of_decide_eq_false hl; omega)
theorem may_3 (n : Int) (x y : Nat) (s : ByteArray) (rs : List Va) (a : Option Addr) (cap : Nat) (nest left : Int) (p : Addr) (w : World) (hp : w.cell? p = some (.int .i64 left)) (hz : w.frozen? p = false) (g0 : 0 ≤ left) (g1 : left ≤ 1024) : Calls Tryz.prog 40 #[.pointer (some p), .agg #[.int .u8 3, .int .i64 n, .float .f64 x, .float .f64 y, .string s, .slice a rs.length cap], .int .i64 nest] w (MayIs (Va.mk 3 n x y s rs) nest left p w) := by
  cases hl : decide (left - 1 < 0)
  case true => exact (mayL_3 n x y s rs.length a cap nest left p w hp hz g0 g1 hl).mono fun _ _ h => h.is (left_bad hl)
  case false =>
  by_cases q : n = 0
  case neg => exact (mayN_3_n n x y s rs.length a cap nest left p w hp hz g0 g1 hl (no_n q)).mono fun _ _ h => h.is (root_bad (by unfold okB; simp [*]))
  subst q
  by_cases q : y = 0
  case neg => exact (mayN_3_y x y s rs.length a cap nest left p w hp hz g0 g1 hl (no_x q)).mono fun _ _ h => h.is (root_bad (by unfold okB; simp [*]))
  subst q
  by_cases q : s.toList = []
  case neg => exact (mayN_3_s x s rs.length a cap nest left p w hp hz g0 g1 hl q).mono fun _ _ h => h.is (root_bad (by have := size_nz q; unfold okB; simp [*]))
  obtain rfl := toList_nil q
  clear q
  by_cases q : rs.length = 0
  case neg => exact (mayN_3_len x rs.length a cap nest left p w hp hz g0 g1 hl q).mono fun _ _ h => h.is (root_bad (by unfold okB; simp [*]))
  obtain rfl := List.eq_nil_of_length_eq_zero q
  clear q
  exact (mayY_3 x a cap nest left p w hp hz g0 g1 hl).mono fun _ _ h => h.is (leaf_ok (by unfold okB; simp; try rfl) hl) (by have := of_decide_eq_false hl; omega)
theorem may_4 (n : Int) (x y : Nat) (s : ByteArray) (rs : List Va) (a : Option Addr) (cap : Nat) (nest left : Int) (p : Addr) (w : World) (hp : w.cell? p = some (.int .i64 left)) (hz : w.frozen? p = false) (g0 : 0 ≤ left) (g1 : left ≤ 1024) : Calls Tryz.prog 40 #[.pointer (some p), .agg #[.int .u8 4, .int .i64 n, .float .f64 x, .float .f64 y, .string s, .slice a rs.length cap], .int .i64 nest] w (MayIs (Va.mk 4 n x y s rs) nest left p w) := by
  cases hl : decide (left - 1 < 0)
  case true => exact (mayL_4 n x y s rs.length a cap nest left p w hp hz g0 g1 hl).mono fun _ _ h => h.is (left_bad hl)
  case false =>
  by_cases q : n = 0
  case neg => exact (mayN_4_n n x y s rs.length a cap nest left p w hp hz g0 g1 hl (no_n q)).mono fun _ _ h => h.is (root_bad (by unfold okB; simp [*]))
  subst q
  by_cases q : s.toList = []
  case neg => exact (mayN_4_s x y s rs.length a cap nest left p w hp hz g0 g1 hl q).mono fun _ _ h => h.is (root_bad (by have := size_nz q; unfold okB; simp [*]))
  obtain rfl := toList_nil q
  clear q
  by_cases q : rs.length = 0
  case neg => exact (mayN_4_len x y rs.length a cap nest left p w hp hz g0 g1 hl q).mono fun _ _ h => h.is (root_bad (by unfold okB; simp [*]))
  obtain rfl := List.eq_nil_of_length_eq_zero q
  clear q
  exact (mayY_4 x y a cap nest left p w hp hz g0 g1 hl).mono fun _ _ h => h.is (leaf_ok (by unfold okB; simp; try rfl) hl) (by have := of_decide_eq_false hl; omega)
theorem may_5 (n : Int) (x y : Nat) (s : ByteArray) (rs : List Va) (a : Option Addr) (cap : Nat) (nest left : Int) (p : Addr) (w : World) (hp : w.cell? p = some (.int .i64 left)) (hz : w.frozen? p = false) (g0 : 0 ≤ left) (g1 : left ≤ 1024) : Calls Tryz.prog 40 #[.pointer (some p), .agg #[.int .u8 5, .int .i64 n, .float .f64 x, .float .f64 y, .string s, .slice a rs.length cap], .int .i64 nest] w (MayIs (Va.mk 5 n x y s rs) nest left p w) := by
  cases hl : decide (left - 1 < 0)
  case true => exact (mayL_5 n x y s rs.length a cap nest left p w hp hz g0 g1 hl).mono fun _ _ h => h.is (left_bad hl)
  case false =>
  by_cases q : n = 0
  case neg => exact (mayN_5_n n x y s rs.length a cap nest left p w hp hz g0 g1 hl (no_n q)).mono fun _ _ h => h.is (root_bad (by unfold okB; simp [*]))
  subst q
  by_cases q : x = 0
  case neg => exact (mayN_5_x x y s rs.length a cap nest left p w hp hz g0 g1 hl (no_x q)).mono fun _ _ h => h.is (root_bad (by unfold okB; simp [*]))
  subst q
  by_cases q : y = 0
  case neg => exact (mayN_5_y y s rs.length a cap nest left p w hp hz g0 g1 hl (no_x q)).mono fun _ _ h => h.is (root_bad (by unfold okB; simp [*]))
  subst q
  by_cases q : rs.length = 0
  case neg => exact (mayN_5_len s rs.length a cap nest left p w hp hz g0 g1 hl q).mono fun _ _ h => h.is (root_bad (by unfold okB; simp [*]))
  obtain rfl := List.eq_nil_of_length_eq_zero q
  clear q
  cases q : decide (4096 < (s.size : Int))
  case true => exact (mayN_5_size s a cap nest left p w hp hz g0 g1 hl q).mono fun _ _ h => h.is (root_bad (by have := of_decide_eq_true q; unfold okB; simp; omega))
  exact (mayY_5 s a cap nest left p w hp hz g0 g1 hl q).mono fun _ _ h => h.is (leaf_ok (by have := of_decide_eq_false q; unfold okB; simp; omega) hl) (by have := of_decide_eq_false hl; omega)
theorem may_6 (n : Int) (x y : Nat) (s : ByteArray) (rs : List Va) (a : Option Addr) (cap : Nat) (nest left : Int) (p : Addr) (w : World) (hp : w.cell? p = some (.int .i64 left)) (hz : w.frozen? p = false) (g0 : 0 ≤ left) (g1 : left ≤ 1024) : Calls Tryz.prog 40 #[.pointer (some p), .agg #[.int .u8 6, .int .i64 n, .float .f64 x, .float .f64 y, .string s, .slice a rs.length cap], .int .i64 nest] w (MayIs (Va.mk 6 n x y s rs) nest left p w) := by
  cases hl : decide (left - 1 < 0)
  case true => exact (mayL_6 n x y s rs.length a cap nest left p w hp hz g0 g1 hl).mono fun _ _ h => h.is (left_bad hl)
  case false =>
  by_cases q : n = 0
  case neg => exact (mayN_6_n n x y s rs.length a cap nest left p w hp hz g0 g1 hl (no_n q)).mono fun _ _ h => h.is (root_bad (by unfold okB; simp [*]))
  subst q
  by_cases q : x = 0
  case neg => exact (mayN_6_x x y s rs.length a cap nest left p w hp hz g0 g1 hl (no_x q)).mono fun _ _ h => h.is (root_bad (by unfold okB; simp [*]))
  subst q
  by_cases q : y = 0
  case neg => exact (mayN_6_y y s rs.length a cap nest left p w hp hz g0 g1 hl (no_x q)).mono fun _ _ h => h.is (root_bad (by unfold okB; simp [*]))
  subst q
  by_cases q : rs.length = 0
  case neg => exact (mayN_6_len s rs.length a cap nest left p w hp hz g0 g1 hl q).mono fun _ _ h => h.is (root_bad (by unfold okB; simp [*]))
  obtain rfl := List.eq_nil_of_length_eq_zero q
  clear q
  cases q : decide (4096 < (s.size : Int))
  case true => exact (mayN_6_size s a cap nest left p w hp hz g0 g1 hl q).mono fun _ _ h => h.is (root_bad (by have := of_decide_eq_true q; unfold okB; simp; omega))
  exact (mayY_6 s a cap nest left p w hp hz g0 g1 hl q).mono fun _ _ h => h.is (leaf_ok (by have := of_decide_eq_false q; unfold okB; simp; omega) hl) (by have := of_decide_eq_false hl; omega)
set_option maxRecDepth 100000 in
set_option maxHeartbeats 4000000 in
theorem may_big (kd n : Int) (x y : Nat) (s : ByteArray) (rs : List Va) (a : Option Addr) (cap : Nat) (nest left : Int) (p : Addr) (w : World) (hp : w.cell? p = some (.int .i64 left)) (hz : w.frozen? p = false) (g0 : 0 ≤ left) (g1 : left ≤ 1024) (h8 : 8 ≤ kd) (h255 : kd ≤ 255) : Calls Tryz.prog 40 #[.pointer (some p), .agg #[.int .u8 kd, .int .i64 n, .float .f64 x, .float .f64 y, .string s, .slice a rs.length cap], .int .i64 nest] w (MayIs (Va.mk kd n x y s rs) nest left p w) :=
  (mayL_big n x y s rs.length a cap nest left p w hp hz g0 g1 kd h8 h255).mono fun _ _ h => h.is (root_bad (okB_ge (by omega) (by omega) (by omega) (by omega) (by omega) (by omega) (by omega) (by omega)))
set_option maxRecDepth 100000 in
set_option maxHeartbeats 4000000 in
theorem may_N (N : Nat) : ∀ (r : Va) (_ : r.size ≤ N) (_ : r.wf) (c : List Value) (F : List Nat) (w : World) (nest left : Int) (p : Addr) (_ : r.tr.own 6 w c F) (_ : w.cell? p = some (.int .i64 left)) (_ : w.frozen? p = false) (_ : ∀ b ∈ F, b ≠ p.block) (_ : 0 ≤ nest) (_ : nest ≤ 16) (_ : 0 ≤ left) (_ : left ≤ 1024),
    Calls Tryz.prog 40 #[.pointer (some p), .agg c.toArray, .int .i64 nest] w (MayIs r nest left p w) := by
  induction N with
  | zero => intro r hN; have := r.size_pos; omega
  | succ N ih =>
  intro r hN hwf c F w nest left p hr hp hz hF n0 n1 g0 g1
  obtain ⟨kd, n, x, y, s, rs⟩ := r
  obtain ⟨a, cap, rfl, hcap, hcap', hc⟩ := Va.open hr
  clear hr
  unfold Va.wf at hwf
  obtain ⟨k0, k255, _, _, _, _, hws⟩ := hwf
  by_cases h7 : ¬ kd = 7
  · by_cases e0 : kd = 0
    · subst e0; exact may_0 n x y s rs a cap nest left p w hp hz g0 g1
    by_cases e1 : kd = 1
    · subst e1; exact may_1 n x y s rs a cap nest left p w hp hz g0 g1
    by_cases e2 : kd = 2
    · subst e2; exact may_2 n x y s rs a cap nest left p w hp hz g0 g1
    by_cases e3 : kd = 3
    · subst e3; exact may_3 n x y s rs a cap nest left p w hp hz g0 g1
    by_cases e4 : kd = 4
    · subst e4; exact may_4 n x y s rs a cap nest left p w hp hz g0 g1
    by_cases e5 : kd = 5
    · subst e5; exact may_5 n x y s rs a cap nest left p w hp hz g0 g1
    by_cases e6 : kd = 6
    · subst e6; exact may_6 n x y s rs a cap nest left p w hp hz g0 g1
    exact may_big kd n x y s rs a cap nest left p w hp hz g0 g1 (by omega) k255
  have h7 := Classical.not_not.1 h7
  subst h7
  cases hl : decide (left - 1 < 0)
  case true => exact (mayL_7 n x y s rs.length a cap nest left p w hp hz g0 g1 hl).mono fun _ _ h => h.is (left_bad hl)
  by_cases q : n = 0
  case neg => exact (mayN_7_n n x y s rs.length a cap nest left p w hp hz g0 g1 hl (no_n q)).mono fun _ _ h => h.is (root_bad (by unfold okB; simp [*]))
  subst q
  by_cases q : x = 0
  case neg => exact (mayN_7_x x y s rs.length a cap nest left p w hp hz g0 g1 hl (no_x q)).mono fun _ _ h => h.is (root_bad (by unfold okB; simp [*]))
  subst q
  by_cases q : y = 0
  case neg => exact (mayN_7_y y s rs.length a cap nest left p w hp hz g0 g1 hl (no_x q)).mono fun _ _ h => h.is (root_bad (by unfold okB; simp [*]))
  subst q
  by_cases q : s.toList = []
  case neg => exact (mayN_7_s s rs.length a cap nest left p w hp hz g0 g1 hl q).mono fun _ _ h => h.is (root_bad (by have := size_nz q; unfold okB; simp [*]))
  obtain rfl := toList_nil q
  clear q
  cases q : decide (16 ≤ nest)
  case true => exact (mayN_7_nest rs.length a cap nest left p w hp hz g0 g1 hl q).mono fun _ _ h => h.is (root_bad (by have := of_decide_eq_true q; unfold okB; simp; omega))
  have hl1 : 0 ≤ left - 1 := by have := of_decide_eq_false hl; omega
  have hn16 : nest < 16 := by have := of_decide_eq_false q; omega
  have HO : Hid (∀ v, Va.cnts rs (nest + 1) (left - 1) = v → (Va.mk 7 0 0 0 ⟨#[]⟩ rs).cnt nest left = v) := fun v hv => by
    unfold Va.cnt
    rw [if_neg (by rw [okB_7]; unfold onlyB; simp; omega)]
    exact hv
  have HW := Lib.hid hws
  have HF := Lib.hid hF
  have IH := Lib.hid ih
  clear ih hws hF
  unfold Va.size at hN
  have hpb : p.block < w.heap.size := World.block_lt_of_cell? w p hp
  have kb := run_bits
  have HP := Lib.hid (And.intro hp hz)
  have hfz : ∀ o, (w.alloc o).frozen? p = false := fun o => (frozen_new w o p hpb).trans hz
  have hc1 : ∀ j, ((w.alloc (.cells #[.int .u8 7, .int .i64 0, .float .f64 0, .float .f64 0, .string ⟨#[]⟩, .slice a rs.length cap] 25)).setCell p (.int .i64 (left - 1))).cell? ⟨w.heap.size, j, none⟩ = (#[.int .u8 7, .int .i64 0, .float .f64 0, .float .f64 0, .string ⟨#[]⟩, .slice a rs.length cap])[j]? := box_all (may_box hpb)
  go_enter Tryz.func40, Tryz.ntmps40
  simp only [List.append_eq, List.cons_append, List.nil_append]
  go_wp2_with ((go_at_call 66; (with_reducible refine (counts_7 _).mono ?_); rintro e w1 ⟨rfl, hb1⟩; have HE := Lib.hid (may_end HP.out.1 HP.out.2 hb1); have j1 := box_keep (may_box hpb) hb1; have j2 := HE.out.1; have j3 := fun ob => (cell_new w1 ob p (World.block_lt_of_cell? w1 p j2)).trans j2; have j4 := fun ob j => (cell_new w1 ob ⟨w.heap.size, j, none⟩ (by have := HE.out.2.2.size; have := hb1.size; simp [World.setCell] at this; show w.heap.size < _; omega)).trans (j1 j)))
  clear j1 j2 j3 j4 hc1 hfz
  go_loopw [118] (fun u118 wr => ∃ (k : Nat) (l : Int), k ≤ rs.length ∧ u118 = .int .i64 k ∧ 0 ≤ l ∧ l ≤ 1024 ∧ Hid (Va.cnts (rs.drop k) (nest + 1) l = Va.cnts rs (nest + 1) (left - 1)) ∧ wr.cell? p = some (.int .i64 l) ∧ Hid (wr.frozen? p = false) ∧ Hid (Wr (fun k => k = p.block) w wr)) (fun u118 _ => rs.length - (intOf u118).toNat)
  case atStart =>
    obtain ⟨q1, q2, q3⟩ := end_alloc HE.out (.cells #[.bool false, .bool false, .bool false, .bool false, .bool true] 95)
    exact ⟨0, left - 1, by omega, rfl, by omega, by omega, rfl, q1, q2, q3⟩
  case round =>
    clear HE hb1
    obtain ⟨k, l, hk, rfl, l0, l1, hf, hcell, hfz, hw⟩ := hrel
    by_cases hlt : k < rs.length
    · rcases hc with ⟨h0', _⟩ | ⟨_, b, o, cs, F', rfl, rfl, hra, hkl⟩
      · omega
      have hbl : b < w.heap.size := rangeAt_lt hra (by rw [Tr.ownL_len hkl, Va.trs_len]; omega)
      have hra' := rangeAt_of_block hra (hw.out.block b hbl (HF.out b (by simp)))
      have hkl' := Tr.ownL_same _ _ _ (fun i hi => hw.out.block i (Tr.ownL_lt _ _ _ hkl i hi) (HF.out i (by simp [hi]))) hkl
      obtain ⟨kkd, kn, kx, ky, ks, krs, ka, kcap, Fa, F1, Fb, hFF, _hke, hkid, c0, c1, c2, c3, c4, c5⟩ := Va.kidO k hlt hkl' hra'
      clear _hke
      have HZ := Va.sizes_at rs k hlt
      have HFF := Lib.hid (fun b (hb : b ∈ F1) => HF.out b (by rw [hFF]; simp [hb]))
      have hri : (0:Int) ≤ (k:Int) := by omega
      have hri2 : (k:Int) < (rs.length:Int) := by omega
      clear hra hkl hra' hkl' hFF
      have hbd := Va.cnt_bd rs[k] (nest + 1) l
      have hpw : p.block < wr.heap.size := World.block_lt_of_cell? wr p hcell
      have hca := fun ob => (cell_new wr ob p hpw).trans hcell
      have HKID : Hid (∀ ob, rs[k].tr.own 6 (wr.alloc ob) [.int .u8 kkd, .int .i64 kn, .float .f64 kx, .float .f64 ky, .string ks, .slice ka krs.length kcap] F1 ∧ (wr.alloc ob).frozen? p = false) := fun ob => ⟨Tr.own_below hkid (bnew (Below.refl _ _) ob), (frozen_new wr ob p hpw).trans hfz.out⟩
      cases hneg : decide (0 ≤ rs[k].cnt (nest + 1) l)
      · have HG := Lib.hid hneg
        go_wp2_with (go_at_call 40; refine (IH.out rs[k] (by omega) (Va.wfs_at rs k hlt HW.out) [.int .u8 kkd, .int .i64 kn, .float .f64 kx, .float .f64 ky, .string ks, .slice ka krs.length kcap] F1 _ (nest + 1) l p (HKID.out _).1 (hca _) (HKID.out _).2 HFF.out (by omega) (by omega) (by omega) (by omega)).mono ?_; rintro e w' ⟨l', rfl, q1, q2, q3, q4⟩; rw [HG.out])
        go_ret
        have hc0 : (Va.mk 7 0 0 0 ⟨#[]⟩ rs).cnt nest left = -1 := HO.out _ (hf.out.symm.trans (Va.cnts_bad rs k hlt _ _ (by have := of_decide_eq_false HG.out; omega)))
        refine ⟨l', by rw [hc0]; rfl, fun h => by omega, q2, q3, ?_⟩
        exact (hw.out.alloc _).andThen q4 fun _ _ h => h
      · have HG := Lib.hid hneg
        go_wp2_with (go_at_call 40; refine (IH.out rs[k] (by omega) (Va.wfs_at rs k hlt HW.out) [.int .u8 kkd, .int .i64 kn, .float .f64 kx, .float .f64 ky, .string ks, .slice ka krs.length kcap] F1 _ (nest + 1) l p (HKID.out _).1 (hca _) (HKID.out _).2 HFF.out (by omega) (by omega) (by omega) (by omega)).mono ?_; rintro e w' ⟨l', rfl, q1, q2, q3, q4⟩; rw [HG.out])
        go_roundw
        case rel =>
          have hg := of_decide_eq_true HG.out
          have := q1 hg
          subst this
          exact ⟨k + 1, _, by omega, by go_num, by omega, by omega, (Va.cnts_drop rs k hlt _ l hg).symm.trans hf.out, q2, q3, (hw.out.alloc _).andThen q4 fun _ _ h => h⟩
        case measure => simp [intOf]; omega
    · have hk' : k = rs.length := by omega
      go_wp2_with fail
      go_ret
      have hc0 : (Va.mk 7 0 0 0 ⟨#[]⟩ rs).cnt nest left = l := HO.out _ (hf.out.symm.trans (by subst hk'; simp [Va.cnts]))
      exact ⟨l, by rw [hc0, decide_eq_true l0]; rfl, fun _ => hc0.symm, hcell, hfz.out, hw.out⟩
set_option maxHeartbeats 1000000 in
theorem Check_any (r : Va) (c : List Value) (F : List Nat) (w : World) (hr : r.tr.own 6 w c F) (hwf : r.wf) :
    Calls Tryz.prog 24 #[.agg c.toArray] w (CheckIs r w) := by
  obtain ⟨v0, v1, v2, v3, v4, v5, rfl⟩ := Va.shape hr
  have HR := Lib.hid (fun A B => (And.intro (Tr.own_below hr (bb2 w A B)) (fun b hb => Nat.ne_of_lt (Nat.lt_succ_of_lt (Tr.own_lt _ _ _ hr b hb)) : ∀ b ∈ F, b ≠ w.heap.size + 1)))
  have HW := Lib.hid hwf
  clear hr hwf
  have hbd := Va.cnt_bd r 0 1024
  have HB := Lib.hid (bb2 w)
  cases hd : decide (0 ≤ r.cnt 0 1024)
  all_goals
    have HD := Lib.hid hd
    clear hd
    go_enter Tryz.func24, Tryz.ntmps24
    go_wp2_with (go_at_call 40; refine (may_N _ r (Nat.le_refl _) HW.out [v0, v1, v2, v3, v4, v5] F _ 0 1024 ⟨w.heap.size + 1, 0, none⟩ (HR.out _ _).1 (by simp [go_sem]) (by simp [go_sem]) (HR.out (.cells #[] 0) (.cells #[] 0)).2 (by omega) (by omega) (by omega) (by omega)).mono ?_; rintro e w1 ⟨l', rfl, q1, q2, q3, q4⟩; rw [HD.out])
    go_ret
    refine ⟨ri ?_, (HB.out _ _).trans (q4.below (by simp; omega) (by intro k hk; subst hk; omega))⟩
    unfold Va.okV
    rw [HD.out]
    rfl
def BothIs (r r2 : Va) (w : World) (e : Ending) (w' : World) : Prop := e = .returned (.int .i64 (if r.okV && r2.okV then 0 else 20)) ∧ Below w.heap.size w w'
set_option maxHeartbeats 1000000 in
theorem both_any (r r2 : Va) (c c2 : List Value) (F F2 : List Nat) (w : World) (hr : r.tr.own 6 w c F) (hr2 : r2.tr.own 6 w c2 F2) (hwf : r.wf) (hwf2 : r2.wf) :
    Calls Tryz.prog 26 #[.agg c.toArray, .agg c2.toArray] w (BothIs r r2 w) := by
  obtain ⟨v0, v1, v2, v3, v4, v5, rfl⟩ := Va.shape hr
  obtain ⟨x0, x1, x2, x3, x4, x5, rfl⟩ := Va.shape hr2
  have HR : Hid (∀ W, Below w.heap.size w W → r.tr.own 6 W [v0, v1, v2, v3, v4, v5] F) := fun W hW => Tr.own_below hr hW
  have HR2 : Hid (∀ W, Below w.heap.size w W → r2.tr.own 6 W [x0, x1, x2, x3, x4, x5] F2) := fun W hW => Tr.own_below hr2 hW
  have HB := Lib.hid (bb2 w (.cells #[v0, v1, v2, v3, v4, v5] 25) (.cells #[x0, x1, x2, x3, x4, x5] 25))
  have HW := Lib.hid (And.intro hwf hwf2)
  clear hr hr2 hwf hwf2
  cases o1 : r.okV
  · have O1 := Lib.hid o1
    clear o1
    go_enter Tryz.func26, Tryz.ntmps26
    go_wp2_with (go_at_call 24; (with_reducible refine (Check_any r [v0, v1, v2, v3, v4, v5] F _ (HR.out _ HB.out) HW.out.1).mono ?_); rintro e w1 ⟨rfl, hb1⟩; rw [bad_ite O1.out])
    go_ret
    exact ⟨ri (by rw [O1.out]; rfl), bthen HB.out hb1⟩
  · have O1 := Lib.hid o1
    clear o1
    cases o2 : r2.okV
    all_goals
      have O2 := Lib.hid o2
      clear o2
      go_enter Tryz.func26, Tryz.ntmps26
      go_wp2_with (first | (go_at_call 24; (with_reducible refine (Check_any r [v0, v1, v2, v3, v4, v5] F _ (HR.out _ HB.out) HW.out.1).mono ?_); rintro e w1 ⟨rfl, hb1⟩; rw [ok_ite O1.out]; have j1 := box_keep (two1 w _ _) hb1; have j2 := box_keep (two2 w _ _) hb1) | (go_at_call 24; (with_reducible refine (Check_any r2 [x0, x1, x2, x3, x4, x5] F2 _ (HR2.out _ (bthen HB.out hb1)) HW.out.2).mono ?_); rintro e w2 ⟨rfl, hb2⟩; clear j1 j2; (first | rw [ok_ite O2.out] | rw [bad_ite O2.out])))
      go_ret
      exact ⟨ri (by rw [O1.out, O2.out]; rfl), bthen (bthen HB.out hb1) hb2⟩
end Go.Proofs.YtbbpngoffpegbaaGreatDoor
