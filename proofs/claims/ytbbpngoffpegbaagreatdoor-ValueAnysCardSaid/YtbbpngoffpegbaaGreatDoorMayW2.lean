/- The walk of '(*value.census).may', kind 2. -/
import Derived.Test.YtbbpngoffpegbaaGreatDoorMay
namespace Go.Proofs.YtbbpngoffpegbaaGreatDoor
open Go.RowKit
set_option linter.unusedVariables false
set_option linter.unusedSimpArgs false
attribute [local go_sem] run_store_float
set_option maxRecDepth 100000 in
set_option maxHeartbeats 4000000 in
theorem mayL_2 (n : Int) (x : Nat) (y : Nat) (s : ByteArray) (len : Nat) (a : Option Addr) (cap : Nat) (nest left : Int) (p : Addr) (w : World) (hp : w.cell? p = some (.int .i64 left)) (hz : w.frozen? p = false) (g0 : 0 ≤ left) (g1 : left ≤ 1024) (q : decide (left - 1 < 0) = true) :
    Calls Tryz.prog 40 #[.pointer (some p), .agg #[.int .u8 2, .int .i64 n, .float .f64 x, .float .f64 y, .string s, .slice a len cap], .int .i64 nest] w (MayNot left p w) := by
  have hpb : p.block < w.heap.size := World.block_lt_of_cell? w p hp
  have kb := run_bits
  have HP := Lib.hid (And.intro hp hz)
  have hfz : ∀ o, (w.alloc o).frozen? p = false := fun o => (frozen_new w o p hpb).trans hz
  have hc1 : ∀ j, ((w.alloc (.cells #[.int .u8 2, .int .i64 n, .float .f64 x, .float .f64 y, .string s, .slice a len cap] 25)).setCell p (.int .i64 (left - 1))).cell? ⟨w.heap.size, j, none⟩ = (#[.int .u8 2, .int .i64 n, .float .f64 x, .float .f64 y, .string s, .slice a len cap])[j]? := box_all (may_box hpb)
  go_enter Tryz.func40, Tryz.ntmps40
  simp only [List.append_eq, List.cons_append, List.nil_append]
  go_wp2_with ((go_at_call 66; (with_reducible refine (counts_2 _).mono ?_); rintro e w1 ⟨rfl, hb1⟩; have HE := Lib.hid (may_end HP.out.1 HP.out.2 hb1); have j1 := box_keep (may_box hpb) hb1; have j2 := HE.out.1; have j3 := fun ob => (cell_new w1 ob p (World.block_lt_of_cell? w1 p j2)).trans j2; have j4 := fun ob j => (cell_new w1 ob ⟨w.heap.size, j, none⟩ (by have := HE.out.2.2.size; have := hb1.size; simp [World.setCell] at this; show w.heap.size < _; omega)).trans (j1 j)))
  go_ret
  exact ⟨rfl, end_alloc HE.out _⟩
set_option maxRecDepth 100000 in
set_option maxHeartbeats 4000000 in
theorem mayN_2_x (n : Int) (x : Nat) (y : Nat) (s : ByteArray) (len : Nat) (a : Option Addr) (cap : Nat) (nest left : Int) (p : Addr) (w : World) (hp : w.cell? p = some (.int .i64 left)) (hz : w.frozen? p = false) (g0 : 0 ≤ left) (g1 : left ≤ 1024) (hl : decide (left - 1 < 0) = false) (q : ((x : Int) != 0) = true) :
    Calls Tryz.prog 40 #[.pointer (some p), .agg #[.int .u8 2, .int .i64 n, .float .f64 x, .float .f64 y, .string s, .slice a len cap], .int .i64 nest] w (MayNot left p w) := by
  have hpb : p.block < w.heap.size := World.block_lt_of_cell? w p hp
  have kb := run_bits
  have HP := Lib.hid (And.intro hp hz)
  have hfz : ∀ o, (w.alloc o).frozen? p = false := fun o => (frozen_new w o p hpb).trans hz
  have hc1 : ∀ j, ((w.alloc (.cells #[.int .u8 2, .int .i64 n, .float .f64 x, .float .f64 y, .string s, .slice a len cap] 25)).setCell p (.int .i64 (left - 1))).cell? ⟨w.heap.size, j, none⟩ = (#[.int .u8 2, .int .i64 n, .float .f64 x, .float .f64 y, .string s, .slice a len cap])[j]? := box_all (may_box hpb)
  go_enter Tryz.func40, Tryz.ntmps40
  simp only [List.append_eq, List.cons_append, List.nil_append]
  go_wp2_with ((go_at_call 66; (with_reducible refine (counts_2 _).mono ?_); rintro e w1 ⟨rfl, hb1⟩; have HE := Lib.hid (may_end HP.out.1 HP.out.2 hb1); have j1 := box_keep (may_box hpb) hb1; have j2 := HE.out.1; have j3 := fun ob => (cell_new w1 ob p (World.block_lt_of_cell? w1 p j2)).trans j2; have j4 := fun ob j => (cell_new w1 ob ⟨w.heap.size, j, none⟩ (by have := HE.out.2.2.size; have := hb1.size; simp [World.setCell] at this; show w.heap.size < _; omega)).trans (j1 j)))
  go_ret
  exact ⟨rfl, end_alloc HE.out _⟩
set_option maxRecDepth 100000 in
set_option maxHeartbeats 4000000 in
theorem mayN_2_y (n : Int) (y : Nat) (s : ByteArray) (len : Nat) (a : Option Addr) (cap : Nat) (nest left : Int) (p : Addr) (w : World) (hp : w.cell? p = some (.int .i64 left)) (hz : w.frozen? p = false) (g0 : 0 ≤ left) (g1 : left ≤ 1024) (hl : decide (left - 1 < 0) = false) (q : ((y : Int) != 0) = true) :
    Calls Tryz.prog 40 #[.pointer (some p), .agg #[.int .u8 2, .int .i64 n, .float .f64 0, .float .f64 y, .string s, .slice a len cap], .int .i64 nest] w (MayNot left p w) := by
  have hpb : p.block < w.heap.size := World.block_lt_of_cell? w p hp
  have kb := run_bits
  have HP := Lib.hid (And.intro hp hz)
  have hfz : ∀ o, (w.alloc o).frozen? p = false := fun o => (frozen_new w o p hpb).trans hz
  have hc1 : ∀ j, ((w.alloc (.cells #[.int .u8 2, .int .i64 n, .float .f64 0, .float .f64 y, .string s, .slice a len cap] 25)).setCell p (.int .i64 (left - 1))).cell? ⟨w.heap.size, j, none⟩ = (#[.int .u8 2, .int .i64 n, .float .f64 0, .float .f64 y, .string s, .slice a len cap])[j]? := box_all (may_box hpb)
  go_enter Tryz.func40, Tryz.ntmps40
  simp only [List.append_eq, List.cons_append, List.nil_append]
  go_wp2_with ((go_at_call 66; (with_reducible refine (counts_2 _).mono ?_); rintro e w1 ⟨rfl, hb1⟩; have HE := Lib.hid (may_end HP.out.1 HP.out.2 hb1); have j1 := box_keep (may_box hpb) hb1; have j2 := HE.out.1; have j3 := fun ob => (cell_new w1 ob p (World.block_lt_of_cell? w1 p j2)).trans j2; have j4 := fun ob j => (cell_new w1 ob ⟨w.heap.size, j, none⟩ (by have := HE.out.2.2.size; have := hb1.size; simp [World.setCell] at this; show w.heap.size < _; omega)).trans (j1 j)))
  go_ret
  exact ⟨rfl, end_alloc HE.out _⟩
set_option maxRecDepth 100000 in
set_option maxHeartbeats 4000000 in
theorem mayN_2_s (n : Int) (s : ByteArray) (len : Nat) (a : Option Addr) (cap : Nat) (nest left : Int) (p : Addr) (w : World) (hp : w.cell? p = some (.int .i64 left)) (hz : w.frozen? p = false) (g0 : 0 ≤ left) (g1 : left ≤ 1024) (hl : decide (left - 1 < 0) = false) (q : ¬ s.toList = []) :
    Calls Tryz.prog 40 #[.pointer (some p), .agg #[.int .u8 2, .int .i64 n, .float .f64 0, .float .f64 0, .string s, .slice a len cap], .int .i64 nest] w (MayNot left p w) := by
  have hpb : p.block < w.heap.size := World.block_lt_of_cell? w p hp
  have kb := run_bits
  have HP := Lib.hid (And.intro hp hz)
  have hfz : ∀ o, (w.alloc o).frozen? p = false := fun o => (frozen_new w o p hpb).trans hz
  have hc1 : ∀ j, ((w.alloc (.cells #[.int .u8 2, .int .i64 n, .float .f64 0, .float .f64 0, .string s, .slice a len cap] 25)).setCell p (.int .i64 (left - 1))).cell? ⟨w.heap.size, j, none⟩ = (#[.int .u8 2, .int .i64 n, .float .f64 0, .float .f64 0, .string s, .slice a len cap])[j]? := box_all (may_box hpb)
  go_enter Tryz.func40, Tryz.ntmps40
  simp only [List.append_eq, List.cons_append, List.nil_append]
  go_wp2_with ((go_at_call 66; (with_reducible refine (counts_2 _).mono ?_); rintro e w1 ⟨rfl, hb1⟩; have HE := Lib.hid (may_end HP.out.1 HP.out.2 hb1); have j1 := box_keep (may_box hpb) hb1; have j2 := HE.out.1; have j3 := fun ob => (cell_new w1 ob p (World.block_lt_of_cell? w1 p j2)).trans j2; have j4 := fun ob j => (cell_new w1 ob ⟨w.heap.size, j, none⟩ (by have := HE.out.2.2.size; have := hb1.size; simp [World.setCell] at this; show w.heap.size < _; omega)).trans (j1 j)))
  go_ret
  exact ⟨rfl, end_alloc HE.out _⟩
set_option maxRecDepth 100000 in
set_option maxHeartbeats 4000000 in
theorem mayN_2_len (n : Int) (len : Nat) (a : Option Addr) (cap : Nat) (nest left : Int) (p : Addr) (w : World) (hp : w.cell? p = some (.int .i64 left)) (hz : w.frozen? p = false) (g0 : 0 ≤ left) (g1 : left ≤ 1024) (hl : decide (left - 1 < 0) = false) (q : ¬ len = 0) :
    Calls Tryz.prog 40 #[.pointer (some p), .agg #[.int .u8 2, .int .i64 n, .float .f64 0, .float .f64 0, .string ⟨#[]⟩, .slice a len cap], .int .i64 nest] w (MayNot left p w) := by
  have hpb : p.block < w.heap.size := World.block_lt_of_cell? w p hp
  have kb := run_bits
  have HP := Lib.hid (And.intro hp hz)
  have hfz : ∀ o, (w.alloc o).frozen? p = false := fun o => (frozen_new w o p hpb).trans hz
  have hc1 : ∀ j, ((w.alloc (.cells #[.int .u8 2, .int .i64 n, .float .f64 0, .float .f64 0, .string ⟨#[]⟩, .slice a len cap] 25)).setCell p (.int .i64 (left - 1))).cell? ⟨w.heap.size, j, none⟩ = (#[.int .u8 2, .int .i64 n, .float .f64 0, .float .f64 0, .string ⟨#[]⟩, .slice a len cap])[j]? := box_all (may_box hpb)
  go_enter Tryz.func40, Tryz.ntmps40
  simp only [List.append_eq, List.cons_append, List.nil_append]
  go_wp2_with ((go_at_call 66; (with_reducible refine (counts_2 _).mono ?_); rintro e w1 ⟨rfl, hb1⟩; have HE := Lib.hid (may_end HP.out.1 HP.out.2 hb1); have j1 := box_keep (may_box hpb) hb1; have j2 := HE.out.1; have j3 := fun ob => (cell_new w1 ob p (World.block_lt_of_cell? w1 p j2)).trans j2; have j4 := fun ob j => (cell_new w1 ob ⟨w.heap.size, j, none⟩ (by have := HE.out.2.2.size; have := hb1.size; simp [World.setCell] at this; show w.heap.size < _; omega)).trans (j1 j)))
  go_ret
  exact ⟨rfl, end_alloc HE.out _⟩
set_option maxRecDepth 100000 in
set_option maxHeartbeats 4000000 in
theorem mayY_2 (n : Int) (a : Option Addr) (cap : Nat) (nest left : Int) (p : Addr) (w : World) (hp : w.cell? p = some (.int .i64 left)) (hz : w.frozen? p = false) (g0 : 0 ≤ left) (g1 : left ≤ 1024) (hl : decide (left - 1 < 0) = false) :
    Calls Tryz.prog 40 #[.pointer (some p), .agg #[.int .u8 2, .int .i64 n, .float .f64 0, .float .f64 0, .string ⟨#[]⟩, .slice a 0 cap], .int .i64 nest] w (MayYes left p w) := by
  have hpb : p.block < w.heap.size := World.block_lt_of_cell? w p hp
  have kb := run_bits
  have HP := Lib.hid (And.intro hp hz)
  have hfz : ∀ o, (w.alloc o).frozen? p = false := fun o => (frozen_new w o p hpb).trans hz
  have hc1 : ∀ j, ((w.alloc (.cells #[.int .u8 2, .int .i64 n, .float .f64 0, .float .f64 0, .string ⟨#[]⟩, .slice a 0 cap] 25)).setCell p (.int .i64 (left - 1))).cell? ⟨w.heap.size, j, none⟩ = (#[.int .u8 2, .int .i64 n, .float .f64 0, .float .f64 0, .string ⟨#[]⟩, .slice a 0 cap])[j]? := box_all (may_box hpb)
  go_enter Tryz.func40, Tryz.ntmps40
  simp only [List.append_eq, List.cons_append, List.nil_append]
  go_wp2_with ((go_at_call 66; (with_reducible refine (counts_2 _).mono ?_); rintro e w1 ⟨rfl, hb1⟩; have HE := Lib.hid (may_end HP.out.1 HP.out.2 hb1); have j1 := box_keep (may_box hpb) hb1; have j2 := HE.out.1; have j3 := fun ob => (cell_new w1 ob p (World.block_lt_of_cell? w1 p j2)).trans j2; have j4 := fun ob j => (cell_new w1 ob ⟨w.heap.size, j, none⟩ (by have := HE.out.2.2.size; have := hb1.size; simp [World.setCell] at this; show w.heap.size < _; omega)).trans (j1 j)))
  go_loopw [118] (fun u118 wr => u118 = .int .i64 0 ∧ Hid (wr.cell? p = some (.int .i64 (left - 1)) ∧ wr.frozen? p = false ∧ Wr (fun k => k = p.block) w wr)) (fun _ _ => 0)
  case atStart => exact ⟨rfl, end_alloc HE.out _⟩
  case round =>
    obtain ⟨rfl, HX⟩ := hrel
    go_wp2_with fail
    go_ret
    exact ⟨rfl, HX.out⟩
end Go.Proofs.YtbbpngoffpegbaaGreatDoor
