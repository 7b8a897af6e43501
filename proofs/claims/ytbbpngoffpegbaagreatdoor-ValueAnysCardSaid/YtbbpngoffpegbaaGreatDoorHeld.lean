/- The walk of the program's held: kinds without lists. (Printed by genheld.py.) -/
import Derived.Test.YtbbpngoffpegbaaGreatDoorDecP
import Derived.Test.YtbbpngoffpegbaaGreatDoorTwin
import Derived.Test.YtbbpngoffpegbaaGreatDoorPlain
import Derived.Test.YtbbpngoffpegbaaGreatDoorTas
import Derived.Laws.BytesArg
namespace Go.Proofs.YtbbpngoffpegbaaGreatDoor
open Go Go.RowKit
set_option linter.unusedVariables false
set_option linter.unusedSimpArgs false
attribute [local go_sem] run_store_float
theorem held_end {w : World} {v0 v1 v2 v3 v4 : Value} {W : World} (hb : Below w.heap.size w W) {r : Va} (h : ∀ W', r.tr.own 6 W' [v0, v1, v2, v3, v4, .slice none 0 0] []) : GivesR r w (.returned (.agg #[v0, v1, v2, v3, v4, .slice none 0 0])) (W.setRow w.heap.size #[v0, v1, v2, v3, v4, .slice none 0 0]) :=
  ⟨_, _, _, _, _, _, [], rfl, h _, Apart.nil _, Soft.nil _, hb.trans ⟨rfl, rfl, rfl, by simp, fun i hi => setRow_other _ _ _ _ (by omega)⟩⟩
set_option maxRecDepth 100000 in
set_option maxHeartbeats 2000000 in
theorem held_0 (w : World)  : Calls Tryz.prog 39 #[.nilIface] w (GivesR (mkI 0 0) w) := by
  have a0 := ta_nb
  have a1 := ta_ni
  have a2 := ta_nf
  have a3 := ta_nc
  have a4 := ta_ns
  have a5 := ta_ny
  have a6 := ta_na
  have HB := Lib.hid (bnew (Below.refl w.heap.size w) (.cells zero6 25))
  have HE := Lib.hid (heap_alloc_new w (.cells zero6 25))
  go_enter Tryz.func39, Tryz.ntmps39
  go_wp2_with (refine wpList_store_rowTo (by rfl) 25 _ _ (by rfl) (by rfl) w.heap.size #[.int .u8 0, .int .i64 0, .float .f64 0, .float .f64 0, .string ⟨#[]⟩, .slice none 0 0] (by rfl) (by rfl) 25 zero6 HE.out (by kernel_rfl) (by kernel_rfl) (all_oneCell_toArray (cs := [.int .u8 0, .int .i64 0, .float .f64 0, .float .f64 0, .string ⟨#[]⟩, .slice none 0 0]) (by simp [Value.oneCell'])) ?_)
  refine bodyPost_ret (v := .agg #[.int .u8 0, .int .i64 0, .float .f64 0, .float .f64 0, .string ⟨#[]⟩, .slice none 0 0]) (results_cell_row rfl _ _ w.heap.size 25 _ (0, 0) _ rfl (setRow_heap _ _ _ _ _ _ HE.out) Tryz.underlying25 rfl (by kernel_rfl)) rfl ?_
  refine held_end HB.out (fun W => ?_)
  (try unfold mkI); unfold Va.tr Tr.own
  exact ⟨none, 0, 0, by simp, rfl, by simp [Value.oneCell'], ⟨rfl, Nat.le_refl _⟩, Nat.le_refl _, by omega, .inl ⟨rfl, rfl⟩⟩
set_option maxRecDepth 100000 in
set_option maxHeartbeats 2000000 in
theorem held_2 (w : World) (n : Int) : Calls Tryz.prog 39 #[.iface 2 (.int .i64 n)] w (GivesR (mkI 2 n) w) := by
  have a0 := ta_ib
  have a1 := ta_ii
  have HB := Lib.hid (bnew (Below.refl w.heap.size w) (.cells zero6 25))
  have HE := Lib.hid (heap_alloc_new w (.cells zero6 25))
  go_enter Tryz.func39, Tryz.ntmps39
  go_wp2_with (refine wpList_store_rowTo (by rfl) 25 _ _ (by rfl) (by rfl) w.heap.size #[.int .u8 2, .int .i64 n, .float .f64 0, .float .f64 0, .string ⟨#[]⟩, .slice none 0 0] (by rfl) (by rfl) 25 zero6 HE.out (by kernel_rfl) (by kernel_rfl) (all_oneCell_toArray (cs := [.int .u8 2, .int .i64 n, .float .f64 0, .float .f64 0, .string ⟨#[]⟩, .slice none 0 0]) (by simp [Value.oneCell'])) ?_)
  refine bodyPost_ret (v := .agg #[.int .u8 2, .int .i64 n, .float .f64 0, .float .f64 0, .string ⟨#[]⟩, .slice none 0 0]) (results_cell_row rfl _ _ w.heap.size 25 _ (0, 0) _ rfl (setRow_heap _ _ _ _ _ _ HE.out) Tryz.underlying25 rfl (by kernel_rfl)) rfl ?_
  refine held_end HB.out (fun W => ?_)
  (try unfold mkI); unfold Va.tr Tr.own
  exact ⟨none, 0, 0, by simp, rfl, by simp [Value.oneCell'], ⟨rfl, Nat.le_refl _⟩, Nat.le_refl _, by omega, .inl ⟨rfl, rfl⟩⟩
set_option maxRecDepth 100000 in
set_option maxHeartbeats 2000000 in
theorem held_3 (w : World) (x : Nat) : Calls Tryz.prog 39 #[.iface 22 (.float .f64 x)] w (GivesR (.mk 3 0 x 0 ⟨#[]⟩ []) w) := by
  have a0 := ta_fb
  have a1 := ta_fi
  have a2 := ta_ff
  have HB := Lib.hid (bnew (Below.refl w.heap.size w) (.cells zero6 25))
  have HE := Lib.hid (heap_alloc_new w (.cells zero6 25))
  go_enter Tryz.func39, Tryz.ntmps39
  go_wp2_with (refine wpList_store_rowTo (by rfl) 25 _ _ (by rfl) (by rfl) w.heap.size #[.int .u8 3, .int .i64 0, .float .f64 x, .float .f64 0, .string ⟨#[]⟩, .slice none 0 0] (by rfl) (by rfl) 25 zero6 HE.out (by kernel_rfl) (by kernel_rfl) (all_oneCell_toArray (cs := [.int .u8 3, .int .i64 0, .float .f64 x, .float .f64 0, .string ⟨#[]⟩, .slice none 0 0]) (by simp [Value.oneCell'])) ?_)
  refine bodyPost_ret (v := .agg #[.int .u8 3, .int .i64 0, .float .f64 x, .float .f64 0, .string ⟨#[]⟩, .slice none 0 0]) (results_cell_row rfl _ _ w.heap.size 25 _ (0, 0) _ rfl (setRow_heap _ _ _ _ _ _ HE.out) Tryz.underlying25 rfl (by kernel_rfl)) rfl ?_
  refine held_end HB.out (fun W => ?_)
  (try unfold mkI); unfold Va.tr Tr.own
  exact ⟨none, 0, 0, by simp, rfl, by simp [Value.oneCell'], ⟨rfl, Nat.le_refl _⟩, Nat.le_refl _, by omega, .inl ⟨rfl, rfl⟩⟩
set_option maxRecDepth 100000 in
set_option maxHeartbeats 2000000 in
theorem held_4 (w : World) (x y : Nat) : Calls Tryz.prog 39 #[.iface 48 (.complex .f64 x y)] w (GivesR (.mk 4 0 x y ⟨#[]⟩ []) w) := by
  have a0 := ta_cb
  have a1 := ta_ci
  have a2 := ta_cf
  have a3 := ta_cc
  have HB := Lib.hid (bnew (Below.refl w.heap.size w) (.cells zero6 25))
  have HE := Lib.hid (heap_alloc_new w (.cells zero6 25))
  go_enter Tryz.func39, Tryz.ntmps39
  go_wp2_with (refine wpList_store_rowTo (by rfl) 25 _ _ (by rfl) (by rfl) w.heap.size #[.int .u8 4, .int .i64 0, .float .f64 x, .float .f64 y, .string ⟨#[]⟩, .slice none 0 0] (by rfl) (by rfl) 25 zero6 HE.out (by kernel_rfl) (by kernel_rfl) (all_oneCell_toArray (cs := [.int .u8 4, .int .i64 0, .float .f64 x, .float .f64 y, .string ⟨#[]⟩, .slice none 0 0]) (by simp [Value.oneCell'])) ?_)
  refine bodyPost_ret (v := .agg #[.int .u8 4, .int .i64 0, .float .f64 x, .float .f64 y, .string ⟨#[]⟩, .slice none 0 0]) (results_cell_row rfl _ _ w.heap.size 25 _ (0, 0) _ rfl (setRow_heap _ _ _ _ _ _ HE.out) Tryz.underlying25 rfl (by kernel_rfl)) rfl ?_
  refine held_end HB.out (fun W => ?_)
  (try unfold mkI); unfold Va.tr Tr.own
  exact ⟨none, 0, 0, by simp, rfl, by simp [Value.oneCell'], ⟨rfl, Nat.le_refl _⟩, Nat.le_refl _, by omega, .inl ⟨rfl, rfl⟩⟩
set_option maxRecDepth 100000 in
set_option maxHeartbeats 2000000 in
theorem held_5 (w : World) (s : ByteArray) : Calls Tryz.prog 39 #[.iface 9 (.string s)] w (GivesR (.mk 5 0 0 0 s []) w) := by
  have a0 := ta_sb
  have a1 := ta_si
  have a2 := ta_sf
  have a3 := ta_sc
  have a4 := ta_ss
  have HB := Lib.hid (bnew (Below.refl w.heap.size w) (.cells zero6 25))
  have HE := Lib.hid (heap_alloc_new w (.cells zero6 25))
  go_enter Tryz.func39, Tryz.ntmps39
  go_wp2_with (refine wpList_store_rowTo (by rfl) 25 _ _ (by rfl) (by rfl) w.heap.size #[.int .u8 5, .int .i64 0, .float .f64 0, .float .f64 0, .string s, .slice none 0 0] (by rfl) (by rfl) 25 zero6 HE.out (by kernel_rfl) (by kernel_rfl) (all_oneCell_toArray (cs := [.int .u8 5, .int .i64 0, .float .f64 0, .float .f64 0, .string s, .slice none 0 0]) (by simp [Value.oneCell'])) ?_)
  refine bodyPost_ret (v := .agg #[.int .u8 5, .int .i64 0, .float .f64 0, .float .f64 0, .string s, .slice none 0 0]) (results_cell_row rfl _ _ w.heap.size 25 _ (0, 0) _ rfl (setRow_heap _ _ _ _ _ _ HE.out) Tryz.underlying25 rfl (by kernel_rfl)) rfl ?_
  refine held_end HB.out (fun W => ?_)
  (try unfold mkI); unfold Va.tr Tr.own
  exact ⟨none, 0, 0, by simp, rfl, by simp [Value.oneCell'], ⟨rfl, Nat.le_refl _⟩, Nat.le_refl _, by omega, .inl ⟨rfl, rfl⟩⟩
end Go.Proofs.YtbbpngoffpegbaaGreatDoor
