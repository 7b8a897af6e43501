/- The walk of the program's source.bytes: kinds 0 to 6 and above 7, and where it gives up. (Printed by genpval.py.) -/
import Derived.Test.YtaglklcjolcgeaaRValK
import Derived.Test.YtaglklcjolcgeaaOwnR
namespace Go.Proofs.Ytaglklcjolcgeaa
open Go.RowKit
set_option linter.unusedVariables false
set_option linter.unusedSimpArgs false
attribute [local go_sem] run_store_float
theorem RdP.keep {w w' : World} {p : Addr} {l : Bs} {B : Nat} (h : RdP w p l) (hb : Below B w w') (hlt : p.block < B) : RdP w' p l := ⟨(hb.cell hlt).trans h.1, (hb.frozen hlt).trans h.2.1, h.2.2⟩
/-- Within source.bytes: the result's row, the box at B, the source. -/
structure VP (w : World) (B : Nat) (p : Addr) (l : Bs) (A : Array Value) (W : World) : Prop where
  lo : p.block < w.heap.size
  hi : w.heap.size < B
  res : W.heap[w.heap.size]? = some (.cells zero6 25 (0, 0))
  box : W.heap[B]? = some (.cells A 25 (0, 0))
  rd : RdP W p l
  wr : Wr (fun j => j = p.block) w W
theorem VP.call {w : World} {B : Nat} {p : Addr} {l l2 : Bs} {A : Array Value} {W W2 : World} (h : VP w B p l A W) (hr : RdP W2 p l2) (hw : Wr (fun j => j = p.block) W W2) : VP w B p l2 A W2 := by
  have h1 : w.heap.size < W.heap.size := (Array.getElem?_eq_some_iff.1 h.res).1
  have h2 : B < W.heap.size := (Array.getElem?_eq_some_iff.1 h.box).1
  have := h.lo
  have := h.hi
  exact ⟨h.lo, h.hi, (hw.block _ h1 (by show ¬ _ = _; omega)).trans h.res, (hw.block _ h2 (by show ¬ _ = _; omega)).trans h.box, hr, h.wr.andThen hw fun _ _ h => h⟩
theorem VP.put {w : World} {B : Nat} {p : Addr} {l : Bs} {A : Array Value} {W : World} (h : VP w B p l A W) (i : Nat) (u : Value) : VP w B p l (A.setIfInBounds i u) (W.setCell ⟨B, i, none⟩ u) := by
  have h1 := h.lo
  have h2 := h.hi
  obtain ⟨h3, h4, h5⟩ := h.rd
  exact ⟨h.lo, h.hi, (Below.heap_setCell _ _ _ _ (by show w.heap.size ≠ B; omega)).trans h.res, Joins.block_setCell (i := i) h.box u, ⟨(World.cell?_setCell_other _ _ _ _ (by intro e; rw [← e] at h1; simp at h1; omega)).trans h3, (World.frozen?_setCell ..).trans h4, h5⟩, h.wr.setCell (p := ⟨B, i, none⟩) (.inr (by show w.heap.size ≤ B; omega)) u⟩
theorem VP.cell {w : World} {B : Nat} {p : Addr} {l : Bs} {A : Array Value} {W : World} (h : VP w B p l A W) (i : Nat) : W.cell? ⟨B, i, none⟩ = A[i]? := box_all h.box i
theorem VP.frozen {w : World} {B : Nat} {p : Addr} {l : Bs} {A : Array Value} {W : World} (h : VP w B p l A W) (i : Nat) : W.frozen? ⟨B, i, none⟩ = false := by simp [World.frozen?, h.box]
theorem VP.start {w w1 : World} {p : Addr} {l : Bs} {A : Array Value} (hb : p.block < w.heap.size) (hr : RdP w1 p l) (hw : Wr (fun j => j = p.block) (w.alloc (.cells zero6 25)) w1) : VP w w1.heap.size p l A (w1.alloc (.cells A 25)) := by
  have hs : w.heap.size < w1.heap.size := by have := hw.size; simp at this; omega
  have hB := bnew (Below.refl w1.heap.size w1) (.cells A 25)
  refine ⟨hb, hs, (hB.block _ hs).trans ((hw.block _ (by simp) (by show ¬ _ = _; omega)).trans (heap_alloc_new w _)), heap_alloc_new w1 _, hr.keep hB (Nat.lt_trans hb hs), ?_⟩
  exact ((Wr.of_below (bnew (Below.refl w.heap.size w) (.cells zero6 25)) (fun j => j = p.block)).andThen hw fun _ _ h => h).andThen (Wr.of_below hB (fun j => j = p.block)) fun _ _ h => h
theorem VP.fin {w : World} {B : Nat} {p : Addr} {l : Bs} {A : Array Value} {W : World} (h : VP w B p l A W) (cs : Array Value) : RdP (W.setRow w.heap.size cs) p l ∧ Wr (fun j => j = p.block) w (W.setRow w.heap.size cs) := by
  have h1 : ∀ i, i ≠ w.heap.size → (W.setRow w.heap.size cs).heap[i]? = W.heap[i]? := fun i hi => setRow_other _ _ _ _ hi
  have hlo := h.lo
  obtain ⟨h3, h4, h5⟩ := h.rd
  refine ⟨⟨(World.cell?_of_block (w := W) (h1 p.block (by omega))).trans h3, (World.frozen?_of_block (w := W) (h1 p.block (by omega))).trans h4, h5⟩, h.wr.os, h.wr.tape, h.wr.output, by simpa using h.wr.size, fun i hi hi2 => (h1 i (by omega)).trans (h.wr.block i hi hi2)⟩
/-- What source.bytes comes to: it gives up, or a value and what is left. -/
def PV (o : Option (Va × Bs)) (p : Addr) (w : World) (e : Ending) (w' : World) : Prop := match o with
  | none => ShortIs p w e w'
  | some h => ∃ v0 v1 v2 v3 v4 v5 F, e = .returned (.agg #[v0, v1, v2, v3, v4, v5]) ∧ h.1.tr.ownR w' [v0, v1, v2, v3, v4, v5] F ∧ Apart w.heap.size F ∧ Soft w' F ∧ RdP w' p h.2 ∧ Wr (fun j => j = p.block) w w'
theorem VP.short {w : World} {B : Nat} {p : Addr} {l : Bs} {A : Array Value} {W W2 : World} (h : VP w B p l A W) (hw : Wr (fun j => j = p.block) W W2) : PV none p w (.panicked [{ v := .iface 48 (.agg #[]), recovered := false }]) W2 := ⟨rfl, h.wr.andThen hw fun _ _ h => h⟩
set_option maxRecDepth 100000 in
set_option maxHeartbeats 2000000 in
theorem pv_none (l : Bs)  (nest : Int) (p : Addr) (w : World) (h : RdP w p l) (hb : p.block < w.heap.size)
    (HC : ∀ W, RdP W p l → Calls Try.prog 39 #[.pointer (some p), .int .i64 1] W (ShortIs p W)) :
    Calls Try.prog 24 #[.pointer (some p), .int .i64 nest] w (PV none p w) := by
  have HC := Lib.hid HC
  have HR := Lib.hid (fun o => h.keep (bnew (Below.refl w.heap.size w) o) hb)
  have HBW := Lib.hid hb
  clear h
  go_enter Try.func24, Try.ntmps24
  go_wp2_with fail
  refine (HC.out _ (HR.out _)).mono ?_
  rintro e w1 ⟨rfl, HW1⟩
  simp [bodyPost]
  exact ⟨rfl, (Wr.of_below (bnew (Below.refl w.heap.size w) (.cells zero6 25)) (fun j => j = p.block)).andThen HW1 fun _ _ h => h⟩
set_option maxRecDepth 100000 in
set_option maxHeartbeats 2000000 in
theorem pv_0 (l l2 : Bs) (m : Nat) (nest : Int) (p : Addr) (w : World) (h : RdP w p l) (hb : p.block < w.heap.size)
    (HC : ∀ W, RdP W p l → Calls Try.prog 39 #[.pointer (some p), .int .i64 1] W fun e w' => e = .returned (.int .u64 m) ∧ RdP w' p l2 ∧ Wr (fun j => j = p.block) W w')
    (hm8 : m < 256) (h1 : ¬ m = 1) (h2 : ¬ m = 2) (h3 : ¬ m = 3) (h4 : ¬ m = 4) (h5 : ¬ m = 5) (h6 : ¬ m = 6) (h7 : ¬ m = 7) :
    Calls Try.prog 24 #[.pointer (some p), .int .i64 nest] w (PV (some (mkI m 0, l2)) p w) := by
  have HC := Lib.hid HC
  have HR := Lib.hid (fun o => h.keep (bnew (Below.refl w.heap.size w) o) hb)
  have HBW := Lib.hid hb
  clear h
  go_enter Try.func24, Try.ntmps24
  go_wp2_with (first | (go_at_call 39; (with_reducible refine (HC.out _ (HR.out _)).mono ?_); rintro e w1 ⟨rfl, HR1, HW1⟩; have hv := Lib.hid (VP.start (A := #[.int .u8 m, .int .i64 0, .float .f64 0, .float .f64 0, .string ⟨#[]⟩, .slice none 0 0]) HBW.out HR1 HW1); clear HR1 HW1) | (refine wpList_load_row (by rfl) 25 _ (by rfl) w1.heap.size (by rfl) 25 _ (0, 0) _ hv.out.box Try.underlying25 rfl (by kernel_rfl) ?_) | (refine wpList_store_rowTo (by rfl) 25 _ _ (by rfl) (by rfl) w.heap.size #[.int .u8 m, .int .i64 0, .float .f64 0, .float .f64 0, .string ⟨#[]⟩, .slice none 0 0] (by rfl) (by rfl) 25 zero6 hv.out.res (by kernel_rfl) (by kernel_rfl) (all_oneCell_toArray (cs := [.int .u8 m, .int .i64 0, .float .f64 0, .float .f64 0, .string ⟨#[]⟩, .slice none 0 0]) (by simp [Value.oneCell'])) ?_))
  refine bodyPost_ret (v := .agg #[.int .u8 m, .int .i64 0, .float .f64 0, .float .f64 0, .string ⟨#[]⟩, .slice none 0 0]) (results_cell_row rfl _ _ w.heap.size 25 _ (0, 0) _ rfl (setRow_heap _ _ _ _ _ _ hv.out.res) Try.underlying25 rfl (by kernel_rfl)) rfl ?_
  obtain ⟨r1, r2⟩ := hv.out.fin _
  exact ⟨_, _, _, _, _, _, [], rfl, leafR, Apart.nil _, Soft.nil _, r1, r2⟩
set_option maxRecDepth 100000 in
set_option maxHeartbeats 2000000 in
theorem pv_1n (l l2 : Bs)  (nest : Int) (p : Addr) (w : World) (h : RdP w p l) (hb : p.block < w.heap.size)
    (HC : ∀ W, RdP W p l → Calls Try.prog 39 #[.pointer (some p), .int .i64 1] W fun e w' => e = .returned (.int .u64 1) ∧ RdP w' p l2 ∧ Wr (fun j => j = p.block) W w')
    (HD : ∀ W, RdP W p l2 → Calls Try.prog 39 #[.pointer (some p), .int .i64 1] W (ShortIs p W)) :
    Calls Try.prog 24 #[.pointer (some p), .int .i64 nest] w (PV none p w) := by
  have HC := Lib.hid HC
  have HD := Lib.hid HD
  have HR := Lib.hid (fun o => h.keep (bnew (Below.refl w.heap.size w) o) hb)
  have HBW := Lib.hid hb
  clear h
  go_enter Try.func24, Try.ntmps24
  go_wp2_with (go_at_call 39; (with_reducible refine (HC.out _ (HR.out _)).mono ?_); rintro e w1 ⟨rfl, HR1, HW1⟩; have hv := Lib.hid (VP.start (A := #[.int .u8 1, .int .i64 0, .float .f64 0, .float .f64 0, .string ⟨#[]⟩, .slice none 0 0]) HBW.out HR1 HW1); clear HR1 HW1)
  refine (HD.out _ hv.out.rd).mono ?_
  rintro e w9 ⟨rfl, HW9⟩
  simp [bodyPost]
  exact hv.out.short HW9
set_option maxRecDepth 100000 in
set_option maxHeartbeats 2000000 in
theorem pv_1 (l l2 l3 : Bs) (x : Nat) (nest : Int) (p : Addr) (w : World) (h : RdP w p l) (hb : p.block < w.heap.size)
    (HC : ∀ W, RdP W p l → Calls Try.prog 39 #[.pointer (some p), .int .i64 1] W fun e w' => e = .returned (.int .u64 1) ∧ RdP w' p l2 ∧ Wr (fun j => j = p.block) W w')
    (HD : ∀ W, RdP W p l2 → Calls Try.prog 39 #[.pointer (some p), .int .i64 1] W fun e w' => e = .returned (.int .u64 x) ∧ RdP w' p l3 ∧ Wr (fun j => j = p.block) W w')
    (hx : x < 256) :
    Calls Try.prog 24 #[.pointer (some p), .int .i64 nest] w (PV (some (mkI 1 x, l3)) p w) := by
  have HC := Lib.hid HC
  have HD := Lib.hid HD
  have HR := Lib.hid (fun o => h.keep (bnew (Below.refl w.heap.size w) o) hb)
  have HBW := Lib.hid hb
  clear h
  go_enter Try.func24, Try.ntmps24
  go_wp2_with (go_at_call 39; (with_reducible refine (HC.out _ (HR.out _)).mono ?_); rintro e w1 ⟨rfl, HR1, HW1⟩; have hv := Lib.hid (VP.start (A := #[.int .u8 1, .int .i64 0, .float .f64 0, .float .f64 0, .string ⟨#[]⟩, .slice none 0 0]) HBW.out HR1 HW1); clear HR1 HW1)
  refine (HD.out _ hv.out.rd).mono ?_
  rintro e w2 ⟨rfl, HR3, HW3⟩
  have hvv := hv.out.call HR3 HW3
  have hv2 := Lib.hid (hvv.put 1 (.int .i64 x))
  have q1 : w2.cell? ⟨w1.heap.size, 1, none⟩ = some (.int .i64 0) := hvv.cell 1
  have qz := hvv.frozen 1
  clear HR3 HW3 hvv hv HD
  go_wp2_with (first | (refine wpList_load_row (by rfl) 25 _ (by rfl) w1.heap.size (by rfl) 25 _ (0, 0) _ hv2.out.box Try.underlying25 rfl (by kernel_rfl) ?_) | (refine wpList_store_rowTo (by rfl) 25 _ _ (by rfl) (by rfl) w.heap.size #[.int .u8 1, .int .i64 x, .float .f64 0, .float .f64 0, .string ⟨#[]⟩, .slice none 0 0] (by rfl) (by rfl) 25 zero6 hv2.out.res (by kernel_rfl) (by kernel_rfl) (all_oneCell_toArray (cs := [.int .u8 1, .int .i64 x, .float .f64 0, .float .f64 0, .string ⟨#[]⟩, .slice none 0 0]) (by simp [Value.oneCell'])) ?_))
  refine bodyPost_ret (v := .agg #[.int .u8 1, .int .i64 x, .float .f64 0, .float .f64 0, .string ⟨#[]⟩, .slice none 0 0]) (results_cell_row rfl _ _ w.heap.size 25 _ (0, 0) _ rfl (setRow_heap _ _ _ _ _ _ hv2.out.res) Try.underlying25 rfl (by kernel_rfl)) rfl ?_
  obtain ⟨r1, r2⟩ := hv2.out.fin _
  exact ⟨_, _, _, _, _, _, [], rfl, leafR, Apart.nil _, Soft.nil _, r1, r2⟩
set_option maxRecDepth 100000 in
set_option maxHeartbeats 2000000 in
theorem pv_2n (l l2 : Bs)  (nest : Int) (p : Addr) (w : World) (h : RdP w p l) (hb : p.block < w.heap.size)
    (HC : ∀ W, RdP W p l → Calls Try.prog 39 #[.pointer (some p), .int .i64 1] W fun e w' => e = .returned (.int .u64 2) ∧ RdP w' p l2 ∧ Wr (fun j => j = p.block) W w')
    (HD : ∀ W, RdP W p l2 → Calls Try.prog 39 #[.pointer (some p), .int .i64 8] W (ShortIs p W)) :
    Calls Try.prog 24 #[.pointer (some p), .int .i64 nest] w (PV none p w) := by
  have HC := Lib.hid HC
  have HD := Lib.hid HD
  have HR := Lib.hid (fun o => h.keep (bnew (Below.refl w.heap.size w) o) hb)
  have HBW := Lib.hid hb
  clear h
  go_enter Try.func24, Try.ntmps24
  go_wp2_with (go_at_call 39; (with_reducible refine (HC.out _ (HR.out _)).mono ?_); rintro e w1 ⟨rfl, HR1, HW1⟩; have hv := Lib.hid (VP.start (A := #[.int .u8 2, .int .i64 0, .float .f64 0, .float .f64 0, .string ⟨#[]⟩, .slice none 0 0]) HBW.out HR1 HW1); clear HR1 HW1)
  refine (HD.out _ hv.out.rd).mono ?_
  rintro e w9 ⟨rfl, HW9⟩
  simp [bodyPost]
  exact hv.out.short HW9
set_option maxRecDepth 100000 in
set_option maxHeartbeats 2000000 in
theorem pv_2 (l l2 l3 : Bs) (x : Nat) (nest : Int) (p : Addr) (w : World) (h : RdP w p l) (hb : p.block < w.heap.size)
    (HC : ∀ W, RdP W p l → Calls Try.prog 39 #[.pointer (some p), .int .i64 1] W fun e w' => e = .returned (.int .u64 2) ∧ RdP w' p l2 ∧ Wr (fun j => j = p.block) W w')
    (HD : ∀ W, RdP W p l2 → Calls Try.prog 39 #[.pointer (some p), .int .i64 8] W fun e w' => e = .returned (.int .u64 x) ∧ RdP w' p l3 ∧ Wr (fun j => j = p.block) W w')
    (hx8 : x < 18446744073709551616) :
    Calls Try.prog 24 #[.pointer (some p), .int .i64 nest] w (PV (some (mkI 2 (unword x), l3)) p w) := by
  have HC := Lib.hid HC
  have HD := Lib.hid HD
  have HR := Lib.hid (fun o => h.keep (bnew (Below.refl w.heap.size w) o) hb)
  have HBW := Lib.hid hb
  clear h
  go_enter Try.func24, Try.ntmps24
  go_wp2_with (go_at_call 39; (with_reducible refine (HC.out _ (HR.out _)).mono ?_); rintro e w1 ⟨rfl, HR1, HW1⟩; have hv := Lib.hid (VP.start (A := #[.int .u8 2, .int .i64 0, .float .f64 0, .float .f64 0, .string ⟨#[]⟩, .slice none 0 0]) HBW.out HR1 HW1); clear HR1 HW1)
  refine (HD.out _ hv.out.rd).mono ?_
  rintro e w2 ⟨rfl, HR3, HW3⟩
  have hvv := hv.out.call HR3 HW3
  have hv2 := Lib.hid (hvv.put 1 (.int .i64 (wrap64 x)))
  have q1 : w2.cell? ⟨w1.heap.size, 1, none⟩ = some (.int .i64 0) := hvv.cell 1
  have qz := hvv.frozen 1
  clear HR3 HW3 hvv hv HD
  go_wp2_with (first | (refine wpList_load_row (by rfl) 25 _ (by rfl) w1.heap.size (by rfl) 25 _ (0, 0) _ hv2.out.box Try.underlying25 rfl (by kernel_rfl) ?_) | (refine wpList_store_rowTo (by rfl) 25 _ _ (by rfl) (by rfl) w.heap.size #[.int .u8 2, .int .i64 (wrap64 x), .float .f64 0, .float .f64 0, .string ⟨#[]⟩, .slice none 0 0] (by rfl) (by rfl) 25 zero6 hv2.out.res (by kernel_rfl) (by kernel_rfl) (all_oneCell_toArray (cs := [.int .u8 2, .int .i64 (wrap64 x), .float .f64 0, .float .f64 0, .string ⟨#[]⟩, .slice none 0 0]) (by simp [Value.oneCell'])) ?_))
  refine bodyPost_ret (v := .agg #[.int .u8 2, .int .i64 (wrap64 x), .float .f64 0, .float .f64 0, .string ⟨#[]⟩, .slice none 0 0]) (results_cell_row rfl _ _ w.heap.size 25 _ (0, 0) _ rfl (setRow_heap _ _ _ _ _ _ hv2.out.res) Try.underlying25 rfl (by kernel_rfl)) rfl ?_
  obtain ⟨r1, r2⟩ := hv2.out.fin _
  exact ⟨_, _, _, _, _, _, [], rfl, leafR, Apart.nil _, Soft.nil _, r1, r2⟩
set_option maxRecDepth 100000 in
set_option maxHeartbeats 2000000 in
theorem pv_3n (l l2 : Bs)  (nest : Int) (p : Addr) (w : World) (h : RdP w p l) (hb : p.block < w.heap.size)
    (HC : ∀ W, RdP W p l → Calls Try.prog 39 #[.pointer (some p), .int .i64 1] W fun e w' => e = .returned (.int .u64 3) ∧ RdP w' p l2 ∧ Wr (fun j => j = p.block) W w')
    (HD : ∀ W, RdP W p l2 → Calls Try.prog 40 #[.pointer (some p)] W (ShortIs p W)) :
    Calls Try.prog 24 #[.pointer (some p), .int .i64 nest] w (PV none p w) := by
  have HC := Lib.hid HC
  have HD := Lib.hid HD
  have HR := Lib.hid (fun o => h.keep (bnew (Below.refl w.heap.size w) o) hb)
  have HBW := Lib.hid hb
  clear h
  go_enter Try.func24, Try.ntmps24
  go_wp2_with (go_at_call 39; (with_reducible refine (HC.out _ (HR.out _)).mono ?_); rintro e w1 ⟨rfl, HR1, HW1⟩; have hv := Lib.hid (VP.start (A := #[.int .u8 3, .int .i64 0, .float .f64 0, .float .f64 0, .string ⟨#[]⟩, .slice none 0 0]) HBW.out HR1 HW1); clear HR1 HW1)
  refine (HD.out _ hv.out.rd).mono ?_
  rintro e w9 ⟨rfl, HW9⟩
  simp [bodyPost]
  exact hv.out.short HW9
set_option maxRecDepth 100000 in
set_option maxHeartbeats 2000000 in
theorem pv_3 (l l2 l3 : Bs) (x : Nat) (nest : Int) (p : Addr) (w : World) (h : RdP w p l) (hb : p.block < w.heap.size)
    (HC : ∀ W, RdP W p l → Calls Try.prog 39 #[.pointer (some p), .int .i64 1] W fun e w' => e = .returned (.int .u64 3) ∧ RdP w' p l2 ∧ Wr (fun j => j = p.block) W w')
    (HD : ∀ W, RdP W p l2 → Calls Try.prog 40 #[.pointer (some p)] W fun e w' => e = .returned (.float .f64 x) ∧ RdP w' p l3 ∧ Wr (fun j => j = p.block) W w') :
    Calls Try.prog 24 #[.pointer (some p), .int .i64 nest] w (PV (some (.mk 3 0 x 0 ⟨#[]⟩ [], l3)) p w) := by
  have HC := Lib.hid HC
  have HD := Lib.hid HD
  have HR := Lib.hid (fun o => h.keep (bnew (Below.refl w.heap.size w) o) hb)
  have HBW := Lib.hid hb
  clear h
  go_enter Try.func24, Try.ntmps24
  go_wp2_with (go_at_call 39; (with_reducible refine (HC.out _ (HR.out _)).mono ?_); rintro e w1 ⟨rfl, HR1, HW1⟩; have hv := Lib.hid (VP.start (A := #[.int .u8 3, .int .i64 0, .float .f64 0, .float .f64 0, .string ⟨#[]⟩, .slice none 0 0]) HBW.out HR1 HW1); clear HR1 HW1)
  refine (HD.out _ hv.out.rd).mono ?_
  rintro e w2 ⟨rfl, HR3, HW3⟩
  have hvv := hv.out.call HR3 HW3
  have hv2 := Lib.hid (hvv.put 2 (.float .f64 x))
  have q1 : w2.cell? ⟨w1.heap.size, 2, none⟩ = some (.float .f64 0) := hvv.cell 2
  have qz := hvv.frozen 2
  clear HR3 HW3 hvv hv HD
  go_wp2_with (first | (refine wpList_load_row (by rfl) 25 _ (by rfl) w1.heap.size (by rfl) 25 _ (0, 0) _ hv2.out.box Try.underlying25 rfl (by kernel_rfl) ?_) | (refine wpList_store_rowTo (by rfl) 25 _ _ (by rfl) (by rfl) w.heap.size #[.int .u8 3, .int .i64 0, .float .f64 x, .float .f64 0, .string ⟨#[]⟩, .slice none 0 0] (by rfl) (by rfl) 25 zero6 hv2.out.res (by kernel_rfl) (by kernel_rfl) (all_oneCell_toArray (cs := [.int .u8 3, .int .i64 0, .float .f64 x, .float .f64 0, .string ⟨#[]⟩, .slice none 0 0]) (by simp [Value.oneCell'])) ?_))
  refine bodyPost_ret (v := .agg #[.int .u8 3, .int .i64 0, .float .f64 x, .float .f64 0, .string ⟨#[]⟩, .slice none 0 0]) (results_cell_row rfl _ _ w.heap.size 25 _ (0, 0) _ rfl (setRow_heap _ _ _ _ _ _ hv2.out.res) Try.underlying25 rfl (by kernel_rfl)) rfl ?_
  obtain ⟨r1, r2⟩ := hv2.out.fin _
  exact ⟨_, _, _, _, _, _, [], rfl, leafR, Apart.nil _, Soft.nil _, r1, r2⟩
set_option maxRecDepth 100000 in
set_option maxHeartbeats 2000000 in
theorem pv_4n (l l2 : Bs)  (nest : Int) (p : Addr) (w : World) (h : RdP w p l) (hb : p.block < w.heap.size)
    (HC : ∀ W, RdP W p l → Calls Try.prog 39 #[.pointer (some p), .int .i64 1] W fun e w' => e = .returned (.int .u64 4) ∧ RdP w' p l2 ∧ Wr (fun j => j = p.block) W w')
    (HD : ∀ W, RdP W p l2 → Calls Try.prog 40 #[.pointer (some p)] W (ShortIs p W)) :
    Calls Try.prog 24 #[.pointer (some p), .int .i64 nest] w (PV none p w) := by
  have HC := Lib.hid HC
  have HD := Lib.hid HD
  have HR := Lib.hid (fun o => h.keep (bnew (Below.refl w.heap.size w) o) hb)
  have HBW := Lib.hid hb
  clear h
  go_enter Try.func24, Try.ntmps24
  go_wp2_with (go_at_call 39; (with_reducible refine (HC.out _ (HR.out _)).mono ?_); rintro e w1 ⟨rfl, HR1, HW1⟩; have hv := Lib.hid (VP.start (A := #[.int .u8 4, .int .i64 0, .float .f64 0, .float .f64 0, .string ⟨#[]⟩, .slice none 0 0]) HBW.out HR1 HW1); clear HR1 HW1)
  refine (HD.out _ hv.out.rd).mono ?_
  rintro e w9 ⟨rfl, HW9⟩
  simp [bodyPost]
  exact hv.out.short HW9
set_option maxRecDepth 100000 in
set_option maxHeartbeats 2000000 in
theorem pv_4m (l l2 l3 : Bs) (x : Nat) (nest : Int) (p : Addr) (w : World) (h : RdP w p l) (hb : p.block < w.heap.size)
    (HC : ∀ W, RdP W p l → Calls Try.prog 39 #[.pointer (some p), .int .i64 1] W fun e w' => e = .returned (.int .u64 4) ∧ RdP w' p l2 ∧ Wr (fun j => j = p.block) W w')
    (HD : ∀ W, RdP W p l2 → Calls Try.prog 40 #[.pointer (some p)] W fun e w' => e = .returned (.float .f64 x) ∧ RdP w' p l3 ∧ Wr (fun j => j = p.block) W w')
    (HE : ∀ W, RdP W p l3 → Calls Try.prog 40 #[.pointer (some p)] W (ShortIs p W)) :
    Calls Try.prog 24 #[.pointer (some p), .int .i64 nest] w (PV none p w) := by
  have HC := Lib.hid HC
  have HD := Lib.hid HD
  have HE := Lib.hid HE
  have HR := Lib.hid (fun o => h.keep (bnew (Below.refl w.heap.size w) o) hb)
  have HBW := Lib.hid hb
  clear h
  go_enter Try.func24, Try.ntmps24
  go_wp2_with (go_at_call 39; (with_reducible refine (HC.out _ (HR.out _)).mono ?_); rintro e w1 ⟨rfl, HR1, HW1⟩; have hv := Lib.hid (VP.start (A := #[.int .u8 4, .int .i64 0, .float .f64 0, .float .f64 0, .string ⟨#[]⟩, .slice none 0 0]) HBW.out HR1 HW1); clear HR1 HW1)
  refine (HD.out _ hv.out.rd).mono ?_
  rintro e w2 ⟨rfl, HR3, HW3⟩
  have hvv := hv.out.call HR3 HW3
  have hv2 := Lib.hid (hvv.put 2 (.float .f64 x))
  have q1 : w2.cell? ⟨w1.heap.size, 2, none⟩ = some (.float .f64 0) := hvv.cell 2
  have qz := hvv.frozen 2
  clear HR3 HW3 hvv hv HD
  go_wp2_with fail
  clear q1 qz
  refine (HE.out _ hv2.out.rd).mono ?_
  rintro e w9 ⟨rfl, HW9⟩
  simp [bodyPost]
  exact hv2.out.short HW9
set_option maxRecDepth 100000 in
set_option maxHeartbeats 2000000 in
theorem pv_4 (l l2 l3 l4 : Bs) (x y : Nat) (nest : Int) (p : Addr) (w : World) (h : RdP w p l) (hb : p.block < w.heap.size)
    (HC : ∀ W, RdP W p l → Calls Try.prog 39 #[.pointer (some p), .int .i64 1] W fun e w' => e = .returned (.int .u64 4) ∧ RdP w' p l2 ∧ Wr (fun j => j = p.block) W w')
    (HD : ∀ W, RdP W p l2 → Calls Try.prog 40 #[.pointer (some p)] W fun e w' => e = .returned (.float .f64 x) ∧ RdP w' p l3 ∧ Wr (fun j => j = p.block) W w')
    (HE : ∀ W, RdP W p l3 → Calls Try.prog 40 #[.pointer (some p)] W fun e w' => e = .returned (.float .f64 y) ∧ RdP w' p l4 ∧ Wr (fun j => j = p.block) W w') :
    Calls Try.prog 24 #[.pointer (some p), .int .i64 nest] w (PV (some (.mk 4 0 x y ⟨#[]⟩ [], l4)) p w) := by
  have HC := Lib.hid HC
  have HD := Lib.hid HD
  have HE := Lib.hid HE
  have HR := Lib.hid (fun o => h.keep (bnew (Below.refl w.heap.size w) o) hb)
  have HBW := Lib.hid hb
  clear h
  go_enter Try.func24, Try.ntmps24
  go_wp2_with (go_at_call 39; (with_reducible refine (HC.out _ (HR.out _)).mono ?_); rintro e w1 ⟨rfl, HR1, HW1⟩; have hv := Lib.hid (VP.start (A := #[.int .u8 4, .int .i64 0, .float .f64 0, .float .f64 0, .string ⟨#[]⟩, .slice none 0 0]) HBW.out HR1 HW1); clear HR1 HW1)
  refine (HD.out _ hv.out.rd).mono ?_
  rintro e w2 ⟨rfl, HR3, HW3⟩
  have hvv := hv.out.call HR3 HW3
  have hv2 := Lib.hid (hvv.put 2 (.float .f64 x))
  have q1 : w2.cell? ⟨w1.heap.size, 2, none⟩ = some (.float .f64 0) := hvv.cell 2
  have qz := hvv.frozen 2
  clear HR3 HW3 hvv hv HD
  go_wp2_with fail
  clear q1 qz
  refine (HE.out _ hv2.out.rd).mono ?_
  rintro e w3 ⟨rfl, HR3, HW3⟩
  have hvv := hv2.out.call HR3 HW3
  have hv3 := Lib.hid (hvv.put 3 (.float .f64 y))
  have q1 : w3.cell? ⟨w1.heap.size, 3, none⟩ = some (.float .f64 0) := hvv.cell 3
  have qz := hvv.frozen 3
  clear HR3 HW3 hvv hv2 HE
  go_wp2_with (first | (refine wpList_load_row (by rfl) 25 _ (by rfl) w1.heap.size (by rfl) 25 _ (0, 0) _ hv3.out.box Try.underlying25 rfl (by kernel_rfl) ?_) | (refine wpList_store_rowTo (by rfl) 25 _ _ (by rfl) (by rfl) w.heap.size #[.int .u8 4, .int .i64 0, .float .f64 x, .float .f64 y, .string ⟨#[]⟩, .slice none 0 0] (by rfl) (by rfl) 25 zero6 hv3.out.res (by kernel_rfl) (by kernel_rfl) (all_oneCell_toArray (cs := [.int .u8 4, .int .i64 0, .float .f64 x, .float .f64 y, .string ⟨#[]⟩, .slice none 0 0]) (by simp [Value.oneCell'])) ?_))
  refine bodyPost_ret (v := .agg #[.int .u8 4, .int .i64 0, .float .f64 x, .float .f64 y, .string ⟨#[]⟩, .slice none 0 0]) (results_cell_row rfl _ _ w.heap.size 25 _ (0, 0) _ rfl (setRow_heap _ _ _ _ _ _ hv3.out.res) Try.underlying25 rfl (by kernel_rfl)) rfl ?_
  obtain ⟨r1, r2⟩ := hv3.out.fin _
  exact ⟨_, _, _, _, _, _, [], rfl, leafR, Apart.nil _, Soft.nil _, r1, r2⟩
set_option maxRecDepth 100000 in
set_option maxHeartbeats 2000000 in
theorem pv_5n (l l2 : Bs)  (nest : Int) (p : Addr) (w : World) (h : RdP w p l) (hb : p.block < w.heap.size)
    (HC : ∀ W, RdP W p l → Calls Try.prog 39 #[.pointer (some p), .int .i64 1] W fun e w' => e = .returned (.int .u64 5) ∧ RdP w' p l2 ∧ Wr (fun j => j = p.block) W w')
    (HD : ∀ W, RdP W p l2 → Calls Try.prog 39 #[.pointer (some p), .int .i64 2] W (ShortIs p W)) :
    Calls Try.prog 24 #[.pointer (some p), .int .i64 nest] w (PV none p w) := by
  have HC := Lib.hid HC
  have HD := Lib.hid HD
  have HR := Lib.hid (fun o => h.keep (bnew (Below.refl w.heap.size w) o) hb)
  have HBW := Lib.hid hb
  clear h
  go_enter Try.func24, Try.ntmps24
  go_wp2_with (go_at_call 39; (with_reducible refine (HC.out _ (HR.out _)).mono ?_); rintro e w1 ⟨rfl, HR1, HW1⟩; have hv := Lib.hid (VP.start (A := #[.int .u8 5, .int .i64 0, .float .f64 0, .float .f64 0, .string ⟨#[]⟩, .slice none 0 0]) HBW.out HR1 HW1); clear HR1 HW1)
  refine (HD.out _ hv.out.rd).mono ?_
  rintro e w9 ⟨rfl, HW9⟩
  simp [bodyPost]
  exact hv.out.short HW9
set_option maxRecDepth 100000 in
set_option maxHeartbeats 2000000 in
theorem pv_5m (l l2 l3 : Bs) (x : Nat) (nest : Int) (p : Addr) (w : World) (h : RdP w p l) (hb : p.block < w.heap.size)
    (HC : ∀ W, RdP W p l → Calls Try.prog 39 #[.pointer (some p), .int .i64 1] W fun e w' => e = .returned (.int .u64 5) ∧ RdP w' p l2 ∧ Wr (fun j => j = p.block) W w')
    (HD : ∀ W, RdP W p l2 → Calls Try.prog 39 #[.pointer (some p), .int .i64 2] W fun e w' => e = .returned (.int .u64 x) ∧ RdP w' p l3 ∧ Wr (fun j => j = p.block) W w')
    (HE : ∀ W, RdP W p l3 → Calls Try.prog 41 #[.pointer (some p), .int .i64 (wrap64 x)] W (ShortIs p W)) :
    Calls Try.prog 24 #[.pointer (some p), .int .i64 nest] w (PV none p w) := by
  have HC := Lib.hid HC
  have HD := Lib.hid HD
  have HE := Lib.hid HE
  have HR := Lib.hid (fun o => h.keep (bnew (Below.refl w.heap.size w) o) hb)
  have HBW := Lib.hid hb
  clear h
  go_enter Try.func24, Try.ntmps24
  go_wp2_with (go_at_call 39; (with_reducible refine (HC.out _ (HR.out _)).mono ?_); rintro e w1 ⟨rfl, HR1, HW1⟩; have hv := Lib.hid (VP.start (A := #[.int .u8 5, .int .i64 0, .float .f64 0, .float .f64 0, .string ⟨#[]⟩, .slice none 0 0]) HBW.out HR1 HW1); clear HR1 HW1)
  refine (HD.out _ hv.out.rd).mono ?_
  rintro e w2 ⟨rfl, HR3, HW3⟩
  have hv2 := Lib.hid (hv.out.call HR3 HW3)
  clear HR3 HW3 hv HD
  go_wp2_with fail
  refine (HE.out _ hv2.out.rd).mono ?_
  rintro e w9 ⟨rfl, HW9⟩
  simp [bodyPost]
  exact hv2.out.short HW9
set_option maxRecDepth 100000 in
set_option maxHeartbeats 2000000 in
theorem pv_5 (l l2 l3 l4 : Bs) (x : Nat) (t : ByteArray) (nest : Int) (p : Addr) (w : World) (h : RdP w p l) (hb : p.block < w.heap.size)
    (HC : ∀ W, RdP W p l → Calls Try.prog 39 #[.pointer (some p), .int .i64 1] W fun e w' => e = .returned (.int .u64 5) ∧ RdP w' p l2 ∧ Wr (fun j => j = p.block) W w')
    (HD : ∀ W, RdP W p l2 → Calls Try.prog 39 #[.pointer (some p), .int .i64 2] W fun e w' => e = .returned (.int .u64 x) ∧ RdP w' p l3 ∧ Wr (fun j => j = p.block) W w')
    (HE : ∀ W, RdP W p l3 → Calls Try.prog 41 #[.pointer (some p), .int .i64 (wrap64 x)] W fun e w' => e = .returned (.string t) ∧ RdP w' p l4 ∧ Wr (fun j => j = p.block) W w') :
    Calls Try.prog 24 #[.pointer (some p), .int .i64 nest] w (PV (some (.mk 5 0 0 0 t [], l4)) p w) := by
  have HC := Lib.hid HC
  have HD := Lib.hid HD
  have HE := Lib.hid HE
  have HR := Lib.hid (fun o => h.keep (bnew (Below.refl w.heap.size w) o) hb)
  have HBW := Lib.hid hb
  clear h
  go_enter Try.func24, Try.ntmps24
  go_wp2_with (go_at_call 39; (with_reducible refine (HC.out _ (HR.out _)).mono ?_); rintro e w1 ⟨rfl, HR1, HW1⟩; have hv := Lib.hid (VP.start (A := #[.int .u8 5, .int .i64 0, .float .f64 0, .float .f64 0, .string ⟨#[]⟩, .slice none 0 0]) HBW.out HR1 HW1); clear HR1 HW1)
  refine (HD.out _ hv.out.rd).mono ?_
  rintro e w2 ⟨rfl, HR3, HW3⟩
  have hv2 := Lib.hid (hv.out.call HR3 HW3)
  clear HR3 HW3 hv HD
  go_wp2_with fail
  refine (HE.out _ hv2.out.rd).mono ?_
  rintro e w3 ⟨rfl, HR3, HW3⟩
  have hvv := hv2.out.call HR3 HW3
  have hv3 := Lib.hid (hvv.put 4 (.string t))
  have q1 : w3.cell? ⟨w1.heap.size, 4, none⟩ = some (.string ⟨#[]⟩) := hvv.cell 4
  have qz := hvv.frozen 4
  clear HR3 HW3 hvv hv2 HE
  go_wp2_with (first | (refine wpList_load_row (by rfl) 25 _ (by rfl) w1.heap.size (by rfl) 25 _ (0, 0) _ hv3.out.box Try.underlying25 rfl (by kernel_rfl) ?_) | (refine wpList_store_rowTo (by rfl) 25 _ _ (by rfl) (by rfl) w.heap.size #[.int .u8 5, .int .i64 0, .float .f64 0, .float .f64 0, .string t, .slice none 0 0] (by rfl) (by rfl) 25 zero6 hv3.out.res (by kernel_rfl) (by kernel_rfl) (all_oneCell_toArray (cs := [.int .u8 5, .int .i64 0, .float .f64 0, .float .f64 0, .string t, .slice none 0 0]) (by simp [Value.oneCell'])) ?_))
  refine bodyPost_ret (v := .agg #[.int .u8 5, .int .i64 0, .float .f64 0, .float .f64 0, .string t, .slice none 0 0]) (results_cell_row rfl _ _ w.heap.size 25 _ (0, 0) _ rfl (setRow_heap _ _ _ _ _ _ hv3.out.res) Try.underlying25 rfl (by kernel_rfl)) rfl ?_
  obtain ⟨r1, r2⟩ := hv3.out.fin _
  exact ⟨_, _, _, _, _, _, [], rfl, leafR, Apart.nil _, Soft.nil _, r1, r2⟩
set_option maxRecDepth 100000 in
set_option maxHeartbeats 2000000 in
theorem pv_6n (l l2 : Bs)  (nest : Int) (p : Addr) (w : World) (h : RdP w p l) (hb : p.block < w.heap.size)
    (HC : ∀ W, RdP W p l → Calls Try.prog 39 #[.pointer (some p), .int .i64 1] W fun e w' => e = .returned (.int .u64 6) ∧ RdP w' p l2 ∧ Wr (fun j => j = p.block) W w')
    (HD : ∀ W, RdP W p l2 → Calls Try.prog 39 #[.pointer (some p), .int .i64 2] W (ShortIs p W)) :
    Calls Try.prog 24 #[.pointer (some p), .int .i64 nest] w (PV none p w) := by
  have HC := Lib.hid HC
  have HD := Lib.hid HD
  have HR := Lib.hid (fun o => h.keep (bnew (Below.refl w.heap.size w) o) hb)
  have HBW := Lib.hid hb
  clear h
  go_enter Try.func24, Try.ntmps24
  go_wp2_with (go_at_call 39; (with_reducible refine (HC.out _ (HR.out _)).mono ?_); rintro e w1 ⟨rfl, HR1, HW1⟩; have hv := Lib.hid (VP.start (A := #[.int .u8 6, .int .i64 0, .float .f64 0, .float .f64 0, .string ⟨#[]⟩, .slice none 0 0]) HBW.out HR1 HW1); clear HR1 HW1)
  refine (HD.out _ hv.out.rd).mono ?_
  rintro e w9 ⟨rfl, HW9⟩
  simp [bodyPost]
  exact hv.out.short HW9
set_option maxRecDepth 100000 in
set_option maxHeartbeats 2000000 in
theorem pv_6m (l l2 l3 : Bs) (x : Nat) (nest : Int) (p : Addr) (w : World) (h : RdP w p l) (hb : p.block < w.heap.size)
    (HC : ∀ W, RdP W p l → Calls Try.prog 39 #[.pointer (some p), .int .i64 1] W fun e w' => e = .returned (.int .u64 6) ∧ RdP w' p l2 ∧ Wr (fun j => j = p.block) W w')
    (HD : ∀ W, RdP W p l2 → Calls Try.prog 39 #[.pointer (some p), .int .i64 2] W fun e w' => e = .returned (.int .u64 x) ∧ RdP w' p l3 ∧ Wr (fun j => j = p.block) W w')
    (HE : ∀ W, RdP W p l3 → Calls Try.prog 41 #[.pointer (some p), .int .i64 (wrap64 x)] W (ShortIs p W)) :
    Calls Try.prog 24 #[.pointer (some p), .int .i64 nest] w (PV none p w) := by
  have HC := Lib.hid HC
  have HD := Lib.hid HD
  have HE := Lib.hid HE
  have HR := Lib.hid (fun o => h.keep (bnew (Below.refl w.heap.size w) o) hb)
  have HBW := Lib.hid hb
  clear h
  go_enter Try.func24, Try.ntmps24
  go_wp2_with (go_at_call 39; (with_reducible refine (HC.out _ (HR.out _)).mono ?_); rintro e w1 ⟨rfl, HR1, HW1⟩; have hv := Lib.hid (VP.start (A := #[.int .u8 6, .int .i64 0, .float .f64 0, .float .f64 0, .string ⟨#[]⟩, .slice none 0 0]) HBW.out HR1 HW1); clear HR1 HW1)
  refine (HD.out _ hv.out.rd).mono ?_
  rintro e w2 ⟨rfl, HR3, HW3⟩
  have hv2 := Lib.hid (hv.out.call HR3 HW3)
  clear HR3 HW3 hv HD
  go_wp2_with fail
  refine (HE.out _ hv2.out.rd).mono ?_
  rintro e w9 ⟨rfl, HW9⟩
  simp [bodyPost]
  exact hv2.out.short HW9
set_option maxRecDepth 100000 in
set_option maxHeartbeats 2000000 in
theorem pv_6 (l l2 l3 l4 : Bs) (x : Nat) (t : ByteArray) (nest : Int) (p : Addr) (w : World) (h : RdP w p l) (hb : p.block < w.heap.size)
    (HC : ∀ W, RdP W p l → Calls Try.prog 39 #[.pointer (some p), .int .i64 1] W fun e w' => e = .returned (.int .u64 6) ∧ RdP w' p l2 ∧ Wr (fun j => j = p.block) W w')
    (HD : ∀ W, RdP W p l2 → Calls Try.prog 39 #[.pointer (some p), .int .i64 2] W fun e w' => e = .returned (.int .u64 x) ∧ RdP w' p l3 ∧ Wr (fun j => j = p.block) W w')
    (HE : ∀ W, RdP W p l3 → Calls Try.prog 41 #[.pointer (some p), .int .i64 (wrap64 x)] W fun e w' => e = .returned (.string t) ∧ RdP w' p l4 ∧ Wr (fun j => j = p.block) W w') :
    Calls Try.prog 24 #[.pointer (some p), .int .i64 nest] w (PV (some (.mk 6 0 0 0 t [], l4)) p w) := by
  have HC := Lib.hid HC
  have HD := Lib.hid HD
  have HE := Lib.hid HE
  have HR := Lib.hid (fun o => h.keep (bnew (Below.refl w.heap.size w) o) hb)
  have HBW := Lib.hid hb
  clear h
  go_enter Try.func24, Try.ntmps24
  go_wp2_with (go_at_call 39; (with_reducible refine (HC.out _ (HR.out _)).mono ?_); rintro e w1 ⟨rfl, HR1, HW1⟩; have hv := Lib.hid (VP.start (A := #[.int .u8 6, .int .i64 0, .float .f64 0, .float .f64 0, .string ⟨#[]⟩, .slice none 0 0]) HBW.out HR1 HW1); clear HR1 HW1)
  refine (HD.out _ hv.out.rd).mono ?_
  rintro e w2 ⟨rfl, HR3, HW3⟩
  have hv2 := Lib.hid (hv.out.call HR3 HW3)
  clear HR3 HW3 hv HD
  go_wp2_with fail
  refine (HE.out _ hv2.out.rd).mono ?_
  rintro e w3 ⟨rfl, HR3, HW3⟩
  have hvv := hv2.out.call HR3 HW3
  have hv3 := Lib.hid (hvv.put 4 (.string t))
  have q1 : w3.cell? ⟨w1.heap.size, 4, none⟩ = some (.string ⟨#[]⟩) := hvv.cell 4
  have qz := hvv.frozen 4
  clear HR3 HW3 hvv hv2 HE
  go_wp2_with (first | (refine wpList_load_row (by rfl) 25 _ (by rfl) w1.heap.size (by rfl) 25 _ (0, 0) _ hv3.out.box Try.underlying25 rfl (by kernel_rfl) ?_) | (refine wpList_store_rowTo (by rfl) 25 _ _ (by rfl) (by rfl) w.heap.size #[.int .u8 6, .int .i64 0, .float .f64 0, .float .f64 0, .string t, .slice none 0 0] (by rfl) (by rfl) 25 zero6 hv3.out.res (by kernel_rfl) (by kernel_rfl) (all_oneCell_toArray (cs := [.int .u8 6, .int .i64 0, .float .f64 0, .float .f64 0, .string t, .slice none 0 0]) (by simp [Value.oneCell'])) ?_))
  refine bodyPost_ret (v := .agg #[.int .u8 6, .int .i64 0, .float .f64 0, .float .f64 0, .string t, .slice none 0 0]) (results_cell_row rfl _ _ w.heap.size 25 _ (0, 0) _ rfl (setRow_heap _ _ _ _ _ _ hv3.out.res) Try.underlying25 rfl (by kernel_rfl)) rfl ?_
  obtain ⟨r1, r2⟩ := hv3.out.fin _
  exact ⟨_, _, _, _, _, _, [], rfl, leafR, Apart.nil _, Soft.nil _, r1, r2⟩
set_option maxRecDepth 100000 in
set_option maxHeartbeats 2000000 in
theorem pv_7n (l l2 : Bs) (nest : Int) (hn : nest < 16) (p : Addr) (w : World) (h : RdP w p l) (hb : p.block < w.heap.size)
    (HC : ∀ W, RdP W p l → Calls Try.prog 39 #[.pointer (some p), .int .i64 1] W fun e w' => e = .returned (.int .u64 7) ∧ RdP w' p l2 ∧ Wr (fun j => j = p.block) W w')
    (HD : ∀ W, RdP W p l2 → Calls Try.prog 39 #[.pointer (some p), .int .i64 2] W (ShortIs p W)) :
    Calls Try.prog 24 #[.pointer (some p), .int .i64 nest] w (PV none p w) := by
  have HC := Lib.hid HC
  have HD := Lib.hid HD
  have HR := Lib.hid (fun o => h.keep (bnew (Below.refl w.heap.size w) o) hb)
  have HBW := Lib.hid hb
  clear h
  go_enter Try.func24, Try.ntmps24
  go_wp2_with (go_at_call 39; (with_reducible refine (HC.out _ (HR.out _)).mono ?_); rintro e w1 ⟨rfl, HR1, HW1⟩; have hv := Lib.hid (VP.start (A := #[.int .u8 7, .int .i64 0, .float .f64 0, .float .f64 0, .string ⟨#[]⟩, .slice none 0 0]) HBW.out HR1 HW1); clear HR1 HW1)
  refine (HD.out _ hv.out.rd).mono ?_
  rintro e w9 ⟨rfl, HW9⟩
  simp [bodyPost]
  exact hv.out.short HW9
set_option maxRecDepth 100000 in
set_option maxHeartbeats 2000000 in
theorem pv_7x (l l2 : Bs)  (p : Addr) (w : World) (h : RdP w p l) (hb : p.block < w.heap.size)
    (HC : ∀ W, RdP W p l → Calls Try.prog 39 #[.pointer (some p), .int .i64 1] W fun e w' => e = .returned (.int .u64 7) ∧ RdP w' p l2 ∧ Wr (fun j => j = p.block) W w') :
    Calls Try.prog 24 #[.pointer (some p), .int .i64 16] w (PV none p w) := by
  have HC := Lib.hid HC
  have HR := Lib.hid (fun o => h.keep (bnew (Below.refl w.heap.size w) o) hb)
  have HBW := Lib.hid hb
  clear h
  go_enter Try.func24, Try.ntmps24
  go_wp2_with (go_at_call 39; (with_reducible refine (HC.out _ (HR.out _)).mono ?_); rintro e w1 ⟨rfl, HR1, HW1⟩; have hv := Lib.hid (VP.start (A := #[.int .u8 7, .int .i64 0, .float .f64 0, .float .f64 0, .string ⟨#[]⟩, .slice none 0 0]) HBW.out HR1 HW1); clear HR1 HW1)
  simp [bodyPost]
  exact ⟨rfl, hv.out.wr⟩
end Go.Proofs.Ytaglklcjolcgeaa
