/- The walk of the reference's reader.value: the kinds that are no lists. The walk of the reference's reader.value: the kinds with fields. The walk of the program's source.bits. The walk of the reference's reader.value: kinds 1 to 6. (Printed by genrval.py.) -/
import Derived.Test.YtaglklcjolcgeaaNumb
import Derived.Test.YtaglklcjolcgeaaLent
namespace Go.Proofs.Ytaglklcjolcgeaa
open Go.RowKit
set_option linter.unusedVariables false
set_option linter.unusedSimpArgs false
attribute [local go_sem] run_store_float
theorem RdL.keep {w w' : World} {b : Nat} {s : ByteArray} {l : Bs × Bool} {B : Nat} (h : RdL w b s l) (hb : Below B w w') (hlt : b < B) : RdL w' b s l := by
  obtain ⟨i, hi, hl, hr⟩ := h
  exact ⟨i, hi, hl, ⟨(hb.cell (p := ⟨b, 0, none⟩) hlt).trans hr.c0, (hb.cell (p := ⟨b, 1, none⟩) hlt).trans hr.c1, (hb.cell (p := ⟨b, 2, none⟩) hlt).trans hr.c2, fun j => (hb.frozen (p := ⟨b, j, none⟩) hlt).trans (hr.fz j)⟩⟩
/-- The end of a value's reading: the result's row written. -/
theorem val_end {w w1 : World} {b : Nat} {s : ByteArray} {l : Bs × Bool} {o o2 : Obj} {cs : Array Value} (hb : b < w.heap.size) (hs : w.heap.size < w1.heap.size) (hr : RdL w1 b s l) (hw : Wr (fun j => j = b) (w.alloc o) w1) :
    RdL ((w1.alloc o2).setRow w.heap.size cs) b s l ∧ Wr (fun j => j = b) w ((w1.alloc o2).setRow w.heap.size cs) := by
  have h1 : ∀ i, i < w.heap.size → ((w1.alloc o2).setRow w.heap.size cs).heap[i]? = w1.heap[i]? := fun i hi => (setRow_other _ _ _ _ (by omega)).trans ((bnew (Below.refl w1.heap.size w1) o2).block i (by omega))
  refine ⟨hr.keep (B := w.heap.size) ⟨rfl, rfl, rfl, by simp, h1⟩ hb, hw.os, hw.tape, hw.output, by have := hw.size; simp at this ⊢; omega, fun i hi hi2 => (h1 i hi).trans ((hw.block i (by simp; omega) hi2).trans ((bnew (Below.refl w.heap.size w) o).block i hi))⟩
def ValIs (v : Va) (b : Nat) (s : ByteArray) (l : Bs × Bool) (w : World) (e : Ending) (w' : World) : Prop :=
  ∃ v0 v1 v2 v3 v4 v5 F, e = .returned (.agg #[v0, v1, v2, v3, v4, v5]) ∧ v.tr.own 6 w' [v0, v1, v2, v3, v4, v5] F ∧ Apart w.heap.size F ∧ Soft w' F ∧ RdL w' b s l ∧ Wr (fun j => j = b) w w'
set_option maxRecDepth 100000 in
set_option maxHeartbeats 2000000 in
theorem rvalue_0 (s : ByteArray) (l : Bs × Bool) (nest : Int) (b : Nat) (w : World) (h : RdL w b s l) (hb : b < w.heap.size) (hs : s.size ≤ 9223372036854775807) (m : Nat) (hm : be (takeR 1 l).1 = m) (hm8 : m < 256) (h1 : ¬ m = 1) (h2 : ¬ m = 2) (h3 : ¬ m = 3) (h4 : ¬ m = 4) (h5 : ¬ m = 5) (h6 : ¬ m = 6) (h7 : ¬ m = 7) :
    Calls Try.prog 21 #[.pointer (some ⟨b, 0, none⟩), .int .i64 nest] w (ValIs (mkI m 0) b s (takeR 1 l).2 w) := by
  have HC := fun W (h : RdL W b s l) => rnum_any s l 1 b W h (by omega) hs
  rw [hm] at HC
  have HC := Lib.hid HC
  have HR := Lib.hid (fun o => h.keep (bnew (Below.refl w.heap.size w) o) hb)
  clear h
  go_enter Try.func21, Try.ntmps21
  go_wp2_with (first | (go_at_call 35; (refine (HC.out _ (HR.out _)).mono ?_); rintro e w1 ⟨rfl, HR1, HW1⟩; have HE0 := Lib.hid ((HW1.block w.heap.size (by simp) (by show ¬ _ = _; omega)).trans (heap_alloc_new w _)); have HS1 := Lib.hid (show w.heap.size < w1.heap.size by have := HW1.size; simp at this; omega); have HR2 := Lib.hid HR1; have HW2 := Lib.hid HW1; clear HR1 HW1) | (refine wpList_store_rowTo (by rfl) 25 _ _ (by rfl) (by rfl) w.heap.size #[.int .u8 m, .int .i64 0, .float .f64 0, .float .f64 0, .string ⟨#[]⟩, .slice none 0 0] (by rfl) (by rfl) 25 zero6 (((bnew (Below.refl w1.heap.size w1) _).block _ HS1.out).trans HE0.out) (by kernel_rfl) (by kernel_rfl) (all_oneCell_toArray (cs := [.int .u8 m, .int .i64 0, .float .f64 0, .float .f64 0, .string ⟨#[]⟩, .slice none 0 0]) (by simp [Value.oneCell'])) ?_))
  refine bodyPost_ret (v := .agg #[.int .u8 m, .int .i64 0, .float .f64 0, .float .f64 0, .string ⟨#[]⟩, .slice none 0 0]) (results_cell_row rfl _ _ w.heap.size 25 _ (0, 0) _ rfl (setRow_heap _ _ _ _ _ _ (((bnew (Below.refl w1.heap.size w1) _).block _ HS1.out).trans HE0.out)) Try.underlying25 rfl (by kernel_rfl)) rfl ?_
  obtain ⟨r1, r2⟩ := val_end hb HS1.out HR2.out HW2.out
  refine ⟨_, _, _, _, _, _, [], rfl, ?_, Apart.nil _, Soft.nil _, r1, r2⟩
  unfold mkI Va.tr Tr.own
  exact ⟨none, 0, 0, by simp, rfl, by simp [Value.oneCell'], ⟨rfl, Nat.le_refl _⟩, Nat.le_refl _, by omega, .inl ⟨rfl, rfl⟩⟩
end Go.Proofs.Ytaglklcjolcgeaa
namespace Go.Proofs.Ytaglklcjolcgeaa
open Go.RowKit
set_option linter.unusedVariables false
set_option linter.unusedSimpArgs false
attribute [local go_sem] run_store_float
/-- Within reader.value: the result's row, the box at B, the reader. -/
structure VS (w : World) (B : Nat) (b : Nat) (s : ByteArray) (l : Bs × Bool) (A : Array Value) (W : World) : Prop where
  lo : b < w.heap.size
  hi : w.heap.size < B
  res : W.heap[w.heap.size]? = some (.cells zero6 25 (0, 0))
  box : W.heap[B]? = some (.cells A 25 (0, 0))
  rd : RdL W b s l
  wr : Wr (fun j => j = b) w W
theorem VS.call {w : World} {B b : Nat} {s : ByteArray} {l l2 : Bs × Bool} {A : Array Value} {W W2 : World} (h : VS w B b s l A W) (hr : RdL W2 b s l2) (hw : Wr (fun j => j = b) W W2) : VS w B b s l2 A W2 := by
  have h1 : w.heap.size < W.heap.size := (Array.getElem?_eq_some_iff.1 h.res).1
  have h2 : B < W.heap.size := (Array.getElem?_eq_some_iff.1 h.box).1
  have := h.lo
  have := h.hi
  exact ⟨h.lo, h.hi, (hw.block _ h1 (by show ¬ _ = _; omega)).trans h.res, (hw.block _ h2 (by show ¬ _ = _; omega)).trans h.box, hr, h.wr.andThen hw fun _ _ h => h⟩
theorem VS.put {w : World} {B b : Nat} {s : ByteArray} {l : Bs × Bool} {A : Array Value} {W : World} (h : VS w B b s l A W) (i : Nat) (u : Value) : VS w B b s l (A.setIfInBounds i u) (W.setCell ⟨B, i, none⟩ u) := by
  have h1 := h.lo
  have h2 := h.hi
  obtain ⟨j, hj, hl, hr⟩ := h.rd
  refine ⟨h.lo, h.hi, (Below.heap_setCell _ _ _ _ (by show w.heap.size ≠ B; omega)).trans h.res, Joins.block_setCell (i := i) h.box u, ⟨j, hj, hl, ?_⟩, h.wr.setCell (p := ⟨B, i, none⟩) (.inr (by show w.heap.size ≤ B; omega)) u⟩
  have hc : ∀ k, (W.setCell ⟨B, i, none⟩ u).cell? ⟨b, k, none⟩ = W.cell? ⟨b, k, none⟩ := fun k => World.cell?_setCell_other _ _ _ _ (by intro e; injection e with e; omega)
  exact ⟨(hc 0).trans hr.c0, (hc 1).trans hr.c1, (hc 2).trans hr.c2, fun k => (World.frozen?_setCell ..).trans (hr.fz k)⟩
theorem VS.cell {w : World} {B b : Nat} {s : ByteArray} {l : Bs × Bool} {A : Array Value} {W : World} (h : VS w B b s l A W) (i : Nat) : W.cell? ⟨B, i, none⟩ = A[i]? := box_all h.box i
theorem VS.frozen {w : World} {B b : Nat} {s : ByteArray} {l : Bs × Bool} {A : Array Value} {W : World} (h : VS w B b s l A W) (i : Nat) : W.frozen? ⟨B, i, none⟩ = false := by simp [World.frozen?, h.box]
theorem VS.start {w w1 : World} {b : Nat} {s : ByteArray} {l : Bs × Bool} {A : Array Value} (hb : b < w.heap.size) (hr : RdL w1 b s l) (hw : Wr (fun j => j = b) (w.alloc (.cells zero6 25)) w1) : VS w w1.heap.size b s l A (w1.alloc (.cells A 25)) := by
  have hs : w.heap.size < w1.heap.size := by have := hw.size; simp at this; omega
  have hB := bnew (Below.refl w1.heap.size w1) (.cells A 25)
  refine ⟨hb, hs, (hB.block _ hs).trans ((hw.block _ (by simp) (by show ¬ _ = _; omega)).trans (heap_alloc_new w _)), heap_alloc_new w1 _, hr.keep hB (Nat.lt_trans hb hs), ?_⟩
  exact ((Wr.of_below (bnew (Below.refl w.heap.size w) (.cells zero6 25)) (fun j => j = b)).andThen hw fun _ _ h => h).andThen (Wr.of_below hB (fun j => j = b)) fun _ _ h => h
/-- The end: the result's row. -/
theorem VS.fin {w : World} {B b : Nat} {s : ByteArray} {l : Bs × Bool} {A : Array Value} {W : World} (h : VS w B b s l A W) (cs : Array Value) : RdL (W.setRow w.heap.size cs) b s l ∧ Wr (fun j => j = b) w (W.setRow w.heap.size cs) := by
  have h1 : ∀ i, i ≠ w.heap.size → (W.setRow w.heap.size cs).heap[i]? = W.heap[i]? := fun i hi => setRow_other _ _ _ _ hi
  have hlo := h.lo
  obtain ⟨j, hj, hl, hr⟩ := h.rd
  have hc : ∀ k, (W.setRow w.heap.size cs).cell? ⟨b, k, none⟩ = W.cell? ⟨b, k, none⟩ := fun k => World.cell?_of_block (w := W) (h1 b (by omega))
  refine ⟨⟨j, hj, hl, (hc 0).trans hr.c0, (hc 1).trans hr.c1, (hc 2).trans hr.c2, fun k => (World.frozen?_of_block (w := W) (h1 b (by omega))).trans (hr.fz k)⟩, h.wr.os, h.wr.tape, h.wr.output, by simpa using h.wr.size, fun i hi hi2 => (h1 i (by omega)).trans (h.wr.block i hi hi2)⟩
set_option maxRecDepth 100000 in
set_option maxHeartbeats 2000000 in
theorem rvalue_2 (s : ByteArray) (l l2 l3 : Bs × Bool) (x : Nat) (nest : Int) (b : Nat) (w : World) (h : RdL w b s l) (hb : b < w.heap.size) (hs : s.size ≤ 9223372036854775807)
    (HC : ∀ W, RdL W b s l → Calls Try.prog 35 #[.pointer (some ⟨b, 0, none⟩), .int .i64 1] W fun e w' => e = .returned (.int .u64 2) ∧ RdL w' b s l2 ∧ Wr (fun j => j = b) W w')
    (HD : ∀ W, RdL W b s l2 → Calls Try.prog 35 #[.pointer (some ⟨b, 0, none⟩), .int .i64 8] W fun e w' => e = .returned (.int .u64 x) ∧ RdL w' b s l3 ∧ Wr (fun j => j = b) W w') (hx8 : x < 18446744073709551616) :
    Calls Try.prog 21 #[.pointer (some ⟨b, 0, none⟩), .int .i64 nest] w (ValIs (mkI 2 (unword x)) b s l3 w) := by
  have HC := Lib.hid HC
  have HD := Lib.hid HD
  have HR := Lib.hid (fun o => h.keep (bnew (Below.refl w.heap.size w) o) hb)
  have HBW := Lib.hid hb
  clear h
  go_enter Try.func21, Try.ntmps21
  go_wp2_with (go_at_call 35; (with_reducible refine (HC.out _ (HR.out _)).mono ?_); rintro e w1 ⟨rfl, HR1, HW1⟩; have hv := Lib.hid (VS.start (A := #[.int .u8 2, .int .i64 0, .float .f64 0, .float .f64 0, .string ⟨#[]⟩, .slice none 0 0]) HBW.out HR1 HW1); clear HR1 HW1)
  refine (HD.out _ hv.out.rd).mono ?_
  rintro e w2 ⟨rfl, HR3, HW3⟩
  have hv2 := hv.out.call HR3 HW3
  have hv3 := Lib.hid (hv2.put 1 (.int .i64 (wrap64 x)))
  have q1 : w2.cell? ⟨w1.heap.size, 1, none⟩ = some (.int .i64 0) := hv2.cell 1
  have qz := hv2.frozen 1
  clear HR3 HW3 hv hv2 HC HD HR
  go_wp2_with (first | (refine wpList_load_row (by rfl) 25 _ (by rfl) w1.heap.size (by rfl) 25 _ (0, 0) _ hv3.out.box Try.underlying25 rfl (by kernel_rfl) ?_) | (refine wpList_store_rowTo (by rfl) 25 _ _ (by rfl) (by rfl) w.heap.size #[.int .u8 2, .int .i64 (wrap64 x), .float .f64 0, .float .f64 0, .string ⟨#[]⟩, .slice none 0 0] (by rfl) (by rfl) 25 zero6 hv3.out.res (by kernel_rfl) (by kernel_rfl) (all_oneCell_toArray (cs := [.int .u8 2, .int .i64 (wrap64 x), .float .f64 0, .float .f64 0, .string ⟨#[]⟩, .slice none 0 0]) (by simp [Value.oneCell'])) ?_))
  refine bodyPost_ret (v := .agg #[.int .u8 2, .int .i64 (wrap64 x), .float .f64 0, .float .f64 0, .string ⟨#[]⟩, .slice none 0 0]) (results_cell_row rfl _ _ w.heap.size 25 _ (0, 0) _ rfl (setRow_heap _ _ _ _ _ _ hv3.out.res) Try.underlying25 rfl (by kernel_rfl)) rfl ?_
  obtain ⟨r1, r2⟩ := hv3.out.fin _
  refine ⟨_, _, _, _, _, _, [], rfl, ?_, Apart.nil _, Soft.nil _, r1, r2⟩
  unfold mkI Va.tr Tr.own
  exact ⟨none, 0, 0, by simp [unword], rfl, by simp [Value.oneCell'], ⟨rfl, Nat.le_refl _⟩, Nat.le_refl _, by omega, .inl ⟨rfl, rfl⟩⟩
end Go.Proofs.Ytaglklcjolcgeaa
namespace Go.Proofs.Ytaglklcjolcgeaa
open Go.RowKit
set_option linter.unusedVariables false
set_option linter.unusedSimpArgs false
attribute [local go_sem] run_store_float
theorem run_frombits (x : Nat) (w : World) : Sem.run Try.prog (callFunc 36 #[.int .u64 x]) w = .ok (.value (.float .f64 x)) w := by
  have h := run_callFunc_extern (P := Try.prog) (f := 36) (fn := Try.f36) (e := Extern.MathFloatBits.float64frombits) Try.func36 (by kernel_rfl) (by kernel_rfl) (by kernel_rfl) (by kernel_rfl) #[.int .u64 x] w
  rw [h]; rfl
theorem sbits_some (l t c : Bs) (p : Addr) (w : World) (h : RdP w p l) (hk : takeN 8 l = some (t, c)) :
    Calls Try.prog 40 #[.pointer (some p)] w fun e w' => e = .returned (.float .f64 (be t)) ∧ RdP w' p c ∧ Wr (fun j => j = p.block) w w' := by
  have kb := run_frombits
  have HC := Lib.hid (fixed_some l 8 t c p w h hk (Nat.le_refl _))
  clear h hk
  go_enter Try.func40, Try.ntmps40
  go_wp2_with (go_at_call 39; (refine HC.out.mono ?_); rintro e w1 ⟨rfl, HR, HW⟩)
  go_ret
  exact ⟨rfl, HR, HW⟩
theorem sbits_none (l : Bs) (p : Addr) (w : World) (h : RdP w p l) (hk : takeN 8 l = none) :
    Calls Try.prog 40 #[.pointer (some p)] w (ShortIs p w) := by
  have kb := run_frombits
  have HC := Lib.hid (fixed_none l 8 p w h hk (Nat.le_refl _))
  clear h hk
  go_enter Try.func40, Try.ntmps40
  go_wp2_with (go_at_call 39; (refine HC.out.mono ?_); rintro e w1 ⟨rfl, HW⟩)
  simp [bodyPost]
  exact ⟨rfl, HW⟩
end Go.Proofs.Ytaglklcjolcgeaa
namespace Go.Proofs.Ytaglklcjolcgeaa
open Go.RowKit
set_option linter.unusedVariables false
set_option linter.unusedSimpArgs false
attribute [local go_sem] run_store_float
theorem wrap_small (x : Nat) (h : x < 65536) : wrap64 (x : Int) = (x : Int) := by simp only [wrap64]; omega
set_option maxRecDepth 100000 in
set_option maxHeartbeats 2000000 in
theorem rvalue_1 (s : ByteArray) (l l2 l3 : Bs × Bool) (x : Nat) (nest : Int) (b : Nat) (w : World) (h : RdL w b s l) (hb : b < w.heap.size) (hs : s.size ≤ 9223372036854775807)
    (HC : ∀ W, RdL W b s l → Calls Try.prog 35 #[.pointer (some ⟨b, 0, none⟩), .int .i64 1] W fun e w' => e = .returned (.int .u64 1) ∧ RdL w' b s l2 ∧ Wr (fun j => j = b) W w')
    (HD : ∀ W, RdL W b s l2 → Calls Try.prog 35 #[.pointer (some ⟨b, 0, none⟩), .int .i64 1] W fun e w' => e = .returned (.int .u64 x) ∧ RdL w' b s l3 ∧ Wr (fun j => j = b) W w')
    (hx : x < 256) :
    Calls Try.prog 21 #[.pointer (some ⟨b, 0, none⟩), .int .i64 nest] w (ValIs (mkI 1 x) b s l3 w) := by
  have HC := Lib.hid HC
  have HD := Lib.hid HD
  have HR := Lib.hid (fun o => h.keep (bnew (Below.refl w.heap.size w) o) hb)
  have HBW := Lib.hid hb
  clear h
  go_enter Try.func21, Try.ntmps21
  go_wp2_with (go_at_call 35; (with_reducible refine (HC.out _ (HR.out _)).mono ?_); rintro e w1 ⟨rfl, HR1, HW1⟩; have hv := Lib.hid (VS.start (A := #[.int .u8 1, .int .i64 0, .float .f64 0, .float .f64 0, .string ⟨#[]⟩, .slice none 0 0]) HBW.out HR1 HW1); clear HR1 HW1)
  refine (HD.out _ hv.out.rd).mono ?_
  rintro e w2 ⟨rfl, HR3, HW3⟩
  have hvv := hv.out.call HR3 HW3
  have hv2 := Lib.hid (hvv.put 1 (.int .i64 x))
  have q1 : w2.cell? ⟨w1.heap.size, 1, none⟩ = some (.int .i64 0) := hvv.cell 1
  have qz := hvv.frozen 1
  clear HR3 HW3 hvv hv HD
  go_wp2_with (first | (refine wpList_load_row (by rfl) 25 _ (by rfl) w1.heap.size (by rfl) 25 _ (0, 0) _ hv2.out.box Try.underlying25 rfl (by kernel_rfl) ?_) | (refine wpList_store_rowTo (by rfl) 25 _ _ (by rfl) (by rfl) w.heap.size #[.int .u8 1, .int .i64 x, .float .f64 0, .float .f64 0, .string ⟨#[]⟩, .slice none 0 0] (by rfl) (by rfl) 25 zero6 hv2.out.res (by kernel_rfl) (by kernel_rfl) (all_oneCell_toArray (cs := [.int .u8 1, .int .i64 x, .float .f64 0, .float .f64 0, .string ⟨#[]⟩, .slice none 0 0]) (by simp [Value.oneCell'])) ?_))
  refine bodyPost_ret (v := .agg #[.int .u8 1, .int .i64 x, .float .f64 0, .float .f64 0, .string ⟨#[]⟩, .slice none 0 0]) (results_cell_row rfl _ _ w.heap.size 25 _ (0, 0) _ rfl (setRow_heap _ _ _ _ _ _ hv2.out.res) Try.underlying25 rfl (by kernel_rfl)) rfl ?_
  obtain ⟨r1, r2⟩ := hv2.out.fin _
  refine ⟨_, _, _, _, _, _, [], rfl, ?_, Apart.nil _, Soft.nil _, r1, r2⟩
  (try unfold mkI); unfold Va.tr Tr.own
  exact ⟨none, 0, 0, by simp [unword], rfl, by simp [Value.oneCell'], ⟨rfl, Nat.le_refl _⟩, Nat.le_refl _, by omega, .inl ⟨rfl, rfl⟩⟩
set_option maxRecDepth 100000 in
set_option maxHeartbeats 2000000 in
theorem rvalue_3 (s : ByteArray) (l l2 l3 : Bs × Bool) (x : Nat) (nest : Int) (b : Nat) (w : World) (h : RdL w b s l) (hb : b < w.heap.size) (hs : s.size ≤ 9223372036854775807)
    (HC : ∀ W, RdL W b s l → Calls Try.prog 35 #[.pointer (some ⟨b, 0, none⟩), .int .i64 1] W fun e w' => e = .returned (.int .u64 3) ∧ RdL w' b s l2 ∧ Wr (fun j => j = b) W w')
    (HD : ∀ W, RdL W b s l2 → Calls Try.prog 35 #[.pointer (some ⟨b, 0, none⟩), .int .i64 8] W fun e w' => e = .returned (.int .u64 x) ∧ RdL w' b s l3 ∧ Wr (fun j => j = b) W w') :
    Calls Try.prog 21 #[.pointer (some ⟨b, 0, none⟩), .int .i64 nest] w (ValIs (.mk 3 0 x 0 ⟨#[]⟩ []) b s l3 w) := by
  have HC := Lib.hid HC
  have HD := Lib.hid HD
  have kb := run_frombits
  have HR := Lib.hid (fun o => h.keep (bnew (Below.refl w.heap.size w) o) hb)
  have HBW := Lib.hid hb
  clear h
  go_enter Try.func21, Try.ntmps21
  go_wp2_with (go_at_call 35; (with_reducible refine (HC.out _ (HR.out _)).mono ?_); rintro e w1 ⟨rfl, HR1, HW1⟩; have hv := Lib.hid (VS.start (A := #[.int .u8 3, .int .i64 0, .float .f64 0, .float .f64 0, .string ⟨#[]⟩, .slice none 0 0]) HBW.out HR1 HW1); clear HR1 HW1)
  refine (HD.out _ hv.out.rd).mono ?_
  rintro e w2 ⟨rfl, HR3, HW3⟩
  have hvv := hv.out.call HR3 HW3
  have hv2 := Lib.hid (hvv.put 2 (.float .f64 x))
  have q1 : w2.cell? ⟨w1.heap.size, 2, none⟩ = some (.float .f64 0) := hvv.cell 2
  have qz := hvv.frozen 2
  clear HR3 HW3 hvv hv HD
  go_wp2_with (first | (refine wpList_load_row (by rfl) 25 _ (by rfl) w1.heap.size (by rfl) 25 _ (0, 0) _ hv2.out.box Try.underlying25 rfl (by kernel_rfl) ?_) | (refine wpList_store_rowTo (by rfl) 25 _ _ (by rfl) (by rfl) w.heap.size #[.int .u8 3, .int .i64 0, .float .f64 x, .float .f64 0, .string ⟨#[]⟩, .slice none 0 0] (by rfl) (by rfl) 25 zero6 hv2.out.res (by kernel_rfl) (by kernel_rfl) (all_oneCell_toArray (cs := [.int .u8 3, .int .i64 0, .float .f64 x, .float .f64 0, .string ⟨#[]⟩, .slice none 0 0]) (by simp [Value.oneCell'])) ?_))
  refine bodyPost_ret (v := .agg #[.int .u8 3, .int .i64 0, .float .f64 x, .float .f64 0, .string ⟨#[]⟩, .slice none 0 0]) (results_cell_row rfl _ _ w.heap.size 25 _ (0, 0) _ rfl (setRow_heap _ _ _ _ _ _ hv2.out.res) Try.underlying25 rfl (by kernel_rfl)) rfl ?_
  obtain ⟨r1, r2⟩ := hv2.out.fin _
  refine ⟨_, _, _, _, _, _, [], rfl, ?_, Apart.nil _, Soft.nil _, r1, r2⟩
  (try unfold mkI); unfold Va.tr Tr.own
  exact ⟨none, 0, 0, by simp [unword], rfl, by simp [Value.oneCell'], ⟨rfl, Nat.le_refl _⟩, Nat.le_refl _, by omega, .inl ⟨rfl, rfl⟩⟩
set_option maxRecDepth 100000 in
set_option maxHeartbeats 2000000 in
theorem rvalue_4 (s : ByteArray) (l l2 l3 l4 : Bs × Bool) (x y : Nat) (nest : Int) (b : Nat) (w : World) (h : RdL w b s l) (hb : b < w.heap.size) (hs : s.size ≤ 9223372036854775807)
    (HC : ∀ W, RdL W b s l → Calls Try.prog 35 #[.pointer (some ⟨b, 0, none⟩), .int .i64 1] W fun e w' => e = .returned (.int .u64 4) ∧ RdL w' b s l2 ∧ Wr (fun j => j = b) W w')
    (HD : ∀ W, RdL W b s l2 → Calls Try.prog 35 #[.pointer (some ⟨b, 0, none⟩), .int .i64 8] W fun e w' => e = .returned (.int .u64 x) ∧ RdL w' b s l3 ∧ Wr (fun j => j = b) W w')
    (HE : ∀ W, RdL W b s l3 → Calls Try.prog 35 #[.pointer (some ⟨b, 0, none⟩), .int .i64 8] W fun e w' => e = .returned (.int .u64 y) ∧ RdL w' b s l4 ∧ Wr (fun j => j = b) W w') :
    Calls Try.prog 21 #[.pointer (some ⟨b, 0, none⟩), .int .i64 nest] w (ValIs (.mk 4 0 x y ⟨#[]⟩ []) b s l4 w) := by
  have HC := Lib.hid HC
  have HD := Lib.hid HD
  have HE := Lib.hid HE
  have kb := run_frombits
  have HR := Lib.hid (fun o => h.keep (bnew (Below.refl w.heap.size w) o) hb)
  have HBW := Lib.hid hb
  clear h
  go_enter Try.func21, Try.ntmps21
  go_wp2_with (go_at_call 35; (with_reducible refine (HC.out _ (HR.out _)).mono ?_); rintro e w1 ⟨rfl, HR1, HW1⟩; have hv := Lib.hid (VS.start (A := #[.int .u8 4, .int .i64 0, .float .f64 0, .float .f64 0, .string ⟨#[]⟩, .slice none 0 0]) HBW.out HR1 HW1); clear HR1 HW1)
  refine (HD.out _ hv.out.rd).mono ?_
  rintro e w2 ⟨rfl, HR3, HW3⟩
  have hvv := hv.out.call HR3 HW3
  have hv2 := Lib.hid (hvv.put 2 (.float .f64 x))
  have q1 : w2.cell? ⟨w1.heap.size, 2, none⟩ = some (.float .f64 0) := hvv.cell 2
  have qz := hvv.frozen 2
  clear HR3 HW3 hvv hv HD
  go_wp2_with fail
  clear q1 qz
  refine (HE.out _ hv2.out.rd).mono ?_
  rintro e w3 ⟨rfl, HR3, HW3⟩
  have hvv := hv2.out.call HR3 HW3
  have hv3 := Lib.hid (hvv.put 3 (.float .f64 y))
  have q1 : w3.cell? ⟨w1.heap.size, 3, none⟩ = some (.float .f64 0) := hvv.cell 3
  have qz := hvv.frozen 3
  clear HR3 HW3 hvv hv2 HE
  go_wp2_with (first | (refine wpList_load_row (by rfl) 25 _ (by rfl) w1.heap.size (by rfl) 25 _ (0, 0) _ hv3.out.box Try.underlying25 rfl (by kernel_rfl) ?_) | (refine wpList_store_rowTo (by rfl) 25 _ _ (by rfl) (by rfl) w.heap.size #[.int .u8 4, .int .i64 0, .float .f64 x, .float .f64 y, .string ⟨#[]⟩, .slice none 0 0] (by rfl) (by rfl) 25 zero6 hv3.out.res (by kernel_rfl) (by kernel_rfl) (all_oneCell_toArray (cs := [.int .u8 4, .int .i64 0, .float .f64 x, .float .f64 y, .string ⟨#[]⟩, .slice none 0 0]) (by simp [Value.oneCell'])) ?_))
  refine bodyPost_ret (v := .agg #[.int .u8 4, .int .i64 0, .float .f64 x, .float .f64 y, .string ⟨#[]⟩, .slice none 0 0]) (results_cell_row rfl _ _ w.heap.size 25 _ (0, 0) _ rfl (setRow_heap _ _ _ _ _ _ hv3.out.res) Try.underlying25 rfl (by kernel_rfl)) rfl ?_
  obtain ⟨r1, r2⟩ := hv3.out.fin _
  refine ⟨_, _, _, _, _, _, [], rfl, ?_, Apart.nil _, Soft.nil _, r1, r2⟩
  (try unfold mkI); unfold Va.tr Tr.own
  exact ⟨none, 0, 0, by simp [unword], rfl, by simp [Value.oneCell'], ⟨rfl, Nat.le_refl _⟩, Nat.le_refl _, by omega, .inl ⟨rfl, rfl⟩⟩
set_option maxRecDepth 100000 in
set_option maxHeartbeats 2000000 in
theorem rvalue_5 (s : ByteArray) (l l2 l3 l4 : Bs × Bool) (x : Nat) (t : ByteArray) (nest : Int) (b : Nat) (w : World) (h : RdL w b s l) (hb : b < w.heap.size) (hs : s.size ≤ 9223372036854775807)
    (HC : ∀ W, RdL W b s l → Calls Try.prog 35 #[.pointer (some ⟨b, 0, none⟩), .int .i64 1] W fun e w' => e = .returned (.int .u64 5) ∧ RdL w' b s l2 ∧ Wr (fun j => j = b) W w')
    (HD : ∀ W, RdL W b s l2 → Calls Try.prog 35 #[.pointer (some ⟨b, 0, none⟩), .int .i64 2] W fun e w' => e = .returned (.int .u64 x) ∧ RdL w' b s l3 ∧ Wr (fun j => j = b) W w')
    (HE : ∀ W, RdL W b s l3 → Calls Try.prog 37 #[.pointer (some ⟨b, 0, none⟩), .int .i64 (wrap64 x)] W fun e w' => e = .returned (.string t) ∧ RdL w' b s l4 ∧ Wr (fun j => j = b) W w') :
    Calls Try.prog 21 #[.pointer (some ⟨b, 0, none⟩), .int .i64 nest] w (ValIs (.mk 5 0 0 0 t []) b s l4 w) := by
  have HC := Lib.hid HC
  have HD := Lib.hid HD
  have HE := Lib.hid HE
  have HR := Lib.hid (fun o => h.keep (bnew (Below.refl w.heap.size w) o) hb)
  have HBW := Lib.hid hb
  clear h
  go_enter Try.func21, Try.ntmps21
  go_wp2_with (go_at_call 35; (with_reducible refine (HC.out _ (HR.out _)).mono ?_); rintro e w1 ⟨rfl, HR1, HW1⟩; have hv := Lib.hid (VS.start (A := #[.int .u8 5, .int .i64 0, .float .f64 0, .float .f64 0, .string ⟨#[]⟩, .slice none 0 0]) HBW.out HR1 HW1); clear HR1 HW1)
  refine (HD.out _ hv.out.rd).mono ?_
  rintro e w2 ⟨rfl, HR3, HW3⟩
  have hv2 := Lib.hid (hv.out.call HR3 HW3)
  clear HR3 HW3 hv HD
  go_wp2_with fail
  refine (HE.out _ hv2.out.rd).mono ?_
  rintro e w3 ⟨rfl, HR3, HW3⟩
  have hvv := hv2.out.call HR3 HW3
  have hv3 := Lib.hid (hvv.put 4 (.string t))
  have q1 : w3.cell? ⟨w1.heap.size, 4, none⟩ = some (.string ⟨#[]⟩) := hvv.cell 4
  have qz := hvv.frozen 4
  clear HR3 HW3 hvv hv2 HE
  go_wp2_with (first | (refine wpList_load_row (by rfl) 25 _ (by rfl) w1.heap.size (by rfl) 25 _ (0, 0) _ hv3.out.box Try.underlying25 rfl (by kernel_rfl) ?_) | (refine wpList_store_rowTo (by rfl) 25 _ _ (by rfl) (by rfl) w.heap.size #[.int .u8 5, .int .i64 0, .float .f64 0, .float .f64 0, .string t, .slice none 0 0] (by rfl) (by rfl) 25 zero6 hv3.out.res (by kernel_rfl) (by kernel_rfl) (all_oneCell_toArray (cs := [.int .u8 5, .int .i64 0, .float .f64 0, .float .f64 0, .string t, .slice none 0 0]) (by simp [Value.oneCell'])) ?_))
  refine bodyPost_ret (v := .agg #[.int .u8 5, .int .i64 0, .float .f64 0, .float .f64 0, .string t, .slice none 0 0]) (results_cell_row rfl _ _ w.heap.size 25 _ (0, 0) _ rfl (setRow_heap _ _ _ _ _ _ hv3.out.res) Try.underlying25 rfl (by kernel_rfl)) rfl ?_
  obtain ⟨r1, r2⟩ := hv3.out.fin _
  refine ⟨_, _, _, _, _, _, [], rfl, ?_, Apart.nil _, Soft.nil _, r1, r2⟩
  (try unfold mkI); unfold Va.tr Tr.own
  exact ⟨none, 0, 0, by simp [unword], rfl, by simp [Value.oneCell'], ⟨rfl, Nat.le_refl _⟩, Nat.le_refl _, by omega, .inl ⟨rfl, rfl⟩⟩
set_option maxRecDepth 100000 in
set_option maxHeartbeats 2000000 in
theorem rvalue_6 (s : ByteArray) (l l2 l3 l4 : Bs × Bool) (x : Nat) (t : ByteArray) (nest : Int) (b : Nat) (w : World) (h : RdL w b s l) (hb : b < w.heap.size) (hs : s.size ≤ 9223372036854775807)
    (HC : ∀ W, RdL W b s l → Calls Try.prog 35 #[.pointer (some ⟨b, 0, none⟩), .int .i64 1] W fun e w' => e = .returned (.int .u64 6) ∧ RdL w' b s l2 ∧ Wr (fun j => j = b) W w')
    (HD : ∀ W, RdL W b s l2 → Calls Try.prog 35 #[.pointer (some ⟨b, 0, none⟩), .int .i64 2] W fun e w' => e = .returned (.int .u64 x) ∧ RdL w' b s l3 ∧ Wr (fun j => j = b) W w')
    (HE : ∀ W, RdL W b s l3 → Calls Try.prog 37 #[.pointer (some ⟨b, 0, none⟩), .int .i64 (wrap64 x)] W fun e w' => e = .returned (.string t) ∧ RdL w' b s l4 ∧ Wr (fun j => j = b) W w') :
    Calls Try.prog 21 #[.pointer (some ⟨b, 0, none⟩), .int .i64 nest] w (ValIs (.mk 6 0 0 0 t []) b s l4 w) := by
  have HC := Lib.hid HC
  have HD := Lib.hid HD
  have HE := Lib.hid HE
  have HR := Lib.hid (fun o => h.keep (bnew (Below.refl w.heap.size w) o) hb)
  have HBW := Lib.hid hb
  clear h
  go_enter Try.func21, Try.ntmps21
  go_wp2_with (go_at_call 35; (with_reducible refine (HC.out _ (HR.out _)).mono ?_); rintro e w1 ⟨rfl, HR1, HW1⟩; have hv := Lib.hid (VS.start (A := #[.int .u8 6, .int .i64 0, .float .f64 0, .float .f64 0, .string ⟨#[]⟩, .slice none 0 0]) HBW.out HR1 HW1); clear HR1 HW1)
  refine (HD.out _ hv.out.rd).mono ?_
  rintro e w2 ⟨rfl, HR3, HW3⟩
  have hv2 := Lib.hid (hv.out.call HR3 HW3)
  clear HR3 HW3 hv HD
  go_wp2_with fail
  refine (HE.out _ hv2.out.rd).mono ?_
  rintro e w3 ⟨rfl, HR3, HW3⟩
  have hvv := hv2.out.call HR3 HW3
  have hv3 := Lib.hid (hvv.put 4 (.string t))
  have q1 : w3.cell? ⟨w1.heap.size, 4, none⟩ = some (.string ⟨#[]⟩) := hvv.cell 4
  have qz := hvv.frozen 4
  clear HR3 HW3 hvv hv2 HE
  go_wp2_with (first | (refine wpList_load_row (by rfl) 25 _ (by rfl) w1.heap.size (by rfl) 25 _ (0, 0) _ hv3.out.box Try.underlying25 rfl (by kernel_rfl) ?_) | (refine wpList_store_rowTo (by rfl) 25 _ _ (by rfl) (by rfl) w.heap.size #[.int .u8 6, .int .i64 0, .float .f64 0, .float .f64 0, .string t, .slice none 0 0] (by rfl) (by rfl) 25 zero6 hv3.out.res (by kernel_rfl) (by kernel_rfl) (all_oneCell_toArray (cs := [.int .u8 6, .int .i64 0, .float .f64 0, .float .f64 0, .string t, .slice none 0 0]) (by simp [Value.oneCell'])) ?_))
  refine bodyPost_ret (v := .agg #[.int .u8 6, .int .i64 0, .float .f64 0, .float .f64 0, .string t, .slice none 0 0]) (results_cell_row rfl _ _ w.heap.size 25 _ (0, 0) _ rfl (setRow_heap _ _ _ _ _ _ hv3.out.res) Try.underlying25 rfl (by kernel_rfl)) rfl ?_
  obtain ⟨r1, r2⟩ := hv3.out.fin _
  refine ⟨_, _, _, _, _, _, [], rfl, ?_, Apart.nil _, Soft.nil _, r1, r2⟩
  (try unfold mkI); unfold Va.tr Tr.own
  exact ⟨none, 0, 0, by simp [unword], rfl, by simp [Value.oneCell'], ⟨rfl, Nat.le_refl _⟩, Nat.le_refl _, by omega, .inl ⟨rfl, rfl⟩⟩
end Go.Proofs.Ytaglklcjolcgeaa
