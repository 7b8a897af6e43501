/- The walks of 'mark' and 'twin'. -/
import Derived.Test.YtbbpngoffpegbaaGreatDoorSame
namespace Go.Proofs.YtbbpngoffpegbaaGreatDoor
open Go.RowKit
set_option linter.unusedVariables false
set_option linter.unusedSimpArgs false
attribute [local go_sem] run_store_float
theorem info_tV : (Tryz.prog.info? 25).map (fun i => (i.zero, i.size, i.bytes)) = some (some (.agg #[.int .u8 0, .int .i64 0, .float .f64 0, .float .f64 0, .string ⟨#[]⟩, .slice none 0 0]), 6, 72) := by kernel_rfl
def zero6 : Array Value := #[.int .u8 0, .int .i64 0, .float .f64 0, .float .f64 0, .string ⟨#[]⟩, .slice none 0 0]
theorem mark_any (k : Nat) (hk : k ≤ 1000) (w : World) : Calls Tryz.prog 28 #[.int .i64 k] w fun e w' => e = .returned (.agg #[.int .u8 2, .int .i64 (900 + (k : Int)), .float .f64 0, .float .f64 0, .string ⟨#[]⟩, .slice none 0 0]) ∧ Below w.heap.size w w' := by
  go_enter Tryz.func28, Tryz.ntmps28
  go_wp2_with fail
  refine bodyPost_ret (v := .agg #[.int .u8 2, .int .i64 (900 + (k : Int)), .float .f64 0, .float .f64 0, .string ⟨#[]⟩, .slice none 0 0]) (results_cell_row rfl _ _ w.heap.size 25 _ (0, 0) _ rfl (heap_alloc_new w _) Tryz.underlying25 rfl (by kernel_rfl)) rfl ?_
  exact ⟨rfl, bnew (Below.refl _ _) _⟩
theorem mark_own (k : Nat) (w : World) : (markV k).tr.own 6 w [.int .u8 2, .int .i64 (900 + (k : Int)), .float .f64 0, .float .f64 0, .string ⟨#[]⟩, .slice none 0 0] [] := by
  unfold markV Va.tr Tr.own
  refine ⟨none, 0, 0, rfl, rfl, by simp [Value.oneCell'], ⟨rfl, Nat.le_refl _⟩, Nat.le_refl _, by omega, .inl ⟨rfl, rfl⟩⟩
/-- What 'twin' gives. -/
def TwinIs (r : Va) (c : List Value) (w : World) (e : Ending) (w' : World) : Prop := (r.okV = false ∧ e = .returned (.agg c.toArray) ∧ Below w.heap.size w w') ∨ (r.okV = true ∧ GivesR r w e w')
/-- The end of 'twin' and 'lent': what the boxes hold. -/
theorem end_box {wr : World} {B : Nat} {hd : List Value} {v u : Value} {z : Array Value} {e : TypeId} (h0 : wr.heap[B]? = some (.cells (hd ++ [v]).toArray e (0, 0))) (h1 : wr.heap[B + 1]? = some (.cells z e (0, 0))) (m : Nat) (hm : hd.length = m) :
    (wr.setCell ⟨B, m, none⟩ u).heap[B]? = some (.cells (hd ++ [u]).toArray e (0, 0)) ∧ (wr.setCell ⟨B, m, none⟩ u).heap[B + 1]? = some (.cells z e (0, 0)) := by
  subst hm
  refine ⟨?_, (Below.heap_setCell _ _ _ _ (by show B + 1 ≠ B; omega)).trans h1⟩
  have := Joins.block_setCell (i := hd.length) h0 u
  rw [this]
  simp
theorem end_other {wr : World} {B m : Nat} {u : Value} {cs : Array Value} (i : Nat) (h1 : i ≠ B) (h2 : i ≠ B + 1) : ((wr.setCell ⟨B, m, none⟩ u).setRow (B + 1) cs).heap[i]? = wr.heap[i]? :=
  (setRow_other _ _ _ _ h2).trans (Below.heap_setCell _ _ _ _ h1)
theorem end_below {w wr : World} {m : Nat} {u : Value} {cs : Array Value} (hb : Below w.heap.size w wr) : Below w.heap.size w ((wr.setCell ⟨w.heap.size, m, none⟩ u).setRow (w.heap.size + 1) cs) :=
  ⟨hb.os, hb.tape, hb.output, by simpa [World.setCell] using hb.size, fun i hi => (end_other i (by omega) (by omega)).trans (hb.block i hi)⟩
end Go.Proofs.YtbbpngoffpegbaaGreatDoor
