/- The walk of '(*value.census).may'. -/
import Derived.Test.YtbbpngoffpegbaaGreatDoorCounts
namespace Go.Proofs.YtbbpngoffpegbaaGreatDoor
open Go.RowKit
set_option linter.unusedVariables false
set_option linter.unusedSimpArgs false
attribute [local go_sem] run_store_float
theorem may_box {w : World} {p : Addr} {cs : Array Value} {v : Value} (hp : p.block < w.heap.size) : ((w.alloc (.cells cs 25)).setCell p v).heap[w.heap.size]? = some (.cells cs 25 (0, 0)) :=
  (Below.heap_setCell _ _ _ _ (by omega)).trans (heap_alloc_new w _)
theorem may_cell {w : World} {p : Addr} {cs : Array Value} {v u : Value} (hp : w.cell? p = some u) : ((w.alloc (.cells cs 25)).setCell p v).cell? p = some v := by
  have h1 : (w.alloc (.cells cs 25)).cell? p = some u := (cell_new w _ p (World.block_lt_of_cell? w p hp)).trans hp
  exact World.cell?_setCell_same _ _ _ (by rw [h1])
theorem box_all {W : World} {B : Nat} {cs : Array Value} {t : TypeId} (h : W.heap[B]? = some (.cells cs t (0, 0))) : ∀ j, W.cell? ⟨B, j, none⟩ = cs[j]? := fun j => by
  unfold World.cell?
  rw [h]
  rfl
/-- What 'may' answers: whether it may be, and how many are left if it may. -/
def MayIs (r : Va) (nest left : Int) (p : Addr) (w : World) (e : Ending) (w' : World) : Prop :=
  ∃ l' : Int, e = .returned (.bool (decide (0 ≤ r.cnt nest left))) ∧ (0 ≤ r.cnt nest left → l' = r.cnt nest left) ∧ w'.cell? p = some (.int .i64 l') ∧ w'.frozen? p = false ∧ Wr (fun k => k = p.block) w w'
/-- ... of one that may not be. -/
def MayNot (left : Int) (p : Addr) (w : World) (e : Ending) (w' : World) : Prop :=
  e = .returned (.bool false) ∧ w'.cell? p = some (.int .i64 (left - 1)) ∧ w'.frozen? p = false ∧ Wr (fun k => k = p.block) w w'
theorem MayNot.is {r : Va} {nest left : Int} {p : Addr} {w : World} {e : Ending} {w' : World} (h : MayNot left p w e w') (hr : r.cnt nest left < 0) : MayIs r nest left p w e w' :=
  ⟨left - 1, by rw [decide_eq_false (by omega)]; exact h.1, fun h => by omega, h.2⟩
/-- The census's cell, and what was written, behind a call and two new blocks. -/
theorem may_end {w w1 : World} {p : Addr} {cs : Array Value} {v u : Value} (hp : w.cell? p = some u) (hz : w.frozen? p = false) (hb : Below ((w.alloc (.cells cs 25)).setCell p v).heap.size ((w.alloc (.cells cs 25)).setCell p v) w1) :
    w1.cell? p = some v ∧ w1.frozen? p = false ∧ Wr (fun k => k = p.block) w w1 := by
  have hpb := World.block_lt_of_cell? w p hp
  have hs : w.heap.size ≤ ((w.alloc (.cells cs 25)).setCell p v).heap.size := by simp [World.setCell]
  refine ⟨(hb.cell (by omega)).trans (may_cell hp), (hb.frozen (by omega)).trans ?_, ?_⟩
  · rw [World.frozen?_setCell]
    exact (frozen_new w _ p hpb).trans hz
  · exact (((Wr.refl (fun k => k = p.block) w).alloc _).setCell (.inl rfl) v).andThen (Wr.of_below hb (fun k => k = p.block)) fun _ _ h => h
theorem end_alloc {w w1 : World} {p : Addr} {v : Value} (h : w1.cell? p = some v ∧ w1.frozen? p = false ∧ Wr (fun k => k = p.block) w w1) (ob : Obj) : (w1.alloc ob).cell? p = some v ∧ (w1.alloc ob).frozen? p = false ∧ Wr (fun k => k = p.block) w (w1.alloc ob) := by
  have hpb := World.block_lt_of_cell? w1 p h.1
  exact ⟨(cell_new w1 _ p hpb).trans h.1, (frozen_new w1 _ p hpb).trans h.2.1, h.2.2.alloc _⟩
/-- ... of one that may be and is no list. -/
def MayYes (left : Int) (p : Addr) (w : World) (e : Ending) (w' : World) : Prop :=
  e = .returned (.bool true) ∧ w'.cell? p = some (.int .i64 (left - 1)) ∧ w'.frozen? p = false ∧ Wr (fun k => k = p.block) w w'
theorem MayYes.is {r : Va} {nest left : Int} {p : Addr} {w : World} {e : Ending} {w' : World} (h : MayYes left p w e w') (hr : r.cnt nest left = left - 1) (h0 : 0 ≤ left - 1) : MayIs r nest left p w e w' :=
  ⟨left - 1, by rw [decide_eq_true (by omega)]; exact h.1, fun _ => hr.symm, h.2⟩
end Go.Proofs.YtbbpngoffpegbaaGreatDoor
