/- The walks of the reference's Same, Compare, Like. -/
import Derived.Test.YtbbpngoffpegbaaGreatDoorROrdW
namespace Go.Proofs.YtbbpngoffpegbaaGreatDoor
open Go.RowKit
set_option linter.unusedVariables false
set_option linter.unusedSimpArgs false
attribute [local go_sem] run_store_float
/-- A block that was there reads as it did. -/
theorem box_keep {W w1 : World} {B : Nat} {cs : Array Value} {t : TypeId} (h : W.heap[B]? = some (.cells cs t (0, 0))) (hb : Below W.heap.size W w1) : ∀ j, w1.cell? ⟨B, j, none⟩ = cs[j]? := fun j => by
  have hl : B < W.heap.size := (Array.getElem?_eq_some_iff.1 h).1
  have h1 := hb.block B hl
  unfold World.cell?
  rw [h1, h]
  simp
theorem box_keep2 {W w1 w2 : World} {B : Nat} {cs : Array Value} {t : TypeId} (h : W.heap[B]? = some (.cells cs t (0, 0))) (hb : Below W.heap.size W w1) (hb2 : Below w1.heap.size w1 w2) : ∀ j, w2.cell? ⟨B, j, none⟩ = cs[j]? := box_keep h (bthen hb hb2)
theorem two1 (w : World) (A B : Obj) : ((w.alloc A).alloc B).heap[w.heap.size]? = some A := by
  rw [heap_alloc_old _ _ (by simp)]
  exact heap_alloc_new w A
theorem two2 (w : World) (A B : Obj) : ((w.alloc A).alloc B).heap[w.heap.size + 1]? = some B := heap_alloc2_new w A B
theorem bb2 (w : World) (A B : Obj) : Below w.heap.size w ((w.alloc A).alloc B) := bnew (bnew (Below.refl _ _) _) _
def PairIs (v q : Int) (w : World) (e : Ending) (w' : World) : Prop := e = .returned (.tuple #[.int .i64 v, .int .i64 q]) ∧ Below w.heap.size w w'
def Pair8Is (v q : Int) (w : World) (e : Ending) (w' : World) : Prop := e = .returned (.tuple #[.int .i8 v, .int .i64 q]) ∧ Below w.heap.size w w'
theorem ok_ite {b : Bool} (h : b = true) : (if b = true then (0 : Int) else 20) = 0 := by rw [h]; rfl
theorem bad_ite {b : Bool} (h : b = false) : (if b = true then (0 : Int) else 20) = 20 := by rw [h]; rfl
def sameB (kd n : Int) (x y : Nat) (s : ByteArray) (n2 : Int) (x2 y2 : Nat) (s2 : ByteArray) : Bool :=
  if kd = 1 ∨ kd = 2 then n == n2 else if kd = 3 then fo x x2 == some .eq else if kd = 4 then (fo x x2 == some .eq) && (fo y y2 == some .eq) else if kd = 5 then s.toList == s2.toList else true
/-- What comparing two values comes to. -/
def sameV : Va → Va → Int
  | .mk kd n x y s _, .mk kd2 n2 x2 y2 s2 _ => if kd ≠ kd2 then 2 else if kd = 6 ∨ kd = 7 then 3 else if sameB kd n x y s n2 x2 y2 s2 then 1 else 2
def likeB (r r2 : Va) : Bool := (r.kd == r2.kd) && (ordV r r2 == 0)
def LikeIs (b : Bool) (w : World) (e : Ending) (w' : World) : Prop := e = .returned (.bool b) ∧ Below w.heap.size w w'
set_option maxRecDepth 100000 in
set_option maxHeartbeats 1000000 in
theorem Like_any (r r2 : Va) (c c2 : List Value) (F F2 : List Nat) (w : World) (hr : r.tr.own 6 w c F) (hr2 : r2.tr.own 6 w c2 F2) (h1 : r.wf) (h2 : r2.wf) :
    Calls Tryz.prog 55 #[.agg c.toArray, .agg c2.toArray] w (LikeIs (likeB r r2) w) := by
  obtain ⟨kd, n, x, y, s, rs⟩ := r
  obtain ⟨kd2, n2, x2, y2, s2, rs2⟩ := r2
  obtain ⟨a, cap, rfl, _⟩ := Va.open hr
  obtain ⟨a2, cap2, rfl, _⟩ := Va.open hr2
  have HR : Hid (∀ W, Below w.heap.size w W → (Va.mk kd n x y s rs).tr.own 6 W [.int .u8 kd, .int .i64 n, .float .f64 x, .float .f64 y, .string s, .slice a rs.length cap] F) := fun W hW => Tr.own_below hr hW
  have HR2 : Hid (∀ W, Below w.heap.size w W → (Va.mk kd2 n2 x2 y2 s2 rs2).tr.own 6 W [.int .u8 kd2, .int .i64 n2, .float .f64 x2, .float .f64 y2, .string s2, .slice a2 rs2.length cap2] F2) := fun W hW => Tr.own_below hr2 hW
  have HB := Lib.hid (bb2 w (.cells [.int .u8 kd, .int .i64 n, .float .f64 x, .float .f64 y, .string s, .slice a rs.length cap].toArray 25) (.cells [.int .u8 kd2, .int .i64 n2, .float .f64 x2, .float .f64 y2, .string s2, .slice a2 rs2.length cap2].toArray 25))
  clear hr hr2
  have W1 := Lib.hid h1
  have W2 := Lib.hid h2
  clear h1 h2
  cases hk : (kd == kd2)
  all_goals
    go_enter Tryz.func55, Tryz.ntmps55
    go_wp2_with (go_at_call 76; refine (rorder_N _ (Va.mk kd n x y s rs) (Va.mk kd2 n2 x2 y2 s2 rs2) (Nat.le_refl _) W1.out W2.out [.int .u8 kd, .int .i64 n, .float .f64 x, .float .f64 y, .string s, .slice a rs.length cap] [.int .u8 kd2, .int .i64 n2, .float .f64 x2, .float .f64 y2, .string s2, .slice a2 rs2.length cap2] F F2 _ (HR.out _ HB.out) (HR2.out _ HB.out)).mono ?_; rintro e w3 ⟨rfl, hb3⟩)
    go_ret
    refine ⟨rb ?_, by first | exact HB.out | exact bthen HB.out hb3⟩
    unfold likeB Va.kd
    simp [hk]
end Go.Proofs.YtbbpngoffpegbaaGreatDoor
