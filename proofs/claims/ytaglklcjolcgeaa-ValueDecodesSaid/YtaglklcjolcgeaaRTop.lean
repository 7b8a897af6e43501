/- The walks of the reference's Same, Compare, Like. -/
import Derived.Test.YtaglklcjolcgeaaROrdW
namespace Go.Proofs.Ytaglklcjolcgeaa
open Go.RowKit
set_option linter.unusedVariables false
set_option linter.unusedSimpArgs false
attribute [local go_sem] run_store_float
/-- A block that was there reads as it did. -/
theorem box_keep {W w1 : World} {B : Nat} {cs : Array Value} {t : TypeId} (h : W.heap[B]? = some (.cells cs t (0, 0))) (hb : Below W.heap.size W w1) : ∀ j, w1.cell? ⟨B, j, none⟩ = cs[j]? := fun j => by
  have hl : B < W.heap.size := (Array.getElem?_eq_some_iff.1 h).1
  have h1 := hb.block B hl
  unfold World.cell?
  rw [h1, h]
  simp
theorem box_keep2 {W w1 w2 : World} {B : Nat} {cs : Array Value} {t : TypeId} (h : W.heap[B]? = some (.cells cs t (0, 0))) (hb : Below W.heap.size W w1) (hb2 : Below w1.heap.size w1 w2) : ∀ j, w2.cell? ⟨B, j, none⟩ = cs[j]? := box_keep h (bthen hb hb2)
theorem two1 (w : World) (A B : Obj) : ((w.alloc A).alloc B).heap[w.heap.size]? = some A := by
  rw [heap_alloc_old _ _ (by simp)]
  exact heap_alloc_new w A
theorem two2 (w : World) (A B : Obj) : ((w.alloc A).alloc B).heap[w.heap.size + 1]? = some B := heap_alloc2_new w A B
theorem bb2 (w : World) (A B : Obj) : Below w.heap.size w ((w.alloc A).alloc B) := bnew (bnew (Below.refl _ _) _) _
def PairIs (v q : Int) (w : World) (e : Ending) (w' : World) : Prop := e = .returned (.tuple #[.int .i64 v, .int .i64 q]) ∧ Below w.heap.size w w'
def Pair8Is (v q : Int) (w : World) (e : Ending) (w' : World) : Prop := e = .returned (.tuple #[.int .i8 v, .int .i64 q]) ∧ Below w.heap.size w w'
theorem ok_ite {b : Bool} (h : b = true) : (if b = true then (0 : Int) else 20) = 0 := by rw [h]; rfl
theorem bad_ite {b : Bool} (h : b = false) : (if b = true then (0 : Int) else 20) = 20 := by rw [h]; rfl
def sameB (kd n : Int) (x y : Nat) (s : ByteArray) (n2 : Int) (x2 y2 : Nat) (s2 : ByteArray) : Bool :=
  if kd = 1 ∨ kd = 2 then n == n2 else if kd = 3 then fo x x2 == some .eq else if kd = 4 then (fo x x2 == some .eq) && (fo y y2 == some .eq) else if kd = 5 then s.toList == s2.toList else true
/-- What comparing two values comes to. -/
def sameV : Va → Va → Int
  | .mk kd n x y s _, .mk kd2 n2 x2 y2 s2 _ => if kd ≠ kd2 then 2 else if kd = 6 ∨ kd = 7 then 3 else if sameB kd n x y s n2 x2 y2 s2 then 1 else 2
set_option maxRecDepth 100000 in
set_option maxHeartbeats 1000000 in
theorem rsame_bad1 (kd kd2 : Int) (n n2 : Int) (x x2 y y2 : Nat) (s s2 : ByteArray) (rs rs2 : List Va) (a a2 : Option Addr) (cap cap2 : Nat) (F F2 : List Nat) (w : World) (hr : (Va.mk kd n x y s rs).tr.own 6 w [.int .u8 kd, .int .i64 n, .float .f64 x, .float .f64 y, .string s, .slice a rs.length cap] F) (hr2 : (Va.mk kd2 n2 x2 y2 s2 rs2).tr.own 6 w [.int .u8 kd2, .int .i64 n2, .float .f64 x2, .float .f64 y2, .string s2, .slice a2 rs2.length cap2] F2) (o1 : (Va.mk kd n x y s rs).okV = false) :
    Calls Try.prog 17 #[.agg [.int .u8 kd, .int .i64 n, .float .f64 x, .float .f64 y, .string s, .slice a rs.length cap].toArray, .agg [.int .u8 kd2, .int .i64 n2, .float .f64 x2, .float .f64 y2, .string s2, .slice a2 rs2.length cap2].toArray] w (PairIs 0 20 w) := by
  have HR : Hid (∀ W, Below w.heap.size w W → (Va.mk kd n x y s rs).tr.own 6 W [.int .u8 kd, .int .i64 n, .float .f64 x, .float .f64 y, .string s, .slice a rs.length cap] F) := fun W hW => Tr.own_below hr hW
  have HR2 : Hid (∀ W, Below w.heap.size w W → (Va.mk kd2 n2 x2 y2 s2 rs2).tr.own 6 W [.int .u8 kd2, .int .i64 n2, .float .f64 x2, .float .f64 y2, .string s2, .slice a2 rs2.length cap2] F2) := fun W hW => Tr.own_below hr2 hW
  have HB := Lib.hid (bb2 w (.cells [.int .u8 kd, .int .i64 n, .float .f64 x, .float .f64 y, .string s, .slice a rs.length cap].toArray 25) (.cells [.int .u8 kd2, .int .i64 n2, .float .f64 x2, .float .f64 y2, .string s2, .slice a2 rs2.length cap2].toArray 25))
  clear hr hr2
  have O1 := Lib.hid o1
  clear o1
  go_enter Try.func17, Try.ntmps17
  go_wp2_with (go_at_call 14; (with_reducible refine (rCheck_any (Va.mk kd n x y s rs) [.int .u8 kd, .int .i64 n, .float .f64 x, .float .f64 y, .string s, .slice a rs.length cap] F _ (HR.out _ HB.out)).mono ?_); rintro e w1 ⟨rfl, hb1⟩; rw [bad_ite O1.out]; have j1 := box_keep (two1 w _ _) hb1; have j2 := box_keep (two2 w _ _) hb1)
  refine bodyPost_ret (results_tmp2 rfl _ _ _) rfl ?_
  exact ⟨rfl, bthen HB.out hb1⟩
set_option maxRecDepth 100000 in
set_option maxHeartbeats 1000000 in
theorem rsame_bad2 (kd kd2 : Int) (n n2 : Int) (x x2 y y2 : Nat) (s s2 : ByteArray) (rs rs2 : List Va) (a a2 : Option Addr) (cap cap2 : Nat) (F F2 : List Nat) (w : World) (hr : (Va.mk kd n x y s rs).tr.own 6 w [.int .u8 kd, .int .i64 n, .float .f64 x, .float .f64 y, .string s, .slice a rs.length cap] F) (hr2 : (Va.mk kd2 n2 x2 y2 s2 rs2).tr.own 6 w [.int .u8 kd2, .int .i64 n2, .float .f64 x2, .float .f64 y2, .string s2, .slice a2 rs2.length cap2] F2) (o1 : (Va.mk kd n x y s rs).okV = true) (o2 : (Va.mk kd2 n2 x2 y2 s2 rs2).okV = false) :
    Calls Try.prog 17 #[.agg [.int .u8 kd, .int .i64 n, .float .f64 x, .float .f64 y, .string s, .slice a rs.length cap].toArray, .agg [.int .u8 kd2, .int .i64 n2, .float .f64 x2, .float .f64 y2, .string s2, .slice a2 rs2.length cap2].toArray] w (PairIs 0 20 w) := by
  have HR : Hid (∀ W, Below w.heap.size w W → (Va.mk kd n x y s rs).tr.own 6 W [.int .u8 kd, .int .i64 n, .float .f64 x, .float .f64 y, .string s, .slice a rs.length cap] F) := fun W hW => Tr.own_below hr hW
  have HR2 : Hid (∀ W, Below w.heap.size w W → (Va.mk kd2 n2 x2 y2 s2 rs2).tr.own 6 W [.int .u8 kd2, .int .i64 n2, .float .f64 x2, .float .f64 y2, .string s2, .slice a2 rs2.length cap2] F2) := fun W hW => Tr.own_below hr2 hW
  have HB := Lib.hid (bb2 w (.cells [.int .u8 kd, .int .i64 n, .float .f64 x, .float .f64 y, .string s, .slice a rs.length cap].toArray 25) (.cells [.int .u8 kd2, .int .i64 n2, .float .f64 x2, .float .f64 y2, .string s2, .slice a2 rs2.length cap2].toArray 25))
  clear hr hr2
  have O1 := Lib.hid o1
  have O2 := Lib.hid o2
  clear o1 o2
  go_enter Try.func17, Try.ntmps17
  go_wp2_with (first | (go_at_call 14; (with_reducible refine (rCheck_any (Va.mk kd n x y s rs) [.int .u8 kd, .int .i64 n, .float .f64 x, .float .f64 y, .string s, .slice a rs.length cap] F _ (HR.out _ HB.out)).mono ?_); rintro e w1 ⟨rfl, hb1⟩; rw [ok_ite O1.out]; have j1 := box_keep (two1 w _ _) hb1; have j2 := box_keep (two2 w _ _) hb1) | (go_at_call 14; (with_reducible refine (rCheck_any (Va.mk kd2 n2 x2 y2 s2 rs2) [.int .u8 kd2, .int .i64 n2, .float .f64 x2, .float .f64 y2, .string s2, .slice a2 rs2.length cap2] F2 _ (HR2.out _ (bthen HB.out hb1))).mono ?_); rintro e w2 ⟨rfl, hb2⟩; rw [bad_ite O2.out]; clear j1 j2; have j1 := box_keep2 (two1 w _ _) hb1 hb2; have j2 := box_keep2 (two2 w _ _) hb1 hb2))
  refine bodyPost_ret (results_tmp2 rfl _ _ _) rfl ?_
  exact ⟨rfl, bthen (bthen HB.out hb1) hb2⟩
set_option maxRecDepth 100000 in
set_option maxHeartbeats 1000000 in
theorem rsame_0 (n n2 : Int) (x x2 y y2 : Nat) (s s2 : ByteArray) (rs rs2 : List Va) (a a2 : Option Addr) (cap cap2 : Nat) (F F2 : List Nat) (w : World) (hr : (Va.mk 0 n x y s rs).tr.own 6 w [.int .u8 0, .int .i64 n, .float .f64 x, .float .f64 y, .string s, .slice a rs.length cap] F) (hr2 : (Va.mk 0 n2 x2 y2 s2 rs2).tr.own 6 w [.int .u8 0, .int .i64 n2, .float .f64 x2, .float .f64 y2, .string s2, .slice a2 rs2.length cap2] F2) (o1 : (Va.mk 0 n x y s rs).okV = true) (o2 : (Va.mk 0 n2 x2 y2 s2 rs2).okV = true) :
    Calls Try.prog 17 #[.agg [.int .u8 0, .int .i64 n, .float .f64 x, .float .f64 y, .string s, .slice a rs.length cap].toArray, .agg [.int .u8 0, .int .i64 n2, .float .f64 x2, .float .f64 y2, .string s2, .slice a2 rs2.length cap2].toArray] w (PairIs (sameV (Va.mk 0 n x y s rs) (Va.mk 0 n2 x2 y2 s2 rs2)) 0 w) := by
  have HR : Hid (∀ W, Below w.heap.size w W → (Va.mk 0 n x y s rs).tr.own 6 W [.int .u8 0, .int .i64 n, .float .f64 x, .float .f64 y, .string s, .slice a rs.length cap] F) := fun W hW => Tr.own_below hr hW
  have HR2 : Hid (∀ W, Below w.heap.size w W → (Va.mk 0 n2 x2 y2 s2 rs2).tr.own 6 W [.int .u8 0, .int .i64 n2, .float .f64 x2, .float .f64 y2, .string s2, .slice a2 rs2.length cap2] F2) := fun W hW => Tr.own_below hr2 hW
  have HB := Lib.hid (bb2 w (.cells [.int .u8 0, .int .i64 n, .float .f64 x, .float .f64 y, .string s, .slice a rs.length cap].toArray 25) (.cells [.int .u8 0, .int .i64 n2, .float .f64 x2, .float .f64 y2, .string s2, .slice a2 rs2.length cap2].toArray 25))
  clear hr hr2
  have O1 := Lib.hid o1
  have O2 := Lib.hid o2
  clear o1 o2
  go_enter Try.func17, Try.ntmps17
  go_wp2_with (first | (go_at_call 14; (with_reducible refine (rCheck_any (Va.mk 0 n x y s rs) [.int .u8 0, .int .i64 n, .float .f64 x, .float .f64 y, .string s, .slice a rs.length cap] F _ (HR.out _ HB.out)).mono ?_); rintro e w1 ⟨rfl, hb1⟩; rw [ok_ite O1.out]; have j1 := box_keep (two1 w _ _) hb1; have j2 := box_keep (two2 w _ _) hb1) | (go_at_call 14; (with_reducible refine (rCheck_any (Va.mk 0 n2 x2 y2 s2 rs2) [.int .u8 0, .int .i64 n2, .float .f64 x2, .float .f64 y2, .string s2, .slice a2 rs2.length cap2] F2 _ (HR2.out _ (bthen HB.out hb1))).mono ?_); rintro e w2 ⟨rfl, hb2⟩; rw [ok_ite O2.out]; clear j1 j2; have j1 := box_keep2 (two1 w _ _) hb1 hb2; have j2 := box_keep2 (two2 w _ _) hb1 hb2))
  all_goals
    refine bodyPost_ret (results_tmp2 rfl _ _ _) rfl ?_
    refine ⟨?_, bthen (bthen HB.out hb1) hb2⟩
    first | rfl | (unfold sameV sameB fo; simp [*])
set_option maxRecDepth 100000 in
set_option maxHeartbeats 1000000 in
theorem rsame_1 (n n2 : Int) (x x2 y y2 : Nat) (s s2 : ByteArray) (rs rs2 : List Va) (a a2 : Option Addr) (cap cap2 : Nat) (F F2 : List Nat) (w : World) (hr : (Va.mk 1 n x y s rs).tr.own 6 w [.int .u8 1, .int .i64 n, .float .f64 x, .float .f64 y, .string s, .slice a rs.length cap] F) (hr2 : (Va.mk 1 n2 x2 y2 s2 rs2).tr.own 6 w [.int .u8 1, .int .i64 n2, .float .f64 x2, .float .f64 y2, .string s2, .slice a2 rs2.length cap2] F2) (o1 : (Va.mk 1 n x y s rs).okV = true) (o2 : (Va.mk 1 n2 x2 y2 s2 rs2).okV = true) :
    Calls Try.prog 17 #[.agg [.int .u8 1, .int .i64 n, .float .f64 x, .float .f64 y, .string s, .slice a rs.length cap].toArray, .agg [.int .u8 1, .int .i64 n2, .float .f64 x2, .float .f64 y2, .string s2, .slice a2 rs2.length cap2].toArray] w (PairIs (sameV (Va.mk 1 n x y s rs) (Va.mk 1 n2 x2 y2 s2 rs2)) 0 w) := by
  have HR : Hid (∀ W, Below w.heap.size w W → (Va.mk 1 n x y s rs).tr.own 6 W [.int .u8 1, .int .i64 n, .float .f64 x, .float .f64 y, .string s, .slice a rs.length cap] F) := fun W hW => Tr.own_below hr hW
  have HR2 : Hid (∀ W, Below w.heap.size w W → (Va.mk 1 n2 x2 y2 s2 rs2).tr.own 6 W [.int .u8 1, .int .i64 n2, .float .f64 x2, .float .f64 y2, .string s2, .slice a2 rs2.length cap2] F2) := fun W hW => Tr.own_below hr2 hW
  have HB := Lib.hid (bb2 w (.cells [.int .u8 1, .int .i64 n, .float .f64 x, .float .f64 y, .string s, .slice a rs.length cap].toArray 25) (.cells [.int .u8 1, .int .i64 n2, .float .f64 x2, .float .f64 y2, .string s2, .slice a2 rs2.length cap2].toArray 25))
  clear hr hr2
  have O1 := Lib.hid o1
  have O2 := Lib.hid o2
  clear o1 o2
  cases he : (n == n2)
  all_goals
    go_enter Try.func17, Try.ntmps17
    go_wp2_with (first | (go_at_call 14; (with_reducible refine (rCheck_any (Va.mk 1 n x y s rs) [.int .u8 1, .int .i64 n, .float .f64 x, .float .f64 y, .string s, .slice a rs.length cap] F _ (HR.out _ HB.out)).mono ?_); rintro e w1 ⟨rfl, hb1⟩; rw [ok_ite O1.out]; have j1 := box_keep (two1 w _ _) hb1; have j2 := box_keep (two2 w _ _) hb1) | (go_at_call 14; (with_reducible refine (rCheck_any (Va.mk 1 n2 x2 y2 s2 rs2) [.int .u8 1, .int .i64 n2, .float .f64 x2, .float .f64 y2, .string s2, .slice a2 rs2.length cap2] F2 _ (HR2.out _ (bthen HB.out hb1))).mono ?_); rintro e w2 ⟨rfl, hb2⟩; rw [ok_ite O2.out]; clear j1 j2; have j1 := box_keep2 (two1 w _ _) hb1 hb2; have j2 := box_keep2 (two2 w _ _) hb1 hb2))
    all_goals
      refine bodyPost_ret (results_tmp2 rfl _ _ _) rfl ?_
      refine ⟨?_, bthen (bthen HB.out hb1) hb2⟩
      first | rfl | (unfold sameV sameB fo; simp [*])
set_option maxRecDepth 100000 in
set_option maxHeartbeats 1000000 in
theorem rsame_2 (n n2 : Int) (x x2 y y2 : Nat) (s s2 : ByteArray) (rs rs2 : List Va) (a a2 : Option Addr) (cap cap2 : Nat) (F F2 : List Nat) (w : World) (hr : (Va.mk 2 n x y s rs).tr.own 6 w [.int .u8 2, .int .i64 n, .float .f64 x, .float .f64 y, .string s, .slice a rs.length cap] F) (hr2 : (Va.mk 2 n2 x2 y2 s2 rs2).tr.own 6 w [.int .u8 2, .int .i64 n2, .float .f64 x2, .float .f64 y2, .string s2, .slice a2 rs2.length cap2] F2) (o1 : (Va.mk 2 n x y s rs).okV = true) (o2 : (Va.mk 2 n2 x2 y2 s2 rs2).okV = true) :
    Calls Try.prog 17 #[.agg [.int .u8 2, .int .i64 n, .float .f64 x, .float .f64 y, .string s, .slice a rs.length cap].toArray, .agg [.int .u8 2, .int .i64 n2, .float .f64 x2, .float .f64 y2, .string s2, .slice a2 rs2.length cap2].toArray] w (PairIs (sameV (Va.mk 2 n x y s rs) (Va.mk 2 n2 x2 y2 s2 rs2)) 0 w) := by
  have HR : Hid (∀ W, Below w.heap.size w W → (Va.mk 2 n x y s rs).tr.own 6 W [.int .u8 2, .int .i64 n, .float .f64 x, .float .f64 y, .string s, .slice a rs.length cap] F) := fun W hW => Tr.own_below hr hW
  have HR2 : Hid (∀ W, Below w.heap.size w W → (Va.mk 2 n2 x2 y2 s2 rs2).tr.own 6 W [.int .u8 2, .int .i64 n2, .float .f64 x2, .float .f64 y2, .string s2, .slice a2 rs2.length cap2] F2) := fun W hW => Tr.own_below hr2 hW
  have HB := Lib.hid (bb2 w (.cells [.int .u8 2, .int .i64 n, .float .f64 x, .float .f64 y, .string s, .slice a rs.length cap].toArray 25) (.cells [.int .u8 2, .int .i64 n2, .float .f64 x2, .float .f64 y2, .string s2, .slice a2 rs2.length cap2].toArray 25))
  clear hr hr2
  have O1 := Lib.hid o1
  have O2 := Lib.hid o2
  clear o1 o2
  cases he : (n == n2)
  all_goals
    go_enter Try.func17, Try.ntmps17
    go_wp2_with (first | (go_at_call 14; (with_reducible refine (rCheck_any (Va.mk 2 n x y s rs) [.int .u8 2, .int .i64 n, .float .f64 x, .float .f64 y, .string s, .slice a rs.length cap] F _ (HR.out _ HB.out)).mono ?_); rintro e w1 ⟨rfl, hb1⟩; rw [ok_ite O1.out]; have j1 := box_keep (two1 w _ _) hb1; have j2 := box_keep (two2 w _ _) hb1) | (go_at_call 14; (with_reducible refine (rCheck_any (Va.mk 2 n2 x2 y2 s2 rs2) [.int .u8 2, .int .i64 n2, .float .f64 x2, .float .f64 y2, .string s2, .slice a2 rs2.length cap2] F2 _ (HR2.out _ (bthen HB.out hb1))).mono ?_); rintro e w2 ⟨rfl, hb2⟩; rw [ok_ite O2.out]; clear j1 j2; have j1 := box_keep2 (two1 w _ _) hb1 hb2; have j2 := box_keep2 (two2 w _ _) hb1 hb2))
    all_goals
      refine bodyPost_ret (results_tmp2 rfl _ _ _) rfl ?_
      refine ⟨?_, bthen (bthen HB.out hb1) hb2⟩
      first | rfl | (unfold sameV sameB fo; simp [*])
set_option maxRecDepth 100000 in
set_option maxHeartbeats 1000000 in
theorem rsame_3 (n n2 : Int) (x x2 y y2 : Nat) (s s2 : ByteArray) (rs rs2 : List Va) (a a2 : Option Addr) (cap cap2 : Nat) (F F2 : List Nat) (w : World) (hr : (Va.mk 3 n x y s rs).tr.own 6 w [.int .u8 3, .int .i64 n, .float .f64 x, .float .f64 y, .string s, .slice a rs.length cap] F) (hr2 : (Va.mk 3 n2 x2 y2 s2 rs2).tr.own 6 w [.int .u8 3, .int .i64 n2, .float .f64 x2, .float .f64 y2, .string s2, .slice a2 rs2.length cap2] F2) (o1 : (Va.mk 3 n x y s rs).okV = true) (o2 : (Va.mk 3 n2 x2 y2 s2 rs2).okV = true) :
    Calls Try.prog 17 #[.agg [.int .u8 3, .int .i64 n, .float .f64 x, .float .f64 y, .string s, .slice a rs.length cap].toArray, .agg [.int .u8 3, .int .i64 n2, .float .f64 x2, .float .f64 y2, .string s2, .slice a2 rs2.length cap2].toArray] w (PairIs (sameV (Va.mk 3 n x y s rs) (Va.mk 3 n2 x2 y2 s2 rs2)) 0 w) := by
  have HR : Hid (∀ W, Below w.heap.size w W → (Va.mk 3 n x y s rs).tr.own 6 W [.int .u8 3, .int .i64 n, .float .f64 x, .float .f64 y, .string s, .slice a rs.length cap] F) := fun W hW => Tr.own_below hr hW
  have HR2 : Hid (∀ W, Below w.heap.size w W → (Va.mk 3 n2 x2 y2 s2 rs2).tr.own 6 W [.int .u8 3, .int .i64 n2, .float .f64 x2, .float .f64 y2, .string s2, .slice a2 rs2.length cap2] F2) := fun W hW => Tr.own_below hr2 hW
  have HB := Lib.hid (bb2 w (.cells [.int .u8 3, .int .i64 n, .float .f64 x, .float .f64 y, .string s, .slice a rs.length cap].toArray 25) (.cells [.int .u8 3, .int .i64 n2, .float .f64 x2, .float .f64 y2, .string s2, .slice a2 rs2.length cap2].toArray 25))
  clear hr hr2
  have O1 := Lib.hid o1
  have O2 := Lib.hid o2
  clear o1 o2
  cases he : (FloatKind.f64.format.order x x2 == some .eq)
  all_goals
    go_enter Try.func17, Try.ntmps17
    go_wp2_with (first | (go_at_call 14; (with_reducible refine (rCheck_any (Va.mk 3 n x y s rs) [.int .u8 3, .int .i64 n, .float .f64 x, .float .f64 y, .string s, .slice a rs.length cap] F _ (HR.out _ HB.out)).mono ?_); rintro e w1 ⟨rfl, hb1⟩; rw [ok_ite O1.out]; have j1 := box_keep (two1 w _ _) hb1; have j2 := box_keep (two2 w _ _) hb1) | (go_at_call 14; (with_reducible refine (rCheck_any (Va.mk 3 n2 x2 y2 s2 rs2) [.int .u8 3, .int .i64 n2, .float .f64 x2, .float .f64 y2, .string s2, .slice a2 rs2.length cap2] F2 _ (HR2.out _ (bthen HB.out hb1))).mono ?_); rintro e w2 ⟨rfl, hb2⟩; rw [ok_ite O2.out]; clear j1 j2; have j1 := box_keep2 (two1 w _ _) hb1 hb2; have j2 := box_keep2 (two2 w _ _) hb1 hb2))
    all_goals
      refine bodyPost_ret (results_tmp2 rfl _ _ _) rfl ?_
      refine ⟨?_, bthen (bthen HB.out hb1) hb2⟩
      first | rfl | (unfold sameV sameB fo; simp [*])
set_option maxRecDepth 100000 in
set_option maxHeartbeats 1000000 in
theorem rsame_4 (n n2 : Int) (x x2 y y2 : Nat) (s s2 : ByteArray) (rs rs2 : List Va) (a a2 : Option Addr) (cap cap2 : Nat) (F F2 : List Nat) (w : World) (hr : (Va.mk 4 n x y s rs).tr.own 6 w [.int .u8 4, .int .i64 n, .float .f64 x, .float .f64 y, .string s, .slice a rs.length cap] F) (hr2 : (Va.mk 4 n2 x2 y2 s2 rs2).tr.own 6 w [.int .u8 4, .int .i64 n2, .float .f64 x2, .float .f64 y2, .string s2, .slice a2 rs2.length cap2] F2) (o1 : (Va.mk 4 n x y s rs).okV = true) (o2 : (Va.mk 4 n2 x2 y2 s2 rs2).okV = true) :
    Calls Try.prog 17 #[.agg [.int .u8 4, .int .i64 n, .float .f64 x, .float .f64 y, .string s, .slice a rs.length cap].toArray, .agg [.int .u8 4, .int .i64 n2, .float .f64 x2, .float .f64 y2, .string s2, .slice a2 rs2.length cap2].toArray] w (PairIs (sameV (Va.mk 4 n x y s rs) (Va.mk 4 n2 x2 y2 s2 rs2)) 0 w) := by
  have HR : Hid (∀ W, Below w.heap.size w W → (Va.mk 4 n x y s rs).tr.own 6 W [.int .u8 4, .int .i64 n, .float .f64 x, .float .f64 y, .string s, .slice a rs.length cap] F) := fun W hW => Tr.own_below hr hW
  have HR2 : Hid (∀ W, Below w.heap.size w W → (Va.mk 4 n2 x2 y2 s2 rs2).tr.own 6 W [.int .u8 4, .int .i64 n2, .float .f64 x2, .float .f64 y2, .string s2, .slice a2 rs2.length cap2] F2) := fun W hW => Tr.own_below hr2 hW
  have HB := Lib.hid (bb2 w (.cells [.int .u8 4, .int .i64 n, .float .f64 x, .float .f64 y, .string s, .slice a rs.length cap].toArray 25) (.cells [.int .u8 4, .int .i64 n2, .float .f64 x2, .float .f64 y2, .string s2, .slice a2 rs2.length cap2].toArray 25))
  clear hr hr2
  have O1 := Lib.hid o1
  have O2 := Lib.hid o2
  clear o1 o2
  cases he : (FloatKind.f64.format.order x x2 == some .eq)
  all_goals
    cases he2 : (FloatKind.f64.format.order y y2 == some .eq)
    all_goals
      go_enter Try.func17, Try.ntmps17
      go_wp2_with (first | (go_at_call 14; (with_reducible refine (rCheck_any (Va.mk 4 n x y s rs) [.int .u8 4, .int .i64 n, .float .f64 x, .float .f64 y, .string s, .slice a rs.length cap] F _ (HR.out _ HB.out)).mono ?_); rintro e w1 ⟨rfl, hb1⟩; rw [ok_ite O1.out]; have j1 := box_keep (two1 w _ _) hb1; have j2 := box_keep (two2 w _ _) hb1) | (go_at_call 14; (with_reducible refine (rCheck_any (Va.mk 4 n2 x2 y2 s2 rs2) [.int .u8 4, .int .i64 n2, .float .f64 x2, .float .f64 y2, .string s2, .slice a2 rs2.length cap2] F2 _ (HR2.out _ (bthen HB.out hb1))).mono ?_); rintro e w2 ⟨rfl, hb2⟩; rw [ok_ite O2.out]; clear j1 j2; have j1 := box_keep2 (two1 w _ _) hb1 hb2; have j2 := box_keep2 (two2 w _ _) hb1 hb2))
      all_goals
        refine bodyPost_ret (results_tmp2 rfl _ _ _) rfl ?_
        refine ⟨?_, bthen (bthen HB.out hb1) hb2⟩
        first | rfl | (unfold sameV sameB fo; simp [*])
set_option maxRecDepth 100000 in
set_option maxHeartbeats 1000000 in
theorem rsame_5 (n n2 : Int) (x x2 y y2 : Nat) (s s2 : ByteArray) (rs rs2 : List Va) (a a2 : Option Addr) (cap cap2 : Nat) (F F2 : List Nat) (w : World) (hr : (Va.mk 5 n x y s rs).tr.own 6 w [.int .u8 5, .int .i64 n, .float .f64 x, .float .f64 y, .string s, .slice a rs.length cap] F) (hr2 : (Va.mk 5 n2 x2 y2 s2 rs2).tr.own 6 w [.int .u8 5, .int .i64 n2, .float .f64 x2, .float .f64 y2, .string s2, .slice a2 rs2.length cap2] F2) (o1 : (Va.mk 5 n x y s rs).okV = true) (o2 : (Va.mk 5 n2 x2 y2 s2 rs2).okV = true) :
    Calls Try.prog 17 #[.agg [.int .u8 5, .int .i64 n, .float .f64 x, .float .f64 y, .string s, .slice a rs.length cap].toArray, .agg [.int .u8 5, .int .i64 n2, .float .f64 x2, .float .f64 y2, .string s2, .slice a2 rs2.length cap2].toArray] w (PairIs (sameV (Va.mk 5 n x y s rs) (Va.mk 5 n2 x2 y2 s2 rs2)) 0 w) := by
  have HR : Hid (∀ W, Below w.heap.size w W → (Va.mk 5 n x y s rs).tr.own 6 W [.int .u8 5, .int .i64 n, .float .f64 x, .float .f64 y, .string s, .slice a rs.length cap] F) := fun W hW => Tr.own_below hr hW
  have HR2 : Hid (∀ W, Below w.heap.size w W → (Va.mk 5 n2 x2 y2 s2 rs2).tr.own 6 W [.int .u8 5, .int .i64 n2, .float .f64 x2, .float .f64 y2, .string s2, .slice a2 rs2.length cap2] F2) := fun W hW => Tr.own_below hr2 hW
  have HB := Lib.hid (bb2 w (.cells [.int .u8 5, .int .i64 n, .float .f64 x, .float .f64 y, .string s, .slice a rs.length cap].toArray 25) (.cells [.int .u8 5, .int .i64 n2, .float .f64 x2, .float .f64 y2, .string s2, .slice a2 rs2.length cap2].toArray 25))
  clear hr hr2
  have O1 := Lib.hid o1
  have O2 := Lib.hid o2
  clear o1 o2
  cases he : (s.toList == s2.toList)
  all_goals
    go_enter Try.func17, Try.ntmps17
    go_wp2_with (first | (go_at_call 14; (with_reducible refine (rCheck_any (Va.mk 5 n x y s rs) [.int .u8 5, .int .i64 n, .float .f64 x, .float .f64 y, .string s, .slice a rs.length cap] F _ (HR.out _ HB.out)).mono ?_); rintro e w1 ⟨rfl, hb1⟩; rw [ok_ite O1.out]; have j1 := box_keep (two1 w _ _) hb1; have j2 := box_keep (two2 w _ _) hb1) | (go_at_call 14; (with_reducible refine (rCheck_any (Va.mk 5 n2 x2 y2 s2 rs2) [.int .u8 5, .int .i64 n2, .float .f64 x2, .float .f64 y2, .string s2, .slice a2 rs2.length cap2] F2 _ (HR2.out _ (bthen HB.out hb1))).mono ?_); rintro e w2 ⟨rfl, hb2⟩; rw [ok_ite O2.out]; clear j1 j2; have j1 := box_keep2 (two1 w _ _) hb1 hb2; have j2 := box_keep2 (two2 w _ _) hb1 hb2))
    all_goals
      refine bodyPost_ret (results_tmp2 rfl _ _ _) rfl ?_
      refine ⟨?_, bthen (bthen HB.out hb1) hb2⟩
      first | rfl | (unfold sameV sameB fo; simp [*])
set_option maxRecDepth 100000 in
set_option maxHeartbeats 1000000 in
theorem rsame_6 (n n2 : Int) (x x2 y y2 : Nat) (s s2 : ByteArray) (rs rs2 : List Va) (a a2 : Option Addr) (cap cap2 : Nat) (F F2 : List Nat) (w : World) (hr : (Va.mk 6 n x y s rs).tr.own 6 w [.int .u8 6, .int .i64 n, .float .f64 x, .float .f64 y, .string s, .slice a rs.length cap] F) (hr2 : (Va.mk 6 n2 x2 y2 s2 rs2).tr.own 6 w [.int .u8 6, .int .i64 n2, .float .f64 x2, .float .f64 y2, .string s2, .slice a2 rs2.length cap2] F2) (o1 : (Va.mk 6 n x y s rs).okV = true) (o2 : (Va.mk 6 n2 x2 y2 s2 rs2).okV = true) :
    Calls Try.prog 17 #[.agg [.int .u8 6, .int .i64 n, .float .f64 x, .float .f64 y, .string s, .slice a rs.length cap].toArray, .agg [.int .u8 6, .int .i64 n2, .float .f64 x2, .float .f64 y2, .string s2, .slice a2 rs2.length cap2].toArray] w (PairIs (sameV (Va.mk 6 n x y s rs) (Va.mk 6 n2 x2 y2 s2 rs2)) 0 w) := by
  have HR : Hid (∀ W, Below w.heap.size w W → (Va.mk 6 n x y s rs).tr.own 6 W [.int .u8 6, .int .i64 n, .float .f64 x, .float .f64 y, .string s, .slice a rs.length cap] F) := fun W hW => Tr.own_below hr hW
  have HR2 : Hid (∀ W, Below w.heap.size w W → (Va.mk 6 n2 x2 y2 s2 rs2).tr.own 6 W [.int .u8 6, .int .i64 n2, .float .f64 x2, .float .f64 y2, .string s2, .slice a2 rs2.length cap2] F2) := fun W hW => Tr.own_below hr2 hW
  have HB := Lib.hid (bb2 w (.cells [.int .u8 6, .int .i64 n, .float .f64 x, .float .f64 y, .string s, .slice a rs.length cap].toArray 25) (.cells [.int .u8 6, .int .i64 n2, .float .f64 x2, .float .f64 y2, .string s2, .slice a2 rs2.length cap2].toArray 25))
  clear hr hr2
  have O1 := Lib.hid o1
  have O2 := Lib.hid o2
  clear o1 o2
  go_enter Try.func17, Try.ntmps17
  go_wp2_with (first | (go_at_call 14; (with_reducible refine (rCheck_any (Va.mk 6 n x y s rs) [.int .u8 6, .int .i64 n, .float .f64 x, .float .f64 y, .string s, .slice a rs.length cap] F _ (HR.out _ HB.out)).mono ?_); rintro e w1 ⟨rfl, hb1⟩; rw [ok_ite O1.out]; have j1 := box_keep (two1 w _ _) hb1; have j2 := box_keep (two2 w _ _) hb1) | (go_at_call 14; (with_reducible refine (rCheck_any (Va.mk 6 n2 x2 y2 s2 rs2) [.int .u8 6, .int .i64 n2, .float .f64 x2, .float .f64 y2, .string s2, .slice a2 rs2.length cap2] F2 _ (HR2.out _ (bthen HB.out hb1))).mono ?_); rintro e w2 ⟨rfl, hb2⟩; rw [ok_ite O2.out]; clear j1 j2; have j1 := box_keep2 (two1 w _ _) hb1 hb2; have j2 := box_keep2 (two2 w _ _) hb1 hb2))
  all_goals
    refine bodyPost_ret (results_tmp2 rfl _ _ _) rfl ?_
    refine ⟨?_, bthen (bthen HB.out hb1) hb2⟩
    first | rfl | (unfold sameV sameB fo; simp [*])
set_option maxRecDepth 100000 in
set_option maxHeartbeats 1000000 in
theorem rsame_7 (n n2 : Int) (x x2 y y2 : Nat) (s s2 : ByteArray) (rs rs2 : List Va) (a a2 : Option Addr) (cap cap2 : Nat) (F F2 : List Nat) (w : World) (hr : (Va.mk 7 n x y s rs).tr.own 6 w [.int .u8 7, .int .i64 n, .float .f64 x, .float .f64 y, .string s, .slice a rs.length cap] F) (hr2 : (Va.mk 7 n2 x2 y2 s2 rs2).tr.own 6 w [.int .u8 7, .int .i64 n2, .float .f64 x2, .float .f64 y2, .string s2, .slice a2 rs2.length cap2] F2) (o1 : (Va.mk 7 n x y s rs).okV = true) (o2 : (Va.mk 7 n2 x2 y2 s2 rs2).okV = true) :
    Calls Try.prog 17 #[.agg [.int .u8 7, .int .i64 n, .float .f64 x, .float .f64 y, .string s, .slice a rs.length cap].toArray, .agg [.int .u8 7, .int .i64 n2, .float .f64 x2, .float .f64 y2, .string s2, .slice a2 rs2.length cap2].toArray] w (PairIs (sameV (Va.mk 7 n x y s rs) (Va.mk 7 n2 x2 y2 s2 rs2)) 0 w) := by
  have HR : Hid (∀ W, Below w.heap.size w W → (Va.mk 7 n x y s rs).tr.own 6 W [.int .u8 7, .int .i64 n, .float .f64 x, .float .f64 y, .string s, .slice a rs.length cap] F) := fun W hW => Tr.own_below hr hW
  have HR2 : Hid (∀ W, Below w.heap.size w W → (Va.mk 7 n2 x2 y2 s2 rs2).tr.own 6 W [.int .u8 7, .int .i64 n2, .float .f64 x2, .float .f64 y2, .string s2, .slice a2 rs2.length cap2] F2) := fun W hW => Tr.own_below hr2 hW
  have HB := Lib.hid (bb2 w (.cells [.int .u8 7, .int .i64 n, .float .f64 x, .float .f64 y, .string s, .slice a rs.length cap].toArray 25) (.cells [.int .u8 7, .int .i64 n2, .float .f64 x2, .float .f64 y2, .string s2, .slice a2 rs2.length cap2].toArray 25))
  clear hr hr2
  have O1 := Lib.hid o1
  have O2 := Lib.hid o2
  clear o1 o2
  go_enter Try.func17, Try.ntmps17
  go_wp2_with (first | (go_at_call 14; (with_reducible refine (rCheck_any (Va.mk 7 n x y s rs) [.int .u8 7, .int .i64 n, .float .f64 x, .float .f64 y, .string s, .slice a rs.length cap] F _ (HR.out _ HB.out)).mono ?_); rintro e w1 ⟨rfl, hb1⟩; rw [ok_ite O1.out]; have j1 := box_keep (two1 w _ _) hb1; have j2 := box_keep (two2 w _ _) hb1) | (go_at_call 14; (with_reducible refine (rCheck_any (Va.mk 7 n2 x2 y2 s2 rs2) [.int .u8 7, .int .i64 n2, .float .f64 x2, .float .f64 y2, .string s2, .slice a2 rs2.length cap2] F2 _ (HR2.out _ (bthen HB.out hb1))).mono ?_); rintro e w2 ⟨rfl, hb2⟩; rw [ok_ite O2.out]; clear j1 j2; have j1 := box_keep2 (two1 w _ _) hb1 hb2; have j2 := box_keep2 (two2 w _ _) hb1 hb2))
  all_goals
    refine bodyPost_ret (results_tmp2 rfl _ _ _) rfl ?_
    refine ⟨?_, bthen (bthen HB.out hb1) hb2⟩
    first | rfl | (unfold sameV sameB fo; simp [*])
set_option maxRecDepth 100000 in
set_option maxHeartbeats 1000000 in
theorem rsame_ne (kd kd2 : Int) (n n2 : Int) (x x2 y y2 : Nat) (s s2 : ByteArray) (rs rs2 : List Va) (a a2 : Option Addr) (cap cap2 : Nat) (F F2 : List Nat) (w : World) (hr : (Va.mk kd n x y s rs).tr.own 6 w [.int .u8 kd, .int .i64 n, .float .f64 x, .float .f64 y, .string s, .slice a rs.length cap] F) (hr2 : (Va.mk kd2 n2 x2 y2 s2 rs2).tr.own 6 w [.int .u8 kd2, .int .i64 n2, .float .f64 x2, .float .f64 y2, .string s2, .slice a2 rs2.length cap2] F2) (o1 : (Va.mk kd n x y s rs).okV = true) (o2 : (Va.mk kd2 n2 x2 y2 s2 rs2).okV = true) (hne : (kd != kd2) = true) :
    Calls Try.prog 17 #[.agg [.int .u8 kd, .int .i64 n, .float .f64 x, .float .f64 y, .string s, .slice a rs.length cap].toArray, .agg [.int .u8 kd2, .int .i64 n2, .float .f64 x2, .float .f64 y2, .string s2, .slice a2 rs2.length cap2].toArray] w (PairIs 2 0 w) := by
  have HR : Hid (∀ W, Below w.heap.size w W → (Va.mk kd n x y s rs).tr.own 6 W [.int .u8 kd, .int .i64 n, .float .f64 x, .float .f64 y, .string s, .slice a rs.length cap] F) := fun W hW => Tr.own_below hr hW
  have HR2 : Hid (∀ W, Below w.heap.size w W → (Va.mk kd2 n2 x2 y2 s2 rs2).tr.own 6 W [.int .u8 kd2, .int .i64 n2, .float .f64 x2, .float .f64 y2, .string s2, .slice a2 rs2.length cap2] F2) := fun W hW => Tr.own_below hr2 hW
  have HB := Lib.hid (bb2 w (.cells [.int .u8 kd, .int .i64 n, .float .f64 x, .float .f64 y, .string s, .slice a rs.length cap].toArray 25) (.cells [.int .u8 kd2, .int .i64 n2, .float .f64 x2, .float .f64 y2, .string s2, .slice a2 rs2.length cap2].toArray 25))
  clear hr hr2
  have O1 := Lib.hid o1
  have O2 := Lib.hid o2
  clear o1 o2
  go_enter Try.func17, Try.ntmps17
  go_wp2_with (first | (go_at_call 14; (with_reducible refine (rCheck_any (Va.mk kd n x y s rs) [.int .u8 kd, .int .i64 n, .float .f64 x, .float .f64 y, .string s, .slice a rs.length cap] F _ (HR.out _ HB.out)).mono ?_); rintro e w1 ⟨rfl, hb1⟩; rw [ok_ite O1.out]; have j1 := box_keep (two1 w _ _) hb1; have j2 := box_keep (two2 w _ _) hb1) | (go_at_call 14; (with_reducible refine (rCheck_any (Va.mk kd2 n2 x2 y2 s2 rs2) [.int .u8 kd2, .int .i64 n2, .float .f64 x2, .float .f64 y2, .string s2, .slice a2 rs2.length cap2] F2 _ (HR2.out _ (bthen HB.out hb1))).mono ?_); rintro e w2 ⟨rfl, hb2⟩; rw [ok_ite O2.out]; clear j1 j2; have j1 := box_keep2 (two1 w _ _) hb1 hb2; have j2 := box_keep2 (two2 w _ _) hb1 hb2))
  refine bodyPost_ret (results_tmp2 rfl _ _ _) rfl ?_
  exact ⟨rfl, bthen (bthen HB.out hb1) hb2⟩
set_option maxRecDepth 100000 in
set_option maxHeartbeats 1000000 in
theorem rcomp_bad1 (kd kd2 : Int) (n n2 : Int) (x x2 y y2 : Nat) (s s2 : ByteArray) (rs rs2 : List Va) (a a2 : Option Addr) (cap cap2 : Nat) (F F2 : List Nat) (w : World) (hr : (Va.mk kd n x y s rs).tr.own 6 w [.int .u8 kd, .int .i64 n, .float .f64 x, .float .f64 y, .string s, .slice a rs.length cap] F) (hr2 : (Va.mk kd2 n2 x2 y2 s2 rs2).tr.own 6 w [.int .u8 kd2, .int .i64 n2, .float .f64 x2, .float .f64 y2, .string s2, .slice a2 rs2.length cap2] F2) (o1 : (Va.mk kd n x y s rs).okV = false) :
    Calls Try.prog 19 #[.agg [.int .u8 kd, .int .i64 n, .float .f64 x, .float .f64 y, .string s, .slice a rs.length cap].toArray, .agg [.int .u8 kd2, .int .i64 n2, .float .f64 x2, .float .f64 y2, .string s2, .slice a2 rs2.length cap2].toArray] w (Pair8Is 0 20 w) := by
  have HR : Hid (∀ W, Below w.heap.size w W → (Va.mk kd n x y s rs).tr.own 6 W [.int .u8 kd, .int .i64 n, .float .f64 x, .float .f64 y, .string s, .slice a rs.length cap] F) := fun W hW => Tr.own_below hr hW
  have HR2 : Hid (∀ W, Below w.heap.size w W → (Va.mk kd2 n2 x2 y2 s2 rs2).tr.own 6 W [.int .u8 kd2, .int .i64 n2, .float .f64 x2, .float .f64 y2, .string s2, .slice a2 rs2.length cap2] F2) := fun W hW => Tr.own_below hr2 hW
  have HB := Lib.hid (bb2 w (.cells [.int .u8 kd, .int .i64 n, .float .f64 x, .float .f64 y, .string s, .slice a rs.length cap].toArray 25) (.cells [.int .u8 kd2, .int .i64 n2, .float .f64 x2, .float .f64 y2, .string s2, .slice a2 rs2.length cap2].toArray 25))
  clear hr hr2
  have O1 := Lib.hid o1
  clear o1
  go_enter Try.func19, Try.ntmps19
  go_wp2_with (go_at_call 14; (with_reducible refine (rCheck_any (Va.mk kd n x y s rs) [.int .u8 kd, .int .i64 n, .float .f64 x, .float .f64 y, .string s, .slice a rs.length cap] F _ (HR.out _ HB.out)).mono ?_); rintro e w1 ⟨rfl, hb1⟩; rw [bad_ite O1.out]; have j1 := box_keep (two1 w _ _) hb1; have j2 := box_keep (two2 w _ _) hb1)
  refine bodyPost_ret (results_tmp2 rfl _ _ _) rfl ?_
  exact ⟨rfl, bthen HB.out hb1⟩
set_option maxRecDepth 100000 in
set_option maxHeartbeats 1000000 in
theorem rcomp_bad2 (kd kd2 : Int) (n n2 : Int) (x x2 y y2 : Nat) (s s2 : ByteArray) (rs rs2 : List Va) (a a2 : Option Addr) (cap cap2 : Nat) (F F2 : List Nat) (w : World) (hr : (Va.mk kd n x y s rs).tr.own 6 w [.int .u8 kd, .int .i64 n, .float .f64 x, .float .f64 y, .string s, .slice a rs.length cap] F) (hr2 : (Va.mk kd2 n2 x2 y2 s2 rs2).tr.own 6 w [.int .u8 kd2, .int .i64 n2, .float .f64 x2, .float .f64 y2, .string s2, .slice a2 rs2.length cap2] F2) (o1 : (Va.mk kd n x y s rs).okV = true) (o2 : (Va.mk kd2 n2 x2 y2 s2 rs2).okV = false) :
    Calls Try.prog 19 #[.agg [.int .u8 kd, .int .i64 n, .float .f64 x, .float .f64 y, .string s, .slice a rs.length cap].toArray, .agg [.int .u8 kd2, .int .i64 n2, .float .f64 x2, .float .f64 y2, .string s2, .slice a2 rs2.length cap2].toArray] w (Pair8Is 0 20 w) := by
  have HR : Hid (∀ W, Below w.heap.size w W → (Va.mk kd n x y s rs).tr.own 6 W [.int .u8 kd, .int .i64 n, .float .f64 x, .float .f64 y, .string s, .slice a rs.length cap] F) := fun W hW => Tr.own_below hr hW
  have HR2 : Hid (∀ W, Below w.heap.size w W → (Va.mk kd2 n2 x2 y2 s2 rs2).tr.own 6 W [.int .u8 kd2, .int .i64 n2, .float .f64 x2, .float .f64 y2, .string s2, .slice a2 rs2.length cap2] F2) := fun W hW => Tr.own_below hr2 hW
  have HB := Lib.hid (bb2 w (.cells [.int .u8 kd, .int .i64 n, .float .f64 x, .float .f64 y, .string s, .slice a rs.length cap].toArray 25) (.cells [.int .u8 kd2, .int .i64 n2, .float .f64 x2, .float .f64 y2, .string s2, .slice a2 rs2.length cap2].toArray 25))
  clear hr hr2
  have O1 := Lib.hid o1
  have O2 := Lib.hid o2
  clear o1 o2
  go_enter Try.func19, Try.ntmps19
  go_wp2_with (first | (go_at_call 14; (with_reducible refine (rCheck_any (Va.mk kd n x y s rs) [.int .u8 kd, .int .i64 n, .float .f64 x, .float .f64 y, .string s, .slice a rs.length cap] F _ (HR.out _ HB.out)).mono ?_); rintro e w1 ⟨rfl, hb1⟩; rw [ok_ite O1.out]; have j1 := box_keep (two1 w _ _) hb1; have j2 := box_keep (two2 w _ _) hb1) | (go_at_call 14; (with_reducible refine (rCheck_any (Va.mk kd2 n2 x2 y2 s2 rs2) [.int .u8 kd2, .int .i64 n2, .float .f64 x2, .float .f64 y2, .string s2, .slice a2 rs2.length cap2] F2 _ (HR2.out _ (bthen HB.out hb1))).mono ?_); rintro e w2 ⟨rfl, hb2⟩; rw [bad_ite O2.out]; clear j1 j2; have j1 := box_keep2 (two1 w _ _) hb1 hb2; have j2 := box_keep2 (two2 w _ _) hb1 hb2))
  refine bodyPost_ret (results_tmp2 rfl _ _ _) rfl ?_
  exact ⟨rfl, bthen (bthen HB.out hb1) hb2⟩
set_option maxRecDepth 100000 in
set_option maxHeartbeats 1000000 in
theorem rcomp_ok (kd kd2 : Int) (n n2 : Int) (x x2 y y2 : Nat) (s s2 : ByteArray) (rs rs2 : List Va) (a a2 : Option Addr) (cap cap2 : Nat) (F F2 : List Nat) (w : World) (hr : (Va.mk kd n x y s rs).tr.own 6 w [.int .u8 kd, .int .i64 n, .float .f64 x, .float .f64 y, .string s, .slice a rs.length cap] F) (hr2 : (Va.mk kd2 n2 x2 y2 s2 rs2).tr.own 6 w [.int .u8 kd2, .int .i64 n2, .float .f64 x2, .float .f64 y2, .string s2, .slice a2 rs2.length cap2] F2) (o1 : (Va.mk kd n x y s rs).okV = true) (o2 : (Va.mk kd2 n2 x2 y2 s2 rs2).okV = true) (h1 : (Va.mk kd n x y s rs).wf) (h2 : (Va.mk kd2 n2 x2 y2 s2 rs2).wf) :
    Calls Try.prog 19 #[.agg [.int .u8 kd, .int .i64 n, .float .f64 x, .float .f64 y, .string s, .slice a rs.length cap].toArray, .agg [.int .u8 kd2, .int .i64 n2, .float .f64 x2, .float .f64 y2, .string s2, .slice a2 rs2.length cap2].toArray] w (Pair8Is (ordV (Va.mk kd n x y s rs) (Va.mk kd2 n2 x2 y2 s2 rs2)) 0 w) := by
  have HR : Hid (∀ W, Below w.heap.size w W → (Va.mk kd n x y s rs).tr.own 6 W [.int .u8 kd, .int .i64 n, .float .f64 x, .float .f64 y, .string s, .slice a rs.length cap] F) := fun W hW => Tr.own_below hr hW
  have HR2 : Hid (∀ W, Below w.heap.size w W → (Va.mk kd2 n2 x2 y2 s2 rs2).tr.own 6 W [.int .u8 kd2, .int .i64 n2, .float .f64 x2, .float .f64 y2, .string s2, .slice a2 rs2.length cap2] F2) := fun W hW => Tr.own_below hr2 hW
  have HB := Lib.hid (bb2 w (.cells [.int .u8 kd, .int .i64 n, .float .f64 x, .float .f64 y, .string s, .slice a rs.length cap].toArray 25) (.cells [.int .u8 kd2, .int .i64 n2, .float .f64 x2, .float .f64 y2, .string s2, .slice a2 rs2.length cap2].toArray 25))
  clear hr hr2
  have O1 := Lib.hid o1
  have O2 := Lib.hid o2
  have W1 := Lib.hid h1
  have W2 := Lib.hid h2
  clear o1 o2 h1 h2
  go_enter Try.func19, Try.ntmps19
  go_wp2_with (first | (go_at_call 14; (with_reducible refine (rCheck_any (Va.mk kd n x y s rs) [.int .u8 kd, .int .i64 n, .float .f64 x, .float .f64 y, .string s, .slice a rs.length cap] F _ (HR.out _ HB.out)).mono ?_); rintro e w1 ⟨rfl, hb1⟩; rw [ok_ite O1.out]; have j1 := box_keep (two1 w _ _) hb1; have j2 := box_keep (two2 w _ _) hb1) | (go_at_call 14; (with_reducible refine (rCheck_any (Va.mk kd2 n2 x2 y2 s2 rs2) [.int .u8 kd2, .int .i64 n2, .float .f64 x2, .float .f64 y2, .string s2, .slice a2 rs2.length cap2] F2 _ (HR2.out _ (bthen HB.out hb1))).mono ?_); rintro e w2 ⟨rfl, hb2⟩; rw [ok_ite O2.out]; clear j1 j2; have j1 := box_keep2 (two1 w _ _) hb1 hb2; have j2 := box_keep2 (two2 w _ _) hb1 hb2) | (go_at_call 33; refine (rorder_N _ (Va.mk kd n x y s rs) (Va.mk kd2 n2 x2 y2 s2 rs2) (Nat.le_refl _) W1.out W2.out [.int .u8 kd, .int .i64 n, .float .f64 x, .float .f64 y, .string s, .slice a rs.length cap] [.int .u8 kd2, .int .i64 n2, .float .f64 x2, .float .f64 y2, .string s2, .slice a2 rs2.length cap2] F F2 _ (HR.out _ (bthen (bthen HB.out hb1) hb2)) (HR2.out _ (bthen (bthen HB.out hb1) hb2))).mono ?_; rintro e w3 ⟨rfl, hb3⟩))
  refine bodyPost_ret (results_tmp2 rfl _ _ _) rfl ?_
  exact ⟨rfl, bthen (bthen (bthen HB.out hb1) hb2) hb3⟩
theorem rSame_any (r r2 : Va) (c c2 : List Value) (F F2 : List Nat) (w : World) (hr : r.tr.own 6 w c F) (hr2 : r2.tr.own 6 w c2 F2) :
    Calls Try.prog 17 #[.agg c.toArray, .agg c2.toArray] w (PairIs (if r.okV && r2.okV then sameV r r2 else 0) (if r.okV && r2.okV then 0 else 20) w) := by
  obtain ⟨kd, n, x, y, s, rs⟩ := r
  obtain ⟨kd2, n2, x2, y2, s2, rs2⟩ := r2
  obtain ⟨a, cap, rfl, _⟩ := Va.open hr
  obtain ⟨a2, cap2, rfl, _⟩ := Va.open hr2
  cases o1 : (Va.mk kd n x y s rs).okV
  · exact rsame_bad1 kd kd2 n n2 x x2 y y2 s s2 rs rs2 a a2 cap cap2 F F2 w hr hr2 o1
  cases o2 : (Va.mk kd2 n2 x2 y2 s2 rs2).okV
  · exact rsame_bad2 kd kd2 n n2 x x2 y y2 s s2 rs rs2 a a2 cap cap2 F F2 w hr hr2 o1 o2
  simp only [Bool.and_self, if_true]
  by_cases hk : ¬ kd = kd2
  · have e : sameV (Va.mk kd n x y s rs) (Va.mk kd2 n2 x2 y2 s2 rs2) = 2 := by show (if kd ≠ kd2 then _ else _) = _; rw [if_pos hk]
    rw [e]
    exact rsame_ne kd kd2 n n2 x x2 y y2 s s2 rs rs2 a a2 cap cap2 F F2 w hr hr2 o1 o2 (bne_iff_ne.2 hk)
  have hk := Classical.not_not.1 hk
  subst hk
  by_cases h0 : kd = 0
  · subst h0; exact rsame_0 n n2 x x2 y y2 s s2 rs rs2 a a2 cap cap2 F F2 w hr hr2 o1 o2
  by_cases h1 : kd = 1
  · subst h1; exact rsame_1 n n2 x x2 y y2 s s2 rs rs2 a a2 cap cap2 F F2 w hr hr2 o1 o2
  by_cases h2 : kd = 2
  · subst h2; exact rsame_2 n n2 x x2 y y2 s s2 rs rs2 a a2 cap cap2 F F2 w hr hr2 o1 o2
  by_cases h3 : kd = 3
  · subst h3; exact rsame_3 n n2 x x2 y y2 s s2 rs rs2 a a2 cap cap2 F F2 w hr hr2 o1 o2
  by_cases h4 : kd = 4
  · subst h4; exact rsame_4 n n2 x x2 y y2 s s2 rs rs2 a a2 cap cap2 F F2 w hr hr2 o1 o2
  by_cases h5 : kd = 5
  · subst h5; exact rsame_5 n n2 x x2 y y2 s s2 rs rs2 a a2 cap cap2 F F2 w hr hr2 o1 o2
  by_cases h6 : kd = 6
  · subst h6; exact rsame_6 n n2 x x2 y y2 s s2 rs rs2 a a2 cap cap2 F F2 w hr hr2 o1 o2
  by_cases h7 : kd = 7
  · subst h7; exact rsame_7 n n2 x x2 y y2 s s2 rs rs2 a a2 cap cap2 F F2 w hr hr2 o1 o2
  exfalso
  have := ((Va.ok_iff _).1 o1).1
  unfold Va.alln at this
  rw [okB_ge h0 h1 h2 h3 h4 h5 h6 h7] at this
  cases this.1
theorem rCompare_any (r r2 : Va) (c c2 : List Value) (F F2 : List Nat) (w : World) (hr : r.tr.own 6 w c F) (hr2 : r2.tr.own 6 w c2 F2) (h1 : r.wf) (h2 : r2.wf) :
    Calls Try.prog 19 #[.agg c.toArray, .agg c2.toArray] w (Pair8Is (if r.okV && r2.okV then ordV r r2 else 0) (if r.okV && r2.okV then 0 else 20) w) := by
  obtain ⟨kd, n, x, y, s, rs⟩ := r
  obtain ⟨kd2, n2, x2, y2, s2, rs2⟩ := r2
  obtain ⟨a, cap, rfl, _⟩ := Va.open hr
  obtain ⟨a2, cap2, rfl, _⟩ := Va.open hr2
  cases o1 : (Va.mk kd n x y s rs).okV
  · exact rcomp_bad1 kd kd2 n n2 x x2 y y2 s s2 rs rs2 a a2 cap cap2 F F2 w hr hr2 o1
  cases o2 : (Va.mk kd2 n2 x2 y2 s2 rs2).okV
  · exact rcomp_bad2 kd kd2 n n2 x x2 y y2 s s2 rs rs2 a a2 cap cap2 F F2 w hr hr2 o1 o2
  simp only [Bool.and_self, if_true]
  exact rcomp_ok kd kd2 n n2 x x2 y y2 s s2 rs rs2 a a2 cap cap2 F F2 w hr hr2 o1 o2 h1 h2
def likeB (r r2 : Va) : Bool := (r.kd == r2.kd) && (ordV r r2 == 0)
def LikeIs (b : Bool) (w : World) (e : Ending) (w' : World) : Prop := e = .returned (.bool b) ∧ Below w.heap.size w w'
set_option maxRecDepth 100000 in
set_option maxHeartbeats 1000000 in
theorem Like_any (r r2 : Va) (c c2 : List Value) (F F2 : List Nat) (w : World) (hr : r.tr.own 6 w c F) (hr2 : r2.tr.own 6 w c2 F2) (h1 : r.wf) (h2 : r2.wf) :
    Calls Try.prog 26 #[.agg c.toArray, .agg c2.toArray] w (LikeIs (likeB r r2) w) := by
  obtain ⟨kd, n, x, y, s, rs⟩ := r
  obtain ⟨kd2, n2, x2, y2, s2, rs2⟩ := r2
  obtain ⟨a, cap, rfl, _⟩ := Va.open hr
  obtain ⟨a2, cap2, rfl, _⟩ := Va.open hr2
  have HR : Hid (∀ W, Below w.heap.size w W → (Va.mk kd n x y s rs).tr.own 6 W [.int .u8 kd, .int .i64 n, .float .f64 x, .float .f64 y, .string s, .slice a rs.length cap] F) := fun W hW => Tr.own_below hr hW
  have HR2 : Hid (∀ W, Below w.heap.size w W → (Va.mk kd2 n2 x2 y2 s2 rs2).tr.own 6 W [.int .u8 kd2, .int .i64 n2, .float .f64 x2, .float .f64 y2, .string s2, .slice a2 rs2.length cap2] F2) := fun W hW => Tr.own_below hr2 hW
  have HB := Lib.hid (bb2 w (.cells [.int .u8 kd, .int .i64 n, .float .f64 x, .float .f64 y, .string s, .slice a rs.length cap].toArray 25) (.cells [.int .u8 kd2, .int .i64 n2, .float .f64 x2, .float .f64 y2, .string s2, .slice a2 rs2.length cap2].toArray 25))
  clear hr hr2
  have W1 := Lib.hid h1
  have W2 := Lib.hid h2
  clear h1 h2
  cases hk : (kd == kd2)
  all_goals
    go_enter Try.func26, Try.ntmps26
    go_wp2_with (go_at_call 33; refine (rorder_N _ (Va.mk kd n x y s rs) (Va.mk kd2 n2 x2 y2 s2 rs2) (Nat.le_refl _) W1.out W2.out [.int .u8 kd, .int .i64 n, .float .f64 x, .float .f64 y, .string s, .slice a rs.length cap] [.int .u8 kd2, .int .i64 n2, .float .f64 x2, .float .f64 y2, .string s2, .slice a2 rs2.length cap2] F F2 _ (HR.out _ HB.out) (HR2.out _ HB.out)).mono ?_; rintro e w3 ⟨rfl, hb3⟩)
    go_ret
    refine ⟨rb ?_, by first | exact HB.out | exact bthen HB.out hb3⟩
    unfold likeB Va.kd
    simp [hk]
end Go.Proofs.Ytaglklcjolcgeaa
