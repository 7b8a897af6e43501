/- The walks of the reference's small functions: zero, only, count, Check. -/
import Derived.Test.YtkgonblofjedfaaDoorVaQ
import Derived.Test.YtkgonblofjedfaaDoorProg
import Derived.WalkLawsBesides
import Derived.WalkSpells
import Derived.Lib.Hide
import Derived.Laws.Externs
import Derived.Laws.BitsAllLaws
import Derived.Deep.QuietTactic
import Derived.BigQuiet
import Derived.StillTailTactics
namespace Go.Proofs.YtkgonblofjedfaaDoor
open Go.RowKit
attribute [local go_sem] run_store_float
theorem run_bits (x : Nat) (w : World) : Sem.run Tryd.prog (callFunc 10 #[.float .f64 x]) w = .ok (.value (.int .u64 x)) w := by
  have h := run_callFunc_extern (P := Tryd.prog) (f := 10) (fn := Tryd.f10) (e := Extern.MathFloatBits.float64bits) Tryd.func10 (by kernel_rfl) (by kernel_rfl) (by kernel_rfl) (by kernel_rfl) #[.float .f64 x] w
  rw [h]; rfl
set_option linter.unusedVariables false
set_option linter.unusedSimpArgs false
def onlyB (n : Int) (x y : Nat) (s : ByteArray) (len : Nat) (bn bx bz bt bl : Bool) : Bool := (bn || n == 0) && ((bx || (x : Int) == 0) && ((bz || (y : Int) == 0) && ((bt || s.toList.isEmpty) && (bl || (len : Int) == 0))))
theorem box_keep {W w1 : World} {B : Nat} {cs : Array Value} {t : TypeId} (h : W.heap[B]? = some (.cells cs t (0, 0))) (hb : Below W.heap.size W w1) : ∀ j, w1.cell? ⟨B, j, none⟩ = cs[j]? := fun j => by
  have hl : B < W.heap.size := (Array.getElem?_eq_some_iff.1 h).1
  have h1 := hb.block B hl
  unfold World.cell?
  rw [h1, h]
  simp
theorem box_keep2 {W w1 w2 : World} {B : Nat} {cs : Array Value} {t : TypeId} (h : W.heap[B]? = some (.cells cs t (0, 0))) (hb : Below W.heap.size W w1) (hb2 : Below w1.heap.size w1 w2) : ∀ j, w2.cell? ⟨B, j, none⟩ = cs[j]? := box_keep h (bthen hb hb2)
theorem two1 (w : World) (A B : Obj) : ((w.alloc A).alloc B).heap[w.heap.size]? = some A := by
  rw [heap_alloc_old _ _ (by simp)]
  exact heap_alloc_new w A
theorem two2 (w : World) (A B : Obj) : ((w.alloc A).alloc B).heap[w.heap.size + 1]? = some B := heap_alloc2_new w A B
theorem bb2 (w : World) (A B : Obj) : Below w.heap.size w ((w.alloc A).alloc B) := bnew (bnew (Below.refl _ _) _) _
def PairIs (v q : Int) (w : World) (e : Ending) (w' : World) : Prop := e = .returned (.tuple #[.int .i64 v, .int .i64 q]) ∧ Below w.heap.size w w'
def Pair8Is (v q : Int) (w : World) (e : Ending) (w' : World) : Prop := e = .returned (.tuple #[.int .i8 v, .int .i64 q]) ∧ Below w.heap.size w w'
theorem ok_ite {b : Bool} (h : b = true) : (if b = true then (0 : Int) else 20) = 0 := by rw [h]; rfl
theorem bad_ite {b : Bool} (h : b = false) : (if b = true then (0 : Int) else 20) = 20 := by rw [h]; rfl
theorem isEmpty_size (s : ByteArray) : s.toList.isEmpty = decide (s.size = 0) := by
  cases s with
  | mk d => cases d with
    | mk l => cases l <;> simp [ByteArray.size, ByteArray.isEmpty]
theorem cnt_leaf {kd n : Int} {x y : Nat} {s : ByteArray} {rs : List Va} {nest left : Int} (h7 : kd ≠ 7) : (Va.mk kd n x y s rs).cnt nest left = if okB kd n x y s rs.length nest = false ∨ left - 1 < 0 then -1 else left - 1 := by
  unfold Va.cnt
  split
  · rfl
  · rename_i h
    have hl : rs.length = 0 := okB_list (nest := nest) (by cases ho : okB kd n x y s rs.length nest with | true => rfl | false => exact absurd (.inl ho) h) h7
    rw [List.eq_nil_of_length_eq_zero hl]
    unfold Va.cnts
    rfl
theorem okB_ge {kd n : Int} {x y : Nat} {s : ByteArray} {len : Nat} {nest : Int} (h0 : kd ≠ 0) (h1 : kd ≠ 1) (h2 : kd ≠ 2) (h3 : kd ≠ 3) (h4 : kd ≠ 4) (h5 : kd ≠ 5) (h6 : kd ≠ 6) (h7 : kd ≠ 7) : okB kd n x y s len nest = false := by
  unfold okB
  rw [if_neg h0, if_neg h1, if_neg h2, if_neg h3, if_neg h4, if_neg (by omega), if_neg h7]
theorem okB_0 (n : Int) (x y : Nat) (s : ByteArray) (len : Nat) (nest : Int) : okB 0 n x y s len nest = onlyB n x y s len false false false false false := by
  unfold onlyB
  rw [isEmpty_size]
  apply Bool.eq_iff_iff.2
  simp [okB]
  try (constructor <;> (intro h; simp_all <;> try omega))
theorem okB_1 (n : Int) (x y : Nat) (s : ByteArray) (len : Nat) (nest : Int) : okB 1 n x y s len nest = (onlyB n x y s len true false false false false && (n == 0 || n == 1)) := by
  unfold onlyB
  rw [isEmpty_size]
  apply Bool.eq_iff_iff.2
  simp [okB]
  try (constructor <;> (intro h; simp_all <;> try omega))
theorem okB_2 (n : Int) (x y : Nat) (s : ByteArray) (len : Nat) (nest : Int) : okB 2 n x y s len nest = onlyB n x y s len true false false false false := by
  unfold onlyB
  rw [isEmpty_size]
  apply Bool.eq_iff_iff.2
  simp [okB]
  try (constructor <;> (intro h; simp_all <;> try omega))
theorem okB_3 (n : Int) (x y : Nat) (s : ByteArray) (len : Nat) (nest : Int) : okB 3 n x y s len nest = onlyB n x y s len false true false false false := by
  unfold onlyB
  rw [isEmpty_size]
  apply Bool.eq_iff_iff.2
  simp [okB]
  try (constructor <;> (intro h; simp_all <;> try omega))
theorem okB_4 (n : Int) (x y : Nat) (s : ByteArray) (len : Nat) (nest : Int) : okB 4 n x y s len nest = onlyB n x y s len false true true false false := by
  unfold onlyB
  rw [isEmpty_size]
  apply Bool.eq_iff_iff.2
  simp [okB]
  try (constructor <;> (intro h; simp_all <;> try omega))
theorem okB_5 (n : Int) (x y : Nat) (s : ByteArray) (len : Nat) (nest : Int) : okB 5 n x y s len nest = (onlyB n x y s len false false false true false && decide ((s.size : Int) ≤ 4096)) := by
  unfold onlyB
  rw [isEmpty_size]
  apply Bool.eq_iff_iff.2
  simp [okB]
  try (constructor <;> (intro h; simp_all <;> try omega))
theorem okB_6 (n : Int) (x y : Nat) (s : ByteArray) (len : Nat) (nest : Int) : okB 6 n x y s len nest = (onlyB n x y s len false false false true false && decide ((s.size : Int) ≤ 4096)) := by
  unfold onlyB
  rw [isEmpty_size]
  apply Bool.eq_iff_iff.2
  simp [okB]
  try (constructor <;> (intro h; simp_all <;> try omega))
theorem okB_7 (n : Int) (x y : Nat) (s : ByteArray) (len : Nat) (nest : Int) : okB 7 n x y s len nest = (onlyB n x y s len false false false false true && decide (nest < 16)) := by
  unfold onlyB
  rw [isEmpty_size]
  apply Bool.eq_iff_iff.2
  simp [okB]
  try (constructor <;> (intro h; simp_all <;> try omega))
theorem okB_list7 {n : Int} {x y : Nat} {s : ByteArray} {len : Nat} {nest : Int} (h : okB 7 n x y s len nest = true) : nest < 16 := by
  rw [okB_7] at h
  simp only [Bool.and_eq_true, decide_eq_true_eq] at h
  exact h.2
def CheckIs (r : Va) (w : World) (e : Ending) (w' : World) : Prop := e = .returned (.int .i64 (if r.okV then 0 else 20)) ∧ Below w.heap.size w w'
end Go.Proofs.YtkgonblofjedfaaDoor
