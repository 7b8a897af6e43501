/- '==' of two handed out values; the walks of 'value.compared' and 'value.Same'. -/
import Derived.Test.YtbbpngoffpegbaaGreatDoorPlain
import Derived.Defers
import Derived.Recover
import Derived.Lib.IfaceEq
import Derived.Test.YtbbpngoffpegbaaGreatDoorWLast
import Derived.Test.YtbbpngoffpegbaaGreatDoorWWords
namespace Go.Proofs.YtbbpngoffpegbaaGreatDoor
open Go Go.RowKit Go.Proofs.YtbbpngoffpegbaaGreatDoorW.PrintWords Go.Proofs.YtbbpngoffpegbaaGreatDoorW.PrintLast
set_option linter.unusedVariables false
set_option linter.unusedSimpArgs false
attribute [local go_sem] run_store_float
theorem und_any : Tryz.prog.underlying 20 = some (.interface #[]) := by kernel_rfl
theorem cmp_of (t : Nat) (h : (Tryz.prog.info? t).map (·.comparable) = some true) : ∃ i, Tryz.prog.info? t = some i ∧ i.comparable = true := by
  cases hi : Tryz.prog.info? t with
  | none => simp [hi] at h
  | some i => exact ⟨i, rfl, by simpa [hi] using h⟩
theorem ieq_nils (w : World) : (binOp .eql 20 .nilIface .nilIface).run Tryz.prog w = .ok (.bool true) w := by
  have h : ∀ d : Nat, (Op.equalIn (d + 2) 20 .nilIface .nilIface).run Tryz.prog w = .ok true w := fun d => by simp [Op.equalIn, run_underlying und_any]
  simp only [binOp]
  simp [Op.equal, Op.maxDepth, h 9998]
theorem ieq_nil1 (t : TypeId) (v : Value) (w : World) : (binOp .eql 20 .nilIface (.iface t v)).run Tryz.prog w = .ok (.bool false) w := by
  have h : ∀ d : Nat, (Op.equalIn (d + 2) 20 .nilIface (.iface t v)).run Tryz.prog w = .ok false w := fun d => by simp [Op.equalIn, run_underlying und_any]
  simp only [binOp]
  simp [Op.equal, Op.maxDepth, h 9998]
theorem ieq_nil2 (t : TypeId) (v : Value) (w : World) : (binOp .eql 20 (.iface t v) .nilIface).run Tryz.prog w = .ok (.bool false) w := by
  have h : ∀ d : Nat, (Op.equalIn (d + 2) 20 (.iface t v) .nilIface).run Tryz.prog w = .ok false w := fun d => by simp [Op.equalIn, run_underlying und_any]
  simp only [binOp]
  simp [Op.equal, Op.maxDepth, h 9998]
theorem ieq_ne (t t2 : TypeId) (v v2 : Value) (ht : t ≠ t2) (w : World) : (binOp .eql 20 (.iface t v) (.iface t2 v2)).run Tryz.prog w = .ok (.bool false) w := by
  have h : ∀ d : Nat, (Op.equalIn (d + 2) 20 (.iface t v) (.iface t2 v2)).run Tryz.prog w = .ok false w := fun d => by simp [Op.equalIn, run_underlying und_any, ht]
  simp only [binOp]
  simp [Op.equal, Op.maxDepth, h 9998]
theorem ieq_bool (a b : Bool) (w : World) : (binOp .eql 20 (.iface 4 (.bool a)) (.iface 4 (.bool b))).run Tryz.prog w = .ok (.bool (a == b)) w := by
  obtain ⟨i, hi, hc⟩ := cmp_of 4 (by kernel_rfl)
  have h : ∀ d : Nat, (Op.equalIn (d + 2) 20 (.iface 4 (.bool a)) (.iface 4 (.bool b))).run Tryz.prog w = .ok (a == b) w := fun d => by
    simp [Op.equalIn, run_underlying und_any, run_underlying Tryz.underlying4, typeInfo, hi, hc, Op.floatEq, fo]
  simp only [binOp]
  simp [Op.equal, Op.maxDepth, h 9998]
theorem ieq_int (a b : Int) (w : World) : (binOp .eql 20 (.iface 2 (.int .i64 a)) (.iface 2 (.int .i64 b))).run Tryz.prog w = .ok (.bool (a == b)) w := by
  obtain ⟨i, hi, hc⟩ := cmp_of 2 (by kernel_rfl)
  have h : ∀ d : Nat, (Op.equalIn (d + 2) 20 (.iface 2 (.int .i64 a)) (.iface 2 (.int .i64 b))).run Tryz.prog w = .ok (a == b) w := fun d => by
    simp [Op.equalIn, run_underlying und_any, run_underlying Tryz.underlying2, typeInfo, hi, hc, Op.floatEq, fo]
  simp only [binOp]
  simp [Op.equal, Op.maxDepth, h 9998]
theorem ieq_float (a b : Nat) (w : World) : (binOp .eql 20 (.iface 22 (.float .f64 a)) (.iface 22 (.float .f64 b))).run Tryz.prog w = .ok (.bool (fo a b == some .eq)) w := by
  obtain ⟨i, hi, hc⟩ := cmp_of 22 (by kernel_rfl)
  have h : ∀ d : Nat, (Op.equalIn (d + 2) 20 (.iface 22 (.float .f64 a)) (.iface 22 (.float .f64 b))).run Tryz.prog w = .ok (fo a b == some .eq) w := fun d => by
    simp [Op.equalIn, run_underlying und_any, run_underlying Tryz.underlying22, typeInfo, hi, hc, Op.floatEq, fo]
  simp only [binOp]
  simp [Op.equal, Op.maxDepth, h 9998]
theorem ieq_complex (a a2 b b2 : Nat) (w : World) : (binOp .eql 20 (.iface 48 (.complex .f64 a a2)) (.iface 48 (.complex .f64 b b2))).run Tryz.prog w = .ok (.bool ((fo a b == some .eq) && (fo a2 b2 == some .eq))) w := by
  obtain ⟨i, hi, hc⟩ := cmp_of 48 (by kernel_rfl)
  have h : ∀ d : Nat, (Op.equalIn (d + 2) 20 (.iface 48 (.complex .f64 a a2)) (.iface 48 (.complex .f64 b b2))).run Tryz.prog w = .ok ((fo a b == some .eq) && (fo a2 b2 == some .eq)) w := fun d => by
    simp [Op.equalIn, run_underlying und_any, run_underlying Tryz.underlying48, typeInfo, hi, hc, Op.floatEq, fo]
  simp only [binOp]
  simp [Op.equal, Op.maxDepth, h 9998]
theorem ieq_str (a b : ByteArray) (w : World) : (binOp .eql 20 (.iface 9 (.string a)) (.iface 9 (.string b))).run Tryz.prog w = .ok (.bool (a == b)) w := by
  obtain ⟨i, hi, hc⟩ := cmp_of 9 (by kernel_rfl)
  have h : ∀ d : Nat, (Op.equalIn (d + 2) 20 (.iface 9 (.string a)) (.iface 9 (.string b))).run Tryz.prog w = .ok (a == b) w := fun d => by
    simp [Op.equalIn, run_underlying und_any, run_underlying Tryz.underlying9, typeInfo, hi, hc, Op.floatEq, fo]
  simp only [binOp]
  simp [Op.equal, Op.maxDepth, h 9998]
theorem ieq_bytes (x y : Value) (w : World) : (binOp .eql 20 (.iface 32 x) (.iface 32 y)).run Tryz.prog w = .halt (.panic (.iface Tryz.prog.rt.errorString (strVal ("comparing uncomparable type " ++ "[]uint8")))) w := by
  have hcf : (Tryz.prog.info? 32).map (fun i => (i.comparable, i.str)) = some (false, "[]uint8") := by kernel_rfl
  have hp : Tryz.prog.holdsPacked Tryz.prog.depth 32 = false := by kernel_rfl
  obtain ⟨i, hi, hc, hs⟩ : ∃ i, Tryz.prog.info? 32 = some i ∧ i.comparable = false ∧ i.str = "[]uint8" := by
    cases hi : Tryz.prog.info? 32 with
    | none => simp [hi] at hcf
    | some i =>
      simp only [hi, Option.map_some, Option.some.injEq, Prod.mk.injEq] at hcf
      exact ⟨i, rfl, hcf.1, hcf.2⟩
  have h : ∀ d : Nat, (Op.equalIn (d + 2) 20 (.iface 32 x) (.iface 32 y)).run Tryz.prog w = .halt (.panic (.iface Tryz.prog.rt.errorString (strVal ("comparing uncomparable type " ++ "[]uint8")))) w := fun d => by
    simp [Op.equalIn, run_underlying und_any, typeInfo, hi, hc, hp, typeStr, hs, runtimePanic, goPanic]
  simp only [binOp]
  simp [Op.equal, Op.maxDepth, h 9998]
theorem ieq_anys (x y : Value) (w : World) : (binOp .eql 20 (.iface 34 x) (.iface 34 y)).run Tryz.prog w = .halt (.panic (.iface Tryz.prog.rt.errorString (strVal ("comparing uncomparable type " ++ "[]interface {}")))) w := by
  have hcf : (Tryz.prog.info? 34).map (fun i => (i.comparable, i.str)) = some (false, "[]interface {}") := by kernel_rfl
  have hp : Tryz.prog.holdsPacked Tryz.prog.depth 34 = false := by kernel_rfl
  obtain ⟨i, hi, hc, hs⟩ : ∃ i, Tryz.prog.info? 34 = some i ∧ i.comparable = false ∧ i.str = "[]interface {}" := by
    cases hi : Tryz.prog.info? 34 with
    | none => simp [hi] at hcf
    | some i =>
      simp only [hi, Option.map_some, Option.some.injEq, Prod.mk.injEq] at hcf
      exact ⟨i, rfl, hcf.1, hcf.2⟩
  have h : ∀ d : Nat, (Op.equalIn (d + 2) 20 (.iface 34 x) (.iface 34 y)).run Tryz.prog w = .halt (.panic (.iface Tryz.prog.rt.errorString (strVal ("comparing uncomparable type " ++ "[]interface {}")))) w := fun d => by
    simp [Op.equalIn, run_underlying und_any, typeInfo, hi, hc, hp, typeStr, hs, runtimePanic, goPanic]
  simp only [binOp]
  simp [Op.equal, Op.maxDepth, h 9998]
end Go.Proofs.YtbbpngoffpegbaaGreatDoor
