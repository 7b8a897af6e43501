/- The walks of the reference's small functions: zero, only, count, Check. -/
import Derived.Test.YtbbpngoffpegbaaGreatDoorVaQ
import Derived.Test.YtbbpngoffpegbaaGreatDoorProg
import Derived.WalkLawsBesides
import Derived.WalkSpells
import Derived.Lib.Hide
import Derived.Laws.Externs
import Derived.Laws.BitsAllLaws
import Derived.Deep.QuietTactic
import Derived.BigQuiet
import Derived.StillTailTactics
namespace Go.Proofs.YtbbpngoffpegbaaGreatDoor
open Go.RowKit
attribute [local go_sem] run_store_float
theorem run_bits (x : Nat) (w : World) : Sem.run Tryz.prog (callFunc 43 #[.float .f64 x]) w = .ok (.value (.int .u64 x)) w := by
  have h := run_callFunc_extern (P := Tryz.prog) (f := 43) (fn := Tryz.f43) (e := Extern.MathFloatBits.float64bits) Tryz.func43 (by kernel_rfl) (by kernel_rfl) (by kernel_rfl) (by kernel_rfl) #[.float .f64 x] w
  rw [h]; rfl
theorem rzero_any (x : Nat) (w : World) : Calls Tryz.prog 67 #[.float .f64 x] w fun e w' => e = .returned (.bool ((x : Int) == 0)) ∧ w = w' := by
  have kb := run_bits
  go_enter Tryz.func67, Tryz.ntmps67
  go_wp2_with fail
  go_ret
  exact ⟨rfl, rfl⟩
/-- Are the fields but the named ones nought? -/
def onlyB (n : Int) (x y : Nat) (s : ByteArray) (len : Nat) (bn bx bz bt bl : Bool) : Bool := (bn || n == 0) && ((bx || (x : Int) == 0) && ((bz || (y : Int) == 0) && ((bt || s.toList.isEmpty) && (bl || (len : Int) == 0))))
set_option maxHeartbeats 1000000 in
theorem only_any (kd n : Int) (x y : Nat) (s : ByteArray) (a : Option Addr) (len cap : Nat) (bn bx bz bt bl : Bool) (w : World) :
    Calls Tryz.prog 42 #[.agg #[.int .u8 kd, .int .i64 n, .float .f64 x, .float .f64 y, .string s, .slice a len cap], .bool bn, .bool bx, .bool bz, .bool bt, .bool bl] w fun e w' =>
      e = .returned (.bool (onlyB n x y s len bn bx bz bt bl)) ∧ Below w.heap.size w w' := by
  go_enter Tryz.func42, Tryz.ntmps42
  go_wp2_with (go_at_call 67; (with_reducible refine (rzero_any _ _).mono ?_); rintro e w' ⟨rfl, rfl⟩)
  all_goals
    go_ret
    refine ⟨rb ?_, (Below.refl _ _).alloc (Nat.le_refl _) _⟩
    simp [onlyB, *]
end Go.Proofs.YtbbpngoffpegbaaGreatDoor
