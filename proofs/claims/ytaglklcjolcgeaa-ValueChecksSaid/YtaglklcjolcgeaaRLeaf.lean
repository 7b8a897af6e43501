/- The walks of the reference's small functions: zero, only, count, Check. -/
import Derived.Test.YtaglklcjolcgeaaVaQ
import Derived.Test.YtaglklcjolcgeaaProg
import Derived.WalkLawsBesides
import Derived.WalkSpells
import Derived.Lib.Hide
import Derived.Laws.Externs
import Derived.Laws.BitsAllLaws
import Derived.Deep.QuietTactic
import Derived.BigQuiet
import Derived.StillTailTactics
namespace Go.Proofs.Ytaglklcjolcgeaa
open Go.RowKit
attribute [local go_sem] run_store_float
theorem run_bits (x : Nat) (w : World) : Sem.run Try.prog (callFunc 45 #[.float .f64 x]) w = .ok (.value (.int .u64 x)) w := by
  have h := run_callFunc_extern (P := Try.prog) (f := 45) (fn := Try.f45) (e := Extern.MathFloatBits.float64bits) Try.func45 (by kernel_rfl) (by kernel_rfl) (by kernel_rfl) (by kernel_rfl) #[.float .f64 x] w
  rw [h]; rfl
theorem rzero_any (x : Nat) (w : World) : Calls Try.prog 62 #[.float .f64 x] w fun e w' => e = .returned (.bool ((x : Int) == 0)) ∧ w = w' := by
  have kb := run_bits
  go_enter Try.func62, Try.ntmps62
  go_wp2_with fail
  go_ret
  exact ⟨rfl, rfl⟩
/-- Are the fields but the named ones nought? -/
def onlyB (n : Int) (x y : Nat) (s : ByteArray) (len : Nat) (bn bx bz bt bl : Bool) : Bool := (bn || n == 0) && ((bx || (x : Int) == 0) && ((bz || (y : Int) == 0) && ((bt || s.toList.isEmpty) && (bl || (len : Int) == 0))))
set_option maxHeartbeats 1000000 in
theorem only_any (kd n : Int) (x y : Nat) (s : ByteArray) (a : Option Addr) (len cap : Nat) (bn bx bz bt bl : Bool) (w : World) :
    Calls Try.prog 43 #[.agg #[.int .u8 kd, .int .i64 n, .float .f64 x, .float .f64 y, .string s, .slice a len cap], .bool bn, .bool bx, .bool bz, .bool bt, .bool bl] w fun e w' =>
      e = .returned (.bool (onlyB n x y s len bn bx bz bt bl)) ∧ Below w.heap.size w w' := by
  go_enter Try.func43, Try.ntmps43
  go_wp2_with (go_at_call 62; (with_reducible refine (rzero_any _ _).mono ?_); rintro e w' ⟨rfl, rfl⟩)
  all_goals
    go_ret
    refine ⟨rb ?_, (Below.refl _ _).alloc (Nat.le_refl _) _⟩
    simp [onlyB, *]
end Go.Proofs.Ytaglklcjolcgeaa
