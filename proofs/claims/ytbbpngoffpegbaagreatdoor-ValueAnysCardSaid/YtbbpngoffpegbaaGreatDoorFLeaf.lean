/- The walks of the small functions under Go's FormatFloat. -/
import Derived.Test.YtbbpngoffpegbaaGreatDoorProg
import Derived.WalkLawsBesides
import Derived.WalkSpells
import Derived.Lib.Hide
import Derived.Laws.Externs
import Derived.Laws.BitsAllLaws
import Derived.Deep.QuietTactic
import Derived.BigQuiet
import Derived.StillTailTactics
namespace Go.Proofs.YtbbpngoffpegbaaGreatDoor
open Go.RowKit
set_option linter.unusedVariables false
set_option linter.unusedSimpArgs false
theorem bool2u_any (b : Bool) (w : World) :
    Calls Tryz.prog 169 #[.bool b] w fun e w' => e = .returned (.int .u64 (if b then 1 else 0)) ∧ w' = w := by
  go_enter Tryz.func169, Tryz.ntmps169
  cases b <;> (go_wp2_with fail) <;> go_ret <;> exact ⟨rfl, rfl⟩
theorem log10Pow2_any (x : Int) (h0 : -2000 ≤ x) (h1 : x ≤ 2000) (w : World) :
    Calls Tryz.prog 113 #[.int .i64 x] w fun e w' => e = .returned (.int .i64 (x * 78913 / 262144)) ∧ w' = w := by
  go_enter Tryz.func113, Tryz.ntmps113
  go_wp2_with fail
  go_ret
  exact ⟨rfl, rfl⟩
theorem log2Pow10_any (x : Int) (h0 : -2000 ≤ x) (h1 : x ≤ 2000) (w : World) :
    Calls Tryz.prog 143 #[.int .i64 x] w fun e w' => e = .returned (.int .i64 (x * 108853 / 32768)) ∧ w' = w := by
  go_enter Tryz.func143, Tryz.ntmps143
  go_wp2_with fail
  go_ret
  exact ⟨rfl, rfl⟩
theorem skewed_any (x : Int) (h0 : -2000 ≤ x) (h1 : x ≤ 2000) (w : World) :
    Calls Tryz.prog 141 #[.int .i64 x] w fun e w' => e = .returned (.int .i64 ((x * 631305 - 261663) / 2097152)) ∧ w' = w := by
  go_enter Tryz.func141, Tryz.ntmps141
  go_wp2_with fail
  go_ret
  exact ⟨rfl, rfl⟩
theorem and1 (x : Nat) (hx : x < 18446744073709551616) : bits .and .u64 (x : Int) 1 = ((x % 2 : Nat) : Int) := by
  have h := u64_and_nat x 1 hx (by decide)
  rw [Nat.and_one_is_mod] at h
  exact h
/-- A number of 64 bits moved by -1, 0 or 1. -/
def nudgeN (u : Nat) (o : Int) : Nat := (((u : Int) + o) % 18446744073709551616).toNat
theorem nudge_any (u : Nat) (o : Int) (hu2 : u < 18446744073709551616) (h0 : -1 ≤ o) (h1 : o ≤ 1) (w : World) :
    Calls Tryz.prog 145 #[.int .u64 u, .int .i64 o] w fun e w' => e = .returned (.int .u64 (nudgeN u o)) ∧ w' = w := by
  have key : IntKind.u64.wrap (↑u + IntKind.u64.wrap o) = (nudgeN u o : Int) := by
    simp only [IntKind.wrap_u64, nudgeN]; omega
  go_enter Tryz.func145, Tryz.ntmps145
  go_wp2_with fail
  go_ret
  exact ⟨by rw [← key]; rfl, rfl⟩
def ceilN (u : Nat) : Nat := (u + 3) % 18446744073709551616 / 4
theorem ceil_any (u : Nat) (hu2 : u < 18446744073709551616) (w : World) :
    Calls Tryz.prog 146 #[.int .u64 u] w fun e w' => e = .returned (.int .u64 (ceilN u)) ∧ w' = w := by
  have key : IntKind.u64.wrap (↑u + 3) / 4 = (ceilN u : Int) := by
    simp only [IntKind.wrap_u64, ceilN]; omega
  go_enter Tryz.func146, Tryz.ntmps146
  go_wp2_with fail
  go_ret
  exact ⟨by rw [← key]; rfl, rfl⟩
theorem floor_any (u : Nat) (hu2 : u < 18446744073709551616) (w : World) :
    Calls Tryz.prog 147 #[.int .u64 u] w fun e w' => e = .returned (.int .u64 ((u / 4 : Nat) : Int)) ∧ w' = w := by
  go_enter Tryz.func147, Tryz.ntmps147
  go_wp2_with fail
  go_ret
  exact ⟨rfl, rfl⟩
def roundN (u : Nat) : Nat := (u + 1 + u / 4 % 2) % 18446744073709551616 / 4
theorem round_any (u : Nat) (hu2 : u < 18446744073709551616) (w : World) :
    Calls Tryz.prog 148 #[.int .u64 u] w fun e w' => e = .returned (.int .u64 (roundN u)) ∧ w' = w := by
  have ha : bits .and .u64 ((u : Int) / 4) 1 = ((u / 4 % 2 : Nat) : Int) := and1 (u / 4) (by omega)
  have key : IntKind.u64.wrap (IntKind.u64.wrap (↑u + 1) + (u : Int) / 4 % 2) / 4 = (roundN u : Int) := by
    rw [show (u : Int) / 4 % 2 = ((u / 4 % 2 : Nat) : Int) from rfl]
    have hq : u / 4 % 2 < 2 := Nat.mod_lt _ (by decide)
    simp only [IntKind.wrap_u64, roundN]
    generalize u / 4 % 2 = q at hq ⊢
    omega
  go_enter Tryz.func148, Tryz.ntmps148
  go_wp2_with fail
  go_ret
  exact ⟨by rw [← key]; rfl, rfl⟩
end Go.Proofs.YtbbpngoffpegbaaGreatDoor
