/- The tree of stacks: no tree. -/
import Derived.Test.YtmgfdcfbjgokgaaLst
namespace Go.Proofs.Ytmgfdcfbjgokgaa
open Go Go.RowKit Go.Proofs.YtmgfdcfbjgokgaaW.PrintWords Go.Proofs.YtmgfdcfbjgokgaaW.PrintLast Go.Proofs.Ytmgfdcfbjgokgaa.PL
set_option linter.unusedVariables false
set_option linter.unusedSimpArgs false

section
variable {W : World}
set_option maxRecDepth 100000
theorem there_nil (n : Int) : Calls Try.prog 15 #[.pointer none, .int .i64 n] W fun e w' => e = .returned (.bool false) ∧ w' = W := by
  go_enter Try.func15, Try.ntmps15
  go_wp2
  go_ret
  exact ⟨rfl, rfl⟩
theorem Len_nil : Calls Try.prog 9 #[.pointer none] W fun e w' => e = .returned (.int .i64 0) ∧ w' = W := by
  go_enter Try.func9, Try.ntmps9
  go_wp2
  go_ret
  exact ⟨rfl, rfl⟩
theorem Depth_nil (n : Int) : Calls Try.prog 10 #[.pointer none, .int .i64 n] W fun e w' => e = .returned (.int .i64 0) ∧ w' = W := by
  go_enter Try.func10, Try.ntmps10
  go_wp2_with (go_at_call 15; (with_reducible refine (there_nil n).mono ?_); rintro e w1 ⟨rfl, rfl⟩)
  go_ret
  exact ⟨rfl, rfl⟩
theorem Parent_nil (n : Int) : Calls Try.prog 8 #[.pointer none, .int .i64 n] W fun e w' => e = .returned (.tuple #[.int .i64 0, .bool false]) ∧ w' = W := by
  go_enter Try.func8, Try.ntmps8
  go_wp2_with (go_at_call 15; (with_reducible refine (there_nil n).mono ?_); rintro e w1 ⟨rfl, rfl⟩)
  go_ret2
  exact ⟨rfl, rfl⟩
theorem Meet_nil (x y : Int) : Calls Try.prog 7 #[.pointer none, .int .i64 x, .int .i64 y] W fun e w' => e = .returned (.tuple #[.int .i64 0, .int .i64 2]) ∧ w' = W := by
  go_enter Try.func7, Try.ntmps7
  go_wp2
  go_ret2
  exact ⟨rfl, rfl⟩
theorem Stack_nil (x : Int) : Calls Try.prog 6 #[.pointer none, .int .i64 x] W fun e w' => e = .returned (.tuple #[.slice none 0 0, .int .i64 2]) ∧ w' = W := by
  go_enter Try.func6, Try.ntmps6
  go_wp2
  go_ret2
  exact ⟨rfl, rfl⟩
theorem Told_nil : Calls Try.prog 11 #[.pointer none] W fun e w' => e = .returned (.string ⟨#[]⟩) ∧ w' = W := by
  go_enter Try.func11, Try.ntmps11
  go_wp2
  go_ret
  exact ⟨rfl, rfl⟩
theorem Add_nil (A : Option Addr) (n c : Nat) : Calls Try.prog 5 #[.pointer none, .slice A n c] W fun e w' => e = .returned (.tuple #[.int .i64 0, .int .i64 2]) ∧ w' = W := by
  go_enter Try.func5, Try.ntmps5
  go_wp2
  go_ret2
  exact ⟨rfl, rfl⟩
theorem Push_nil (x : Int) (s : ByteArray) (n : Int) : Calls Try.prog 4 #[.pointer none, .int .i64 x, .agg #[.string s, .int .i64 n]] W fun e w' => e = .returned (.tuple #[.int .i64 0, .int .i64 2]) ∧ w' = W.alloc (.cells #[.string s, .int .i64 n] 24) := by
  go_enter Try.func4, Try.ntmps4
  go_wp2
  go_ret2
  exact ⟨rfl, rfl⟩
end
end Go.Proofs.Ytmgfdcfbjgokgaa
