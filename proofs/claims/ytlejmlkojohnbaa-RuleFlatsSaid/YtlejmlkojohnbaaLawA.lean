/- The walk of 'RuleFlats' where the rules are too many, and where they may not be. -/
import Derived.Test.YtlejmlkojohnbaaLawL
import Derived.Test.YtlejmlkojohnbaaProg
import Derived.WalkLawsBesides
import Derived.WalkSpells
import Derived.Lib.Hide
import Derived.Laws.Rows
import Derived.Laws.Tables
namespace Go.Proofs.Ytlejmlkojohnbaa
open Go.RowKit
attribute [local go_sem] run_store_float
set_option maxRecDepth 100000 in
set_option maxHeartbeats 2000000 in
theorem law_many (r : Rl) (hf : r.few 3000 < 0) (c : List Value) (F : List Nat) (w : World) (hr : r.tr.own 7 w c F) : Calls Try.prog 3 #[.agg c.toArray] w (LawIs w) := by
  obtain ⟨v0, v1, v2, v3, v4, v5, v6, rfl⟩ := Rl.shape hr
  have HC := Lib.hid (fun o => few_N r.size r (Nat.le_refl _) [v0, v1, v2, v3, v4, v5, v6] F (w.alloc o) 3000 (Tr.own_below hr (bnew (Below.refl _ w) o)) (by omega) (by omega))
  have hd : decide (r.few 3000 < 0) = true := decide_eq_true hf
  clear hr hf
  go_enter Try.func3, Try.ntmps3
  go_wp2_with (first | (have hc := HC; clear HC; go_at_call 4; refine (hc.out _).mono ?_; clear hc; rintro e w1 ⟨rfl, hb1⟩))
  go_ret
  exact ⟨rfl, bthen (bnew (Below.refl _ _) _) hb1⟩
end Go.Proofs.Ytlejmlkojohnbaa
