/- Printed by a program of this session (wip/pr/drive.py) over the kit's print: L. -/
import Derived.Test.YtmgfdcfbjgokgaaDoorMay
import Derived.Test.YtmgfdcfbjgokgaaDoorPLx0
namespace Go.Proofs.YtmgfdcfbjgokgaaDoor.PL
open Go.RowKit Go.Proofs.YtmgfdcfbjgokgaaDoorW.PrintWords Go.Proofs.YtmgfdcfbjgokgaaDoorW.PrintLast Go.Proofs.YtmgfdcfbjgokgaaDoorW.PrintMore
attribute [local go_sem] max2_int min2_int max_two min_two max_three min_three max_four min_four   -- for this text's walks alone
set_option linter.unusedVariables false
set_option linter.unusedSimpArgs false

/-! ### place_Place_may: function 49 -/
-- GIVEN@ %28errata%2Fplace.Place%29.may

def place_Place_may.f (a0_0 : ByteArray) (a0_1 : Int) : Option (Bool) := if a0_0.size ≤ 9223372036854775807 then some (mayB a0_0 a0_1) else none
theorem place_Place_may.calls (a0_0 : ByteArray) (a0_1 : Int) (r : Bool) (w : World) (h : place_Place_may.f a0_0 a0_1 = some r) :
    Calls Tryd.prog 49 #[.agg #[.string a0_0, .int .i64 a0_1]] w fun e w' => e = .returned (.bool r) ∧ Below w.heap.size w w' := by
  unfold place_Place_may.f at h
  split at h
  · rename_i hs
    obtain rfl := Option.some.inj h
    exact may_any a0_0 a0_1 w hs
  · cases h


end Go.Proofs.YtmgfdcfbjgokgaaDoor.PL
