/- 'RuleFlats' gives true for every rule. -/
import Derived.Test.YtlejmlkojohnbaaLawA
import Derived.Test.YtlejmlkojohnbaaLawB
import Derived.Test.YtlejmlkojohnbaaLawC
namespace Go.Proofs.Ytlejmlkojohnbaa
open Go.RowKit
theorem law_any (r : Rl) (hwf : r.wf) (c : List Value) (F : List Nat) (w : World) (hr : r.tr.own 7 w c F) : Calls Try.prog 3 #[.agg c.toArray] w (LawIs w) := by
  by_cases hf : r.few 3000 < 0
  · exact law_many r hf c F w hr
  · have h0 : 0 ≤ r.few 3000 := by omega
    have hs := Rl.few_size r 3000 h0
    have h3 : r.size ≤ 3000 := by omega
    rcases Rl.check_good r with ⟨h1, h2, h4, _⟩ | ⟨h1, h2⟩
    · exact law_yes r h3 hwf h0 h1 (Rl.good_ar r 32 h4) h2 c F w hr
    · exact law_no r h3 hwf h0 h1 h2 c F w hr
end Go.Proofs.Ytlejmlkojohnbaa
