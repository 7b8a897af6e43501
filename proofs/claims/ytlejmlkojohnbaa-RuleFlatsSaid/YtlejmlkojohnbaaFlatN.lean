/- What 'rule.flat' gives for every rule: its kinds of op joined. -/
import Derived.Test.YtlejmlkojohnbaaFlatW14
import Derived.Test.YtlejmlkojohnbaaFlatW15
import Derived.Test.YtlejmlkojohnbaaFlatW16
import Derived.Test.YtlejmlkojohnbaaFlatW17
import Derived.Test.YtlejmlkojohnbaaFlatW18
import Derived.Test.YtlejmlkojohnbaaFlatWOp
namespace Go.Proofs.Ytlejmlkojohnbaa
open Go.RowKit
theorem flat_N (N : Nat) : ∀ r : Rl, r.size ≤ N → r.size ≤ 3000 → r.ar → ∀ (c : List Value) (F : List Nat) (w : World), r.tr.own 7 w c F → Calls Try.prog 13 #[.agg c.toArray] w (GivesR r.flt w) := by
  induction N with
  | zero => intro r hN; have := r.size_pos; omega
  | succ N ih =>
    intro r hN h3 har c F w hr
    obtain ⟨op, n, m, x, y, s, rs, rfl⟩ := r.form
    rw [Rl.size_mk] at hN h3
    have IH := Lib.hid ih
    by_cases h14 : op = 14
    · subst h14; exact flat_14 N IH n m x y s rs hN h3 har c F w hr
    by_cases h15 : op = 15
    · subst h15; exact flat_15 N IH n m x y s rs hN h3 har c F w hr
    by_cases h16 : op = 16
    · subst h16; exact flat_16 N IH n m x y s rs hN h3 har c F w hr
    by_cases h17 : op = 17
    · subst h17; exact flat_17 N IH n m x y s rs hN h3 har c F w hr
    by_cases h18 : op = 18
    · subst h18; exact flat_18 N IH n m x y s rs hN h3 har c F w hr
    exact flat_op N IH op n m x y s rs (by simpa using h14) (by simpa using h15) (by simpa using h16) (by simpa using h17) (by simpa using h18) hN h3 har c F w hr
end Go.Proofs.Ytlejmlkojohnbaa
