/- What 'errataref22.Flat' gives for every rule: its kinds of op joined. -/
import Derived.Test.YtlejmlkojohnbaaRFlatW14
import Derived.Test.YtlejmlkojohnbaaRFlatW15
import Derived.Test.YtlejmlkojohnbaaRFlatW16
import Derived.Test.YtlejmlkojohnbaaRFlatW17
import Derived.Test.YtlejmlkojohnbaaRFlatW18
import Derived.Test.YtlejmlkojohnbaaRFlatWOp
namespace Go.Proofs.Ytlejmlkojohnbaa
open Go.RowKit
theorem rFlat_N (N : Nat) : ∀ r : Rl, r.size ≤ N → r.size ≤ 3000 → r.ar → ∀ (c : List Value) (F : List Nat) (w : World), r.tr.own 7 w c F → Calls Try.prog 10 #[.agg c.toArray] w (GivesR r.flt w) := by
  induction N with
  | zero => intro r hN; have := r.size_pos; omega
  | succ N ih =>
    intro r hN h3 har c F w hr
    obtain ⟨op, n, m, x, y, s, rs, rfl⟩ := r.form
    rw [Rl.size_mk] at hN h3
    have IH := Lib.hid ih
    by_cases h14 : op = 14
    · subst h14; exact rFlat_14 N IH n m x y s rs hN h3 har c F w hr
    by_cases h15 : op = 15
    · subst h15; exact rFlat_15 N IH n m x y s rs hN h3 har c F w hr
    by_cases h16 : op = 16
    · subst h16; exact rFlat_16 N IH n m x y s rs hN h3 har c F w hr
    by_cases h17 : op = 17
    · subst h17; exact rFlat_17 N IH n m x y s rs hN h3 har c F w hr
    by_cases h18 : op = 18
    · subst h18; exact rFlat_18 N IH n m x y s rs hN h3 har c F w hr
    exact rFlat_op N IH op n m x y s rs (by simpa using h14) (by simpa using h15) (by simpa using h16) (by simpa using h17) (by simpa using h18) hN h3 har c F w hr
end Go.Proofs.Ytlejmlkojohnbaa
