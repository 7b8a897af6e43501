/- Floats: what stands to itself; what a quotient of one comes to. -/
import Derived.WalkKit
import Derived.WalkLawsBesides
import Derived.Laws.FloatBits
namespace Go.Proofs.Ytlejmlkojohnbaa
open Go.RowKit
open Ieee

theorem datum_order_self (d : Datum) : d.order d = if d.isNaN then none else some .eq := by
  cases d with
  | number s m i => simp [Datum.order, Datum.isNaN, compare, compareOfLessAndEq]
  | infinity s => simp [Datum.order, Datum.isNaN]
  | nan s t => simp [Datum.order, Datum.isNaN]
theorem read_word (f : Format) (neg : Bool) (rung : Nat) (h : rung ≤ f.infRung) : (f.read (f.word neg rung)).isNaN = false := by
  have hw := f.infRung_lt
  have hm : f.word neg rung % f.signWeight = rung := by
    unfold Format.word
    cases neg
    · simp; exact Nat.mod_eq_of_lt (by omega)
    · simp; exact Nat.mod_eq_of_lt (by omega)
  unfold Format.read
  simp only [hm]
  split
  · rfl
  · split
    · rfl
    · rw [if_pos (by omega)]; rfl
theorem read_write (f : Format) (d : Datum) (h : d.isNaN = false) : (f.read (f.write d)).isNaN = false := by
  cases d with
  | number s m i =>
    simp only [Format.write, Format.nearest]
    split
    · exact read_word f s 0 (Nat.zero_le _)
    · exact read_word f s _ (Nat.min_le_right _ _)
  | infinity s => exact read_word f s _ (Nat.le_refl _)
  | nan s t => simp [Datum.isNaN] at h
theorem one_read : FloatKind.f64.format.read 4607182418800017408 = .number false 4503599627370496 (-52) := by decide +kernel
/-- 1/x of what is a number. -/
theorem one_div (x : Nat) (h : FloatKind.f64.format.order x x = some .eq) : ∃ r, FloatKind.f64.format.div 4607182418800017408 x = some r ∧ FloatKind.f64.format.order r r = some .eq := by
  have hx : (FloatKind.f64.format.read x).isNaN = false := by
    unfold Format.order at h
    rw [datum_order_self] at h
    split at h
    · cases h
    · rename_i h1; simpa using h1
  have hq : ∃ d, (FloatKind.f64.format.read 4607182418800017408).quotient (FloatKind.f64.format.fractionBits + 2) (FloatKind.f64.format.read x) = some d ∧ d.isNaN = false := by
    rw [one_read]
    generalize FloatKind.f64.format.read x = dx at hx
    cases dx with
    | number s m i =>
      simp only [Datum.quotient]
      split
      · exact ⟨_, rfl, rfl⟩
      · exact ⟨_, rfl, rfl⟩
    | infinity s => exact ⟨_, rfl, rfl⟩
    | nan s t => simp [Datum.isNaN] at hx
  obtain ⟨d, hd, hn⟩ := hq
  refine ⟨FloatKind.f64.format.write d, by unfold Format.div; rw [hd]; rfl, ?_⟩
  unfold Format.order
  rw [datum_order_self, read_write _ d hn]
  rfl
theorem run_quo {P : Program} (t : TypeId) (a b r : Nat) (h : FloatKind.f64.format.div a b = some r) (w : World) : (binOp .quo t (.float .f64 a) (.float .f64 b)).run P w = .ok (.float .f64 r) w := by
  simp [binOp, Op.floatArith, h]
end Go.Proofs.Ytlejmlkojohnbaa
