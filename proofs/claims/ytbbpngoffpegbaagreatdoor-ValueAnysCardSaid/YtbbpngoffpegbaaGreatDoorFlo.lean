/- Floats: how two stand to each other. No program. -/
import Derived.WalkKit
import Derived.Laws.FloatBits
namespace Go.Proofs.YtbbpngoffpegbaaGreatDoor
open Go.RowKit Ieee
set_option linter.unusedVariables false
set_option linter.unusedSimpArgs false

def fo (x y : Nat) : Option Ordering := FloatKind.f64.format.order x y
def nanB (x : Nat) : Bool := (FloatKind.f64.format.read x).isNaN
def zerB (x : Nat) : Bool := (FloatKind.f64.format.read x).isZero
theorem cmp_swap (a b : Int) : compare b a = (compare a b).swap := by
  simp only [compare, compareOfLessAndEq]
  rcases Int.lt_trichotomy a b with h | h | h
  · have h1 : ¬ b < a := by omega
    have h2 : ¬ b = a := by omega
    simp [h, h1, h2]
  · subst h; simp
  · have h1 : ¬ a < b := by omega
    have h2 : ¬ a = b := by omega
    simp [h, h1, h2]
theorem cmp_eq {a b : Int} : compare a b = .eq ↔ a = b := by
  simp only [compare, compareOfLessAndEq]
  constructor
  · intro h
    split at h
    · cases h
    · split at h
      · assumption
      · cases h
  · rintro rfl
    simp
theorem cmpN_swap (a b : Nat) : compare b a = (compare a b).swap := by
  simp only [compare, compareOfLessAndEq]
  rcases Nat.lt_trichotomy a b with h | h | h
  · have h1 : ¬ b < a := by omega
    have h2 : ¬ b = a := by omega
    simp [h, h1, h2]
  · subst h; simp
  · have h1 : ¬ a < b := by omega
    have h2 : ¬ a = b := by omega
    simp [h, h1, h2]
theorem datum_swap (a b : Datum) : b.order a = (a.order b).map Ordering.swap := by
  cases a with
  | nan s t => cases b <;> rfl
  | infinity s =>
    cases b with
    | nan t u => rfl
    | infinity t => simp only [Datum.order, Option.map_some]; rw [cmpN_swap]
    | number t m i => cases s <;> rfl
  | number s m i =>
    cases b with
    | nan t u => rfl
    | infinity t => cases t <;> rfl
    | number t n j => simp only [Datum.order, Option.map_some]; rw [Int.min_comm j i, cmp_swap]
theorem fo_swap (x y : Nat) : fo y x = (fo x y).map Ordering.swap := datum_swap _ _
theorem datum_none (a b : Datum) : a.order b = none ↔ a.isNaN = true ∨ b.isNaN = true := by
  cases a <;> cases b <;> simp [Datum.order, Datum.isNaN]
theorem fo_none (x y : Nat) : fo x y = none ↔ nanB x = true ∨ nanB y = true := datum_none _ _
theorem datum_self (d : Datum) : d.order d = if d.isNaN then none else some .eq := by
  cases d with
  | number s m i => simp [Datum.order, Datum.isNaN, compare, compareOfLessAndEq]
  | infinity s => simp [Datum.order, Datum.isNaN]
  | nan s t => simp [Datum.order, Datum.isNaN]
theorem fo_self (x : Nat) : fo x x = if nanB x then none else some .eq := datum_self _
theorem signed_zero (s : Bool) (m k : Nat) : signed s m k = 0 ↔ m = 0 := by
  unfold signed
  have h : m <<< k = 0 ↔ m = 0 := by
    rw [Nat.shiftLeft_eq]
    constructor
    · intro h
      rcases Nat.mul_eq_zero.1 h with h | h
      · exact h
      · have := Nat.two_pow_pos k
        omega
    · rintro rfl
      simp
  cases s
  · simp [h]
  · simp [h]
theorem zero_read : FloatKind.f64.format.read 0 = .number false 0 (-1074) := by decide +kernel
theorem datum_zero (a b : Datum) (h : a.order b = some .eq) : a.isZero = b.isZero := by
  cases a with
  | nan s t => cases b <;> cases h
  | infinity s =>
    cases b with
    | nan t u => cases h
    | infinity t => rfl
    | number t m i => cases s <;> cases h
  | number s m i =>
    cases b with
    | nan t u => cases h
    | infinity t => cases t <;> cases h
    | number t n j =>
      simp only [Datum.order, Option.some.injEq, cmp_eq] at h
      have h1 := signed_zero s m (i - min i j).toNat
      have h2 := signed_zero t n (j - min i j).toNat
      rw [h] at h1
      have h3 : m = 0 ↔ n = 0 := h1.symm.trans h2
      cases m <;> cases n <;> simp_all [Datum.isZero]
theorem fo_zeros {x y : Nat} (h : fo x y = some .eq) : zerB x = zerB y := datum_zero _ _ h
theorem fo_zero (x : Nat) : fo x 0 = some .eq ↔ zerB x = true := by
  unfold fo zerB Format.order
  rw [zero_read]
  cases FloatKind.f64.format.read x with
  | nan s t => simp [Datum.order, Datum.isZero]
  | infinity s => cases s <;> simp [Datum.order, Datum.isZero]
  | number s m i =>
    simp only [Datum.order, Option.some.injEq, cmp_eq]
    have h1 := signed_zero s m (i - min i (-1074)).toNat
    have h2 := signed_zero false 0 (-1074 - min i (-1074)).toNat
    rw [h2.2 rfl, h1]
    cases m <;> simp [Datum.isZero]
theorem zer_eq {x y : Nat} (hx : zerB x = true) (hy : zerB y = true) : fo x y = some .eq := by
  unfold zerB at hx hy
  unfold fo Format.order
  cases ha : FloatKind.f64.format.read x with
  | nan s t => rw [ha] at hx; cases hx
  | infinity s => rw [ha] at hx; cases hx
  | number s m i =>
    cases hb : FloatKind.f64.format.read y with
    | nan s t => rw [hb] at hy; cases hy
    | infinity s => rw [hb] at hy; cases hy
    | number t n j =>
      rw [ha] at hx
      rw [hb] at hy
      have hm : m = 0 := by cases m <;> simp_all [Datum.isZero]
      have hn : n = 0 := by cases n <;> simp_all [Datum.isZero]
      simp only [Datum.order, Option.some.injEq, cmp_eq]
      rw [(signed_zero s m _).2 hm, (signed_zero t n _).2 hn]
end Go.Proofs.YtbbpngoffpegbaaGreatDoor
