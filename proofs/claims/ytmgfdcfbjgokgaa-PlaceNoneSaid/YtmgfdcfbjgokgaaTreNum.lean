/- The tree of stacks, VIII: what 'number' and 'text' take, in plain words. -/
import Derived.Test.YtmgfdcfbjgokgaaPLx3
import Derived.Laws.BitsLemmas
namespace Go.Proofs.Ytmgfdcfbjgokgaa
open Go Go.RowKit Go.Proofs.YtmgfdcfbjgokgaaW.PrintWords Go.Proofs.YtmgfdcfbjgokgaaW.PrintLast Go.Proofs.Ytmgfdcfbjgokgaa.PL
set_option linter.unusedVariables false
set_option linter.unusedSimpArgs false

def bN (s : ByteArray) (i : Nat) : Nat := (bt s (i : Int)).toNat
theorem bN_eq (s : ByteArray) (i : Nat) : bt s (i : Int) = (bN s i : Nat) := by have := bt_range s i; unfold bN; omega
theorem bN_lt (s : ByteArray) (i : Nat) : bN s i < 256 := by have := bt_range s i; unfold bN; omega
/-- Value and last byte's place of the short number that stands at the front, from byte i on. -/
def numG (s : ByteArray) : Nat → Nat → Nat → Option (Nat × Nat)
  | 0, _, _ => none
  | f + 1, i, acc => if i < s.size then (if bN s i < 128 then some (acc + bN s i % 128 * 128 ^ i, i) else numG s f (i + 1) (acc + bN s i % 128 * 128 ^ i)) else none
def numP (s : ByteArray) (bad : Bool) (most : Nat) : Nat × ByteArray × Bool :=
  match numG s 4 0 0 with
  | none => (0, s, true)
  | some (n, j) => (n, s.extract (j + 1) s.size, bad || decide (most < n) || (decide (0 < j) && decide (bN s j = 0)))
def textP (s : ByteArray) (bad : Bool) (n : Nat) : ByteArray × ByteArray × Bool := if bad then (⟨#[]⟩, s, true) else if s.size < n then (⟨#[]⟩, s, true) else (s.extract 0 n, s.extract n s.size, bad)
theorem bits_or_comm (k : IntKind) (x y : Int) : bits .or k x y = bits .or k y x := by unfold bits; simp only; rw [BitVec.or_comm]
theorem wraps_i64 (n : Int) (h0 : 0 ≤ n) (h1 : n < 2 ^ 63) : IntKind.i64.wrap n = n := by rw [IntKind.wrap_i64]; omega
theorem or_step (acc b i : Nat) (hb : b < 256) (hi : i < 4) (ha : acc < 128 ^ i) : bits .or .i64 (acc : Int) (shl .i64 (wrap64 (bits .and .u8 (b : Int) 127)) (wrap64 (7 * (i : Int)))) = ((acc + b % 128 * 128 ^ i : Nat) : Int) := by
  have h1 : bits .and .u8 (b : Int) 127 = ((b % 128 : Nat) : Int) := by
    have := bits_mask .u8 8 (by decide) wraps_u8 7 (by decide) (b : Int) (by omega) (by omega)
    rw [show (2 : Int) ^ 7 - 1 = 127 by decide, show (2 : Int) ^ 7 = 128 by decide] at this
    rw [this]
    omega
  have h2 : wrap64 ((b % 128 : Nat) : Int) = ((b % 128 : Nat) : Int) := by unfold wrap64; omega
  have hm : b % 128 < 128 := Nat.mod_lt _ (by decide)
  rw [h1, h2, bits_or_comm]
  generalize b % 128 = c at hm
  have key : ∀ (j : Nat), (wrap64 (7 * (i : Int))).toNat = j → j < 28 → 128 ^ i = 2 ^ j → bits .or .i64 (shl .i64 ((c : Nat) : Int) (wrap64 (7 * (i : Int)))) (acc : Int) = ((acc + c * 128 ^ i : Nat) : Int) := by
    intro j hj hj2 hp
    unfold shl
    rw [hj, Nat.min_eq_left (by show j ≤ 64; omega)]
    have hpow : (2 : Int) ^ j = ((2 ^ j : Nat) : Int) := by simp
    have hle : 2 ^ j ≤ 2 ^ 27 := Nat.pow_le_pow_right (by decide) (by omega)
    have hc1 : c * 2 ^ j ≤ 127 * 2 ^ 27 := Nat.mul_le_mul (by omega) hle
    have hbig : (127 : Nat) * 2 ^ 27 < 2 ^ 62 := by decide
    rw [hpow, ← Int.natCast_mul, wraps_i64 _ (by omega) (by omega)]
    rw [hp] at ha ⊢
    have hb := bits_join .i64 63 (by decide) wraps_i64 j ((c * 2 ^ j : Nat) : Int) (acc : Int) (by omega) (by rw [hpow, ← Int.natCast_emod, Nat.mul_mod_left]; rfl) (by omega) (by omega) (by rw [hpow]; omega) (by omega)
    rw [hb]
    omega
  have hw : wrap64 (7 * (i : Int)) = 7 * (i : Int) := by unfold wrap64; omega
  refine key (7 * i) (by rw [hw]; omega) (by omega) ?_
  rw [show 128 = 2 ^ 7 by decide, ← Nat.pow_mul]
theorem num_l0 (s : ByteArray) (bad : Bool) (most : Nat) (hs : s.size ≤ 9223372036854775807) : ∀ (f i acc k : Nat), i + f = 4 → acc < 128 ^ i → 2 * f + 2 ≤ k →
    place_reader_number.l0 k (most : Int) (acc : Int) (i : Int) s bad = some (match numG s f i acc with | none => (0, s, true) | some (n, j) => ((n : Int), s.extract (j + 1) s.size, bad || decide (most < n) || (decide (0 < j) && decide (bN s j = 0))))
  | 0, i, acc, k + 2, hi, ha, hk => by
    have h4 : i = 4 := by omega
    subst h4
    have h2 : decide (((4 : Nat) : Int) < 4) = false := by decide
    simp only [place_reader_number.l0, place_reader_number.j1, numG, h2, Bool.false_eq_true, if_false]
    exact ite_self _
  | f + 1, i, acc, k + 2, hi, ha, hk => by
    have g2 : decide ((i : Int) < 4) = true := by simp; omega
    have g3 : (0 : Int) ≤ (i : Int) := by omega
    simp only [place_reader_number.l0, place_reader_number.j1, numG]
    by_cases hlt : i < s.size
    · have g1 : (i : Int) < (s.size : Int) := by omega
      have hw : wrap64 (7 * (i : Int)) = 7 * (i : Int) := by unfold wrap64; omega
      have g4 : 0 ≤ wrap64 (7 * (i : Int)) := by rw [hw]; omega
      have hw1 : wrap64 ((i : Int) + 1) = ((i + 1 : Nat) : Int) := by unfold wrap64; omega
      have hst := or_step acc (bN s i) i (bN_lt s i) (by omega) ha
      obtain ⟨V, hV⟩ : ∃ V, V = acc + bN s i % 128 * 128 ^ i := ⟨_, rfl⟩
      rw [← hV] at hst ⊢
      have hj : (0 : Int) ≤ ((i + 1 : Nat) : Int) := by omega
      have hj2 : ((i + 1 : Nat) : Int) ≤ (s.size : Int) := by omega
      simp only [g1, g2, g3, g4, if_true, bN_eq, hst, hw1, hlt, hj, hj2, Int.toNat_natCast]
      by_cases hb : bN s i < 128
      · rw [if_pos (by omega), if_pos hb]
        simp only
        cases bad with
        | true => simp only [Bool.true_or, if_true]
        | false =>
          simp only [Bool.false_eq_true, if_false, Bool.false_or]
          by_cases hm : most < V
          · rw [if_pos (show (V : Int) > (most : Int) by omega), decide_eq_true hm, Bool.true_or]
          · rw [if_neg (show ¬ (V : Int) > (most : Int) by omega), decide_eq_false hm, Bool.false_or]
            by_cases h0 : 0 < i
            · rw [if_pos (show (i : Int) > 0 by omega), decide_eq_true h0, Bool.true_and]
              congr 3
              rw [Bool.eq_iff_iff, beq_iff_eq, decide_eq_true_eq]
              omega
            · rw [if_neg (show ¬ (i : Int) > 0 by omega), decide_eq_false h0, Bool.false_and]
      · rw [if_neg (by omega), if_neg hb]
        have hlt2 : V < 128 ^ (i + 1) := by
          have h1 : bN s i % 128 ≤ 127 := by omega
          have h2 := Nat.mul_le_mul_right (128 ^ i) h1
          rw [Nat.pow_succ]
          omega
        exact num_l0 s bad most hs f (i + 1) V k (by omega) hlt2 (by omega)
    · have g1 : ¬ (i : Int) < (s.size : Int) := by omega
      simp only [g1, if_false, hlt, Bool.false_eq_true]
theorem num_f (s : ByteArray) (bad : Bool) (most : Nat) (hs : s.size ≤ 9223372036854775807) : place_reader_number.f 10 s bad (most : Int) = some (((numP s bad most).1 : Int), (numP s bad most).2.1, (numP s bad most).2.2) := by
  have := num_l0 s bad most hs 4 0 0 10 rfl (by decide) (by decide)
  unfold place_reader_number.f numP
  refine this.trans ?_
  cases numG s 4 0 0 with
  | none => rfl
  | some r => rfl
theorem text_f (s : ByteArray) (bad : Bool) (n : Nat) : place_reader_text.f s bad (n : Int) = some ((textP s bad n).1, (textP s bad n).2.1, (textP s bad n).2.2) := by
  unfold place_reader_text.f textP
  cases bad with
  | true => simp
  | false =>
    simp only [Bool.false_eq_true, if_false]
    by_cases h : s.size < n
    · rw [if_pos (by omega), if_pos h]
    · rw [if_neg (by omega), if_neg h, if_pos (by omega), if_pos (by omega)]
      simp
theorem numG_lt (s : ByteArray) : ∀ (f i acc : Nat) (n j : Nat), i + f = 4 → acc < 128 ^ i → numG s f i acc = some (n, j) → n < 268435456 ∧ j < s.size
  | 0, i, acc, n, j, _, _, h => by simp [numG] at h
  | f + 1, i, acc, n, j, hi, ha, h => by
    have hlt2 : acc + bN s i % 128 * 128 ^ i < 128 ^ (i + 1) := by
      have h1 : bN s i % 128 ≤ 127 := by omega
      have h2 := Nat.mul_le_mul_right (128 ^ i) h1
      rw [Nat.pow_succ]
      omega
    unfold numG at h
    split at h
    · rename_i hs
      split at h
      · simp only [Option.some.injEq, Prod.mk.injEq] at h
        obtain ⟨h1, h2⟩ := h
        have : 128 ^ (i + 1) ≤ 128 ^ 4 := Nat.pow_le_pow_right (by decide) (by omega)
        have h128 : 128 ^ 4 = 268435456 := by decide
        omega
      · exact numG_lt s f (i + 1) _ n j (by omega) hlt2 h
    · cases h
theorem numP_lt (s : ByteArray) (bad : Bool) (most : Nat) : (numP s bad most).1 < 268435456 ∧ (numP s bad most).2.1.size ≤ s.size := by
  unfold numP
  cases h : numG s 4 0 0 with
  | none => exact ⟨by show 0 < 268435456; omega, Nat.le_refl _⟩
  | some r =>
    have := numG_lt s 4 0 0 r.1 r.2 rfl (by decide) h
    exact ⟨this.1, by show (s.extract (r.2 + 1) s.size).size ≤ _; rw [ByteArray.size_extract]; omega⟩
theorem textP_le (s : ByteArray) (bad : Bool) (n : Nat) : (textP s bad n).1.size ≤ s.size ∧ (textP s bad n).2.1.size ≤ s.size := by
  have h0 : (⟨#[]⟩ : ByteArray).size = 0 := rfl
  unfold textP
  split
  · exact ⟨by show (⟨#[]⟩ : ByteArray).size ≤ _; omega, Nat.le_refl _⟩
  split
  · exact ⟨by show (⟨#[]⟩ : ByteArray).size ≤ _; omega, Nat.le_refl _⟩
  · exact ⟨by show (s.extract 0 n).size ≤ _; rw [ByteArray.size_extract]; omega, by show (s.extract n s.size).size ≤ _; rw [ByteArray.size_extract]; omega⟩
end Go.Proofs.Ytmgfdcfbjgokgaa
