/- 'fits' and 'count' ask the same; what they ask gives the Args their number. -/
import Derived.Test.YtlejmlkojohnbaaFits
import Derived.Test.YtlejmlkojohnbaaCount
import Derived.Test.YtlejmlkojohnbaaFlatP
namespace Go.Proofs.Ytlejmlkojohnbaa
open Go.RowKit
mutual
def Rl.good : Rl → Int → Prop
  | .mk op n m x y s rs, nest => nest ≠ 0 ∧ okB op n m x y s rs.length = true ∧ Rl.goods rs (nest - 1)
def Rl.goods : List Rl → Int → Prop
  | [], _ => True
  | r :: rs, nest => r.good nest ∧ Rl.goods rs nest
end
mutual
theorem Rl.fit_good : ∀ (r : Rl) (nest l : Int), ((r.fit nest l).1 = true → r.good nest ∧ (r.size : Int) ≤ l ∧ (r.fit nest l).2 = l - r.size) ∧ (r.good nest → (r.size : Int) ≤ l → (r.fit nest l).1 = true)
  | .mk op n m x y s rs, nest, l => by
    have hs := Rl.size_mk op n m x y s rs
    unfold Rl.fit Rl.good
    by_cases h : nest = 0 ∨ l - 1 < 0 ∨ okB op n m x y s rs.length = false
    · rw [if_pos h]
      refine ⟨fun h' => by simp at h', fun hg hl => ?_⟩
      rcases h with h | h | h
      · exact absurd h hg.1
      · omega
      · rw [hg.2.1] at h; simp at h
    · rw [if_neg h]
      have h1 : nest ≠ 0 := fun e => h (.inl e)
      have h2 : 0 ≤ l - 1 := by
        have : ¬ (l - 1 < 0) := fun e => h (.inr (.inl e))
        omega
      have h3 : okB op n m x y s rs.length = true := by
        cases hb : okB op n m x y s rs.length
        · exact absurd (.inr (.inr hb)) h
        · rfl
      have ih := Rl.fitS_good rs (nest - 1) (l - 1) h2
      refine ⟨fun h' => ?_, fun hg hl => ih.2 hg.2.2 (by omega)⟩
      obtain ⟨g1, g2, g3⟩ := ih.1 h'
      exact ⟨⟨h1, h3, g1⟩, by omega, by omega⟩
theorem Rl.fitS_good : ∀ (rs : List Rl) (nest l : Int), 0 ≤ l → ((Rl.fitS rs nest l).1 = true → Rl.goods rs nest ∧ (Rl.sizes rs : Int) ≤ l ∧ (Rl.fitS rs nest l).2 = l - Rl.sizes rs) ∧ (Rl.goods rs nest → (Rl.sizes rs : Int) ≤ l → (Rl.fitS rs nest l).1 = true)
  | [], nest, l => fun hl => by
    unfold Rl.fitS Rl.goods Rl.sizes
    exact ⟨fun _ => ⟨trivial, by omega, by simp⟩, fun _ _ => rfl⟩
  | r :: rs, nest, l => fun hl => by
    have hs := Rl.sizes_cons r rs
    have ihr := Rl.fit_good r nest l
    unfold Rl.fitS Rl.goods
    by_cases h : (r.fit nest l).1 = false
    · rw [if_pos h]
      refine ⟨fun h' => by simp at h', fun hg hl' => ?_⟩
      rw [ihr.2 hg.1 (by omega)] at h
      simp at h
    · rw [if_neg h]
      have h1 : (r.fit nest l).1 = true := by simpa using h
      obtain ⟨g1, g2, g3⟩ := ihr.1 h1
      have ih := Rl.fitS_good rs nest (r.fit nest l).2 (by omega)
      refine ⟨fun h' => ?_, fun hg hl' => ih.2 hg.2 (by omega)⟩
      obtain ⟨k1, k2, k3⟩ := ih.1 h'
      exact ⟨⟨g1, k1⟩, by omega, by omega⟩
end
mutual
theorem Rl.cnt_good : ∀ (r : Rl) (nest most : Int), (0 ≤ r.cnt nest most → r.cnt nest most ≤ most → r.good nest ∧ r.cnt nest most = r.size) ∧ (r.good nest → (r.size : Int) ≤ most → r.cnt nest most = r.size)
  | .mk op n m x y s rs, nest, most => by
    have hs := Rl.size_mk op n m x y s rs
    unfold Rl.cnt Rl.good
    by_cases h1 : nest = 0
    · rw [if_pos h1]
      exact ⟨fun h => by omega, fun hg => absurd h1 hg.1⟩
    · rw [if_neg h1]
      by_cases h2 : okB op n m x y s rs.length = false
      · rw [if_pos h2]
        exact ⟨fun h => by omega, fun hg => by rw [hg.2.1] at h2; simp at h2⟩
      · rw [if_neg h2]
        have h3 : okB op n m x y s rs.length = true := by simpa using h2
        have ih := Rl.cnts_good rs (nest - 1) most 1 (by omega)
        refine ⟨fun a b => ?_, fun hg hl => ?_⟩
        · obtain ⟨g1, g2⟩ := ih.1 a b
          exact ⟨⟨h1, h3, g1⟩, by omega⟩
        · rw [ih.2 hg.2.2 (by omega)]; omega
theorem Rl.cnts_good : ∀ (rs : List Rl) (nest most c : Int), 0 ≤ c → (0 ≤ Rl.cnts rs nest most c → Rl.cnts rs nest most c ≤ most → Rl.goods rs nest ∧ Rl.cnts rs nest most c = c + Rl.sizes rs) ∧ (Rl.goods rs nest → c + (Rl.sizes rs : Int) ≤ most → Rl.cnts rs nest most c = c + Rl.sizes rs)
  | [], nest, most, c => fun hc => by
    unfold Rl.cnts Rl.goods Rl.sizes
    exact ⟨fun _ _ => ⟨trivial, by simp⟩, fun _ _ => by simp⟩
  | r :: rs, nest, most, c => fun hc => by
    have hs := Rl.sizes_cons r rs
    have ihr := Rl.cnt_good r nest (most - c)
    unfold Rl.cnts Rl.goods
    by_cases h1 : most < c
    · rw [if_pos h1]
      exact ⟨fun _ h => by omega, fun _ h => by omega⟩
    · rw [if_neg h1]
      by_cases h2 : r.cnt nest (most - c) < 0
      · rw [if_pos h2]
        refine ⟨fun h => by omega, fun hg hl => ?_⟩
        have := ihr.2 hg.1 (by omega)
        omega
      · rw [if_neg h2]
        have ih := Rl.cnts_good rs nest most (c + r.cnt nest (most - c)) (by omega)
        refine ⟨fun a b => ?_, fun hg hl => ?_⟩
        · obtain ⟨k1, k2⟩ := ih.1 a b
          obtain ⟨g1, g2⟩ := ihr.1 (by omega) (by omega)
          exact ⟨⟨g1, k1⟩, by omega⟩
        · have h3 := ihr.2 hg.1 (by omega)
          rw [ih.2 hg.2 (by omega)]
          omega
end
theorem Rl.check_good (r : Rl) : (r.checkN = 0 ∧ r.mayB = true ∧ r.good 32 ∧ r.size ≤ 1000) ∨ (r.checkN = 220 ∧ r.mayB = false) := by
  have hf := Rl.fit_good r 32 1000
  have hc := Rl.cnt_good r 32 1000
  have hp := r.size_pos
  unfold Rl.checkN Rl.mayB
  by_cases h : (r.fit 32 1000).1 = true
  · obtain ⟨g1, g2, _⟩ := hf.1 h
    have := hc.2 g1 g2
    refine .inl ⟨if_pos h, ?_, g1, by omega⟩
    rw [this]
    simp only [Bool.and_eq_true, decide_eq_true_eq]
    omega
  · refine .inr ⟨if_neg h, ?_⟩
    rw [Bool.eq_false_iff]
    intro hm
    simp only [Bool.and_eq_true, decide_eq_true_eq] at hm
    obtain ⟨g1, g2⟩ := hc.1 (by omega) hm.2
    exact h (hf.2 g1 (by omega))
theorem okB_len (op n m : Int) (x y : Nat) (s : ByteArray) (len : Nat) (h : okB op n m x y s len = true) : ((op = 14 ∨ op = 18) → len = 1) ∧ (op = 17 → len = 3) := by
  refine ⟨fun h' => ?_, fun h' => ?_⟩
  · rcases h' with rfl | rfl
    · have : ((len : Int) == 1) = true := by simp [okB] at h; simpa using h.1
      have := eq_of_beq this
      omega
    · have : ((len : Int) == 1) = true := by simp [okB] at h; simpa using h.1
      have := eq_of_beq this
      omega
  · subst h'
    have : ((len : Int) == 3) = true := by simp [okB] at h; simpa using h.1
    have := eq_of_beq this
    omega
mutual
theorem Rl.good_ar : ∀ (r : Rl) (nest : Int), r.good nest → r.ar
  | .mk op n m x y s rs, nest => fun h => by
    unfold Rl.good at h
    unfold Rl.ar
    obtain ⟨h1, h2⟩ := okB_len op n m x y s rs.length h.2.1
    exact ⟨h1, h2, Rl.goods_ars rs _ h.2.2⟩
theorem Rl.goods_ars : ∀ (rs : List Rl) (nest : Int), Rl.goods rs nest → Rl.ars rs
  | [], nest => fun h => by unfold Rl.ars; trivial
  | r :: rs, nest => fun h => by
    unfold Rl.goods at h
    unfold Rl.ars
    exact ⟨Rl.good_ar r nest h.1, Rl.goods_ars rs nest h.2⟩
end
end Go.Proofs.Ytlejmlkojohnbaa
