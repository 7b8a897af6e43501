/- The runs of a list, and how 'Fold' builds them: plain words. 'block' and the reference's 'times', in plain words; the runs of a list. -/
import Derived.Test.YtmgfdcfbjgokgaaDoorRp
import Derived.Test.YtmgfdcfbjgokgaaDoorPLx13
import Derived.Test.YtmgfdcfbjgokgaaDoorPLx13
namespace Go.Proofs.YtmgfdcfbjgokgaaDoor
open Go Go.RowKit Go.Proofs.YtmgfdcfbjgokgaaDoorW.PrintWords Go.Proofs.YtmgfdcfbjgokgaaDoorW.PrintLast Go.Proofs.YtmgfdcfbjgokgaaDoorW.PrintMore Go.Proofs.YtmgfdcfbjgokgaaDoor.PL
set_option linter.unusedVariables false
set_option linter.unusedSimpArgs false

theorem toPl_inj {a b : S60} (h : toPl a = toPl b) : a = b := by
  cases a; cases b
  simp only [toPl, Prod.mk.injEq] at h
  rw [h.1, h.2]
theorem equal_l0 (a b : List S60) (hl : a.length ≤ 9223372036854775806) (hab : a.length = b.length) : ∀ (d k j : Nat), j + d = a.length → d < k → place_Place_87.l0 k a b (a.length : Int) (j : Int) = some (decide ((a.map toPl).drop j = (b.map toPl).drop j))
  | 0, k + 1, j, hj, _ => by
    simp only [place_Place_87.l0]
    rw [if_neg (by omega), List.drop_eq_nil_of_le (by rw [List.length_map]; omega), List.drop_eq_nil_of_le (by rw [List.length_map]; omega)]
    simp
  | d + 1, k + 1, j, hj, hk => by
    have hja : j < a.length := by omega
    have hjb : j < b.length := by omega
    have hr : rd_T60 a (j : Int) = a[j] := by simp [rd_T60, hja]
    have hs : rd_T60 b (j : Int) = b[j] := by simp [rd_T60, hjb]
    have he := eq_pl (toPl a[j]) (toPl b[j])
    simp only [place_Place_87.l0]
    rw [if_pos (by omega), if_pos (by omega), if_pos (by omega), if_pos (by omega), hr, hs]
    have he2 : ((!(a[j].f0.toList == b[j].f0.toList)) || (!(a[j].f1 == b[j].f1))) = decide (¬ toPl a[j] = toPl b[j]) := by
      rw [← Bool.not_and, show ((a[j].f0.toList == b[j].f0.toList) && (a[j].f1 == b[j].f1)) = decide (toPl a[j] = toPl b[j]) from he]
      simp
    rw [he2, List.drop_eq_getElem_cons (l := a.map toPl) (by rw [List.length_map]; exact hja), List.drop_eq_getElem_cons (l := b.map toPl) (by rw [List.length_map]; exact hjb), List.getElem_map, List.getElem_map]
    by_cases h : toPl a[j] = toPl b[j]
    · rw [if_neg (by simpa using h), wrap_succ j (by omega), equal_l0 a b hl hab d k (j + 1) (by omega) (by omega)]
      simp [h]
    · rw [if_pos (by simpa using h)]
      simp [h]
theorem equal_f (a b : List S60) (hl : a.length ≤ 9223372036854775806) (k : Nat) (hk : a.length + 1 ≤ k) : place_Place_87.f k a b = some (decide (a.map toPl = b.map toPl)) := by
  unfold place_Place_87.f
  by_cases h : a.length = b.length
  · rw [if_pos (by omega)]
    have := equal_l0 a b hl h a.length k 0 (by omega) (by omega)
    simpa using this
  · rw [if_neg (by omega)]
    have : ¬ a.map toPl = b.map toPl := fun e => h (by have := congrArg List.length e; simpa using this)
    simp [this]
theorem commN_all : ∀ (a b : List Pl), a.length = b.length → (commN a b = a.length ↔ a = b)
  | [], [], _ => by simp [commN]
  | x :: xs, y :: ys, h => by
    have ih := commN_all xs ys (by simpa using h)
    unfold commN
    by_cases e : x = y
    · rw [if_pos e]
      simp only [List.length_cons, Nat.add_right_cancel_iff, List.cons.injEq]
      rw [ih]
      simp [e]
    · rw [if_neg e]
      simp [e]
theorem rcomm_k' (a b : List S95) (hl : a.length ≤ 9223372036854775806) (k : Nat) (hk : a.length + 1 ≤ k) : errataref03_Common.f k a b = some (commN (a.map rpl) (b.map rpl) : Int) := by
  have h1 := rcomm_f a b hl
  have hm : ∀ n, errataref03_Common.f (a.length + 1 + n) a b = some (commN (a.map rpl) (b.map rpl) : Int) := fun n => by
    induction n with
    | zero => exact h1
    | succ n ih => exact errataref03_Common.mono _ _ _ _ ih
  have := hm (k - (a.length + 1))
  rwa [show a.length + 1 + (k - (a.length + 1)) = k by omega] at this
theorem rsame_f (a b : List S95) (hl : a.length ≤ 9223372036854775806) (k : Nat) (hk : a.length + 1 ≤ k) : errataref03_SamePlaces.f k a b = some (decide (a.map rpl = b.map rpl)) := by
  unfold errataref03_SamePlaces.f
  by_cases h : a.length = b.length
  · rw [if_pos (by omega), rcomm_k' a b hl k hk, Option.bind_some]
    congr 1
    have := commN_all (a.map rpl) (b.map rpl) (by simpa using h)
    rw [List.length_map] at this
    rw [Bool.eq_iff_iff, beq_iff_eq, decide_eq_true_eq, ← this]
    omega
  · rw [if_neg (by omega)]
    have : ¬ a.map rpl = b.map rpl := fun e => h (by have := congrArg List.length e; simpa using this)
    simp [this]
/-- How often the first p places of a list stand at its beginning, from the k-th time on. -/
def cntGo (l : List Pl) (p : Nat) : Nat → Nat → Nat
  | 0, k => k
  | f + 1, k => if (k + 1) * p ≤ l.length ∧ (l.take ((k + 1) * p)).drop (k * p) = l.take p then cntGo l p f (k + 1) else k
def cntN (l : List Pl) (p : Nat) : Nat := cntGo l p (l.length + 1) 0
theorem cntGo_ge (l : List Pl) (p : Nat) : ∀ f k, k ≤ cntGo l p f k
  | 0, k => Nat.le_refl _
  | f + 1, k => by
    unfold cntGo
    split
    · have := cntGo_ge l p f (k + 1); omega
    · exact Nat.le_refl _
theorem cntGo_fuel (l : List Pl) (p : Nat) (hp : 1 ≤ p) : ∀ (f g k : Nat), l.length < k + f → l.length < k + g → cntGo l p f k = cntGo l p g k
  | 0, 0, k, _, _ => rfl
  | 0, g + 1, k, h, _ => by
    have h1 : l.length < k := by omega
    have h2 : k + 1 ≤ (k + 1) * p := Nat.le_mul_of_pos_right _ hp
    unfold cntGo
    rw [if_neg (by omega)]
  | f + 1, 0, k, _, h => by
    have h1 : l.length < k := by omega
    have h2 : k + 1 ≤ (k + 1) * p := Nat.le_mul_of_pos_right _ hp
    unfold cntGo
    rw [if_neg (by omega)]
  | f + 1, g + 1, k, h1, h2 => by
    unfold cntGo
    rw [cntGo_fuel l p hp f g (k + 1) (by omega) (by omega)]
theorem cntGo_le (l : List Pl) (p : Nat) : ∀ (f k : Nat), k * p ≤ l.length → cntGo l p f k * p ≤ l.length
  | 0, k, h => h
  | f + 1, k, h => by
    unfold cntGo
    split
    · rename_i hc; exact cntGo_le l p f (k + 1) hc.1
    · exact h
theorem cntN_le (l : List Pl) (p : Nat) : cntN l p * p ≤ l.length := cntGo_le l p _ 0 (by omega)
theorem cntN_one (l : List Pl) (p : Nat) (hp : p ≤ l.length) : cntN l p = cntGo l p l.length 1 := by
  unfold cntN
  conv => lhs; unfold cntGo
  rw [if_pos (by simp; exact hp)]
/-- The best block among those of p places and more: its length, and how often it stands. -/
def bestGo (l : List Pl) : Nat → Nat → Nat → Nat → Nat × Nat
  | 0, _, b, o => (b, o)
  | f + 1, p, b, o => if p ≤ 8 ∧ p ≤ l.length then (if 2 ≤ cntN l p ∧ b * o < p * cntN l p then bestGo l f (p + 1) p (cntN l p) else bestGo l f (p + 1) b o) else (b, o)
def blockP (l : List Pl) : Nat × Nat := bestGo l 9 1 0 0
theorem bestGo_far (l : List Pl) : ∀ (f p b o : Nat), 1 ≤ p → l.length < 2 * p → bestGo l f p b o = (b, o)
  | 0, p, b, o, _, _ => rfl
  | f + 1, p, b, o, h1, h => by
    unfold bestGo
    split
    · have hc : ¬ 2 ≤ cntN l p := by
        intro h2
        have := cntN_le l p
        have : 2 * p ≤ cntN l p * p := Nat.mul_le_mul_right _ h2
        omega
      rw [if_neg (fun h => hc h.1)]
      exact bestGo_far l f (p + 1) b o (by omega) (by omega)
    · rfl
theorem take_pl (l : List S60) (a b : Nat) : ((l.take b).drop a).map toPl = ((l.map toPl).take b).drop a := by rw [List.map_drop, List.map_take]
theorem take_rpl (l : List S95) (a b : Nat) : ((l.take b).drop a).map rpl = ((l.map rpl).take b).drop a := by rw [List.map_drop, List.map_take]
theorem wmul (a b : Nat) (ha : a ≤ 100) (hb : b ≤ 100) : wrap64 ((a : Int) * (b : Int)) = ((a * b : Nat) : Int) := by
  have h1 : a * b ≤ 100 * 100 := Nat.mul_le_mul ha hb
  have e : ((a : Int) * (b : Int)) = ((a * b : Nat) : Int) := (Int.natCast_mul a b).symm
  rw [e]
  generalize a * b = X at h1
  unfold wrap64
  omega
/-! #### The program's -/
section
variable (l : List S60) (h64 : l.length ≤ 64)
include h64
theorem block_l1 (p : Nat) (hp : 1 ≤ p) (hp8 : p ≤ 8) (b o : Nat) (hb : b ≤ 100) (ho : o ≤ 100) (R : Option (Int × Int)) (K0 : Nat)
    (hnext : ∀ b' o' k, K0 ≤ k → (b', o') = (if 2 ≤ cntN (l.map toPl) p ∧ b * o < p * cntN (l.map toPl) p then (p, cntN (l.map toPl) p) else (b, o)) → place_block.l0 k l (b' : Int) (o' : Int) ((p + 1 : Nat) : Int) = R) :
    ∀ (f q k : Nat), cntGo (l.map toPl) p f q = cntN (l.map toPl) p → l.length < q + f → 1 ≤ q → q * p ≤ l.length → K0 + f + 66 < k → place_block.l1 k l (b : Int) (o : Int) (p : Int) (q : Int) = R
  | 0, q, k + 1, hq, hf, h1, hql, hk => by
    have : q ≤ q * p := Nat.le_mul_of_pos_right _ hp
    omega
  | f + 1, q, k + 1, hq, hf, h1, hql, hk => by
    have hqq : q ≤ q * p := Nat.le_mul_of_pos_right _ hp
    have hmul : (q + 1) * p = q * p + p := by rw [Nat.add_mul]; omega
    have hfin : cntN (l.map toPl) p = q → (if (q : Int) > 1 then (if ((p * q : Nat) : Int) > ((b * o : Nat) : Int) then place_block.l0 k l (p : Int) (q : Int) ((p + 1 : Nat) : Int) else place_block.l0 k l (b : Int) (o : Int) ((p + 1 : Nat) : Int)) else place_block.l0 k l (b : Int) (o : Int) ((p + 1 : Nat) : Int)) = R := fun hc => by
      by_cases hq1 : (q : Int) > 1
      · rw [if_pos hq1]
        by_cases hm : b * o < p * q
        · rw [if_pos (by omega)]
          exact hnext p q k (by omega) (by rw [hc, if_pos ⟨by omega, hm⟩])
        · rw [if_neg (by omega)]
          exact hnext b o k (by omega) (by rw [hc, if_neg (fun h => hm h.2)])
      · rw [if_neg hq1]
        exact hnext b o k (by omega) (by rw [hc, if_neg (by omega)])
    have hcg : cntGo (l.map toPl) p (f + 1) q = if (q + 1) * p ≤ (l.map toPl).length ∧ ((l.map toPl).take ((q + 1) * p)).drop (q * p) = (l.map toPl).take p then cntGo (l.map toPl) p f (q + 1) else q := rfl
    rw [List.length_map] at hcg
    have u1 : q < 9223372036854775807 := by omega
    have u2 : q + 1 ≤ 100 := by omega
    have u3 : q ≤ 100 := by omega
    have u4 : p ≤ 100 := by omega
    have u5 : p < 9223372036854775807 := by omega
    have e1 : wrap64 ((q : Int) + 1) = ((q + 1 : Nat) : Int) := wrap_succ q u1
    have e2 : wrap64 (((q + 1 : Nat) : Int) * (p : Int)) = (((q + 1) * p : Nat) : Int) := wmul (q + 1) p u2 u4
    have e3 : wrap64 ((q : Int) * (p : Int)) = ((q * p : Nat) : Int) := wmul q p u3 u4
    have e4 : wrap64 ((p : Int) * (q : Int)) = ((p * q : Nat) : Int) := wmul p q u4 u3
    have e5 : wrap64 ((b : Int) * (o : Int)) = ((b * o : Nat) : Int) := wmul b o hb ho
    have e6 : wrap64 ((p : Int) + 1) = ((p + 1 : Nat) : Int) := wrap_succ p u5
    rw [place_block.l1.eq_def]
    simp only [e1, e2, e3, e4, e5, e6]
    clear e1 e2 e3 e4 e5 e6
    by_cases hle : (q + 1) * p ≤ l.length
    · have hl1 : (((l.take ((q + 1) * p)).drop (q * p))).length ≤ 64 := by rw [List.length_drop, List.length_take]; omega
      rw [if_pos (by omega), if_pos (by omega), if_pos (by omega), if_pos (by omega), if_pos (by omega), Int.toNat_natCast, Int.toNat_natCast, Int.toNat_natCast, equal_f _ _ (by omega) k (by omega), Option.bind_some, take_pl, List.map_take]
      by_cases he : ((l.map toPl).take ((q + 1) * p)).drop (q * p) = (l.map toPl).take p
      · rw [if_pos (by simpa using he)]
        rw [if_pos ⟨hle, he⟩] at hcg
        exact block_l1 p hp hp8 b o hb ho R K0 hnext f (q + 1) k (by rw [← hq, hcg]) (by omega) (by omega) hle (by omega)
      · rw [if_neg (by simpa using he)]
        rw [if_neg (fun h => he h.2)] at hcg
        exact hfin (by rw [← hq, hcg])
    · rw [if_neg (by omega)]
      rw [if_neg (fun h => hle h.1)] at hcg
      exact hfin (by rw [← hq, hcg])
theorem block_l0 : ∀ (f p b o k : Nat), p + f = 9 → 1 ≤ p → b ≤ 100 → o ≤ 100 → f * 140 + 10 ≤ k → place_block.l0 k l (b : Int) (o : Int) (p : Int) = some (((bestGo (l.map toPl) f p b o).1 : Int), ((bestGo (l.map toPl) f p b o).2 : Int))
  | 0, p, b, o, k + 2, hp, h1, hb, ho, hk => by
    rw [place_block.l0.eq_def]
    simp only
    rw [if_neg (by omega), place_block.j1.eq_def]
    simp [bestGo]
  | f + 1, p, b, o, k + 2, hp, h1, hb, ho, hk => by
    have e2 : wrap64 (2 * (p : Int)) = ((2 * p : Nat) : Int) := by unfold wrap64; omega
    rw [place_block.l0.eq_def]
    simp only
    rw [e2]
    clear e2
    rw [if_pos (by omega), place_block.j1.eq_def]
    simp only
    by_cases h2 : 2 * p ≤ l.length
    · rw [if_pos (by simp; omega)]
      have hb1 : bestGo (l.map toPl) (f + 1) p b o = if 2 ≤ cntN (l.map toPl) p ∧ b * o < p * cntN (l.map toPl) p then bestGo (l.map toPl) f (p + 1) p (cntN (l.map toPl) p) else bestGo (l.map toPl) f (p + 1) b o := by
        conv => lhs; unfold bestGo
        rw [if_pos (by rw [List.length_map]; omega)]
      have hc64 : cntN (l.map toPl) p ≤ 100 := by
        have := cntN_le (l.map toPl) p
        have h3 : cntN (l.map toPl) p ≤ cntN (l.map toPl) p * p := Nat.le_mul_of_pos_right _ h1
        rw [List.length_map] at this
        omega
      refine block_l1 l h64 p h1 (by omega) b o hb ho _ (f * 140 + 10) (fun b' o' k' hk' hbo => ?_) l.length 1 k (by rw [cntN_one _ _ (by rw [List.length_map]; omega), List.length_map]) (by omega) (by omega) (by omega) (by omega)
      rw [hb1]
      by_cases hc : 2 ≤ cntN (l.map toPl) p ∧ b * o < p * cntN (l.map toPl) p
      · rw [if_pos hc] at hbo ⊢
        cases hbo
        exact block_l0 f (p + 1) p _ k' (by omega) (by omega) (by omega) hc64 hk'
      · rw [if_neg hc] at hbo ⊢
        cases hbo
        exact block_l0 f (p + 1) b o k' (by omega) (by omega) hb ho hk'
    · rw [if_neg (by simp; omega), bestGo_far _ _ _ _ _ h1 (by rw [List.length_map]; omega)]
  | 0, p, b, o, 0, hp, h1, hb, ho, hk => by omega
  | 0, p, b, o, 1, hp, h1, hb, ho, hk => by omega
  | f + 1, p, b, o, 0, hp, h1, hb, ho, hk => by omega
  | f + 1, p, b, o, 1, hp, h1, hb, ho, hk => by omega
theorem block_f : place_block.f 2000 l = some (((blockP (l.map toPl)).1 : Int), ((blockP (l.map toPl)).2 : Int)) := by
  have h0 : bestGo (l.map toPl) 9 1 0 0 = bestGo (l.map toPl) 8 1 0 0 := by
    by_cases h : 8 ≤ l.length
    · rfl
    · rfl
  unfold place_block.f blockP
  exact block_l0 l h64 8 1 0 0 2000 (by omega) (by omega) (by omega) (by omega) (by omega)
end
/-! #### The reference's -/
section
variable (l : List S95) (h64 : l.length ≤ 64)
include h64
theorem times_l0 (p : Nat) (hp : 1 ≤ p) (hp8 : p ≤ 8) (hpl : p ≤ l.length) : ∀ (f q k : Nat), cntGo (l.map rpl) p f q = cntN (l.map rpl) p → l.length < q + f → q * p ≤ l.length → f + 67 < k → errataref03_times.l0 k l (p : Int) (q : Int) = some ((cntN (l.map rpl) p : Nat) : Int)
  | 0, q, k + 1, hq, hf, hql, hk => by
    have : q ≤ q * p := Nat.le_mul_of_pos_right _ hp
    omega
  | f + 1, q, k + 1, hq, hf, hql, hk => by
    have hqq : q ≤ q * p := Nat.le_mul_of_pos_right _ hp
    have hmul : (q + 1) * p = q * p + p := by rw [Nat.add_mul]; omega
    have hcg : cntGo (l.map rpl) p (f + 1) q = if (q + 1) * p ≤ (l.map rpl).length ∧ ((l.map rpl).take ((q + 1) * p)).drop (q * p) = (l.map rpl).take p then cntGo (l.map rpl) p f (q + 1) else q := rfl
    rw [List.length_map] at hcg
    have u1 : q < 9223372036854775807 := by omega
    have u2 : q + 1 ≤ 100 := by omega
    have u3 : q ≤ 100 := by omega
    have u4 : p ≤ 100 := by omega
    have u5 : p < 9223372036854775807 := by omega
    have e1 : wrap64 ((q : Int) + 1) = ((q + 1 : Nat) : Int) := wrap_succ q u1
    have e2 : wrap64 (((q + 1 : Nat) : Int) * (p : Int)) = (((q + 1) * p : Nat) : Int) := wmul (q + 1) p u2 u4
    have e3 : wrap64 ((q : Int) * (p : Int)) = ((q * p : Nat) : Int) := wmul q p u3 u4
    simp only [errataref03_times.l0, e1, e2, e3]
    clear e1 e2 e3
    by_cases hle : (q + 1) * p ≤ l.length
    · have hl1 : (((l.take ((q + 1) * p)).drop (q * p))).length ≤ 64 := by rw [List.length_drop, List.length_take]; omega
      rw [if_pos (by omega), if_pos (by omega), if_pos (by omega), if_pos (by omega), if_pos (by omega), Int.toNat_natCast, Int.toNat_natCast, Int.toNat_natCast, rsame_f _ _ (by omega) k (by omega), Option.bind_some, take_rpl, List.map_take]
      by_cases he : ((l.map rpl).take ((q + 1) * p)).drop (q * p) = (l.map rpl).take p
      · rw [if_pos (by simpa using he)]
        rw [if_pos ⟨hle, he⟩] at hcg
        exact times_l0 p hp hp8 hpl f (q + 1) k (by rw [← hq, hcg]) (by omega) hle (by omega)
      · rw [if_neg (by simpa using he)]
        rw [if_neg (fun h => he h.2)] at hcg
        rw [← hq, hcg]
    · rw [if_neg (by omega)]
      rw [if_neg (fun h => hle h.1)] at hcg
      rw [← hq, hcg]
theorem times_f (p : Nat) (hp : 1 ≤ p) (hp8 : p ≤ 8) (hpl : p ≤ l.length) : errataref03_times.f 200 l (p : Int) = some ((cntN (l.map rpl) p : Nat) : Int) := by
  unfold errataref03_times.f
  exact times_l0 l h64 p hp hp8 hpl (l.length + 1) 0 200 (by unfold cntN; rw [List.length_map]) (by omega) (by omega) (by omega)
end
end Go.Proofs.YtmgfdcfbjgokgaaDoor
namespace Go.Proofs.YtmgfdcfbjgokgaaDoor
open Go Go.RowKit Go.Proofs.YtmgfdcfbjgokgaaDoorW.PrintWords Go.Proofs.YtmgfdcfbjgokgaaDoorW.PrintLast Go.Proofs.YtmgfdcfbjgokgaaDoorW.PrintMore Go.Proofs.YtmgfdcfbjgokgaaDoor.PL
set_option linter.unusedVariables false
set_option linter.unusedSimpArgs false

theorem bestGo_spec (l : List Pl) : ∀ (f p b o : Nat), 1 ≤ p → (b = 0 ∨ (1 ≤ b ∧ b ≤ 8 ∧ 2 ≤ o ∧ o = cntN l b)) → (bestGo l f p b o).1 = 0 ∨ (1 ≤ (bestGo l f p b o).1 ∧ (bestGo l f p b o).1 ≤ 8 ∧ 2 ≤ (bestGo l f p b o).2 ∧ (bestGo l f p b o).2 = cntN l (bestGo l f p b o).1)
  | 0, p, b, o, _, h => h
  | f + 1, p, b, o, hp, h => by
    unfold bestGo
    split
    · rename_i h8
      split
      · rename_i hc
        exact bestGo_spec l f (p + 1) p _ (by omega) (.inr ⟨hp, h8.1, hc.1, rfl⟩)
      · exact bestGo_spec l f (p + 1) b o (by omega) h
    · exact h
theorem blockP_spec (l : List Pl) : (blockP l).1 = 0 ∨ (1 ≤ (blockP l).1 ∧ (blockP l).1 ≤ 8 ∧ 2 ≤ (blockP l).2 ∧ (blockP l).2 = cntN l (blockP l).1) := bestGo_spec l 9 1 0 0 (by omega) (.inl rfl)
theorem blockP_le (l : List Pl) : (blockP l).1 * (blockP l).2 ≤ l.length := by
  rcases blockP_spec l with h | ⟨_, _, _, h⟩
  · rw [h]; omega
  · rw [h, Nat.mul_comm]; exact cntN_le _ _
/-- The last run with a further place. -/
def pushL (out : List Rn) (x : Pl) : List Rn := out.set (out.length - 1) ((out.getD (out.length - 1) ([], 0)).1 ++ [x], (out.getD (out.length - 1) ([], 0)).2)
/-- The runs of what is left, behind those that are there; single: the last one is of single places. -/
def goF : Nat → List Pl → List Rn → Bool → List Rn
  | 0, _, out, _ => out
  | k + 1, [], out, _ => out
  | k + 1, x :: r, out, single => if 0 < (blockP (x :: r)).1 then goF k ((x :: r).drop ((blockP (x :: r)).1 * (blockP (x :: r)).2)) (out ++ [((x :: r).take (blockP (x :: r)).1, ((blockP (x :: r)).2 : Int))]) false
    else goF k r (pushL (if single then out else out ++ [([], 1)]) x) true
def foldOf (l : List Pl) : List Rn × Int := if checkN l = 0 then (goF (l.length + 1) l [] false, 0) else ([], checkN l)
theorem goF_nil (k : Nat) (out : List Rn) (s : Bool) : goF k [] out s = out := by cases k <;> rfl
theorem goF_cons (k : Nat) (l : List Pl) (h : l ≠ []) (out : List Rn) (s : Bool) : goF (k + 1) l out s = if 0 < (blockP l).1 then goF k (l.drop ((blockP l).1 * (blockP l).2)) (out ++ [(l.take (blockP l).1, ((blockP l).2 : Int))]) false
    else goF k (l.drop 1) (pushL (if s then out else out ++ [([], 1)]) (l.headD (⟨#[]⟩, 0))) true := by
  cases l with
  | nil => exact absurd rfl h
  | cons x r => rfl
/-- The same of the program's runs. -/
def pushS (rs : List S50) (y : S60) : List S50 := rs.set (rs.length - 1) ⟨(rs.getD (rs.length - 1) z50).f0 ++ [y], (rs.getD (rs.length - 1) z50).f1⟩
theorem getD_run (rs : List S50) (i : Nat) : (rs.map run50).getD i ([], 0) = run50 (rs.getD i z50) := by
  rw [List.getD_eq_getElem?_getD, List.getD_eq_getElem?_getD, List.getElem?_map]
  cases rs[i]? <;> rfl
theorem pushS_run (rs : List S50) (y : S60) : (pushS rs y).map run50 = pushL (rs.map run50) (toPl y) := by
  unfold pushS pushL
  rw [List.map_set, List.length_map, getD_run]
  simp [run50]
def pushR (rs : List S52) (y : S95) : List S52 := rs.set (rs.length - 1) ⟨(rs.getD (rs.length - 1) z52).f0 ++ [y], (rs.getD (rs.length - 1) z52).f1⟩
theorem getD_rrun (rs : List S52) (i : Nat) : (rs.map run52).getD i ([], 0) = run52 (rs.getD i z52) := by
  rw [List.getD_eq_getElem?_getD, List.getD_eq_getElem?_getD, List.getElem?_map]
  cases rs[i]? <;> rfl
theorem pushR_run (rs : List S52) (y : S95) : (pushR rs y).map run52 = pushL (rs.map run52) (rpl y) := by
  unfold pushR pushL
  rw [List.map_set, List.length_map, getD_rrun]
  simp [run52]
theorem pushS_len (rs : List S50) (y : S60) : (pushS rs y).length = rs.length := by simp [pushS]
theorem pushR_len (rs : List S52) (y : S95) : (pushR rs y).length = rs.length := by simp [pushR]
theorem pushS_bd (rs : List S50) (y : S60) (b : Nat) (h : ∀ r ∈ rs, r.f0.length ≤ b) : ∀ r ∈ pushS rs y, r.f0.length ≤ b + 1 := by
  intro r hr
  unfold pushS at hr
  rcases List.mem_or_eq_of_mem_set hr with hr | rfl
  · have := h r hr; omega
  · rw [List.length_append]
    rw [List.getD_eq_getElem?_getD]
    cases hg : rs[rs.length - 1]? with
    | none => simp [z50]
    | some q => have := h q (List.mem_of_getElem? hg); simp; omega
theorem pushR_bd (rs : List S52) (y : S95) (b : Nat) (h : ∀ r ∈ rs, r.f0.length ≤ b) : ∀ r ∈ pushR rs y, r.f0.length ≤ b + 1 := by
  intro r hr
  unfold pushR at hr
  rcases List.mem_or_eq_of_mem_set hr with hr | rfl
  · have := h r hr; omega
  · rw [List.length_append]
    rw [List.getD_eq_getElem?_getD]
    cases hg : rs[rs.length - 1]? with
    | none => simp [z52]
    | some q => have := h q (List.mem_of_getElem? hg); simp; omega
theorem pushL_bd (out : List Rn) (x : Pl) (b : Nat) (h : ∀ r ∈ out, r.1.length ≤ b) : ∀ r ∈ pushL out x, r.1.length ≤ b + 1 := by
  intro r hr
  unfold pushL at hr
  rcases List.mem_or_eq_of_mem_set hr with hr | rfl
  · have := h r hr; omega
  · rw [List.length_append]
    rw [List.getD_eq_getElem?_getD]
    cases hg : out[out.length - 1]? with
    | none => simp
    | some q => have := h q (List.mem_of_getElem? hg); simp; omega
theorem pushL_len (out : List Rn) (x : Pl) : (pushL out x).length = out.length := by simp [pushL]
theorem goF_bd : ∀ (k : Nat) (l : List Pl) (out : List Rn) (s : Bool), out.length + l.length ≤ 64 → (∀ r ∈ out, r.1.length + l.length ≤ 64) → (goF k l out s).length ≤ 64 ∧ ∀ r ∈ goF k l out s, r.1.length ≤ 64
  | 0, l, out, s, h1, h2 => ⟨by show out.length ≤ 64; omega, fun r hr => by have := h2 r hr; omega⟩
  | k + 1, [], out, s, h1, h2 => ⟨by show out.length ≤ 64; omega, fun r hr => by have := h2 r hr; omega⟩
  | k + 1, x :: r, out, s, h1, h2 => by
    have hle := blockP_le (x :: r)
    have hsp := blockP_spec (x :: r)
    rw [goF_cons _ _ (by simp)]
    split
    · rename_i hp
      have hk2 : 2 ≤ (blockP (x :: r)).2 := by rcases hsp with h | ⟨_, _, h, _⟩ <;> omega
      have hpm : (blockP (x :: r)).1 * 1 ≤ (blockP (x :: r)).1 * (blockP (x :: r)).2 := Nat.mul_le_mul_left _ (by omega)
      refine goF_bd k _ _ _ (by rw [List.length_append, List.length_drop, List.length_singleton]; omega) (fun q hq => ?_)
      rw [List.length_drop]
      rcases List.mem_append.1 hq with hq | hq
      · have := h2 q hq; omega
      · rw [List.mem_singleton.1 hq]
        show ((x :: r).take _).length + _ ≤ 64
        rw [List.length_take]; omega
    · have hl : (x :: r).length = r.length + 1 := rfl
      have hol : (if s then out else out ++ [([], 1)]).length ≤ out.length + 1 := by split <;> simp
      have hob : ∀ q ∈ (if s then out else out ++ [([], 1)]), q.1.length ≤ 64 - (x :: r).length := by
        intro q hq
        split at hq
        · have := h2 q hq; omega
        · rcases List.mem_append.1 hq with hq | hq
          · have := h2 q hq; omega
          · rw [List.mem_singleton.1 hq]; simp
      refine goF_bd k _ _ _ (by rw [pushL_len, List.length_drop]; omega) (fun q hq => ?_)
      have := pushL_bd _ _ _ hob q hq
      rw [List.length_drop]; omega
theorem foldOf_bd (l : List Pl) : (foldOf l).1.length ≤ 64 ∧ ∀ r ∈ (foldOf l).1, r.1.length ≤ 64 := by
  unfold foldOf
  split
  · rename_i h
    have := (checkN_zero h).1
    exact goF_bd _ _ _ _ (by simp; omega) (fun r hr => by simp at hr)
  · simp
end Go.Proofs.YtmgfdcfbjgokgaaDoor
