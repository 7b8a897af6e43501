/- 'fit', 'alike' and 'Common' in plain words. -/
import Derived.Test.YtmgfdcfbjgokgaaDoorParse
import Derived.Test.YtmgfdcfbjgokgaaDoorTextA
import Derived.Test.YtmgfdcfbjgokgaaDoorPLx7
import Derived.Test.YtmgfdcfbjgokgaaDoorPLx15
import Derived.Test.YtmgfdcfbjgokgaaDoorPLx16
namespace Go.Proofs.YtmgfdcfbjgokgaaDoor
open Go.RowKit Go.Proofs.YtmgfdcfbjgokgaaDoorW.PrintWords Go.Proofs.YtmgfdcfbjgokgaaDoorW.PrintLast Go.Proofs.YtmgfdcfbjgokgaaDoorW.PrintMore Go.Proofs.YtmgfdcfbjgokgaaDoor.PL
set_option linter.unusedVariables false
set_option linter.unusedSimpArgs false

theorem bs_ext {a b : ByteArray} (h : a.data.toList = b.data.toList) : a = b := by
  cases a; cases b
  simp only at h
  congr
  exact Array.toList_inj.1 h
theorem ofPl_toPl (l : List S60) : (l.map toPl).map ofPl = l := by
  rw [List.map_map]
  conv => rhs; rw [← List.map_id l]
  rfl
def commN : List Pl → List Pl → Nat
  | x :: xs, y :: ys => if x = y then commN xs ys + 1 else 0
  | _, _ => 0
theorem commN_le : ∀ (a b : List Pl), commN a b ≤ a.length ∧ commN a b ≤ b.length
  | [], b => by simp [commN]
  | x :: xs, [] => by simp [commN]
  | x :: xs, y :: ys => by
    have := commN_le xs ys
    unfold commN
    split <;> simp <;> omega
theorem commN_drop (a b : List Pl) (j : Nat) (ha : j < a.length) (hb : j < b.length) : commN (a.drop j) (b.drop j) = if a[j] = b[j] then commN (a.drop (j + 1)) (b.drop (j + 1)) + 1 else 0 := by
  rw [List.drop_eq_getElem_cons ha, List.drop_eq_getElem_cons hb]
  rfl
theorem eq_pl (x y : Pl) : ((x.1.toList == y.1.toList) && (x.2 == y.2)) = decide (x = y) := by
  rw [Bool.eq_iff_iff, Bool.and_eq_true, decide_eq_true_eq]
  simp only [beq_iff_eq]
  constructor
  · rintro ⟨h1, h2⟩
    rw [ByteArray.toList_eq, ByteArray.toList_eq] at h1
    exact Prod.ext (bs_ext h1) h2
  · rintro rfl
    exact ⟨rfl, rfl⟩
theorem comm_l0 (a b : List S60) (hl : a.length ≤ 9223372036854775806) (m : Nat) (ha : m ≤ a.length) (hb : m ≤ b.length) (hz : m = a.length ∨ m = b.length) : ∀ (d k j : Nat), j + d = m → d < k → place_Common.l0 k a b (m : Int) (m : Int) (j : Int) = some ((j + commN ((a.map toPl).drop j) ((b.map toPl).drop j) : Nat) : Int)
  | 0, k + 1, j, hj, _ => by
    have e : commN ((a.map toPl).drop j) ((b.map toPl).drop j) = 0 := by
      rcases hz with h | h
      · rw [List.drop_eq_nil_of_le (by rw [List.length_map]; omega)]
        simp [commN]
      · have hn : (b.map toPl).drop j = [] := List.drop_eq_nil_of_le (by rw [List.length_map]; omega)
        rw [hn]
        cases (a.map toPl).drop j <;> simp [commN]
    rw [e]
    simp only [place_Common.l0]
    rw [if_neg (by omega)]
    congr 1
    omega
  | d + 1, k + 1, j, hj, hk => by
    have hja : j < a.length := by omega
    have hjb : j < b.length := by omega
    have hr : rd_T60 a (j : Int) = a[j] := by simp [rd_T60, hja]
    have hs : rd_T60 b (j : Int) = b[j] := by simp [rd_T60, hjb]
    have he := eq_pl (toPl a[j]) (toPl b[j])
    simp only [place_Common.l0]
    rw [if_pos (by omega), if_pos (by omega), if_pos (by omega), if_pos (by omega), hr, hs, commN_drop _ _ j (by rw [List.length_map]; exact hja) (by rw [List.length_map]; exact hjb), List.getElem_map, List.getElem_map]
    have he2 : ((!(a[j].f0.toList == b[j].f0.toList)) || (!(a[j].f1 == b[j].f1))) = decide (¬ toPl a[j] = toPl b[j]) := by
      rw [← Bool.not_and, show ((a[j].f0.toList == b[j].f0.toList) && (a[j].f1 == b[j].f1)) = decide (toPl a[j] = toPl b[j]) from he]
      simp
    rw [he2]
    by_cases h : toPl a[j] = toPl b[j]
    · rw [if_neg (by simpa using h), if_pos h, wrap_succ j (by omega), comm_l0 a b hl m ha hb hz d k (j + 1) (by omega) (by omega)]
      congr 1
      omega
    · rw [if_pos (by simpa using h), if_neg h]
      rfl
theorem comm_f (a b : List S60) (hl : a.length ≤ 9223372036854775806) : place_Common.f (a.length + 1) a b = some (commN (a.map toPl) (b.map toPl) : Int) := by
  have e : mn (a.length : Int) (b.length : Int) = ((min a.length b.length : Nat) : Int) := by unfold mn; split <;> omega
  have := comm_l0 a b hl (min a.length b.length) (by omega) (by omega) (by omega) (min a.length b.length) (a.length + 1) 0 (by omega) (by omega)
  unfold place_Common.f
  rw [e]
  simpa using this
def mayP (p : Pl) : Bool := mayB p.1 p.2
theorem check_64 {l : List Pl} (h : l.length ≤ 64) : checkN l = if l.all mayP then 0 else 30 := by
  unfold checkN mayP
  split
  · rw [if_neg (by omega)]
  · rfl
/-! #### 'alike' and 'fit' -/
theorem alike_l0 (a b : List S60) (hl : a.length ≤ 9223372036854775806) (hab : a.length = b.length) : ∀ (d k j : Nat), j + d = a.length → d < k → erratalaw03_alike.l0 k a b (j : Int) = some (decide ((a.map toPl).drop j = (b.map toPl).drop j))
  | 0, k + 1, j, hj, _ => by
    simp only [erratalaw03_alike.l0]
    rw [if_neg (by omega), List.drop_eq_nil_of_le (by rw [List.length_map]; omega), List.drop_eq_nil_of_le (by rw [List.length_map]; omega)]
    simp
  | d + 1, k + 1, j, hj, hk => by
    have hja : j < a.length := by omega
    have hjb : j < b.length := by omega
    have hr : rd_T60 a (j : Int) = a[j] := by simp [rd_T60, hja]
    have hs : rd_T60 b (j : Int) = b[j] := by simp [rd_T60, hjb]
    have he := eq_pl (toPl a[j]) (toPl b[j])
    simp only [erratalaw03_alike.l0]
    rw [if_pos (by omega), if_pos (by omega), if_pos (by omega), hr, hs]
    have he2 : ((!(a[j].f0.toList == b[j].f0.toList)) || (!(a[j].f1 == b[j].f1))) = decide (¬ toPl a[j] = toPl b[j]) := by
      rw [← Bool.not_and, show ((a[j].f0.toList == b[j].f0.toList) && (a[j].f1 == b[j].f1)) = decide (toPl a[j] = toPl b[j]) from he]
      simp
    rw [he2, List.drop_eq_getElem_cons (l := a.map toPl) (by rw [List.length_map]; exact hja), List.drop_eq_getElem_cons (l := b.map toPl) (by rw [List.length_map]; exact hjb), List.getElem_map, List.getElem_map]
    by_cases h : toPl a[j] = toPl b[j]
    · rw [if_neg (by simpa using h), wrap_succ j (by omega), alike_l0 a b hl hab d k (j + 1) (by omega) (by omega)]
      simp [h]
    · rw [if_pos (by simpa using h)]
      simp [h]
theorem alike_f (a b : List S60) (hl : a.length ≤ 9223372036854775806) : erratalaw03_alike.f (a.length + 1) a b = some (decide (a.map toPl = b.map toPl)) := by
  unfold erratalaw03_alike.f
  by_cases h : a.length = b.length
  · rw [if_pos (by omega)]
    have := alike_l0 a b hl h a.length (a.length + 1) 0 (by omega) (by omega)
    simpa using this
  · rw [if_neg (by omega)]
    have : ¬ a.map toPl = b.map toPl := fun e => h (by have := congrArg List.length e; simpa using this)
    simp [this]
def okI (e : Int) : Prop := 33 ≤ e ∧ e ≤ 126 ∧ e ≠ 58
theorem may_nums (xs : List Int) (n : Int) (h : ∀ e ∈ xs, okI e) (h1 : 1 ≤ xs.length) (h2 : xs.length ≤ 120) (h3 : 0 ≤ n) (h4 : n ≤ 1048576) : mayB (strOfNums xs) n = true := by
  have hn : okName (strOfNums xs) = true := by
    unfold okName
    rw [strOfNums_data, List.all_eq_true]
    intro c hc
    obtain ⟨e, he, rfl⟩ := List.mem_map.1 hc
    have hi := h e he
    unfold okI at hi
    have hc : (UInt8.ofNat e.toNat).toNat = e.toNat := by
      rw [UInt8.toNat_ofNat']
      omega
    unfold okByte
    rw [hc]
    simp
    omega
  unfold mayB
  rw [hn, strOfNums_size]
  simp
  omega
theorem line_ok (n : Int) : 0 ≤ Int.tmod (wrap64 (Int.tmod n 1048577 + 1048577)) 1048577 ∧ Int.tmod (wrap64 (Int.tmod n 1048577 + 1048577)) 1048577 ≤ 1048576 := by
  have h1 : Int.tmod n 1048577 < 1048577 := Int.tmod_lt_of_pos _ (by decide)
  have h2 : -1048577 < Int.tmod n 1048577 := Int.lt_tmod_of_pos _ (by decide)
  have hw : wrap64 (Int.tmod n 1048577 + 1048577) = Int.tmod n 1048577 + 1048577 := by unfold wrap64; omega
  rw [hw]
  have h3 := Int.tmod_nonneg 1048577 (show 0 ≤ Int.tmod n 1048577 + 1048577 by omega)
  have h4 := Int.tmod_lt_of_pos (Int.tmod n 1048577 + 1048577) (show (0 : Int) < 1048577 by decide)
  omega
section
variable (l : List S96) (hl : l.length ≤ 9223372036854775806) (hs : ∀ x ∈ l, x.f0.size ≤ 9223372036854775807)
include hl hs
theorem fit_l1 (x3 : List S60) (h3 : x3.length ≤ 64) (j : Nat) (hj : j < l.length) (Q : List S60 → Prop) (K0 : Nat)
    (hnext : ∀ k nm n, K0 ≤ k → mayB nm n = true → ∃ r, erratalaw03_fit.l0 k l (x3 ++ [⟨nm, n⟩]) ((j + 1 : Nat) : Int) = some r ∧ Q r) :
    ∀ (m k i : Nat) (acc : List Int), i + m = (l[j].f0).size → K0 + 2 * m + 2 ≤ k → (∀ e ∈ acc, okI e) → acc.length ≤ 120 → ∃ r, erratalaw03_fit.l1 k l x3 (j : Int) acc (i : Int) = some r ∧ Q r := by
  have hr : rd_T96 l (j : Int) = l[j] := by simp [rd_T96, hj]
  have hz := hs l[j] (List.getElem_mem hj)
  have hend : ∀ k i (acc : List Int), K0 < k → (∀ e ∈ acc, okI e) → acc.length ≤ 120 → ∃ r, erratalaw03_fit.j3 k l x3 (j : Int) acc i false = some r ∧ Q r := by
    intro k i acc hk ha hc
    obtain ⟨k, rfl⟩ : ∃ q, k = q + 1 := ⟨k - 1, by omega⟩
    have hln := line_ok l[j].f1
    simp only [erratalaw03_fit.j3]
    rw [if_neg (by decide), hr, wrap_succ j (by omega)]
    by_cases h0 : acc.length = 0
    · rw [if_pos (by omega), if_pos (by omega), if_pos (by omega), if_pos (by omega), if_pos (by omega)]
      exact hnext k _ _ (by omega) (may_nums _ _ (fun e he => by
        rcases List.mem_append.1 he with he | he
        · exact ha e he
        · rw [List.mem_singleton.1 he]; exact ⟨by decide, by decide, by decide⟩) (by simp) (by rw [List.length_append, List.length_singleton]; omega) hln.1 hln.2)
    · rw [if_neg (by omega), if_pos (by omega), if_pos (by omega), if_pos (by omega)]
      exact hnext k _ _ (by omega) (may_nums _ _ ha (by omega) hc hln.1 hln.2)
  intro m
  induction m with
  | zero =>
    intro k i acc hi hk ha hc
    obtain ⟨k, rfl⟩ : ∃ q, k = q + 1 := ⟨k - 1, by omega⟩
    simp only [erratalaw03_fit.l1]
    rw [if_pos (by omega), if_pos (by omega), hr, if_neg (by omega)]
    exact hend k _ acc (by omega) ha hc
  | succ m ih =>
    intro k i acc hi hk ha hc
    obtain ⟨k, rfl⟩ : ∃ q, k = q + 1 := ⟨k - 1, by omega⟩
    simp only [erratalaw03_fit.l1]
    rw [if_pos (by omega), if_pos (by omega), hr, if_pos (by omega)]
    by_cases h120 : acc.length < 120
    · rw [decide_eq_true (by omega)]
      obtain ⟨k, rfl⟩ : ∃ q, k = q + 1 := ⟨k - 1, by omega⟩
      simp only [erratalaw03_fit.j3]
      rw [if_pos trivial, if_pos (by omega), if_pos (by omega), if_pos (by omega), hr, if_pos (by omega), wrap_succ i (by omega)]
      generalize bt l[j].f0 (i : Int) = e
      have skip : ∃ r, erratalaw03_fit.l1 k l x3 (j : Int) acc ((i + 1 : Nat) : Int) = some r ∧ Q r := ih k (i + 1) acc (by omega) (by omega) ha hc
      by_cases c1 : e ≥ 33
      · rw [if_pos c1]
        by_cases c2 : e ≤ 126
        · rw [if_pos c2]
          by_cases c3 : e = 58
          · rw [if_pos c3]; exact skip
          · rw [if_neg c3, if_pos (by omega)]
            exact ih k (i + 1) (acc ++ [e]) (by omega) (by omega) (fun q hq => by
              rcases List.mem_append.1 hq with hq | hq
              · exact ha q hq
              · rw [List.mem_singleton.1 hq]; exact ⟨c1, c2, c3⟩) (by rw [List.length_append, List.length_singleton]; omega)
        · rw [if_neg c2]; exact skip
      · rw [if_neg c1]; exact skip
    · rw [decide_eq_false (by omega)]
      exact hend k _ acc (by omega) ha hc
theorem fit_l0 : ∀ (d j : Nat), j + d = 64 → ∃ K, ∀ (k : Nat) (x3 : List S60), K ≤ k → x3.length = j → (∀ x ∈ x3, mayP (toPl x) = true) → ∃ r, erratalaw03_fit.l0 k l x3 (j : Int) = some r ∧ (r.length ≤ 64 ∧ ∀ x ∈ r, mayP (toPl x) = true)
  | 0, j, hj => ⟨2, fun k x3 hk h3 hm => by
    obtain ⟨k, rfl⟩ : ∃ q, k = q + 2 := ⟨k - 2, by omega⟩
    refine ⟨x3, ?_, by omega, hm⟩
    rw [erratalaw03_fit.l0.eq_def]
    simp only
    rw [decide_eq_false (by omega), ite_self, erratalaw03_fit.j1.eq_def]
    simp⟩
  | d + 1, j, hj => by
    by_cases hjl : j < l.length
    · obtain ⟨K, hK⟩ := fit_l0 d (j + 1) (by omega)
      refine ⟨K + 2 * (l[j].f0).size + 4, fun k x3 hk h3 hm => ?_⟩
      obtain ⟨k, rfl⟩ : ∃ q, k = q + 2 := ⟨k - 2, by omega⟩
      rw [erratalaw03_fit.l0.eq_def]
      simp only
      rw [if_pos (by omega), decide_eq_true (by omega), erratalaw03_fit.j1.eq_def]
      simp only
      rw [if_pos trivial]
      exact fit_l1 l hl hs x3 (by omega) j hjl _ K (fun k nm n hk2 hmm => hK k (x3 ++ [⟨nm, n⟩]) hk2 (by rw [List.length_append, List.length_singleton, h3]) (fun x hx => by
          rcases List.mem_append.1 hx with hx | hx
          · exact hm x hx
          · rw [List.mem_singleton.1 hx]; exact hmm)) (l[j].f0).size k 0 [] (by omega) (by omega) (by simp) (by simp)
    · exact ⟨2, fun k x3 hk h3 hm => by
        obtain ⟨k, rfl⟩ : ∃ q, k = q + 2 := ⟨k - 2, by omega⟩
        refine ⟨x3, ?_, by omega, hm⟩
        rw [erratalaw03_fit.l0.eq_def]
        simp only
        rw [if_neg (by omega), erratalaw03_fit.j1.eq_def]
        simp⟩
theorem fit_f : ∃ k r, erratalaw03_fit.f k l = some r ∧ checkN (r.map toPl) = 0 := by
  obtain ⟨K, hK⟩ := fit_l0 l hl hs 64 0 rfl
  obtain ⟨r, h1, h2, h3⟩ := hK K [] (Nat.le_refl _) rfl (by simp)
  refine ⟨K, r, h1, ?_⟩
  have ha : (r.map toPl).all mayP = true := by
    rw [List.all_eq_true]
    intro x hx
    obtain ⟨y, hy, rfl⟩ := List.mem_map.1 hx
    exact h3 y hy
  rw [check_64 (by rw [List.length_map]; exact h2), if_pos ha]
end
end Go.Proofs.YtmgfdcfbjgokgaaDoor
