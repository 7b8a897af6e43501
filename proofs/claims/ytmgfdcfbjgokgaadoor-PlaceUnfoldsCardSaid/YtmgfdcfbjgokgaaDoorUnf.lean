/- 'Unfold' and the reference's, in plain words. -/
import Derived.Test.YtmgfdcfbjgokgaaDoorOwn
namespace Go.Proofs.YtmgfdcfbjgokgaaDoor
open Go.RowKit Go.Proofs.YtmgfdcfbjgokgaaDoorW.PrintWords Go.Proofs.YtmgfdcfbjgokgaaDoorW.PrintLast Go.Proofs.YtmgfdcfbjgokgaaDoor.PL
set_option linter.unusedVariables false
set_option linter.unusedSimpArgs false

/-- A run in plain data. -/
abbrev Rn := List Pl × Int
/-- A list, so many times. -/
def reps (r : List Pl) : Nat → List Pl
  | 0 => []
  | n + 1 => r ++ reps r n
theorem reps_succ (r : List Pl) (n : Nat) : reps r (n + 1) = r ++ reps r n := rfl
theorem reps_len (r : List Pl) : ∀ n, (reps r n).length = r.length * n
  | 0 => by simp [reps]
  | n + 1 => by simp [reps, reps_len r n, Nat.mul_succ]; omega
def mayP (p : Pl) : Bool := mayB p.1 p.2
theorem reps_all (r : List Pl) : ∀ n, 1 ≤ n → (reps r n).all mayP = r.all mayP
  | 1, _ => by simp [reps]
  | n + 2, _ => by
    have := reps_all r (n + 1) (by omega)
    unfold reps
    rw [List.all_append, this, Bool.and_self]
def badR (r : Rn) : Bool := decide (r.2 < 1) || r.1.isEmpty
/-- The runs one behind the other, if they are no more than 64 places. -/
def goU : List Pl → List Rn → Option (List Pl)
  | out, [] => some out
  | out, r :: rs => if r.2 > 64 ∨ (r.1.length : Int) * r.2 > 64 - (out.length : Int) then none else goU (out ++ reps r.1 r.2.toNat) rs
def endU (o : Option (List Pl)) : List Pl × Int :=
  match o with
  | none => ([], 31)
  | some out => if out.all mayP then (out, 0) else ([], 30)
def unfoldOf (l : List Rn) : List Pl × Int := if l.any badR then ([], 1) else endU (goU [] l)
def run50 (x : S50) : Rn := (x.f0.map toPl, x.f1)
def run52 (x : S52) : Rn := (x.f0.map rpl, x.f1)
theorem check_64 {l : List Pl} (h : l.length ≤ 64) : checkN l = if l.all mayP then 0 else 30 := by
  unfold checkN mayP
  split
  · rw [if_neg (by omega)]
  · rfl
theorem ofPl_toPl (l : List S60) : (l.map toPl).map ofPl = l := by
  rw [List.map_map]
  conv => rhs; rw [← List.map_id l]
  rfl
theorem rof_rpl (l : List S95) : (l.map rpl).map rof = l := by
  rw [List.map_map]
  conv => rhs; rw [← List.map_id l]
  rfl
theorem run50_rd (l : List S50) (j : Nat) (hj : j < l.length) : rd_T50 l (j : Int) = l[j] := by simp [rd_T50, hj]
theorem run52_rd (l : List S52) (j : Nat) (hj : j < l.length) : rd_T52 l (j : Int) = l[j] := by simp [rd_T52, hj]
theorem bad50 (x : S50) : badR (run50 x) = true ↔ x.f1 < 1 ∨ (x.f0.length : Int) = 0 := by
  unfold badR run50
  simp
/-! #### The program's -/
theorem unf_l2 (x26 : List S50) (x28 : Int) (r : List S60) (t0 : Int) (hr : r.length ≤ 5864062014700) : ∀ (s k : Nat) (out : List S60) (t j : Nat), j + s = t → t ≤ 64 → s < k → out.length + r.length * s ≤ 64 →
    place_Unfold.l2 k out x26 (x26.length : Int) x28 (t : Int) (j : Int) r t0 = place_Unfold.l1 (k - s - 1) (out ++ (reps (r.map toPl) s).map ofPl) x26 (x26.length : Int) (wrap64 (x28 + 1))
  | 0, k + 1, out, t, j, hj, ht, hk, ho => by
    simp only [place_Unfold.l2]
    rw [if_neg (by omega)]
    simp [reps]
  | s + 1, k + 1, out, t, j, hj, ht, hk, ho => by
    rw [Nat.mul_succ] at ho
    simp only [place_Unfold.l2]
    rw [if_pos (by omega), if_pos (by omega), wrap_succ j (by omega), unf_l2 x26 x28 r t0 hr s k (out ++ r) t (j + 1) (by omega) ht (by omega) (by rw [List.length_append]; omega)]
    rw [show k + 1 - (s + 1) - 1 = k - s - 1 by omega]
    rw [reps_succ, List.map_append, ofPl_toPl, List.append_assoc]
theorem unf_l1 (l : List S50) (hl : l.length ≤ 9223372036854775806) (hs : ∀ x ∈ l, x.f0.length ≤ 5864062014700 ∧ 1 ≤ x.f1 ∧ 1 ≤ x.f0.length ∧ ∀ y ∈ x.f0, y.f0.size ≤ 9223372036854775807) : ∀ (d k j : Nat) (out : List S60), j + d = l.length → 70 * d + 80 ≤ k → out.length ≤ 64 → (∀ y ∈ out, y.f0.size ≤ 9223372036854775807) →
    place_Unfold.l1 k out l (l.length : Int) (j : Int) = some ((endU (goU (out.map toPl) ((l.drop j).map run50))).1.map ofPl, (endU (goU (out.map toPl) ((l.drop j).map run50))).2)
  | 0, k + 1, j, out, hj, hk, ho, hy => by
    rw [List.drop_eq_nil_of_le (by omega)]
    simp only [place_Unfold.l1]
    rw [if_neg (by omega)]
    have hc : place_Check.f k out = some (checkN (out.map toPl)) := by
      have h1 := check_f out hy (by omega)
      have hm : ∀ n, place_Check.f (out.length + 1 + n) out = some (checkN (out.map toPl)) := fun n => by
        induction n with
        | zero => exact h1
        | succ n ih => exact place_Check.mono _ _ _ ih
      have := hm (k - (out.length + 1))
      rwa [show out.length + 1 + (k - (out.length + 1)) = k by omega] at this
    rw [hc, Option.bind_some, check_64 (by rw [List.length_map]; exact ho)]
    simp only [List.map_nil, goU, endU]
    cases hm : (out.map toPl).all mayP
    · simp
    · simp only [if_true]
      rw [ofPl_toPl]
  | d + 1, k + 1, j, out, hj, hk, ho, hy => by
    have hjl : j < l.length := by omega
    obtain ⟨h1, h2, h3, h4⟩ := hs l[j] (List.getElem_mem hjl)
    rw [List.drop_eq_getElem_cons hjl, List.map_cons]
    simp only [place_Unfold.l1]
    rw [if_pos (by omega), if_pos (by omega), if_pos (by omega), run50_rd l j hjl]
    obtain ⟨k, rfl⟩ : ∃ q, k = q + 1 := ⟨k - 1, by omega⟩
    have hgo : goU (out.map toPl) (run50 l[j] :: (l.drop (j + 1)).map run50) = if l[j].f1 > 64 ∨ (l[j].f0.length : Int) * l[j].f1 > 64 - (out.length : Int) then none else goU (out.map toPl ++ reps (l[j].f0.map toPl) l[j].f1.toNat) ((l.drop (j + 1)).map run50) := by
      simp only [goU, run50, List.length_map]
    rw [hgo]
    by_cases ht : l[j].f1 > 64
    · rw [if_pos ht, if_pos (.inl ht)]
      simp only [place_Unfold.j2, if_true]
      rfl
    · rw [if_neg ht]
      have hmul : (l[j].f0.length : Int) * l[j].f1 ≤ 5864062014700 * 64 := Int.mul_le_mul (by omega) (by omega) (by omega) (by omega)
      have hmul0 : 0 ≤ (l[j].f0.length : Int) * l[j].f1 := Int.mul_nonneg (by omega) (by omega)
      have hw1 : wrap64 ((l[j].f0.length : Int) * l[j].f1) = (l[j].f0.length : Int) * l[j].f1 := by unfold wrap64; omega
      have hw2 : wrap64 (64 - (out.length : Int)) = 64 - (out.length : Int) := by unfold wrap64; omega
      rw [hw1, hw2]
      simp only [place_Unfold.j2]
      by_cases hb : (l[j].f0.length : Int) * l[j].f1 > 64 - (out.length : Int)
      · rw [if_pos (decide_eq_true hb), if_pos (.inr hb)]
        rfl
      · rw [if_neg (by rw [decide_eq_false hb]; decide), if_neg (by intro h; rcases h with h | h; exact ht h; exact hb h)]
        have ht0 : ((l[j].f1.toNat : Nat) : Int) = l[j].f1 := by omega
        have hlen : out.length + l[j].f0.length * l[j].f1.toNat ≤ 64 := by
          have : ((l[j].f0.length * l[j].f1.toNat : Nat) : Int) = (l[j].f0.length : Int) * l[j].f1 := by rw [Int.natCast_mul, ht0]
          omega
        have h := unf_l2 l (j : Int) l[j].f0 l[j].f1 h1 l[j].f1.toNat k out l[j].f1.toNat 0 (by omega) (by omega) (by omega) hlen
        rw [ht0] at h
        rw [show (0 : Int) = ((0 : Nat) : Int) from rfl, h, wrap_succ j (by omega)]
        rw [unf_l1 l hl hs d (k - l[j].f1.toNat - 1) (j + 1) _ (by omega) (by omega) (by rw [List.length_append, List.length_map, reps_len, List.length_map]; exact hlen) (fun y hyy => by
          rcases List.mem_append.1 hyy with h | h
          · exact hy y h
          · obtain ⟨q, hq, rfl⟩ := List.mem_map.1 h
            have : ∀ n, q ∈ reps (l[j].f0.map toPl) n → q ∈ l[j].f0.map toPl := fun n => by
              induction n with
              | zero => simp [reps]
              | succ n ih =>
                unfold reps
                intro h
                rcases List.mem_append.1 h with h | h
                · exact h
                · exact ih h
            obtain ⟨z, hz, rfl⟩ := List.mem_map.1 (this _ hq)
            exact h4 z hz)]
        rw [List.map_append, toPl_ofPl]
theorem unf_l0 (l : List S50) (hl : l.length ≤ 9223372036854775806) (hs : ∀ x ∈ l, x.f0.length ≤ 5864062014700 ∧ ∀ y ∈ x.f0, y.f0.size ≤ 9223372036854775807) : ∀ (d k j : Nat), j + d = l.length → d + 70 * l.length + 90 ≤ k → (∀ i, i < j → badR (run50 (l.getD i ⟨[], 0⟩)) = false) →
    place_Unfold.l0 k l l (l.length : Int) (j : Int) = some ((unfoldOf (l.map run50)).1.map ofPl, (unfoldOf (l.map run50)).2)
  | 0, k + 1, j, hj, hk, hg => by
    simp only [place_Unfold.l0]
    rw [if_neg (by omega)]
    have hgood : ∀ x ∈ l, badR (run50 x) = false := fun x hx => by
      obtain ⟨i, hi, rfl⟩ := List.mem_iff_getElem.1 hx
      have := hg i (by omega)
      rwa [List.getD_eq_getElem?_getD, List.getElem?_eq_getElem hi] at this
    have hany : (l.map run50).any badR = false := by
      rw [List.any_eq_false]
      intro r hr
      obtain ⟨x, hx, rfl⟩ := List.mem_map.1 hr
      rw [hgood x hx]
      decide
    unfold unfoldOf
    rw [if_neg (by rw [hany]; decide), show (0 : Int) = ((0 : Nat) : Int) from rfl, unf_l1 l hl (fun x hx => by
      have hb : ¬ (badR (run50 x) = true) := by rw [hgood x hx]; decide
      rw [bad50] at hb
      exact ⟨(hs x hx).1, by omega, by omega, (hs x hx).2⟩) l.length k 0 [] (by omega) (by omega) (by simp) (by simp)]
    simp
  | d + 1, k + 1, j, hj, hk, hg => by
    have hjl : j < l.length := by omega
    have hbadany : badR (run50 l[j]) = true → unfoldOf (l.map run50) = ([], 1) := fun h => by
      unfold unfoldOf
      rw [if_pos]
      rw [List.any_eq_true]
      exact ⟨_, List.mem_map.2 ⟨_, List.getElem_mem hjl, rfl⟩, h⟩
    simp only [place_Unfold.l0]
    rw [if_pos (by omega), if_pos (by omega), if_pos (by omega), run50_rd l j hjl]
    by_cases h1 : l[j].f1 < 1
    · rw [if_pos h1, hbadany ((bad50 _).2 (.inl h1))]
      rfl
    · rw [if_neg h1]
      by_cases h2 : (l[j].f0.length : Int) = 0
      · rw [if_pos h2, hbadany ((bad50 _).2 (.inr h2))]
        rfl
      · rw [if_neg h2, wrap_succ j (by omega), unf_l0 l hl hs d k (j + 1) (by omega) (by omega) (fun i hi => by
          by_cases hij : i < j
          · exact hg i hij
          · obtain rfl : i = j := by omega
            rw [List.getD_eq_getElem?_getD, List.getElem?_eq_getElem hjl]
            cases hb : badR (run50 l[i])
            · exact hb
            · rcases (bad50 _).1 hb with h | h
              · exact absurd h h1
              · exact absurd h h2)]
theorem unf_f (l : List S50) (hl : l.length ≤ 9223372036854775806) (hs : ∀ x ∈ l, x.f0.length ≤ 5864062014700 ∧ ∀ y ∈ x.f0, y.f0.size ≤ 9223372036854775807) : place_Unfold.f (71 * l.length + 90) l = some ((unfoldOf (l.map run50)).1.map ofPl, (unfoldOf (l.map run50)).2) :=
  unf_l0 l hl hs l.length _ 0 (by omega) (by omega) (fun i hi => absurd hi (by omega))
/-! #### The reference's -/
theorem bad52 (x : S52) : badR (run52 x) = true ↔ x.f1 < 1 ∨ (x.f0.length : Int) < 1 := by
  unfold badR run52
  simp
  constructor
  · rintro (h | h)
    · exact .inl h
    · exact .inr (by rw [h]; decide)
  · rintro (h | h)
    · exact .inl h
    · exact .inr (List.eq_nil_of_length_eq_zero (by omega))
/-- How much fuel the reference wants for runs. -/
def needR : List S52 → Nat
  | [] => 1
  | x :: xs => x.f0.length + 70 + needR xs
section
variable {l : List S52}
theorem runf_l3a {j : Nat} (hjl : j < l.length) (hjb : j ≤ 9223372036854775806) (K0 : Nat) {many : Int} {bad : Bool} {out : List S95} (hm : many > 64) (H : ∀ k, K0 ≤ k → errataref03_Unfold.l1 k l many bad out ((j + 1 : Nat) : Int) = some (([] : List S95), 31)) (k : Nat) (i : Int) (hk : K0 < k) :
    errataref03_Unfold.l3 k l many bad out (j : Int) i = some (([] : List S95), 31) := by
  obtain ⟨k, rfl⟩ : ∃ q, k = q + 1 := ⟨k - 1, by omega⟩
  simp only [errataref03_Unfold.l3]
  rw [if_pos (by omega), if_pos (by omega), run52_rd l j hjl, wrap_succ j (by omega)]
  split
  · rw [if_neg (by omega)]; exact H k (by omega)
  · exact H k (by omega)
theorem runf_l2 (hs : ∀ x ∈ l, x.f0.length ≤ 5864062014700) {j : Nat} (hjl : j < l.length) {many : Int} {out : List S95} : ∀ (s k i : Nat) (bad : Bool), i + s = l[j].f0.length → s + 126 ≤ k →
    errataref03_Unfold.l2 k l many bad out (j : Int) (i : Int) = errataref03_Unfold.l3 (k - s - 1) l many (bad || !((l[j].f0.drop i).map rpl).all mayP) out (j : Int) 0
  | 0, k + 1, i, bad, hi, hk => by
    simp only [errataref03_Unfold.l2]
    rw [if_pos (by omega), if_pos (by omega), run52_rd l j hjl, if_neg (by omega), List.drop_eq_nil_of_le (by omega)]
    simp
  | s + 1, k + 1, i, bad, hi, hk => by
    have hil : i < l[j].f0.length := by omega
    have hb := hs _ (List.getElem_mem hjl)
    have hr : rd_T95 l[j].f0 (i : Int) = l[j].f0[i] := by simp [rd_T95, hil]
    simp only [errataref03_Unfold.l2]
    rw [if_pos (by omega), if_pos (by omega), run52_rd l j hjl, if_pos (by omega), wrap_succ i (by omega), hr]
    cases bad
    · rw [if_neg (by decide), if_pos (by omega), rmay_f _ _ k (by omega), Option.bind_some, runf_l2 hs hjl s k (i + 1) _ (by omega) (by omega), List.drop_eq_getElem_cons hil, List.map_cons, List.all_cons]
      rw [show k + 1 - (s + 1) - 1 = k - s - 1 by omega]
      congr 1
      show _ = (false || !(mayP (rpl l[j].f0[i]) && _))
      unfold mayP rpl
      cases mayB l[j].f0[i].f0 l[j].f0[i].f1 <;> simp
    · rw [if_pos rfl, runf_l2 hs hjl s k (i + 1) _ (by omega) (by omega)]
      rw [show k + 1 - (s + 1) - 1 = k - s - 1 by omega]
      simp
theorem runf_far (hl : l.length ≤ 9223372036854775806) (hs : ∀ x ∈ l, x.f0.length ≤ 5864062014700) : ∀ (d j : Nat), j + d = l.length → ∀ (k : Nat) (many : Int) (bad : Bool) (out : List S95), needR (l.drop j) + 125 ≤ k → many > 64 →
    errataref03_Unfold.l1 k l many bad out (j : Int) = some (([] : List S95), 31)
  | 0, j, hj, k + 1, many, bad, out, hk, hm => by
    simp only [errataref03_Unfold.l1]
    rw [if_neg (by omega), if_pos hm]
  | d + 1, j, hj, k + 1, many, bad, out, hk, hm => by
    have hjl : j < l.length := by omega
    rw [List.drop_eq_getElem_cons hjl] at hk
    simp only [needR] at hk
    simp only [errataref03_Unfold.l1]
    rw [if_pos (by omega), show (0 : Int) = ((0 : Nat) : Int) from rfl, runf_l2 hs hjl l[j].f0.length k 0 bad (by omega) (by omega)]
    exact runf_l3a hjl (by omega) (needR (l.drop (j + 1)) + 125) hm (fun k hk => runf_far hl hs d (j + 1) (by omega) k many _ out hk hm) _ _ (by omega)
theorem runf_l3b (hs : ∀ x ∈ l, x.f0.length ≤ 5864062014700) {j : Nat} (hjl : j < l.length) (hjb : j ≤ 9223372036854775806) (bad : Bool) : ∀ (s k i : Nat) (out : List S95), ((i + s : Nat) : Int) = l[j].f1 → i + s ≤ 64 → s < k → out.length + l[j].f0.length * s ≤ 64 →
    errataref03_Unfold.l3 k l (out.length : Int) bad out (j : Int) (i : Int) = errataref03_Unfold.l1 (k - s - 1) l ((out.length + l[j].f0.length * s : Nat) : Int) bad (out ++ (reps (l[j].f0.map rpl) s).map rof) ((j + 1 : Nat) : Int)
  | 0, k + 1, i, out, hi, h64, hk, ho => by
    simp only [errataref03_Unfold.l3]
    rw [if_pos (by omega), if_pos (by omega), run52_rd l j hjl, wrap_succ j (by omega), if_neg (by omega)]
    simp [reps]
  | s + 1, k + 1, i, out, hi, h64, hk, ho => by
    rw [Nat.mul_succ] at ho
    simp only [errataref03_Unfold.l3]
    have hw : wrap64 ((out.length : Int) + (l[j].f0.length : Int)) = ((out ++ l[j].f0).length : Int) := by rw [List.length_append]; unfold wrap64; omega
    rw [if_pos (by omega), if_pos (by omega), run52_rd l j hjl, if_pos (by omega), if_pos (by omega), if_pos (by omega), hw, wrap_succ i (by omega), runf_l3b hs hjl hjb bad s k (i + 1) (out ++ l[j].f0) (by omega) (by omega) (by omega) (by rw [List.length_append]; omega)]
    rw [show k + 1 - (s + 1) - 1 = k - s - 1 by omega, List.length_append, show out.length + l[j].f0.length + l[j].f0.length * s = out.length + l[j].f0.length * (s + 1) by rw [Nat.mul_succ]; omega]
    rw [reps_succ, List.map_append, rof_rpl, List.append_assoc]
theorem runf_l3c (hl : l.length ≤ 9223372036854775806) (hs : ∀ x ∈ l, x.f0.length ≤ 5864062014700) {j : Nat} (hjl : j < l.length) (bad : Bool) (h1 : 1 ≤ l[j].f0.length) : ∀ (r k i s : Nat) (out : List S95), out.length ≤ 64 → 65 - out.length ≤ r → ((i + s : Nat) : Int) = l[j].f1 → r + needR (l.drop (j + 1)) + 127 ≤ k → ¬ out.length + l[j].f0.length * s ≤ 64 → i + r ≤ 9223372036854775000 →
    errataref03_Unfold.l3 k l (out.length : Int) bad out (j : Int) (i : Int) = some (([] : List S95), 31)
  | 0, k, i, s, out, ho, hr, hi, hk, hn, hb => by omega
  | r + 1, k, i, 0, out, ho, hr, hi, hk, hn, hb => by omega
  | r + 1, k, i, s + 1, out, ho, hr, hi, hk, hn, hb => by
    obtain ⟨k, rfl⟩ : ∃ q, k = q + 1 := ⟨k - 1, by omega⟩
    have hlb := hs _ (List.getElem_mem hjl)
    rw [Nat.mul_succ] at hn
    have hw : wrap64 ((out.length : Int) + (l[j].f0.length : Int)) = ((out ++ l[j].f0).length : Int) := by rw [List.length_append]; unfold wrap64; omega
    simp only [errataref03_Unfold.l3]
    rw [if_pos (by omega), if_pos (by omega), run52_rd l j hjl, if_pos (by omega), if_pos (by omega), if_pos (by omega), hw, wrap_succ i (by omega)]
    by_cases h64 : (out ++ l[j].f0).length ≤ 64
    · exact runf_l3c hl hs hjl bad h1 r k (i + 1) s (out ++ l[j].f0) h64 (by rw [List.length_append]; omega) (by omega) (by omega) (by rw [List.length_append]; omega) (by omega)
    · exact runf_l3a hjl (by omega) (needR (l.drop (j + 1)) + 125) (by omega) (fun k hk => runf_far hl hs (l.length - (j + 1)) (j + 1) (by omega) k _ _ _ hk (by omega)) _ _ (by omega)
theorem runf_l1 (hl : l.length ≤ 9223372036854775806) (hs : ∀ x ∈ l, x.f0.length ≤ 5864062014700) (hg : ∀ x ∈ l, 1 ≤ x.f1 ∧ 1 ≤ x.f0.length) : ∀ (d k j : Nat) (out : List S95), j + d = l.length → needR (l.drop j) + 140 + 70 * d ≤ k → out.length ≤ 64 →
    errataref03_Unfold.l1 k l (out.length : Int) (!(out.map rpl).all mayP) out (j : Int) = some ((endU (goU (out.map rpl) ((l.drop j).map run52))).1.map rof, (endU (goU (out.map rpl) ((l.drop j).map run52))).2)
  | 0, k + 1, j, out, hj, hk, ho => by
    rw [List.drop_eq_nil_of_le (by omega)]
    simp only [errataref03_Unfold.l1]
    rw [if_neg (by omega), if_neg (by omega)]
    simp only [List.map_nil, goU, endU]
    cases hm : (out.map rpl).all mayP
    · simp
    · simp only [Bool.not_true, if_true]
      rw [rof_rpl, if_neg (by decide)]
  | d + 1, k + 1, j, out, hj, hk, ho => by
    have hjl : j < l.length := by omega
    obtain ⟨g1, g2⟩ := hg _ (List.getElem_mem hjl)
    have hlb := hs _ (List.getElem_mem hjl)
    rw [List.drop_eq_getElem_cons hjl] at hk ⊢
    simp only [needR] at hk
    have ht0 : ((l[j].f1.toNat : Nat) : Int) = l[j].f1 := by omega
    have hgo : goU (out.map rpl) ((l[j] :: l.drop (j + 1)).map run52) = if out.length + l[j].f0.length * l[j].f1.toNat ≤ 64 then goU (out.map rpl ++ reps (l[j].f0.map rpl) l[j].f1.toNat) ((l.drop (j + 1)).map run52) else none := by
      have hml : ((l[j].f0.length * l[j].f1.toNat : Nat) : Int) = (l[j].f0.length : Int) * l[j].f1 := by rw [Int.natCast_mul, ht0]
      have hge : l[j].f1.toNat ≤ l[j].f0.length * l[j].f1.toNat := Nat.le_mul_of_pos_left _ (by omega)
      simp only [goU, run52, List.map_cons, List.length_map]
      by_cases hc : out.length + l[j].f0.length * l[j].f1.toNat ≤ 64
      · rw [if_pos hc, if_neg (by omega)]
      · rw [if_neg hc, if_pos (by omega)]
    simp only [errataref03_Unfold.l1]
    rw [if_pos (by omega), show (0 : Int) = ((0 : Nat) : Int) from rfl, runf_l2 hs hjl l[j].f0.length k 0 _ (by omega) (by omega), hgo]
    by_cases hc : out.length + l[j].f0.length * l[j].f1.toNat ≤ 64
    · rw [if_pos hc]
      have hge : l[j].f1.toNat ≤ l[j].f0.length * l[j].f1.toNat := Nat.le_mul_of_pos_left _ (by omega)
      rw [show (0 : Int) = ((0 : Nat) : Int) from rfl, runf_l3b hs hjl (by omega) _ l[j].f1.toNat _ 0 out (by omega) (by omega) (by omega) hc]
      have hlen : (out ++ (reps (l[j].f0.map rpl) l[j].f1.toNat).map rof).length = out.length + l[j].f0.length * l[j].f1.toNat := by rw [List.length_append, List.length_map, reps_len, List.length_map]
      have hrr : ((reps (l[j].f0.map rpl) l[j].f1.toNat).map rof).map rpl = reps (l[j].f0.map rpl) l[j].f1.toNat := by
        rw [List.map_map]
        conv => rhs; rw [← List.map_id (reps _ _)]
        rfl
      have h := runf_l1 hl hs hg d (k - l[j].f0.length - 1 - l[j].f1.toNat - 1) (j + 1) (out ++ (reps (l[j].f0.map rpl) l[j].f1.toNat).map rof) (by omega) (by omega) (by rw [hlen]; exact hc)
      rw [hlen, List.map_append, hrr] at h
      rw [← h]
      congr 1
      rw [List.all_append, reps_all _ _ (by omega)]
      simp [Bool.not_and]
    · rw [if_neg hc]
      rw [show (0 : Int) = ((0 : Nat) : Int) from rfl, runf_l3c hl hs hjl _ g2 65 _ 0 l[j].f1.toNat out ho (by omega) (by omega) (by omega) hc (by omega)]
      rfl
theorem runf_l0 (hl : l.length ≤ 9223372036854775806) (hs : ∀ x ∈ l, x.f0.length ≤ 5864062014700) : ∀ (d k j : Nat), j + d = l.length → d + needR l + 150 + 70 * l.length ≤ k → (∀ i, i < j → badR (run52 (l.getD i ⟨[], 0⟩)) = false) →
    errataref03_Unfold.l0 k l 0 false (j : Int) = some ((unfoldOf (l.map run52)).1.map rof, (unfoldOf (l.map run52)).2)
  | 0, 0, j, hj, hk, hg => by omega
  | d + 1, 0, j, hj, hk, hg => by omega
  | 0, k + 1, j, hj, hk, hg => by
    simp only [errataref03_Unfold.l0]
    rw [if_neg (by omega)]
    have hgood : ∀ x ∈ l, badR (run52 x) = false := fun x hx => by
      obtain ⟨i, hi, rfl⟩ := List.mem_iff_getElem.1 hx
      have := hg i (by omega)
      rwa [List.getD_eq_getElem?_getD, List.getElem?_eq_getElem hi] at this
    have hany : (l.map run52).any badR = false := by
      rw [List.any_eq_false]
      intro r hr
      obtain ⟨x, hx, rfl⟩ := List.mem_map.1 hr
      rw [hgood x hx]
      decide
    unfold unfoldOf
    rw [if_neg (by rw [hany]; decide)]
    have h := runf_l1 hl hs (fun x hx => by
      have hb : ¬ (badR (run52 x) = true) := by rw [hgood x hx]; decide
      rw [bad52] at hb
      omega) l.length k 0 [] (by omega) (by rw [List.drop_zero]; omega) (by simp)
    simpa using h
  | d + 1, k + 1, j, hj, hk, hg => by
    have hjl : j < l.length := by omega
    have hbadany : badR (run52 l[j]) = true → unfoldOf (l.map run52) = ([], 1) := fun h => by
      unfold unfoldOf
      rw [if_pos]
      rw [List.any_eq_true]
      exact ⟨_, List.mem_map.2 ⟨_, List.getElem_mem hjl, rfl⟩, h⟩
    simp only [errataref03_Unfold.l0]
    rw [if_pos (by omega), if_pos (by omega), run52_rd l j hjl]
    by_cases h1 : l[j].f1 < 1
    · rw [if_pos h1, hbadany ((bad52 _).2 (.inl h1))]
      rfl
    · rw [if_neg h1]
      by_cases h2 : (l[j].f0.length : Int) < 1
      · rw [if_pos h2, hbadany ((bad52 _).2 (.inr h2))]
        rfl
      · rw [if_neg h2, wrap_succ j (by omega), runf_l0 hl hs d k (j + 1) (by omega) (by omega) (fun i hi => by
          by_cases hij : i < j
          · exact hg i hij
          · obtain rfl : i = j := by omega
            rw [List.getD_eq_getElem?_getD, List.getElem?_eq_getElem hjl]
            cases hb : badR (run52 l[i])
            · exact hb
            · rcases (bad52 _).1 hb with h | h
              · exact absurd h h1
              · exact absurd h h2)]
theorem runf_f (hl : l.length ≤ 9223372036854775806) (hs : ∀ x ∈ l, x.f0.length ≤ 5864062014700) : errataref03_Unfold.f (71 * l.length + needR l + 150) l = some ((unfoldOf (l.map run52)).1.map rof, (unfoldOf (l.map run52)).2) :=
  runf_l0 hl hs l.length _ 0 (by omega) (by omega) (fun i hi => absurd hi (by omega))
end
end Go.Proofs.YtmgfdcfbjgokgaaDoor
