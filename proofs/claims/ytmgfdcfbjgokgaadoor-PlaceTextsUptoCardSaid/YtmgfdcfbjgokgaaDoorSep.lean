/- Texts cut at ' < ', and numerals: plain lists of bytes, no program. -/
import Derived.Lib.Split
import Derived.Lib.SplitLaws
import Derived.Lib.AtoiAll
import Derived.Lib.ItoaNum
import Derived.Lib.ItoaMem
import Derived.Lib.CutLaws
import Derived.Lib.Join
namespace Go.Proofs.YtmgfdcfbjgokgaaDoor
open Go
set_option linter.unusedVariables false
set_option linter.unusedSimpArgs false

abbrev sepL : List UInt8 := [32, 60, 32]
/-- A text cut at ' < ': what has been read of the piece, and what is left. -/
def scan (cur : List UInt8) : List UInt8 → List (List UInt8)
  | [] => [cur]
  | c :: r => if c = 32 ∧ r.take 2 = [60, 32] then cur :: scan [] (r.drop 2) else scan (cur ++ [c]) r
termination_by s => s.length
decreasing_by all_goals simp <;> omega
theorem scan_nil (cur : List UInt8) : scan cur [] = [cur] := by unfold scan; rfl
theorem scan_cons (cur : List UInt8) (c : UInt8) (r : List UInt8) : scan cur (c :: r) = if c = 32 ∧ r.take 2 = [60, 32] then cur :: scan [] (r.drop 2) else scan (cur ++ [c]) r := by
  conv => lhs; unfold scan
theorem scan_ne : ∀ (n : Nat) (s cur : List UInt8), s.length ≤ n → scan cur s ≠ []
  | _, [], cur, _ => by rw [scan_nil]; simp
  | n + 1, c :: r, cur, h => by
    rw [scan_cons]
    split
    · simp
    · exact scan_ne n r _ (by simpa using h)
theorem scan_short : ∀ (s cur : List UInt8), s.length < 3 → scan cur s = [cur ++ s]
  | [], cur, _ => by rw [scan_nil]; simp
  | c :: r, cur, h => by
    rw [scan_cons, if_neg, scan_short r _ (by simp at h; omega)]
    · simp
    · rintro ⟨_, h2⟩
      have := congrArg List.length h2
      simp at this h
      omega
theorem join_cons (x : List UInt8) {xs : List (List UInt8)} (h : xs ≠ []) : Lib.join (x :: xs) sepL = x ++ (sepL ++ Lib.join xs sepL) := by
  cases xs with
  | nil => exact absurd rfl h
  | cons y l => unfold Lib.join; rw [List.intercalate_cons_cons]; simp
theorem join_one (x : List UInt8) : Lib.join [x] sepL = x := by simp [Lib.join]
theorem take2 {r : List UInt8} (h : r.take 2 = [60, 32]) : r = 60 :: 32 :: r.drop 2 := by
  have := List.take_append_drop 2 r
  rw [h] at this
  exact this.symm
theorem scan_join : ∀ (n : Nat) (s cur : List UInt8), s.length ≤ n → Lib.join (scan cur s) sepL = cur ++ s
  | _, [], cur, _ => by rw [scan_nil, join_one]; simp
  | n + 1, c :: r, cur, h => by
    have h' : r.length ≤ n := by simpa using h
    rw [scan_cons]
    split
    · rename_i hc
      rw [join_cons _ (scan_ne n _ _ (by simp; omega)), scan_join n _ _ (by simp; omega)]
      rw [hc.1]
      conv => rhs; rw [take2 hc.2]
      simp
    · rw [scan_join n _ _ h']
      simp
theorem scan_free : ∀ (x r cur : List UInt8), (32 : UInt8) ∉ x → scan cur (x ++ r) = scan (cur ++ x) r
  | [], r, cur, _ => by simp
  | c :: x, r, cur, h => by
    have hc : ¬ c = 32 := fun e => h (by simp [e])
    rw [List.cons_append, scan_cons, if_neg (fun e => hc e.1), scan_free x r _ (fun e => h (by simp [e]))]
    simp
theorem scan_sep (cur r : List UInt8) : scan cur (sepL ++ r) = cur :: scan [] r := by
  show scan cur (32 :: 60 :: 32 :: r) = _
  rw [scan_cons, if_pos ⟨rfl, by simp⟩]
  simp
theorem scan_of_join : ∀ (xs : List (List UInt8)), xs ≠ [] → (∀ x ∈ xs, (32 : UInt8) ∉ x) → scan [] (Lib.join xs sepL) = xs
  | [], h, _ => absurd rfl h
  | [x], _, h => by
    rw [join_one]
    have := scan_free x [] [] (h x (by simp))
    rw [List.append_nil] at this
    rw [this, scan_nil]
    simp
  | x :: y :: l, _, h => by
    rw [join_cons x (by simp), scan_free x _ [] (h x (by simp)), scan_sep, scan_of_join (y :: l) (by simp) (fun z hz => h z (by simp [hz]))]
    simp
theorem pre_sep (c : UInt8) (r : List UInt8) : sepL.isPrefixOf (c :: r) = decide (c = 32 ∧ r.take 2 = [60, 32]) := by
  rw [Bool.eq_iff_iff, List.isPrefixOf_iff_prefix, decide_eq_true_eq, List.prefix_iff_eq_take]
  constructor
  · intro h
    simp at h
    exact ⟨h.1.symm, h.2.symm⟩
  · rintro ⟨rfl, h⟩
    simp [h]
theorem scan_index : ∀ (s cur : List UInt8), scan cur s = if Lib.index s sepL = -1 then [cur ++ s] else (cur ++ s.take (Lib.index s sepL).toNat) :: scan [] (s.drop ((Lib.index s sepL).toNat + 3))
  | [], cur => by
    rw [scan_nil, if_pos (by rfl)]
    simp
  | c :: r, cur => by
    have hge := Lib.index_ge r sepL
    rw [scan_cons]
    by_cases hc : c = 32 ∧ r.take 2 = [60, 32]
    · have hi : Lib.index (c :: r) sepL = 0 := by
        unfold Lib.index
        rw [if_pos (by rw [pre_sep]; simpa using hc)]
      rw [if_pos hc, hi, if_neg (by decide)]
      simp
    · have hi : Lib.index (c :: r) sepL = if Lib.index r sepL = -1 then -1 else Lib.index r sepL + 1 := by
        conv => lhs; unfold Lib.index
        rw [if_neg (by rw [pre_sep]; simpa using hc)]
        by_cases h1 : Lib.index r sepL = -1
        · rw [if_pos (beq_iff_eq.2 h1), if_pos h1]
        · rw [if_neg (fun e => h1 (beq_iff_eq.1 e)), if_neg h1]
      rw [if_neg hc, scan_index r (cur ++ [c]), hi]
      by_cases h1 : Lib.index r sepL = -1
      · rw [if_pos h1, if_pos h1, if_pos rfl]
        simp
      · rw [if_neg h1, if_neg h1, if_neg (by omega)]
        obtain ⟨i, hi⟩ : ∃ i : Nat, Lib.index r sepL = i := ⟨(Lib.index r sepL).toNat, by omega⟩
        have e1 : (Lib.index r sepL).toNat = i := by omega
        have e2 : (Lib.index r sepL + 1).toNat = i + 1 := by omega
        rw [e1, e2, show i + 1 + 3 = (i + 3) + 1 by omega, List.take_succ_cons, List.drop_succ_cons]
        simp
abbrev sepB : ByteArray := ⟨#[32, 60, 32]⟩
theorem split_scan : ∀ (k : Nat) (s : ByteArray), Lib.countB s sepB = k → (Lib.splitB sepB 0 k s).map (·.data.toList) = scan [] s.data.toList
  | k, s, h => by
    have hx : Lib.indexB s sepB = Lib.index s.data.toList sepL := rfl
    have hge := Lib.index_ge s.data.toList sepL
    rw [scan_index]
    by_cases h1 : Lib.index s.data.toList sepL = -1
    · rw [if_pos h1, Lib.splitB_miss _ _ _ _ (hx.trans h1)]
      simp
    · rw [if_neg h1]
      obtain ⟨i, hi⟩ : ∃ i : Nat, Lib.index s.data.toList sepL = i := ⟨(Lib.index s.data.toList sepL).toNat, by omega⟩
      have e1 : (Lib.index s.data.toList sepL).toNat = i := by omega
      have hc := Lib.countB_hit s sepB i (by decide) (hx.trans hi)
      match k, h with
      | 0, h => omega
      | k + 1, h =>
        rw [Lib.splitB_hit _ _ _ _ _ (hx.trans hi), List.map_cons, split_scan k _ (by omega), Lib.extract_from_zero, Lib.extract_to_end, e1]
        simp
        rfl
/-! #### Numerals -/
theorem dec_small {u : Nat} (h : u < 10) : Lib.decDigits u = [UInt8.ofNat (48 + u)] := by rw [Lib.decDigits, dif_pos h]
theorem dec_big {u : Nat} (h : ¬ u < 10) : Lib.decDigits u = Lib.decDigits (u / 10) ++ [UInt8.ofNat (48 + u % 10)] := by rw [Lib.decDigits, dif_neg h]
theorem dig_nat (d : Nat) (h : d < 10) : (UInt8.ofNat (48 + d)).toNat = 48 + d := by
  rw [UInt8.toNat_ofNat']
  omega
theorem parse_snoc : ∀ (l : List UInt8) (acc u d : Nat), Lib.parseUint10 acc l = .ok u → u * 10 + d < 18446744073709551616 → d < 10 → Lib.parseUint10 acc (l ++ [UInt8.ofNat (48 + d)]) = .ok (u * 10 + d)
  | [], acc, u, d, h, hu, hd => by
    simp only [Lib.parseUint10] at h
    injection h with h
    subst h
    have := dig_nat d hd
    simp only [List.nil_append, Lib.parseUint10]
    rw [this, if_pos (by omega), if_neg (by omega), if_neg (by omega)]
    simp
  | c :: l, acc, u, d, h, hu, hd => by
    simp only [Lib.parseUint10, List.cons_append] at h ⊢
    split at h
    · rename_i h1
      rw [if_pos h1]
      split at h
      · cases h
      · rename_i h2
        rw [if_neg h2]
        split at h
        · cases h
        · rename_i h3
          rw [if_neg h3]
          exact parse_snoc l _ u d h hu hd
    · cases h
theorem parse_dec (u : Nat) (hu : u < 18446744073709551616) : Lib.parseUint10 0 (Lib.decDigits u) = .ok u := by
  induction u using Nat.strongRecOn with
  | _ u ih =>
    by_cases h : u < 10
    · rw [dec_small h]
      have := parse_snoc [] 0 0 u rfl (by omega) h
      simpa using this
    · rw [dec_big h]
      have := parse_snoc _ 0 (u / 10) (u % 10) (ih (u / 10) (by omega) (by omega)) (by omega) (by omega)
      rw [this]
      congr 1
      omega
theorem dec_ne (u : Nat) : Lib.decDigits u ≠ [] := by
  by_cases h : u < 10
  · rw [dec_small h]; simp
  · rw [dec_big h]; simp
theorem dec_all (u : Nat) : ∀ c ∈ Lib.decDigits u, 48 ≤ c.toNat ∧ c.toNat ≤ 57 := by
  induction u using Nat.strongRecOn with
  | _ u ih =>
    by_cases h : u < 10
    · rw [dec_small h]
      intro c hc
      rw [List.mem_singleton.1 hc, dig_nat u h]
      omega
    · rw [dec_big h]
      intro c hc
      rcases List.mem_append.1 hc with hc | hc
      · exact ih (u / 10) (by omega) c hc
      · rw [List.mem_singleton.1 hc, dig_nat _ (by omega)]
        omega
theorem itoa_nat (u : Nat) : Lib.itoa (u : Int) = Lib.decDigits u := Lib.itoa_nonneg u
theorem atoi_itoa (n : Int) (h0 : 0 ≤ n) (h1 : n ≤ 9223372036854775807) : Lib.atoiAll (Lib.itoa n) = .ok n := by
  obtain ⟨u, rfl⟩ : ∃ u : Nat, n = u := ⟨n.toNat, by omega⟩
  rw [itoa_nat]
  have hp := parse_dec u (by omega)
  have ha := dec_all u
  have hn := dec_ne u
  match hl : Lib.decDigits u, hn with
  | c :: r, _ =>
    rw [hl] at hp ha
    have hc := ha c (by simp)
    unfold Lib.atoiAll
    simp only
    rw [if_neg (by omega)]
    unfold Lib.parseMag
    rw [if_neg (by simp), hp]
    simp only
    rw [if_neg (by omega), if_neg (by omega), if_neg (by omega)]
/-- Digits read one behind the other. -/
def readL (acc : Int) : List UInt8 → Int
  | [] => acc
  | c :: r => readL (10 * acc + (c.toNat % 16 : Nat)) r
theorem readL_append : ∀ (l r : List UInt8) (acc : Int), readL acc (l ++ r) = readL (readL acc l) r
  | [], r, acc => rfl
  | c :: l, r, acc => readL_append l r _
theorem readL_dec (u : Nat) : readL 0 (Lib.decDigits u) = u := by
  induction u using Nat.strongRecOn with
  | _ u ih =>
    by_cases h : u < 10
    · rw [dec_small h]
      simp only [readL]
      rw [dig_nat u h]
      omega
    · rw [dec_big h, readL_append, ih (u / 10) (by omega)]
      simp only [readL]
      rw [dig_nat _ (by omega)]
      omega
theorem readL_bd : ∀ (l : List UInt8) (acc : Int), 0 ≤ acc → 0 ≤ readL acc l ∧ readL acc l < (acc + 2) * ((10 ^ l.length : Nat) : Int)
  | [], acc, h => by simp [readL]; omega
  | c :: r, acc, h => by
    have hc : c.toNat % 16 < 16 := Nat.mod_lt _ (by decide)
    obtain ⟨h1, h2⟩ := readL_bd r (10 * acc + (c.toNat % 16 : Nat)) (by omega)
    refine ⟨h1, ?_⟩
    simp only [readL, List.length_cons]
    refine Int.lt_of_lt_of_le h2 ?_
    rw [Nat.pow_succ]
    have hp : (0 : Int) ≤ ((10 ^ r.length : Nat) : Int) := Int.natCast_nonneg _
    have : (10 * acc + ((c.toNat % 16 : Nat) : Int) + 2) * ((10 ^ r.length : Nat) : Int) ≤ (10 * (acc + 2)) * ((10 ^ r.length : Nat) : Int) := Int.mul_le_mul_of_nonneg_right (by omega) hp
    have e : (acc + 2) * ((10 ^ r.length * 10 : Nat) : Int) = 10 * (acc + 2) * ((10 ^ r.length : Nat) : Int) := by
      rw [Int.natCast_mul, Int.mul_comm ((10 ^ r.length : Nat) : Int) ((10 : Nat) : Int), ← Int.mul_assoc, Int.mul_comm (acc + 2) ((10 : Nat) : Int)]
      rfl
    omega
theorem readL_small (l : List UInt8) (h : l.length ≤ 8) : 0 ≤ readL 0 l ∧ readL 0 l < 200000000 := by
  obtain ⟨h1, h2⟩ := readL_bd l 0 (by omega)
  have hp : 10 ^ l.length ≤ 10 ^ 8 := Nat.pow_le_pow_right (by decide) h
  have h10 : 10 ^ 8 = 100000000 := by simp only [Nat.reducePow]
  rw [h10] at hp
  generalize 10 ^ l.length = T at h2 hp
  exact ⟨h1, by omega⟩
theorem dec_len (u : Nat) : ∀ k, u < 10 ^ (k + 1) → (Lib.decDigits u).length ≤ k + 1 := by
  intro k
  induction k generalizing u with
  | zero => intro h; rw [dec_small (by simpa using h)]; simp
  | succ k ih =>
    intro h
    by_cases hu : u < 10
    · rw [dec_small hu]; simp
    · rw [dec_big hu]
      have := ih (u / 10) (by rw [Nat.pow_succ] at h; omega)
      simp
      omega
/-! #### Cut at ':' -/
theorem idx_cons (c : UInt8) (r : List UInt8) (hc : ¬ c = 58) : (c :: r).idxOf 58 = r.idxOf 58 + 1 := by
  have h : (c == 58) = false := by simpa using hc
  rw [List.idxOf_cons, h]
  rfl
theorem index_colon : ∀ (l : List UInt8), Lib.index l [58] = if l.idxOf 58 < l.length then ((l.idxOf 58 : Nat) : Int) else -1
  | [] => by rfl
  | c :: r => by
    unfold Lib.index
    by_cases hc : c = 58
    · subst hc
      simp [List.isPrefixOf]
    · have h0 : ([58] : List UInt8).isPrefixOf (c :: r) = false := by
        simp [List.isPrefixOf]
        exact fun e => hc e.symm
      rw [if_neg (by rw [h0]; decide), index_colon r, idx_cons c r hc]
      by_cases h : r.idxOf 58 < r.length
      · rw [if_pos h, if_neg (by simp <;> omega), if_pos (by simp <;> omega)]
        omega
      · rw [if_neg h, if_pos (by rfl), if_neg (by simp <;> omega)]
theorem cut_colon (a b : List UInt8) (h : (58 : UInt8) ∉ a) : Lib.cut (a ++ 58 :: b) [58] = (a, b, true) := by
  have hi : (a ++ 58 :: b).idxOf 58 = a.length := by
    rw [List.idxOf_append, if_neg h, List.idxOf_cons_self]
    omega
  have e : Lib.index (a ++ 58 :: b) [58] = (a.length : Int) := by rw [index_colon, hi, if_pos (by simp)]
  unfold Lib.cut
  rw [e, if_pos (by omega)]
  simp
theorem cut_some {l : List UInt8} (h : (Lib.cut l [58]).2.1 ≠ []) : l = (Lib.cut l [58]).1 ++ 58 :: (Lib.cut l [58]).2.1 ∧ (58 : UInt8) ∉ (Lib.cut l [58]).1 := by
  unfold Lib.cut at h ⊢
  rw [index_colon] at h ⊢
  by_cases hi : l.idxOf 58 < l.length
  · rw [if_pos hi, if_pos (by omega)] at h ⊢
    simp only [Int.toNat_natCast, List.length_singleton]
    have hg : l[l.idxOf 58] = 58 := List.getElem_idxOf hi
    refine ⟨?_, ?_⟩
    · conv => lhs; rw [← List.take_append_drop (l.idxOf 58) l, List.drop_eq_getElem_cons hi, hg]
    · intro hm
      obtain ⟨j, hj, he⟩ := List.mem_iff_getElem.1 hm
      simp only [List.length_take] at hj
      rw [List.getElem_take] at he
      have := List.not_of_lt_findIdx (p := fun x => x == (58 : UInt8)) (xs := l) (i := j) (by show j < l.idxOf 58; omega)
      rw [he] at this
      simp at this
  · rw [if_neg hi, if_neg (by decide)] at h
    exact absurd rfl h
end Go.Proofs.YtmgfdcfbjgokgaaDoor
