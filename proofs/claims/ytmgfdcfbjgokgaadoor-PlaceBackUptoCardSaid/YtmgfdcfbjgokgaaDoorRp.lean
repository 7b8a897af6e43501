/- The reference's 'Text' and 'Parse', and both calls 'Common', in plain words. Texts cut at ' < ', and numerals: plain lists of bytes, no program. -/
import Derived.Lib.Split
import Derived.Lib.SplitLaws
import Derived.Lib.AtoiAll
import Derived.Lib.ItoaNum
import Derived.Lib.ItoaMem
import Derived.Lib.CutLaws
import Derived.Lib.Join
import Derived.Test.YtmgfdcfbjgokgaaDoorOwn
import Derived.Test.YtmgfdcfbjgokgaaDoorTextA
import Derived.Test.YtmgfdcfbjgokgaaDoorPLx6
import Derived.Test.YtmgfdcfbjgokgaaDoorPLx8
import Derived.Test.YtmgfdcfbjgokgaaDoorPLx7
import Derived.Test.YtmgfdcfbjgokgaaDoorPLx7
namespace Go.Proofs.YtmgfdcfbjgokgaaDoor
open Go
set_option linter.unusedVariables false
set_option linter.unusedSimpArgs false

abbrev sepL : List UInt8 := [32, 60, 32]
/-- A text cut at ' < ': what has been read of the piece, and what is left. -/
def scan (cur : List UInt8) : List UInt8 → List (List UInt8)
  | [] => [cur]
  | c :: r => if c = 32 ∧ r.take 2 = [60, 32] then cur :: scan [] (r.drop 2) else scan (cur ++ [c]) r
termination_by s => s.length
decreasing_by all_goals simp <;> omega
theorem scan_nil (cur : List UInt8) : scan cur [] = [cur] := by unfold scan; rfl
theorem scan_cons (cur : List UInt8) (c : UInt8) (r : List UInt8) : scan cur (c :: r) = if c = 32 ∧ r.take 2 = [60, 32] then cur :: scan [] (r.drop 2) else scan (cur ++ [c]) r := by
  conv => lhs; unfold scan
theorem scan_ne : ∀ (n : Nat) (s cur : List UInt8), s.length ≤ n → scan cur s ≠ []
  | _, [], cur, _ => by rw [scan_nil]; simp
  | n + 1, c :: r, cur, h => by
    rw [scan_cons]
    split
    · simp
    · exact scan_ne n r _ (by simpa using h)
theorem scan_short : ∀ (s cur : List UInt8), s.length < 3 → scan cur s = [cur ++ s]
  | [], cur, _ => by rw [scan_nil]; simp
  | c :: r, cur, h => by
    rw [scan_cons, if_neg, scan_short r _ (by simp at h; omega)]
    · simp
    · rintro ⟨_, h2⟩
      have := congrArg List.length h2
      simp at this h
      omega
theorem join_cons (x : List UInt8) {xs : List (List UInt8)} (h : xs ≠ []) : Lib.join (x :: xs) sepL = x ++ (sepL ++ Lib.join xs sepL) := by
  cases xs with
  | nil => exact absurd rfl h
  | cons y l => unfold Lib.join; rw [List.intercalate_cons_cons]; simp
theorem join_one (x : List UInt8) : Lib.join [x] sepL = x := by simp [Lib.join]
theorem take2 {r : List UInt8} (h : r.take 2 = [60, 32]) : r = 60 :: 32 :: r.drop 2 := by
  have := List.take_append_drop 2 r
  rw [h] at this
  exact this.symm
theorem scan_join : ∀ (n : Nat) (s cur : List UInt8), s.length ≤ n → Lib.join (scan cur s) sepL = cur ++ s
  | _, [], cur, _ => by rw [scan_nil, join_one]; simp
  | n + 1, c :: r, cur, h => by
    have h' : r.length ≤ n := by simpa using h
    rw [scan_cons]
    split
    · rename_i hc
      rw [join_cons _ (scan_ne n _ _ (by simp; omega)), scan_join n _ _ (by simp; omega)]
      rw [hc.1]
      conv => rhs; rw [take2 hc.2]
      simp
    · rw [scan_join n _ _ h']
      simp
theorem scan_free : ∀ (x r cur : List UInt8), (32 : UInt8) ∉ x → scan cur (x ++ r) = scan (cur ++ x) r
  | [], r, cur, _ => by simp
  | c :: x, r, cur, h => by
    have hc : ¬ c = 32 := fun e => h (by simp [e])
    rw [List.cons_append, scan_cons, if_neg (fun e => hc e.1), scan_free x r _ (fun e => h (by simp [e]))]
    simp
theorem scan_sep (cur r : List UInt8) : scan cur (sepL ++ r) = cur :: scan [] r := by
  show scan cur (32 :: 60 :: 32 :: r) = _
  rw [scan_cons, if_pos ⟨rfl, by simp⟩]
  simp
theorem scan_of_join : ∀ (xs : List (List UInt8)), xs ≠ [] → (∀ x ∈ xs, (32 : UInt8) ∉ x) → scan [] (Lib.join xs sepL) = xs
  | [], h, _ => absurd rfl h
  | [x], _, h => by
    rw [join_one]
    have := scan_free x [] [] (h x (by simp))
    rw [List.append_nil] at this
    rw [this, scan_nil]
    simp
  | x :: y :: l, _, h => by
    rw [join_cons x (by simp), scan_free x _ [] (h x (by simp)), scan_sep, scan_of_join (y :: l) (by simp) (fun z hz => h z (by simp [hz]))]
    simp
theorem pre_sep (c : UInt8) (r : List UInt8) : sepL.isPrefixOf (c :: r) = decide (c = 32 ∧ r.take 2 = [60, 32]) := by
  rw [Bool.eq_iff_iff, List.isPrefixOf_iff_prefix, decide_eq_true_eq, List.prefix_iff_eq_take]
  constructor
  · intro h
    simp at h
    exact ⟨h.1.symm, h.2.symm⟩
  · rintro ⟨rfl, h⟩
    simp [h]
theorem scan_index : ∀ (s cur : List UInt8), scan cur s = if Lib.index s sepL = -1 then [cur ++ s] else (cur ++ s.take (Lib.index s sepL).toNat) :: scan [] (s.drop ((Lib.index s sepL).toNat + 3))
  | [], cur => by
    rw [scan_nil, if_pos (by rfl)]
    simp
  | c :: r, cur => by
    have hge := Lib.index_ge r sepL
    rw [scan_cons]
    by_cases hc : c = 32 ∧ r.take 2 = [60, 32]
    · have hi : Lib.index (c :: r) sepL = 0 := by
        unfold Lib.index
        rw [if_pos (by rw [pre_sep]; simpa using hc)]
      rw [if_pos hc, hi, if_neg (by decide)]
      simp
    · have hi : Lib.index (c :: r) sepL = if Lib.index r sepL = -1 then -1 else Lib.index r sepL + 1 := by
        conv => lhs; unfold Lib.index
        rw [if_neg (by rw [pre_sep]; simpa using hc)]
        by_cases h1 : Lib.index r sepL = -1
        · rw [if_pos (beq_iff_eq.2 h1), if_pos h1]
        · rw [if_neg (fun e => h1 (beq_iff_eq.1 e)), if_neg h1]
      rw [if_neg hc, scan_index r (cur ++ [c]), hi]
      by_cases h1 : Lib.index r sepL = -1
      · rw [if_pos h1, if_pos h1, if_pos rfl]
        simp
      · rw [if_neg h1, if_neg h1, if_neg (by omega)]
        obtain ⟨i, hi⟩ : ∃ i : Nat, Lib.index r sepL = i := ⟨(Lib.index r sepL).toNat, by omega⟩
        have e1 : (Lib.index r sepL).toNat = i := by omega
        have e2 : (Lib.index r sepL + 1).toNat = i + 1 := by omega
        rw [e1, e2, show i + 1 + 3 = (i + 3) + 1 by omega, List.take_succ_cons, List.drop_succ_cons]
        simp
abbrev sepB : ByteArray := ⟨#[32, 60, 32]⟩
theorem split_scan : ∀ (k : Nat) (s : ByteArray), Lib.countB s sepB = k → (Lib.splitB sepB 0 k s).map (·.data.toList) = scan [] s.data.toList
  | k, s, h => by
    have hx : Lib.indexB s sepB = Lib.index s.data.toList sepL := rfl
    have hge := Lib.index_ge s.data.toList sepL
    rw [scan_index]
    by_cases h1 : Lib.index s.data.toList sepL = -1
    · rw [if_pos h1, Lib.splitB_miss _ _ _ _ (hx.trans h1)]
      simp
    · rw [if_neg h1]
      obtain ⟨i, hi⟩ : ∃ i : Nat, Lib.index s.data.toList sepL = i := ⟨(Lib.index s.data.toList sepL).toNat, by omega⟩
      have e1 : (Lib.index s.data.toList sepL).toNat = i := by omega
      have hc := Lib.countB_hit s sepB i (by decide) (hx.trans hi)
      match k, h with
      | 0, h => omega
      | k + 1, h =>
        rw [Lib.splitB_hit _ _ _ _ _ (hx.trans hi), List.map_cons, split_scan k _ (by omega), Lib.extract_from_zero, Lib.extract_to_end, e1]
        simp
        rfl
/-! #### Numerals -/
theorem dec_small {u : Nat} (h : u < 10) : Lib.decDigits u = [UInt8.ofNat (48 + u)] := by rw [Lib.decDigits, dif_pos h]
theorem dec_big {u : Nat} (h : ¬ u < 10) : Lib.decDigits u = Lib.decDigits (u / 10) ++ [UInt8.ofNat (48 + u % 10)] := by rw [Lib.decDigits, dif_neg h]
theorem dig_nat (d : Nat) (h : d < 10) : (UInt8.ofNat (48 + d)).toNat = 48 + d := by
  rw [UInt8.toNat_ofNat']
  omega
theorem parse_snoc : ∀ (l : List UInt8) (acc u d : Nat), Lib.parseUint10 acc l = .ok u → u * 10 + d < 18446744073709551616 → d < 10 → Lib.parseUint10 acc (l ++ [UInt8.ofNat (48 + d)]) = .ok (u * 10 + d)
  | [], acc, u, d, h, hu, hd => by
    simp only [Lib.parseUint10] at h
    injection h with h
    subst h
    have := dig_nat d hd
    simp only [List.nil_append, Lib.parseUint10]
    rw [this, if_pos (by omega), if_neg (by omega), if_neg (by omega)]
    simp
  | c :: l, acc, u, d, h, hu, hd => by
    simp only [Lib.parseUint10, List.cons_append] at h ⊢
    split at h
    · rename_i h1
      rw [if_pos h1]
      split at h
      · cases h
      · rename_i h2
        rw [if_neg h2]
        split at h
        · cases h
        · rename_i h3
          rw [if_neg h3]
          exact parse_snoc l _ u d h hu hd
    · cases h
theorem parse_dec (u : Nat) (hu : u < 18446744073709551616) : Lib.parseUint10 0 (Lib.decDigits u) = .ok u := by
  induction u using Nat.strongRecOn with
  | _ u ih =>
    by_cases h : u < 10
    · rw [dec_small h]
      have := parse_snoc [] 0 0 u rfl (by omega) h
      simpa using this
    · rw [dec_big h]
      have := parse_snoc _ 0 (u / 10) (u % 10) (ih (u / 10) (by omega) (by omega)) (by omega) (by omega)
      rw [this]
      congr 1
      omega
theorem dec_ne (u : Nat) : Lib.decDigits u ≠ [] := by
  by_cases h : u < 10
  · rw [dec_small h]; simp
  · rw [dec_big h]; simp
theorem dec_all (u : Nat) : ∀ c ∈ Lib.decDigits u, 48 ≤ c.toNat ∧ c.toNat ≤ 57 := by
  induction u using Nat.strongRecOn with
  | _ u ih =>
    by_cases h : u < 10
    · rw [dec_small h]
      intro c hc
      rw [List.mem_singleton.1 hc, dig_nat u h]
      omega
    · rw [dec_big h]
      intro c hc
      rcases List.mem_append.1 hc with hc | hc
      · exact ih (u / 10) (by omega) c hc
      · rw [List.mem_singleton.1 hc, dig_nat _ (by omega)]
        omega
theorem itoa_nat (u : Nat) : Lib.itoa (u : Int) = Lib.decDigits u := Lib.itoa_nonneg u
theorem atoi_itoa (n : Int) (h0 : 0 ≤ n) (h1 : n ≤ 9223372036854775807) : Lib.atoiAll (Lib.itoa n) = .ok n := by
  obtain ⟨u, rfl⟩ : ∃ u : Nat, n = u := ⟨n.toNat, by omega⟩
  rw [itoa_nat]
  have hp := parse_dec u (by omega)
  have ha := dec_all u
  have hn := dec_ne u
  match hl : Lib.decDigits u, hn with
  | c :: r, _ =>
    rw [hl] at hp ha
    have hc := ha c (by simp)
    unfold Lib.atoiAll
    simp only
    rw [if_neg (by omega)]
    unfold Lib.parseMag
    rw [if_neg (by simp), hp]
    simp only
    rw [if_neg (by omega), if_neg (by omega), if_neg (by omega)]
/-- Digits read one behind the other. -/
def readL (acc : Int) : List UInt8 → Int
  | [] => acc
  | c :: r => readL (10 * acc + (c.toNat % 16 : Nat)) r
theorem readL_append : ∀ (l r : List UInt8) (acc : Int), readL acc (l ++ r) = readL (readL acc l) r
  | [], r, acc => rfl
  | c :: l, r, acc => readL_append l r _
theorem readL_dec (u : Nat) : readL 0 (Lib.decDigits u) = u := by
  induction u using Nat.strongRecOn with
  | _ u ih =>
    by_cases h : u < 10
    · rw [dec_small h]
      simp only [readL]
      rw [dig_nat u h]
      omega
    · rw [dec_big h, readL_append, ih (u / 10) (by omega)]
      simp only [readL]
      rw [dig_nat _ (by omega)]
      omega
theorem readL_bd : ∀ (l : List UInt8) (acc : Int), 0 ≤ acc → 0 ≤ readL acc l ∧ readL acc l < (acc + 2) * ((10 ^ l.length : Nat) : Int)
  | [], acc, h => by simp [readL]; omega
  | c :: r, acc, h => by
    have hc : c.toNat % 16 < 16 := Nat.mod_lt _ (by decide)
    obtain ⟨h1, h2⟩ := readL_bd r (10 * acc + (c.toNat % 16 : Nat)) (by omega)
    refine ⟨h1, ?_⟩
    simp only [readL, List.length_cons]
    refine Int.lt_of_lt_of_le h2 ?_
    rw [Nat.pow_succ]
    have hp : (0 : Int) ≤ ((10 ^ r.length : Nat) : Int) := Int.natCast_nonneg _
    have : (10 * acc + ((c.toNat % 16 : Nat) : Int) + 2) * ((10 ^ r.length : Nat) : Int) ≤ (10 * (acc + 2)) * ((10 ^ r.length : Nat) : Int) := Int.mul_le_mul_of_nonneg_right (by omega) hp
    have e : (acc + 2) * ((10 ^ r.length * 10 : Nat) : Int) = 10 * (acc + 2) * ((10 ^ r.length : Nat) : Int) := by
      rw [Int.natCast_mul, Int.mul_comm ((10 ^ r.length : Nat) : Int) ((10 : Nat) : Int), ← Int.mul_assoc, Int.mul_comm (acc + 2) ((10 : Nat) : Int)]
      rfl
    omega
theorem readL_small (l : List UInt8) (h : l.length ≤ 8) : 0 ≤ readL 0 l ∧ readL 0 l < 200000000 := by
  obtain ⟨h1, h2⟩ := readL_bd l 0 (by omega)
  have hp : 10 ^ l.length ≤ 10 ^ 8 := Nat.pow_le_pow_right (by decide) h
  have h10 : 10 ^ 8 = 100000000 := by simp only [Nat.reducePow]
  rw [h10] at hp
  generalize 10 ^ l.length = T at h2 hp
  exact ⟨h1, by omega⟩
theorem dec_len (u : Nat) : ∀ k, u < 10 ^ (k + 1) → (Lib.decDigits u).length ≤ k + 1 := by
  intro k
  induction k generalizing u with
  | zero => intro h; rw [dec_small (by simpa using h)]; simp
  | succ k ih =>
    intro h
    by_cases hu : u < 10
    · rw [dec_small hu]; simp
    · rw [dec_big hu]
      have := ih (u / 10) (by rw [Nat.pow_succ] at h; omega)
      simp
      omega
/-! #### Cut at ':' -/
theorem idx_cons (c : UInt8) (r : List UInt8) (hc : ¬ c = 58) : (c :: r).idxOf 58 = r.idxOf 58 + 1 := by
  have h : (c == 58) = false := by simpa using hc
  rw [List.idxOf_cons, h]
  rfl
theorem index_colon : ∀ (l : List UInt8), Lib.index l [58] = if l.idxOf 58 < l.length then ((l.idxOf 58 : Nat) : Int) else -1
  | [] => by rfl
  | c :: r => by
    unfold Lib.index
    by_cases hc : c = 58
    · subst hc
      simp [List.isPrefixOf]
    · have h0 : ([58] : List UInt8).isPrefixOf (c :: r) = false := by
        simp [List.isPrefixOf]
        exact fun e => hc e.symm
      rw [if_neg (by rw [h0]; decide), index_colon r, idx_cons c r hc]
      by_cases h : r.idxOf 58 < r.length
      · rw [if_pos h, if_neg (by simp <;> omega), if_pos (by simp <;> omega)]
        omega
      · rw [if_neg h, if_pos (by rfl), if_neg (by simp <;> omega)]
theorem cut_colon (a b : List UInt8) (h : (58 : UInt8) ∉ a) : Lib.cut (a ++ 58 :: b) [58] = (a, b, true) := by
  have hi : (a ++ 58 :: b).idxOf 58 = a.length := by
    rw [List.idxOf_append, if_neg h, List.idxOf_cons_self]
    omega
  have e : Lib.index (a ++ 58 :: b) [58] = (a.length : Int) := by rw [index_colon, hi, if_pos (by simp)]
  unfold Lib.cut
  rw [e, if_pos (by omega)]
  simp
theorem cut_some {l : List UInt8} (h : (Lib.cut l [58]).2.1 ≠ []) : l = (Lib.cut l [58]).1 ++ 58 :: (Lib.cut l [58]).2.1 ∧ (58 : UInt8) ∉ (Lib.cut l [58]).1 := by
  unfold Lib.cut at h ⊢
  rw [index_colon] at h ⊢
  by_cases hi : l.idxOf 58 < l.length
  · rw [if_pos hi, if_pos (by omega)] at h ⊢
    simp only [Int.toNat_natCast, List.length_singleton]
    have hg : l[l.idxOf 58] = 58 := List.getElem_idxOf hi
    refine ⟨?_, ?_⟩
    · conv => lhs; rw [← List.take_append_drop (l.idxOf 58) l, List.drop_eq_getElem_cons hi, hg]
    · intro hm
      obtain ⟨j, hj, he⟩ := List.mem_iff_getElem.1 hm
      simp only [List.length_take] at hj
      rw [List.getElem_take] at he
      have := List.not_of_lt_findIdx (p := fun x => x == (58 : UInt8)) (xs := l) (i := j) (by show j < l.idxOf 58; omega)
      rw [he] at this
      simp at this
  · rw [if_neg hi, if_neg (by decide)] at h
    exact absurd rfl h
end Go.Proofs.YtmgfdcfbjgokgaaDoor
namespace Go.Proofs.YtmgfdcfbjgokgaaDoor
open Go Go.RowKit Go.Proofs.YtmgfdcfbjgokgaaDoorW.PrintWords Go.Proofs.YtmgfdcfbjgokgaaDoorW.PrintLast Go.Proofs.YtmgfdcfbjgokgaaDoorW.PrintMore Go.Proofs.YtmgfdcfbjgokgaaDoor.PL
set_option linter.unusedVariables false
set_option linter.unusedSimpArgs false

theorem bs_ext {a b : ByteArray} (h : a.data.toList = b.data.toList) : a = b := by
  cases a; cases b
  simp only at h
  congr
  exact Array.toList_inj.1 h
theorem bs_append (a b : ByteArray) : (a ++ b).data.toList = a.data.toList ++ b.data.toList := by simp [ByteArray.data_append]
theorem bs_inj {xs ys : List ByteArray} (h : xs.map (·.data.toList) = ys.map (·.data.toList)) : xs = ys := by
  induction xs generalizing ys with
  | nil => cases ys with
    | nil => rfl
    | cons y ys => simp at h
  | cons x xs ih => cases ys with
    | nil => simp at h
    | cons y ys =>
      simp only [List.map_cons, List.cons.injEq] at h
      rw [bs_ext h.1, ih h.2]
theorem bs_size (s : ByteArray) : s.size = s.data.toList.length := Lib.size_eq s
/-! #### Digits -/
theorem digit_one (u : Nat) : strOfNums [wrap64 (48 + Int.tmod (u : Int) 10) % 256] = ⟨#[UInt8.ofNat (48 + u % 10)]⟩ := by
  have h1 : Int.tmod (u : Int) 10 = ((u % 10 : Nat) : Int) := (Int.ofNat_tmod u 10).symm
  have h2 : wrap64 (48 + Int.tmod (u : Int) 10) % 256 = ((48 + u % 10 : Nat) : Int) := by rw [h1]; unfold wrap64; omega
  rw [h2]
  unfold strOfNums
  simp only [List.map_cons, List.map_nil, Int.toNat_natCast]
theorem digit_div (u : Nat) (h : u ≤ 9223372036854775807) : wrap64 (Int.tdiv (u : Int) 10) = ((u / 10 : Nat) : Int) := by
  have h1 : Int.tdiv (u : Int) 10 = ((u / 10 : Nat) : Int) := (Int.ofNat_tdiv u 10).symm
  rw [h1]; unfold wrap64; omega
theorem digits_l0 (u : Nat) : ∀ (k : Nat) (acc : ByteArray), 1 ≤ u → u ≤ 9223372036854775807 → (Lib.decDigits u).length < k → acc.size + (Lib.decDigits u).length ≤ 9223372036854775807 →
    errataref03_digits.l0 k (u : Int) acc = some (⟨(Lib.decDigits u).toArray⟩ ++ acc) := by
  induction u using Nat.strongRecOn with
  | _ u ih =>
    intro k acc h1 h2 h3 h4
    obtain ⟨k, rfl⟩ : ∃ j, k = j + 1 := ⟨k - 1, by omega⟩
    simp only [errataref03_digits.l0]
    have hsz : (⟨#[UInt8.ofNat (48 + u % 10)]⟩ : ByteArray).size = 1 := rfl
    have hlp : 1 ≤ (Lib.decDigits u).length := List.length_pos_iff.2 (dec_ne u)
    rw [if_pos (by omega), Option.bind_some, digit_one, if_pos (by rw [hsz]; omega), digit_div u h2]
    by_cases h : u < 10
    · have e0 : u / 10 = 0 := by omega
      obtain ⟨k, rfl⟩ : ∃ j, k = j + 1 := ⟨k - 1, by omega⟩
      rw [e0]
      simp only [errataref03_digits.l0]
      rw [if_neg (by omega), if_neg (by
        intro e
        rw [ByteArray.toList_eq, bs_append] at e
        simp at e), dec_small h, Nat.mod_eq_of_lt h]
    · rw [dec_big h, List.length_append] at h3 h4
      simp only [List.length_singleton] at h3 h4
      rw [ih (u / 10) (by omega) k _ (by omega) (by omega) (by omega) (by rw [ByteArray.size_append, hsz]; omega)]
      congr 1
      apply bs_ext
      rw [bs_append, bs_append, bs_append, dec_big h]
      simp
theorem digits_f (n : Int) (h0 : 0 ≤ n) (h1 : n ≤ 1048576) (k : Nat) (hk : 12 ≤ k) : errataref03_digits.f k n = some (decB n) := by
  obtain ⟨u, rfl⟩ : ∃ u : Nat, n = u := ⟨n.toNat, by omega⟩
  unfold errataref03_digits.f decB
  rw [itoa_nat]
  have hl := dec_len u 6 (by omega)
  by_cases hu : u = 0
  · subst hu
    obtain ⟨k, rfl⟩ : ∃ j, k = j + 2 := ⟨k - 2, by omega⟩
    simp only [errataref03_digits.l0]
    have d0 := digit_one 0
    have d1 := digit_div 0 (by omega)
    rw [if_neg (by omega), if_pos (by rw [ByteArray.toList_eq]), Option.bind_some, d0, if_pos (by decide), d1, if_neg (by omega), if_neg (by
        intro e
        rw [ByteArray.toList_eq, bs_append] at e
        simp at e), dec_small (by omega)]
    rfl
  · rw [digits_l0 u k _ (by omega) (by omega) (by omega) (by
      have e : (⟨#[]⟩ : ByteArray).size = 0 := rfl
      rw [e]; omega)]
    congr 1
    apply bs_ext
    rw [bs_append]
    simp
/-! #### Text -/
theorem join_snoc : ∀ (xs : List (List UInt8)) (x : List UInt8), xs ≠ [] → Lib.join (xs ++ [x]) sepL = Lib.join xs sepL ++ (sepL ++ x)
  | [], _, h => absurd rfl h
  | [y], x, _ => by
    show Lib.join (y :: [x]) sepL = _
    rw [join_cons y (by simp), join_one, join_one]
  | y :: z :: l, x, _ => by
    have ih := join_snoc (z :: l) x (by simp)
    rw [List.cons_append, join_cons y (by simp), ih, join_cons y (by simp)]
    simp
/-- The texts of places, the innermost ahead. -/
def txts (L : List Pl) : List (List UInt8) := L.reverse.map fun x => (ptxt decB x).data.toList
theorem textB_eq (L : List Pl) : textB L = ⟨(Lib.join (txts L) sepL).toArray⟩ := rfl
theorem ptxt_data (x : Pl) : (ptxt decB x).data.toList = x.1.data.toList ++ 58 :: Lib.itoa x.2 := by
  unfold ptxt decB
  rw [bs_append, bs_append]
  simp
theorem txts_take (L : List Pl) (j : Nat) (hj : j < L.length) : (txts L).take (L.length - j) = (txts L).take (L.length - (j + 1)) ++ [(ptxt decB L[j]).data.toList] := by
  have hl : (txts L).length = L.length := by simp [txts]
  have e : L.length - j = (L.length - (j + 1)) + 1 := by omega
  rw [e, List.take_succ_eq_append_getElem (by rw [hl]; omega)]
  congr 2
  simp only [txts, List.getElem_map, List.getElem_reverse]
  have : L.length - 1 - (L.length - (j + 1)) = j := by omega
  simp only [this]
theorem join_size (L : List Pl) (hL : ∀ x ∈ L, mayB x.1 x.2 = true) (m : Nat) (h64 : L.length ≤ 64) : (Lib.join ((txts L).take m) sepL).length ≤ 9280 := by
  have := join_len ((txts L).take m) 142 (fun x hx => by
    obtain ⟨p, hp, rfl⟩ := List.mem_map.1 (List.mem_of_mem_take hx)
    have := ptxt_size p (hL p (by simpa using hp))
    rwa [bs_size] at this)
  change (Lib.join ((txts L).take m) sepL).length ≤ _ at this
  have hl : ((txts L).take m).length ≤ 64 := by
    rw [List.length_take]
    simp [txts]
    omega
  omega
theorem join_ne : ∀ (xs : List (List UInt8)), xs ≠ [] → (∀ x ∈ xs, x ≠ []) → Lib.join xs sepL ≠ []
  | [], h, _ => absurd rfl h
  | [x], _, h => by rw [join_one]; exact h x (by simp)
  | x :: y :: l, _, h => by rw [join_cons x (by simp)]; simp
theorem rtext_l0 (l : List S95) (h64 : l.length ≤ 64) (hm : ∀ x ∈ l.map rpl, mayB x.1 x.2 = true) : ∀ (j k : Nat), j ≤ l.length → j + 13 ≤ k →
    errataref03_Text.l0 k l ⟨(Lib.join ((txts (l.map rpl)).take (l.length - j)) sepL).toArray⟩ ((j : Int) - 1) = some (textB (l.map rpl), 0)
  | 0, k + 1, hj, hk => by
    simp only [errataref03_Text.l0]
    rw [if_neg (by omega), textB_eq, List.take_of_length_le (by simp [txts])]
  | j + 1, k + 1, hj, hk => by
    have hjl : j < l.length := by omega
    have hjm : j < (l.map rpl).length := by rw [List.length_map]; omega
    have hr : rd_T95 l (j : Int) = l[j] := by simp [rd_T95, hjl]
    have hmj : mayB l[j].f0 l[j].f1 = true := hm (rpl l[j]) (List.mem_map.2 ⟨_, List.getElem_mem hjl, rfl⟩)
    obtain ⟨b1, b2, b3, b4⟩ := mayB_bd hmj
    have hd := digits_f l[j].f1 b3 b4 k (by omega)
    have hds := decB_size l[j].f1 (by omega) (by omega)
    have hs := join_size (l.map rpl) hm (l.length - (j + 1)) (by rw [List.length_map]; exact h64)
    have hsB : (⟨(Lib.join ((txts (l.map rpl)).take (l.length - (j + 1))) sepL).toArray⟩ : ByteArray).size ≤ 9280 := by rw [bs_size]; simpa using hs
    have htk := txts_take (l.map rpl) j hjm
    rw [List.length_map] at htk
    have hgj : (l.map rpl)[j] = rpl l[j] := List.getElem_map _
    rw [hgj] at htk
    have hp := ptxt_data (rpl l[j])
    have e1 : (⟨#[58]⟩ : ByteArray).size = 1 := rfl
    have e3 : (⟨#[32, 60, 32]⟩ : ByteArray).size = 3 := rfl
    have ej : ((j + 1 : Nat) : Int) - 1 = (j : Int) := by omega
    have ew : wrap64 ((j : Int) - 1) = (j : Int) - 1 := by unfold wrap64; omega
    have ih := rtext_l0 l h64 hm j k (by omega) (by omega)
    rw [htk] at ih
    rw [ej]
    simp only [errataref03_Text.l0]
    rw [if_pos (by omega)]
    generalize hS : (⟨(Lib.join ((txts (l.map rpl)).take (l.length - (j + 1))) sepL).toArray⟩ : ByteArray) = S at hsB ⊢
    have hSd : S.data.toList = Lib.join ((txts (l.map rpl)).take (l.length - (j + 1))) sepL := by rw [← hS]
    by_cases hz : j + 1 = l.length
    · have e0 : l.length - (j + 1) = 0 := by omega
      rw [e0] at ih hSd
      simp only [List.take_zero, List.nil_append, join_one] at ih
      have hS0 : S.data.toList = [] := by rw [hSd]; simp [Lib.join]
      have hSe : S.size = 0 := by rw [bs_size, hS0]; rfl
      rw [if_pos (by rw [ByteArray.toList_eq]; exact hS0), if_pos (by omega), if_pos (by omega), hr, if_pos (by omega), if_pos (by rw [ByteArray.size_append]; omega), hd, Option.bind_some, if_pos (by rw [ByteArray.size_append, ByteArray.size_append]; omega), ew]
      rw [← ih]
      congr 1
      apply bs_ext
      rw [bs_append, bs_append, bs_append, hS0, hp]
      simp [rpl, decB]
    · have hne : (txts (l.map rpl)).take (l.length - (j + 1)) ≠ [] := by
        intro e
        have := congrArg List.length e
        simp [txts] at this
        omega
      have hSn : ¬ S.data.toList = [] := by
        rw [hSd]
        refine join_ne _ hne (fun x hx => ?_)
        obtain ⟨p, hp, rfl⟩ := List.mem_map.1 (List.mem_of_mem_take hx)
        rw [ptxt_data]
        simp
      rw [join_snoc _ _ hne] at ih
      rw [if_neg (by rw [ByteArray.toList_eq]; exact hSn), if_pos (by omega), if_pos (by omega), if_pos (by omega), hr, if_pos (by rw [ByteArray.size_append]; omega), if_pos (by rw [ByteArray.size_append, ByteArray.size_append]; omega), hd, Option.bind_some, if_pos (by rw [ByteArray.size_append, ByteArray.size_append, ByteArray.size_append]; omega), ew]
      rw [← ih]
      congr 1
      apply bs_ext
      rw [bs_append, bs_append, bs_append, bs_append, hSd, hp]
      simp [rpl, decB]
theorem rtext_f (l : List S95) (hl : l.length ≤ 9223372036854775806) (k : Nat) (hk : l.length + 130 ≤ k) : errataref03_Text.f k l = some (textOf (l.map rpl)) := by
  unfold errataref03_Text.f textOf
  rw [rcheck_f l hl k (by omega), Option.bind_some]
  by_cases h : checkN (l.map rpl) = 0
  · obtain ⟨h64, hm⟩ := checkN_zero h
    rw [List.length_map] at h64
    have := rtext_l0 l h64 hm l.length k (Nat.le_refl _) (by omega)
    rw [Nat.sub_self] at this
    rw [if_pos h, if_pos h, ← this]
    congr 1
    unfold wrap64
    omega
  · rw [if_neg h, if_neg h]
/-! #### Common -/
def commN : List Pl → List Pl → Nat
  | x :: xs, y :: ys => if x = y then commN xs ys + 1 else 0
  | _, _ => 0
theorem commN_le : ∀ (a b : List Pl), commN a b ≤ a.length ∧ commN a b ≤ b.length
  | [], b => by simp [commN]
  | x :: xs, [] => by simp [commN]
  | x :: xs, y :: ys => by
    have := commN_le xs ys
    unfold commN
    split <;> simp <;> omega
theorem commN_drop (a b : List Pl) (j : Nat) (ha : j < a.length) (hb : j < b.length) : commN (a.drop j) (b.drop j) = if a[j] = b[j] then commN (a.drop (j + 1)) (b.drop (j + 1)) + 1 else 0 := by
  rw [List.drop_eq_getElem_cons ha, List.drop_eq_getElem_cons hb]
  rfl
theorem eq_pl (x y : Pl) : ((x.1.toList == y.1.toList) && (x.2 == y.2)) = decide (x = y) := by
  rw [Bool.eq_iff_iff, Bool.and_eq_true, decide_eq_true_eq]
  simp only [beq_iff_eq]
  constructor
  · rintro ⟨h1, h2⟩
    rw [ByteArray.toList_eq, ByteArray.toList_eq] at h1
    exact Prod.ext (bs_ext h1) h2
  · rintro rfl
    exact ⟨rfl, rfl⟩
theorem rcomm_l0 (a b : List S95) (hl : a.length ≤ 9223372036854775806) : ∀ (d k j : Nat), j + d = a.length → d < k → j ≤ b.length → errataref03_Common.l0 k a b (j : Int) = some ((j + commN ((a.map rpl).drop j) ((b.map rpl).drop j) : Nat) : Int)
  | 0, k + 1, j, hj, _, hb => by
    have e : (a.map rpl).drop j = [] := List.drop_eq_nil_of_le (by rw [List.length_map]; omega)
    rw [e]
    simp only [errataref03_Common.l0]
    rw [if_neg (by omega)]
    simp [commN]
  | d + 1, k + 1, j, hj, hk, hb => by
    have hja : j < a.length := by omega
    simp only [errataref03_Common.l0]
    rw [if_pos (by omega)]
    by_cases hjb : j < b.length
    · have hr : rd_T95 a (j : Int) = a[j] := by simp [rd_T95, hja]
      have hs : rd_T95 b (j : Int) = b[j] := by simp [rd_T95, hjb]
      have he := eq_pl (rpl a[j]) (rpl b[j])
      rw [if_pos (by omega), if_pos (by omega), hr, hs, commN_drop _ _ j (by rw [List.length_map]; exact hja) (by rw [List.length_map]; exact hjb), List.getElem_map, List.getElem_map]
      show (if ((a[j].f0.toList == b[j].f0.toList) && (a[j].f1 == b[j].f1)) = true then _ else _) = _
      rw [show ((a[j].f0.toList == b[j].f0.toList) && (a[j].f1 == b[j].f1)) = decide (rpl a[j] = rpl b[j]) from he]
      by_cases h : rpl a[j] = rpl b[j]
      · rw [if_pos (by simpa using h), if_pos h, wrap_succ j (by omega), rcomm_l0 a b hl d k (j + 1) (by omega) (by omega) (by omega)]
        congr 1
        omega
      · rw [if_neg (by simpa using h), if_neg h]
        rfl
    · have e : (b.map rpl).drop j = [] := List.drop_eq_nil_of_le (by rw [List.length_map]; omega)
      rw [if_neg (by omega), e]
      cases (a.map rpl).drop j <;> simp [commN]
theorem rcomm_f (a b : List S95) (hl : a.length ≤ 9223372036854775806) : errataref03_Common.f (a.length + 1) a b = some (commN (a.map rpl) (b.map rpl) : Int) := by
  have := rcomm_l0 a b hl a.length (a.length + 1) 0 (by omega) (by omega) (by omega)
  simpa [errataref03_Common.f] using this
theorem comm_l0 (a b : List S60) (hl : a.length ≤ 9223372036854775806) (m : Nat) (ha : m ≤ a.length) (hb : m ≤ b.length) (hz : m = a.length ∨ m = b.length) : ∀ (d k j : Nat), j + d = m → d < k → place_Common.l0 k a b (m : Int) (m : Int) (j : Int) = some ((j + commN ((a.map toPl).drop j) ((b.map toPl).drop j) : Nat) : Int)
  | 0, k + 1, j, hj, _ => by
    have e : commN ((a.map toPl).drop j) ((b.map toPl).drop j) = 0 := by
      rcases hz with h | h
      · rw [List.drop_eq_nil_of_le (by rw [List.length_map]; omega)]
        simp [commN]
      · have hn : (b.map toPl).drop j = [] := List.drop_eq_nil_of_le (by rw [List.length_map]; omega)
        rw [hn]
        cases (a.map toPl).drop j <;> simp [commN]
    rw [e]
    simp only [place_Common.l0]
    rw [if_neg (by omega)]
    congr 1
    omega
  | d + 1, k + 1, j, hj, hk => by
    have hja : j < a.length := by omega
    have hjb : j < b.length := by omega
    have hr : rd_T60 a (j : Int) = a[j] := by simp [rd_T60, hja]
    have hs : rd_T60 b (j : Int) = b[j] := by simp [rd_T60, hjb]
    have he := eq_pl (toPl a[j]) (toPl b[j])
    simp only [place_Common.l0]
    rw [if_pos (by omega), if_pos (by omega), if_pos (by omega), if_pos (by omega), hr, hs, commN_drop _ _ j (by rw [List.length_map]; exact hja) (by rw [List.length_map]; exact hjb), List.getElem_map, List.getElem_map]
    have he2 : ((!(a[j].f0.toList == b[j].f0.toList)) || (!(a[j].f1 == b[j].f1))) = decide (¬ toPl a[j] = toPl b[j]) := by
      rw [← Bool.not_and, show ((a[j].f0.toList == b[j].f0.toList) && (a[j].f1 == b[j].f1)) = decide (toPl a[j] = toPl b[j]) from he]
      simp
    rw [he2]
    by_cases h : toPl a[j] = toPl b[j]
    · rw [if_neg (by simpa using h), if_pos h, wrap_succ j (by omega), comm_l0 a b hl m ha hb hz d k (j + 1) (by omega) (by omega)]
      congr 1
      omega
    · rw [if_pos (by simpa using h), if_neg h]
      rfl
theorem comm_f (a b : List S60) (hl : a.length ≤ 9223372036854775806) : place_Common.f (a.length + 1) a b = some (commN (a.map toPl) (b.map toPl) : Int) := by
  have e : mn (a.length : Int) (b.length : Int) = ((min a.length b.length : Nat) : Int) := by unfold mn; split <;> omega
  have := comm_l0 a b hl (min a.length b.length) (by omega) (by omega) (by omega) (min a.length b.length) (a.length + 1) 0 (by omega) (by omega)
  unfold place_Common.f
  rw [e]
  simpa using this
end Go.Proofs.YtmgfdcfbjgokgaaDoor
