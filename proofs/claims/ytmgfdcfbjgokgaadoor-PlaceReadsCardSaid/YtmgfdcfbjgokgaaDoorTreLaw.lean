/- The tree of stacks in plain words: paths, what is added is told again, where two meet. No program. The tree of stacks in plain words: what is told is read as the tree. No program. -/
import Derived.Test.YtmgfdcfbjgokgaaDoorTreStk
import Derived.Test.YtmgfdcfbjgokgaaDoorTreTold
import Derived.Test.YtmgfdcfbjgokgaaDoorTreFrom
namespace Go.Proofs.YtmgfdcfbjgokgaaDoor
open Go Go.RowKit Go.Proofs.YtmgfdcfbjgokgaaDoorW.PrintWords Go.Proofs.YtmgfdcfbjgokgaaDoorW.PrintLast Go.Proofs.YtmgfdcfbjgokgaaDoor.PL
set_option linter.unusedVariables false
set_option linter.unusedSimpArgs false

theorem bs_ext {a b : ByteArray} (h : a.data.toList = b.data.toList) : a = b := by
  cases a; cases b
  simp only at h
  congr
  exact Array.ext' h
theorem stack_zero (T : Tr) : stackT T 0 = [] := rfl
theorem stack_up {T : Tr} (hw : T.wf) {n : Nat} (h0 : 0 < n) (hn : n < T.nodes.length) : stackT T n = stackT T (upT T n) ++ [(T.nodes.getD n (0, (⟨#[]⟩, 0))).2] := by
  obtain ⟨k, rfl⟩ : ∃ k, n = k + 1 := ⟨n - 1, by omega⟩
  have hu := upT_lt hw (a := k + 1) (by omega) hn
  unfold stackT
  show (if k + 1 = 0 then [] else _ :: pathUp T k (upT T (k + 1))).reverse = _
  rw [if_neg (by omega), List.reverse_cons, pathUp_fuel hw k _ (by omega) (by omega)]
theorem deep_eq {T : Tr} (hw : T.wf) : ∀ (b n : Nat), n < b → n < T.nodes.length → T.deep.getD n 0 = (stackT T n).length
  | 0, _, h, _ => by omega
  | b + 1, n, hb, hn => by
    by_cases h0 : n = 0
    · subst h0; exact hw.deep0
    · have hu := upT_lt hw (a := n) (by omega) hn
      rw [stack_up hw (by omega) hn, List.length_append, ← deep_eq hw b (upT T n) (by omega) (by omega), (hw.ok n (by omega) hn).2.2]
      unfold upT
      rw [List.getD_eq_getElem?_getD (l := T.nodes), List.getElem?_eq_getElem hn]
      rfl
end Go.Proofs.YtmgfdcfbjgokgaaDoor
namespace Go.Proofs.YtmgfdcfbjgokgaaDoor
open Go Go.RowKit Go.Proofs.YtmgfdcfbjgokgaaDoorW.PrintWords Go.Proofs.YtmgfdcfbjgokgaaDoorW.PrintLast Go.Proofs.YtmgfdcfbjgokgaaDoor.PL
set_option linter.unusedVariables false
set_option linter.unusedSimpArgs false

theorem nums_data (xs : List Int) : (strOfNums xs).data.toList = xs.map fun n => UInt8.ofNat n.toNat := strOfNums_data xs
theorem nums_extract (xs : List Int) (a b : Nat) : (strOfNums xs).extract a b = strOfNums ((xs.take b).drop a) := by
  apply bs_ext
  rw [nums_data, ByteArray.data_extract, Array.toList_extract, nums_data, List.extract_eq_take_drop, List.map_drop, List.map_take]
  rw [List.take_drop]
  rcases Nat.le_total a b with h | h
  · rw [show a + (b - a) = b by omega]
  · rw [show a + (b - a) = a by omega, List.drop_eq_nil_of_le (by rw [List.length_take]; omega), List.drop_eq_nil_of_le (by rw [List.length_take]; omega)]
theorem nums_bytesOf (s : ByteArray) : strOfNums (bytesOf s) = s := by
  apply bs_ext
  rw [nums_data]
  unfold bytesOf
  rw [List.map_map]
  refine (List.map_congr_left (fun b _ => ?_)).trans (List.map_id _)
  show UInt8.ofNat ((b.toNat : Nat) : Int).toNat = b
  rw [Int.toNat_natCast, UInt8.ofNat_toNat]
theorem bN_nums (xs : List Int) (i : Nat) (n : Nat) (h : xs[i]? = some (n : Int)) (hn : n < 256) : bN (strOfNums xs) i = n := by
  obtain ⟨hl, he⟩ := List.getElem?_eq_some_iff.1 h
  have hs : i < (strOfNums xs).size := by rw [strOfNums_size]; exact hl
  have h1 := bt_at (strOfNums xs) (i : Int) (by rw [Int.toNat_natCast]; exact hs)
  unfold bN
  rw [← h1]
  simp only [Int.toNat_natCast]
  have h2 : (strOfNums xs)[i]'hs = (strOfNums xs).data.toList[i]'(by rw [nums_data, List.length_map]; exact hl) := by simp [ByteArray.getElem_eq_getElem_data]
  rw [h2]
  simp only [nums_data, List.getElem_map, he, Int.toNat_natCast, UInt8.toNat_ofNat']
  omega
theorem numP_enc (n most : Nat) (bad : Bool) (r : List Int) (hn : n < 2097152) : numP (strOfNums (encS n ++ r)) bad most = (n, strOfNums r, bad || decide (most < n)) := by
  have hx : ∀ (j : Nat) (a : List Int), a.length = j + 1 → (strOfNums (a ++ r)).extract (j + 1) (strOfNums (a ++ r)).size = strOfNums r := fun j a ha => by
    rw [nums_extract, strOfNums_size, List.take_length, ← ha, List.drop_left]
  unfold encS
  by_cases h1 : n < 128
  · rw [if_pos h1]
    have b0 := bN_nums ([(n : Int)] ++ r) 0 n rfl (by omega)
    have hz : 0 < (strOfNums ([(n : Int)] ++ r)).size := by rw [strOfNums_size]; simp
    have hg : numG (strOfNums ([(n : Int)] ++ r)) 4 0 0 = some (n, 0) := by
      unfold numG
      rw [if_pos hz, b0, if_pos h1]
      congr 2
      omega
    unfold numP
    rw [hg]
    simp only
    rw [hx 0 [(n : Int)] rfl]
    simp
  · rw [if_neg h1]
    by_cases h2 : n < 16384
    · rw [if_pos h2]
      obtain ⟨a, ha⟩ : ∃ a, a = n % 128 + 128 := ⟨_, rfl⟩
      obtain ⟨b, hb⟩ : ∃ b, b = n / 128 := ⟨_, rfl⟩
      rw [← ha, ← hb]
      have b0 := bN_nums ([(a : Int), (b : Int)] ++ r) 0 a rfl (by omega)
      have b1 := bN_nums ([(a : Int), (b : Int)] ++ r) 1 b rfl (by omega)
      have hz : 1 < (strOfNums ([(a : Int), (b : Int)] ++ r)).size := by rw [strOfNums_size]; simp
      have hg : numG (strOfNums ([(a : Int), (b : Int)] ++ r)) 4 0 0 = some (n, 1) := by
        unfold numG
        rw [if_pos (by omega), b0, if_neg (by omega)]
        unfold numG
        rw [if_pos hz, b1, if_pos (by omega)]
        congr 2
        omega
      unfold numP
      rw [hg]
      simp only
      rw [hx 1 [(a : Int), (b : Int)] rfl, b1]
      rw [decide_eq_false (show ¬ b = 0 by omega)]
      simp
    · rw [if_neg h2]
      obtain ⟨a, ha⟩ : ∃ a, a = n % 128 + 128 := ⟨_, rfl⟩
      obtain ⟨b, hb⟩ : ∃ b, b = n / 128 % 128 + 128 := ⟨_, rfl⟩
      obtain ⟨c, hc⟩ : ∃ c, c = n / 16384 := ⟨_, rfl⟩
      rw [← ha, ← hb, ← hc]
      have b0 := bN_nums ([(a : Int), (b : Int), (c : Int)] ++ r) 0 a rfl (by omega)
      have b1 := bN_nums ([(a : Int), (b : Int), (c : Int)] ++ r) 1 b rfl (by omega)
      have b2 := bN_nums ([(a : Int), (b : Int), (c : Int)] ++ r) 2 c rfl (by omega)
      have hz : 2 < (strOfNums ([(a : Int), (b : Int), (c : Int)] ++ r)).size := by rw [strOfNums_size]; simp
      have hg : numG (strOfNums ([(a : Int), (b : Int), (c : Int)] ++ r)) 4 0 0 = some (n, 2) := by
        unfold numG
        rw [if_pos (by omega), b0, if_neg (by omega)]
        unfold numG
        rw [if_pos (by omega), b1, if_neg (by omega)]
        unfold numG
        rw [if_pos hz, b2, if_pos (by omega)]
        congr 2
        omega
      unfold numP
      rw [hg]
      simp only
      rw [hx 2 [(a : Int), (b : Int), (c : Int)] rfl, b2]
      rw [decide_eq_false (show ¬ c = 0 by omega)]
      simp
theorem textP_enc (s : ByteArray) (r : List Int) : textP (strOfNums (bytesOf s ++ r)) false s.size = (s, strOfNums r, false) := by
  have hl := bytesOf_length s
  unfold textP
  rw [if_neg (by decide), if_neg (by rw [strOfNums_size, List.length_append, hl]; omega), nums_extract, nums_extract, strOfNums_size, List.take_length, List.drop_zero, ← hl, List.take_left, List.drop_left, nums_bytesOf]
theorem gotP_enc (i : Nat) (x : Nd) (r : List Int) (hi : i < 4096) (h1 : x.1 ≤ i) (hm : mayB x.2.1 x.2.2 = true) : gotP i (strOfNums (toldN i x ++ r)) false = ⟨(x.1 : Int), x.2.1, x.2.2.toNat, strOfNums r, false⟩ := by
  have hp := may_parts hm
  unfold toldN
  have e1 : numP (strOfNums (encS (i + 1 - x.1) ++ encS x.2.1.size ++ bytesOf x.2.1 ++ encS x.2.2.toNat ++ r)) false (i + 1) = (i + 1 - x.1, strOfNums (encS x.2.1.size ++ (bytesOf x.2.1 ++ (encS x.2.2.toNat ++ r))), false) := by
    rw [List.append_assoc, List.append_assoc, List.append_assoc, numP_enc _ _ _ _ (by omega)]
    rw [decide_eq_false (show ¬ i + 1 < i + 1 - x.1 by omega)]
    rfl
  have e2 : numP (strOfNums (encS x.2.1.size ++ (bytesOf x.2.1 ++ (encS x.2.2.toNat ++ r)))) false 120 = (x.2.1.size, strOfNums (bytesOf x.2.1 ++ (encS x.2.2.toNat ++ r)), false) := by
    rw [numP_enc _ _ _ _ (by omega), decide_eq_false (show ¬ 120 < x.2.1.size by omega)]
    rfl
  have e3 := textP_enc x.2.1 (encS x.2.2.toNat ++ r)
  have e4 : numP (strOfNums (encS x.2.2.toNat ++ r)) false 1048576 = (x.2.2.toNat, strOfNums r, false) := by
    rw [numP_enc _ _ _ _ (by omega), decide_eq_false (show ¬ 1048576 < x.2.2.toNat by omega)]
    rfl
  rw [gotP_eq e1 e2 e3 e4]
  congr 1
  omega
theorem from_go {T : Tr} (hw : T.wf) : ∀ (f i : Nat), i + f + 1 = T.nodes.length → fromGo f i ⟨T.nodes.take (i + 1), T.deep.take (i + 1)⟩ (strOfNums (toldGo (T.nodes.drop (i + 1)) i)) false = some T
  | 0, i, h => by
    unfold fromGo
    rw [List.drop_eq_nil_of_le (by omega), List.take_of_length_le (by omega), List.take_of_length_le (by rw [hw.len]; omega)]
    rfl
  | f + 1, i, h => by
    have hi : i + 1 < T.nodes.length := by omega
    have hmost := hw.most
    obtain ⟨o1, o2, o3⟩ := hw.ok (i + 1) (by omega) hi
    rw [List.drop_eq_getElem_cons hi]
    obtain ⟨x, hx⟩ : ∃ x, x = T.nodes[i + 1] := ⟨_, rfl⟩
    rw [← hx] at o1 o2 o3 ⊢
    have hmp := may_parts o1.may
    have hgot := gotP_enc i x (toldGo (T.nodes.drop (i + 1 + 1)) (i + 1)) (by omega) (by omega) o1.may
    have hdl : i + 1 < T.deep.length := by rw [hw.len]; exact hi
    have htl : (T.nodes.take (i + 1)).length = i + 1 := by rw [List.length_take]; omega
    have hd1 : (T.deep.take (i + 1)).getD x.1 0 = T.deep.getD x.1 0 := by
      rw [List.getD_eq_getElem?_getD, List.getElem?_take, if_pos o2, ← List.getD_eq_getElem?_getD]
    have hdi : T.deep.getD (i + 1) 0 = T.deep[i + 1] := by rw [List.getD_eq_getElem?_getD, List.getElem?_eq_getElem hdl]; rfl
    have hlow := hw.low T.deep[i + 1] (List.getElem_mem _)
    have hfind : findN (T.nodes.take (i + 1)) (x.1, x.2) = none := by
      cases hf : findN (T.nodes.take (i + 1)) (x.1, x.2) with
      | none => rfl
      | some j =>
        have hj := findN_some hf
        obtain ⟨hjl, hje⟩ := List.getElem?_eq_some_iff.1 hj
        rw [htl] at hjl
        rw [List.getElem_take] at hje
        exact absurd (hje.trans hx) (List.pairwise_iff_getElem.1 hw.nodup j (i + 1) (by omega) hi hjl)
    have hZ : ((x.2.2.toNat : Nat) : Int) = x.2.2 := by omega
    have hpush : pushT ⟨T.nodes.take (i + 1), T.deep.take (i + 1)⟩ (x.1 : Int) (x.2.1, ((x.2.2.toNat : Nat) : Int)) = (((i : Int) + 1, 0), (⟨T.nodes.take (i + 1 + 1), T.deep.take (i + 1 + 1)⟩ : Tr)) := by
      rw [hZ]
      unfold pushT
      rw [if_neg (by simp only [htl]; omega), if_neg (by rw [o1.may]; decide), Int.toNat_natCast, if_neg (by simp only; rw [hd1]; omega)]
      simp only
      rw [hfind]
      simp only
      rw [if_neg (by rw [htl]; omega), htl, hd1, List.take_succ_eq_append_getElem hi, List.take_succ_eq_append_getElem hdl, ← hx, ← hdi, o3]
      rfl
    have htg : toldGo (x :: T.nodes.drop (i + 1 + 1)) i = toldN i x ++ toldGo (T.nodes.drop (i + 1 + 1)) (i + 1) := rfl
    unfold fromGo
    rw [htg, hgot, if_neg (by simp)]
    simp only
    rw [hpush, if_neg (by simp)]
    exact from_go hw f (i + 1) (by omega)
/-- What is told of a tree is read as the tree. -/
theorem from_told {T : Tr} (hw : T.wf) : fromT (strOfNums (toldI T)) = some T := by
  have h1 := hw.one
  have hm := hw.most
  have hN : numP (strOfNums (toldI T)) false 4095 = (T.nodes.length - 1, strOfNums (toldGo (T.nodes.drop 1) 0), false) := by
    unfold toldI
    rw [numP_enc _ _ _ _ (by omega), decide_eq_false (show ¬ 4095 < T.nodes.length - 1 by omega)]
    rfl
  unfold fromT
  rw [hN]
  have e : newT = (⟨T.nodes.take (0 + 1), T.deep.take (0 + 1)⟩ : Tr) := by
    have hr := hw.root
    have hd := hw.deep0
    have hl := hw.len
    unfold newT
    rw [List.take_succ_eq_append_getElem (by omega), List.take_succ_eq_append_getElem (by omega)]
    rw [List.getD_eq_getElem?_getD, List.getElem?_eq_getElem (by omega)] at hr hd
    simp only [Option.getD_some] at hr hd
    rw [hr, hd]
    rfl
  rw [e]
  exact from_go hw (T.nodes.length - 1) 0 (by omega)
end Go.Proofs.YtmgfdcfbjgokgaaDoor
