/- What the reference's 'Parse' comes to; it is what the program's comes to. The reference's 'Parse' and the program's come to the same. 'alive': a stack is told and read. 'Unfold' and the reference's, in plain words. 'fit' and 'alike' in plain words; what is told is read as it was; what is folded unfolds to it. The walk of 'PlaceBack': any two lists (none of them of more than 1048576 values). What the bound on the arguments' bulk gives. (Filled from the kit's template for such statements.) DERIVED. The row of 'erratalaw03.PlaceBack' where its arguments are together of bulk at most 1048576, and its card, proved. -/
import Derived.Test.YtmgfdcfbjgokgaaDoorRp
import Derived.Test.YtmgfdcfbjgokgaaDoorTextA
import Derived.Test.YtmgfdcfbjgokgaaDoorPLx1
import Derived.Test.YtmgfdcfbjgokgaaDoorOwn
import Derived.Test.YtmgfdcfbjgokgaaDoorParse
import Derived.Test.YtmgfdcfbjgokgaaDoorPLx9
import Derived.Test.YtmgfdcfbjgokgaaDoorFo
import Derived.Test.YtmgfdcfbjgokgaaDoorPLx15
import Derived.Test.YtmgfdcfbjgokgaaDoorPLa
import Derived.Test.YtmgfdcfbjgokgaaDoorCom
import Derived.Test.YtmgfdcfbjgokgaaDoorFoldW
import Derived.Test.YtmgfdcfbjgokgaaDoorRows
import Derived.Test.YtmgfdcfbjgokgaaDoorSh
import Derived.Test.YtmgfdcfbjgokgaaDoorTie
import Derived.Test.YtmgfdcfbjgokgaaDoorCards
import Derived.SevenTiedAt
import Derived.Deep.DeepHandedRow
import Derived.Deep.DeepWitnessRowRef
namespace Go.Proofs.YtmgfdcfbjgokgaaDoor
open Go Go.RowKit Go.Proofs.YtmgfdcfbjgokgaaDoorW.PrintWords Go.Proofs.YtmgfdcfbjgokgaaDoorW.PrintLast Go.Proofs.YtmgfdcfbjgokgaaDoorW.PrintMore Go.Proofs.YtmgfdcfbjgokgaaDoor.PL
set_option linter.unusedVariables false
set_option linter.unusedSimpArgs false

theorem ext_data (s : ByteArray) (a b : Nat) : (s.extract a b).data.toList = (s.data.toList.drop a).take (b - a) := Lib.extract_data s a b
theorem take3 (l : List UInt8) : l.take 3 = sepL ↔ ∃ r, l = 32 :: r ∧ r.take 2 = [60, 32] := by
  constructor
  · intro h
    match l, h with
    | [], h => simp at h
    | c :: r, h =>
      simp only [List.take_succ_cons, List.cons.injEq] at h
      exact ⟨r, by rw [h.1], h.2⟩
  · rintro ⟨r, rfl, h⟩
    simp [h]
section
variable {s : ByteArray}
/-- What stands at the end of the text. -/
theorem rp_end (h0 : s.size ≠ 0) (hb : s.size ≤ 4294967295) {k i at_ : Nat} {acc : List ByteArray} (hi : s.size < i + 3) (hin : i ≤ s.size) (ha : at_ ≤ s.size) (hac : acc.length ≤ at_) :
    errataref03_pieces.l0 (k + 1) s acc (at_ : Int) (i : Int) = some (acc ++ [s.extract at_ s.size]) := by
  have hw : wrap64 ((i : Int) + 3) = (i : Int) + 3 := by unfold wrap64; omega
  simp only [errataref03_pieces.l0]
  rw [hw, if_neg (by omega), if_neg (by
    rw [ByteArray.toList_eq]
    intro e
    exact h0 (by rw [bs_size, e]; rfl)), if_pos (by omega), if_pos (by omega), if_pos (by omega)]
  simp
theorem rp_l0 (h0 : s.size ≠ 0) (hb : s.size ≤ 4294967295) : ∀ (m k i at_ : Nat) (acc : List ByteArray), s.size ≤ i + m → m < k → i ≤ s.size → at_ ≤ s.size → acc.length ≤ at_ →
    (at_ ≤ i → ∃ out, errataref03_pieces.l0 k s acc (at_ : Int) (i : Int) = some out ∧ out.map (·.data.toList) = acc.map (·.data.toList) ++ scan ((s.data.toList.take i).drop at_) (s.data.toList.drop i)) ∧
    (i < at_ → at_ ≤ i + 2 → ∃ out, errataref03_pieces.l0 k s acc (at_ : Int) (i : Int) = some out ∧ out.map (·.data.toList) = acc.map (·.data.toList) ++ scan [] (s.data.toList.drop at_))
  | m, 0, i, at_, acc, hm, hk, hi, ha, hac => by omega
  | m, k + 1, i, at_, acc, hm, hk, hi, ha, hac => by
    have hL : s.data.toList.length = s.size := (bs_size s).symm
    by_cases hend : s.size < i + 3
    · have he := rp_end (k := k) (i := i) (at_ := at_) (acc := acc) h0 hb hend hi ha hac
      refine ⟨fun h => ⟨_, he, ?_⟩, fun h h2 => ⟨_, he, ?_⟩⟩
      · rw [scan_short _ _ (by rw [List.length_drop]; omega), List.map_append, List.map_cons, List.map_nil, Lib.extract_to_end]
        congr 2
        conv => lhs; rw [← List.take_append_drop i s.data.toList]
        rw [List.drop_append_of_le_length (by rw [List.length_take]; omega)]
      · rw [scan_short _ _ (by rw [List.length_drop]; omega), List.map_append, List.map_cons, List.map_nil, Lib.extract_to_end]
        simp
    · have hw : wrap64 ((i : Int) + 3) = ((i + 3 : Nat) : Int) := by unfold wrap64; omega
      have hw1 : wrap64 ((i : Int) + 1) = ((i + 1 : Nat) : Int) := wrap_succ i (by omega)
      have hil : i < s.data.toList.length := by omega
      have hex : (s.extract i (i + 3)).data.toList = (s.data.toList.drop i).take 3 := by rw [ext_data, show i + 3 - i = 3 by omega]
      obtain ⟨m, rfl⟩ : ∃ q, m = q + 1 := ⟨m - 1, by omega⟩
      have hgo : ∀ (Q : Option (List ByteArray)), errataref03_pieces.l0 (k + 1) s acc (at_ : Int) (i : Int) = Q ↔
          (if (s.data.toList.drop i).take 3 = sepL then (if at_ ≤ i then errataref03_pieces.l0 k s (acc ++ [s.extract at_ i]) ((i + 3 : Nat) : Int) ((i + 1 : Nat) : Int) else errataref03_pieces.l0 k s acc (at_ : Int) ((i + 1 : Nat) : Int)) else errataref03_pieces.l0 k s acc (at_ : Int) ((i + 1 : Nat) : Int)) = Q := fun Q => by
        simp only [errataref03_pieces.l0]
        rw [hw, hw1, if_pos (by omega), if_pos (by omega), if_pos (by omega), Int.toNat_natCast, Int.toNat_natCast, ByteArray.toList_eq, hex]
        by_cases h3 : (s.data.toList.drop i).take 3 = sepL
        · rw [if_pos h3, if_pos h3]
          by_cases h4 : at_ ≤ i
          · rw [if_pos (by omega), if_pos (by omega), if_pos (by omega), if_pos (by omega), if_pos (by omega), if_pos h4, Int.toNat_natCast]
          · rw [if_neg (by omega), if_neg h4]
        · rw [if_neg h3, if_neg h3]
      have hdr : s.data.toList.drop i = s.data.toList[i] :: s.data.toList.drop (i + 1) := List.drop_eq_getElem_cons hil
      refine ⟨fun h => ?_, fun h h2 => ?_⟩
      · by_cases h3 : (s.data.toList.drop i).take 3 = sepL
        · obtain ⟨out, ho, hm'⟩ := (rp_l0 h0 hb m k (i + 1) (i + 3) (acc ++ [s.extract at_ i]) (by omega) (by omega) (by omega) (by omega) (by simp; omega)).2 (by omega) (by omega)
          refine ⟨out, (hgo _).2 (by rw [if_pos h3, if_pos h]; exact ho), ?_⟩
          obtain ⟨r, hr, hr2⟩ := (take3 _).1 h3
          rw [hm', hr, scan_cons, if_pos ⟨rfl, hr2⟩, List.map_append, List.append_assoc]
          congr 1
          rw [List.map_cons, List.map_nil, ext_data, List.singleton_append]
          congr 1
          · rw [List.drop_take]
          · have : r = s.data.toList.drop (i + 1) := by
              rw [hdr] at hr
              injection hr with _ hr
              exact hr.symm
            rw [this, List.drop_drop]
        · obtain ⟨out, ho, hm'⟩ := (rp_l0 h0 hb m k (i + 1) at_ acc (by omega) (by omega) (by omega) ha hac).1 (by omega)
          refine ⟨out, (hgo _).2 (by rw [if_neg h3]; exact ho), ?_⟩
          rw [hm', hdr, scan_cons, if_neg (by
            rintro ⟨e1, e2⟩
            exact h3 ((take3 _).2 ⟨_, by rw [hdr, e1], e2⟩))]
          congr 2
          rw [List.take_succ_eq_append_getElem hil, List.drop_append_of_le_length (by rw [List.length_take]; omega)]
      · have hnx : ∃ out, errataref03_pieces.l0 k s acc (at_ : Int) ((i + 1 : Nat) : Int) = some out ∧ out.map (·.data.toList) = acc.map (·.data.toList) ++ scan [] (s.data.toList.drop at_) := by
          by_cases h5 : i + 1 < at_
          · exact (rp_l0 h0 hb m k (i + 1) at_ acc (by omega) (by omega) (by omega) ha hac).2 h5 (by omega)
          · have e5 : at_ = i + 1 := by omega
            obtain ⟨out, ho, hm'⟩ := (rp_l0 h0 hb m k (i + 1) at_ acc (by omega) (by omega) (by omega) ha hac).1 (by omega)
            refine ⟨out, ho, ?_⟩
            rw [hm', e5, List.drop_take, Nat.sub_self, List.take_zero]
        obtain ⟨out, ho, hm'⟩ := hnx
        refine ⟨out, (hgo _).2 ?_, hm'⟩
        split
        · rw [if_neg (by omega)]; exact ho
        · exact ho
/-- The reference's pieces. -/
def rpieces (s : ByteArray) : List ByteArray := if s.size = 0 then [] else pieces s
theorem rpieces_f (hb : s.size ≤ 4294967295) (k : Nat) (hk : s.size + 1 < k) : errataref03_pieces.f k s = some (rpieces s) := by
  unfold errataref03_pieces.f rpieces
  by_cases h0 : s.size = 0
  · obtain ⟨k, rfl⟩ : ∃ j, k = j + 1 := ⟨k - 1, by omega⟩
    rw [if_pos h0]
    simp only [errataref03_pieces.l0]
    have hw : wrap64 ((0 : Int) + 3) = 3 := by unfold wrap64; omega
    rw [hw, if_neg (by omega), if_pos (by
      rw [ByteArray.toList_eq]
      rw [bs_size] at h0
      exact List.eq_nil_of_length_eq_zero h0)]
  · rw [if_neg h0]
    obtain ⟨out, ho, hm⟩ := (rp_l0 (s := s) h0 hb s.size k 0 0 [] (by omega) (by omega) (by omega) (by omega) (by simp)).1 (by omega)
    have e : out = pieces s := by
      apply bs_inj
      rw [hm]
      show [] ++ scan ((s.data.toList.take 0).drop 0) (s.data.toList.drop 0) = _
      simp only [List.take_zero, List.drop_zero, List.drop_nil, List.nil_append]
      exact (split_scan _ s rfl).symm
    rw [← e]
    exact ho
end
/-! #### Places -/
/-- The place that a piece seems to be. -/
def plB (s : ByteArray) : Pl := (s.extract 0 (s.data.toList.idxOf 58), readL 0 ((s.data.toList.drop (s.data.toList.idxOf 58 + 1)).take 8))
theorem bt_get (s : ByteArray) (j : Nat) (hj : j < s.data.toList.length) : bt s (j : Int) = ((s.data.toList[j]).toNat : Int) := by
  have hj' : j < s.size := by rw [bs_size]; exact hj
  have h := bt_at s (j : Int) (by simpa using hj')
  simp only [Int.toNat_natCast] at h
  rw [← h]
  simp [ByteArray.getElem_eq_getElem_data]
theorem readL_snoc (l : List UInt8) (c : UInt8) : readL 0 (l ++ [c]) = 10 * readL 0 l + (c.toNat % 16 : Nat) := by rw [readL_append]; rfl
theorem wrap_dig (X : Int) (c : Nat) (h0 : 0 ≤ X) (h1 : X < 200000000) (hc : c < 16) : wrap64 (wrap64 (10 * X) + wrap64 (c : Int)) = 10 * X + c := by
  have e1 : wrap64 (10 * X) = 10 * X := by unfold wrap64; omega
  have e2 : wrap64 (c : Int) = c := by unfold wrap64; omega
  rw [e1, e2]
  unfold wrap64
  omega
theorem rpl_l1 (s : ByteArray) (hb : s.size ≤ 4294967295) (i : Nat) (nm : ByteArray) : ∀ (m k j : Nat), j + m = i + 9 → m < k → i + 1 ≤ j → i ≤ s.size →
    errataref03_place.l1 k s (i : Int) (j : Int) nm (readL 0 ((s.data.toList.drop (i + 1)).take (j - (i + 1)))) = some (nm, readL 0 ((s.data.toList.drop (i + 1)).take 8))
  | 0, k + 1, j, hj, _, hij, his => by
    have hL : s.data.toList.length = s.size := (bs_size s).symm
    have hw : wrap64 ((i : Int) + 9) = ((i + 9 : Nat) : Int) := by unfold wrap64; omega
    simp only [errataref03_place.l1]
    have ej : j - (i + 1) = 8 := by omega
    rw [hw, ej]
    split
    · rw [if_neg (by omega)]
    · rfl
  | m + 1, k + 1, j, hj, hk, hij, his => by
    have hL : s.data.toList.length = s.size := (bs_size s).symm
    have hw : wrap64 ((i : Int) + 9) = ((i + 9 : Nat) : Int) := by unfold wrap64; omega
    simp only [errataref03_place.l1]
    by_cases hjs : j < s.size
    · have ih := rpl_l1 s hb i nm m k (j + 1) (by omega) (by omega) (by omega) his
      have hjl : j < s.data.toList.length := by omega
      rw [if_pos (by omega), hw, if_pos (by omega), if_pos (by omega), wrap_succ j (by omega)]
      rw [show j + 1 - (i + 1) = (j - (i + 1)) + 1 by omega, List.take_succ_eq_append_getElem (by rw [List.length_drop]; omega), readL_snoc] at ih
      rw [List.getElem_drop] at ih
      have ei : i + 1 + (j - (i + 1)) = j := by omega
      simp only [ei] at ih
      have hbd := readL_small ((s.data.toList.drop (i + 1)).take (j - (i + 1))) (by rw [List.length_take]; omega)
      have hbt := bt_get s j hjl
      have ht : Int.tmod (bt s (j : Int)) 16 = (((s.data.toList[j]).toNat % 16 : Nat) : Int) := by rw [hbt]; exact (Int.ofNat_tmod _ _).symm
      have hc : (s.data.toList[j]).toNat % 16 < 16 := Nat.mod_lt _ (by decide)
      rw [ht]
      generalize readL 0 ((s.data.toList.drop (i + 1)).take (j - (i + 1))) = X at ih hbd ⊢
      rw [wrap_dig X _ hbd.1 hbd.2 hc]
      exact ih
    · rw [if_neg (by omega)]
      rw [List.take_of_length_le (by rw [List.length_drop]; omega), List.take_of_length_le (by rw [List.length_drop]; omega)]
theorem rpl_l0 (s : ByteArray) (hb : s.size ≤ 4294967295) : ∀ (m k i : Nat), i + m = s.data.toList.idxOf 58 → m + 12 < k → errataref03_place.l0 k s (i : Int) (⟨#[]⟩ : ByteArray) 0 = some (plB s)
  | 0, k + 2, i, hi, hk => by
    have hL : s.data.toList.length = s.size := (bs_size s).symm
    have hle : s.data.toList.idxOf 58 ≤ s.data.toList.length := List.idxOf_le_length
    have hj1 : errataref03_place.j1 (k + 1) s (i : Int) (⟨#[]⟩ : ByteArray) 0 = some (plB s) := by
      simp only [errataref03_place.j1]
      rw [if_pos (by omega), if_pos (by omega), wrap_succ i (by omega), Int.toNat_natCast]
      have := rpl_l1 s hb i (s.extract 0 i) 8 k (i + 1) (by omega) (by omega) (by omega) (by omega)
      rw [Nat.sub_self, List.take_zero] at this
      unfold plB
      rw [← hi]
      exact this
    rw [errataref03_place.l0.eq_def]
    simp only
    by_cases h : i < s.size
    · have hl : i < s.data.toList.length := by omega
      have hg : s.data.toList[i] = 58 := by
        have hx : s.data.toList.idxOf 58 < s.data.toList.length := by omega
        have := List.getElem_idxOf hx
        have e : s.data.toList.idxOf 58 = i := by omega
        simpa only [e] using this
      rw [if_pos (by omega), if_pos (by omega), bt_get s i hl, hg, if_pos (by rfl)]
      exact hj1
    · rw [if_neg (by omega)]
      exact hj1
  | m + 1, k + 1, i, hi, hk => by
    have hL : s.data.toList.length = s.size := (bs_size s).symm
    have hle : s.data.toList.idxOf 58 ≤ s.data.toList.length := List.idxOf_le_length
    have hl : i < s.data.toList.length := by omega
    have hne : ¬ s.data.toList[i] = 58 := by
      have := List.not_of_lt_findIdx (p := fun x => x == (58 : UInt8)) (xs := s.data.toList) (i := i) (by show i < s.data.toList.idxOf 58; omega)
      simpa using this
    rw [errataref03_place.l0.eq_def]
    simp only
    rw [if_pos (by omega), if_pos (by omega), bt_get s i hl, if_neg (by
      intro e
      apply hne
      apply UInt8.toNat_inj.1
      show (s.data.toList[i]).toNat = 58
      omega), wrap_succ i (by omega)]
    exact rpl_l0 s hb m k (i + 1) (by omega) (by omega)
  | 0, 0, i, hi, hk => by omega
  | 0, 1, i, hi, hk => by omega
theorem rplace_f (s : ByteArray) (hb : s.size ≤ 4294967295) (k : Nat) (hk : s.size + 12 < k) : errataref03_place.f k s = some (plB s) := by
  have hle : s.data.toList.idxOf 58 ≤ s.data.toList.length := List.idxOf_le_length
  have hL : s.data.toList.length = s.size := (bs_size s).symm
  exact rpl_l0 s hb (s.data.toList.idxOf 58) k 0 (by omega) (by omega)
/-! #### Parse -/
theorem rpieces_len (s : ByteArray) : (rpieces s).length ≤ s.size + 1 := by
  unfold rpieces
  split
  · simp
  · rw [pieces_len]
    have := Lib.countB_le ⟨#[32, 60, 32]⟩ (by decide) s.size s (Nat.le_refl _)
    omega
theorem rpieces_size (s : ByteArray) : ∀ x ∈ rpieces s, x.size ≤ s.size := fun x hx => by
  unfold rpieces at hx
  split at hx
  · simp at hx
  · obtain ⟨q, hq, rfl⟩ := List.mem_iff_getElem.1 hx
    exact pieces_size s q hq
def rstack (s : ByteArray) : List Pl := ((rpieces s).map plB).reverse
def rparseB (s : ByteArray) : List Pl × Int := if (textOf (rstack s)).2 = 0 then (if (textOf (rstack s)).1 = s then (rstack s, 0) else ([], 4)) else ([], 4)
theorem rparse_l0 (s : ByteArray) (hb : s.size ≤ 1048576) : ∀ (j k : Nat), j ≤ (rpieces s).length → j + s.size + (rpieces s).length + 160 ≤ k →
    errataref03_Parse.l0 k s (rpieces s) (((rpieces s).drop j).reverse.map fun x => rof (plB x)) ((j : Int) - 1) = some ((rparseB s).1.map rof, (rparseB s).2)
  | 0, k + 1, hj, hk => by
    have hst : (((rpieces s).drop 0).reverse.map fun x => rof (plB x)).map rpl = rstack s := by
      unfold rstack
      rw [List.drop_zero, List.map_map, ← List.map_reverse]
      rfl
    have hlen : (((rpieces s).drop 0).reverse.map fun x => rof (plB x)).length = (rpieces s).length := by simp
    have hpl := rpieces_len s
    simp only [errataref03_Parse.l0]
    rw [if_neg (by omega), rtext_f _ (by rw [hlen]; omega) k (by rw [hlen]; omega), hst, Option.bind_some]
    unfold rparseB
    by_cases h1 : (textOf (rstack s)).2 = 0
    · rw [if_pos h1, if_pos h1]
      by_cases h2 : (textOf (rstack s)).1 = s
      · rw [if_pos (by rw [h2]), if_pos h2]
        have e : ((rpieces s).drop 0).reverse.map (fun x => rof (plB x)) = (rstack s).map rof := by
          unfold rstack
          rw [List.drop_zero, ← List.map_reverse, List.map_map]
          rfl
        rw [e]
      · rw [if_neg (by
          rw [ByteArray.toList_eq, ByteArray.toList_eq]
          exact fun e => h2 (bs_ext e)), if_neg h2]
        rfl
    · rw [if_neg h1, if_neg h1]
      rfl
  | j + 1, k + 1, hj, hk => by
    have hjl : j < (rpieces s).length := by omega
    have hlen := rpieces_len s
    have ej : ((j + 1 : Nat) : Int) - 1 = (j : Int) := by omega
    have ew : wrap64 ((j : Int) - 1) = (j : Int) - 1 := by unfold wrap64; omega
    have hr : rdOf ByteArray.empty (rpieces s) (j : Int) = (rpieces s)[j] := by simp [rdOf, hjl]
    have hps : (rpieces s)[j].size ≤ s.size := rpieces_size s _ (List.getElem_mem hjl)
    have ih := rparse_l0 s hb j k (by omega) (by omega)
    rw [List.drop_eq_getElem_cons hjl, List.reverse_cons, List.map_append] at ih
    rw [ej]
    simp only [errataref03_Parse.l0]
    rw [if_pos (by omega), if_pos (by omega), if_pos (by omega), hr, rplace_f _ (by omega) k (by omega), Option.bind_some, if_pos (by simp; omega), ew]
    exact ih
theorem rparse_f (s : ByteArray) (hb : s.size ≤ 1048576) (k : Nat) (hk : 3 * s.size + 200 ≤ k) : errataref03_Parse.f k s = some ((rparseB s).1.map rof, (rparseB s).2) := by
  have hlen := rpieces_len s
  unfold errataref03_Parse.f
  rw [rpieces_f (by omega) k (by omega), Option.bind_some]
  have := rparse_l0 s hb (rpieces s).length k (Nat.le_refl _) (by omega)
  rw [List.drop_length] at this
  have ew : wrap64 (((rpieces s).length : Int) - 1) = ((rpieces s).length : Int) - 1 := by unfold wrap64; omega
  rw [ew]
  exact this
end Go.Proofs.YtmgfdcfbjgokgaaDoor
namespace Go.Proofs.YtmgfdcfbjgokgaaDoor
open Go Go.RowKit Go.Proofs.YtmgfdcfbjgokgaaDoorW.PrintWords Go.Proofs.YtmgfdcfbjgokgaaDoorW.PrintLast Go.Proofs.YtmgfdcfbjgokgaaDoorW.PrintMore Go.Proofs.YtmgfdcfbjgokgaaDoor.PL
set_option linter.unusedVariables false
set_option linter.unusedSimpArgs false

theorem okB_ne {c : UInt8} (h : okByte c = true) : c ≠ 32 ∧ c ≠ 58 := by
  unfold okByte at h
  simp only [Bool.and_eq_true, decide_eq_true_eq] at h
  constructor
  · rintro rfl; exact absurd h.1.1 (by decide)
  · rintro rfl; exact absurd h.2 (by decide)
theorem may_free {p : Pl} (h : mayB p.1 p.2 = true) : (32 : UInt8) ∉ p.1.data.toList ∧ (58 : UInt8) ∉ p.1.data.toList := by
  have ho : okName p.1 = true := by
    unfold mayB at h
    simp only [Bool.and_eq_true] at h
    exact h.2
  unfold okName at ho
  rw [List.all_eq_true] at ho
  exact ⟨fun e => (okB_ne (ho _ e)).1 rfl, fun e => (okB_ne (ho _ e)).2 rfl⟩
theorem itoa_free (n : Int) (h0 : 0 ≤ n) : (32 : UInt8) ∉ Lib.itoa n := by
  obtain ⟨u, rfl⟩ : ∃ u : Nat, n = u := ⟨n.toNat, by omega⟩
  rw [itoa_nat]
  intro h
  have := dec_all u _ h
  exact absurd this.1 (by decide)
theorem ptxt_free {p : Pl} (h : mayB p.1 p.2 = true) : (32 : UInt8) ∉ (ptxt decB p).data.toList := by
  obtain ⟨_, _, h3, _⟩ := mayB_bd h
  rw [ptxt_data]
  intro hm
  rcases List.mem_append.1 hm with hm | hm
  · exact (may_free h).1 hm
  · rcases List.mem_cons.1 hm with hm | hm
    · cases hm
    · exact itoa_free _ h3 hm
/-- The texts of a stack are the pieces of its text. -/
theorem pieces_text (L : List Pl) (hne : L ≠ []) (hm : ∀ p ∈ L, mayB p.1 p.2 = true) : pieces (textB L) = L.reverse.map (ptxt decB) := by
  apply bs_inj
  have h1 : (pieces (textB L)).map (·.data.toList) = scan [] (textB L).data.toList := split_scan _ _ rfl
  rw [h1, textB_eq]
  show scan [] (Lib.join (txts L) sepL) = _
  rw [scan_of_join _ (by simpa [txts] using hne) (fun x hx => by
    obtain ⟨p, hp, rfl⟩ := List.mem_map.1 hx
    exact ptxt_free (hm p (by simpa using hp)))]
  unfold txts
  rw [List.map_map]
  rfl
theorem piece_text {p : Pl} (h : mayB p.1 p.2 = true) : pieceP (ptxt decB p) = some p := by
  obtain ⟨_, _, h3, h4⟩ := mayB_bd h
  have hc : Lib.cut (ptxt decB p).data.toList [58] = (p.1.data.toList, Lib.itoa p.2, true) := by
    rw [ptxt_data]
    exact cut_colon _ _ (may_free h).2
  unfold pieceP
  rw [hc]
  simp only
  rw [atoi_itoa _ h3 (by omega)]
  simp
theorem pl_text {p : Pl} (h : mayB p.1 p.2 = true) : plB (ptxt decB p) = p := by
  obtain ⟨_, _, h3, h4⟩ := mayB_bd h
  have hi : (ptxt decB p).data.toList.idxOf 58 = p.1.data.toList.length := by
    rw [ptxt_data, List.idxOf_append, if_neg (may_free h).2, List.idxOf_cons_self]
    omega
  unfold plB
  rw [hi]
  refine Prod.ext ?_ ?_
  · apply bs_ext
    rw [ext_data, ptxt_data]
    simp
  · show readL 0 (((ptxt decB p).data.toList.drop (p.1.data.toList.length + 1)).take 8) = p.2
    rw [ptxt_data, List.drop_append, List.drop_eq_nil_of_le (by omega), show p.1.data.toList.length + 1 - p.1.data.toList.length = 1 by omega]
    simp only [List.nil_append, List.drop_succ_cons, List.drop_zero]
    obtain ⟨u, hu⟩ : ∃ u : Nat, p.2 = u := ⟨p.2.toNat, by omega⟩
    rw [hu, itoa_nat]
    have hl := dec_len u 6 (by simp only [Nat.reduceAdd, Nat.reducePow]; omega)
    rw [List.take_of_length_le (by omega), readL_dec]
theorem piece_some {x : ByteArray} {p : Pl} (h : pieceP x = some p) : x = ptxt decB p := by
  unfold pieceP at h
  split at h
  · rename_i v hv
    split at h
    · rename_i hi
      injection h with h
      subst h
      have hne : (Lib.cut x.data.toList [58]).2.1 ≠ [] := by
        intro e
        rw [e] at hv
        cases hv
      apply bs_ext
      rw [ptxt_data]
      show _ = (Lib.cut x.data.toList [58]).1 ++ 58 :: Lib.itoa v
      rw [hi]
      exact (cut_some hne).1
    · cases h
  · cases h
theorem parseL_map : ∀ (xs : List ByteArray) (l : List Pl), parseL xs = some l → xs = l.map (ptxt decB)
  | [], l, h => by
    unfold parseL at h
    cases h
    rfl
  | x :: xs, l, h => by
    unfold parseL at h
    split at h
    · cases h
    · rename_i p hp
      cases hr : parseL xs with
      | none => rw [hr] at h; cases h
      | some r =>
        rw [hr] at h
        cases h
        rw [List.map_cons, ← parseL_map xs r hr, ← piece_some hp]
theorem parseL_texts : ∀ (l : List Pl), (∀ p ∈ l, mayB p.1 p.2 = true) → parseL (l.map (ptxt decB)) = some l
  | [], _ => rfl
  | p :: l, h => by
    rw [List.map_cons]
    unfold parseL
    rw [piece_text (h p (by simp)), parseL_texts l (fun q hq => h q (by simp [hq]))]
    rfl
theorem pls_texts : ∀ (l : List Pl), (∀ p ∈ l, mayB p.1 p.2 = true) → (l.map (ptxt decB)).map plB = l
  | [], _ => rfl
  | p :: l, h => by
    rw [List.map_cons, List.map_cons, pl_text (h p (by simp)), pls_texts l (fun q hq => h q (by simp [hq]))]
theorem checkN_rev (l : List Pl) : checkN l.reverse = checkN l := by
  unfold checkN
  rw [List.all_reverse, List.length_reverse]
theorem pieces_ne (s : ByteArray) : pieces s ≠ [] := by
  intro e
  have := pieces_len s
  rw [e] at this
  simp at this
/-- The text of the pieces is the text. -/
theorem text_pieces (s : ByteArray) (l : List Pl) (h : pieces s = l.map (ptxt decB)) : textB l.reverse = s := by
  apply bs_ext
  rw [textB_eq]
  show Lib.join (txts l.reverse) sepL = _
  have e : txts l.reverse = (pieces s).map (·.data.toList) := by
    unfold txts
    rw [List.reverse_reverse, h, List.map_map]
    rfl
  rw [e]
  have h1 : (pieces s).map (·.data.toList) = scan [] s.data.toList := split_scan _ _ rfl
  rw [h1, scan_join _ _ _ (Nat.le_refl _)]
  rfl
theorem parse_same (s : ByteArray) : rparseB s = parseB s := by
  unfold rparseB parseB rstack rpieces
  by_cases h0 : s.size = 0
  · have hs : s = ⟨#[]⟩ := bs_ext (by rw [bs_size] at h0; rw [List.eq_nil_of_length_eq_zero h0])
    subst hs
    rw [if_pos h0, if_pos h0]
    rfl
  · rw [if_neg h0, if_neg h0]
    cases hp : parseL (pieces s) with
    | some l =>
      have hx := parseL_map _ _ hp
      simp only
      by_cases hc : checkN l = 0
      · have hm := (checkN_zero hc).2
        have hl : ((pieces s).map plB).reverse = l.reverse := by rw [hx, pls_texts l hm]
        have ht : textOf l.reverse = (textB l.reverse, 0) := by unfold textOf; rw [if_pos (by rw [checkN_rev]; exact hc)]
        rw [hl, if_pos hc, ht, if_pos rfl, if_pos (text_pieces s l hx)]
      · rw [if_neg hc]
        by_cases h2 : (textOf ((pieces s).map plB).reverse).2 = 0
        · rw [if_pos h2]
          by_cases h3 : (textOf ((pieces s).map plB).reverse).1 = s
          · exfalso
            have hck : checkN ((pieces s).map plB).reverse = 0 := by
              unfold textOf at h2
              split at h2
              · assumption
              · exact h2
            have hmm := (checkN_zero hck).2
            have htx : textB ((pieces s).map plB).reverse = s := by
              unfold textOf at h3
              rw [if_pos hck] at h3
              exact h3
            have hps := pieces_text _ (by simpa using pieces_ne s) hmm
            rw [htx, List.reverse_reverse] at hps
            have := parseL_texts ((pieces s).map plB) (fun p hp => hmm p (by simpa using hp))
            rw [← hps, hp] at this
            injection this with this
            rw [checkN_rev] at hck
            rw [this] at hc
            exact hc hck
          · rw [if_neg h3]
        · rw [if_neg h2]
    | none =>
      simp only
      by_cases h2 : (textOf ((pieces s).map plB).reverse).2 = 0
      · rw [if_pos h2]
        by_cases h3 : (textOf ((pieces s).map plB).reverse).1 = s
        · exfalso
          have hck : checkN ((pieces s).map plB).reverse = 0 := by
            unfold textOf at h2
            split at h2
            · assumption
            · exact h2
          have hmm := (checkN_zero hck).2
          have htx : textB ((pieces s).map plB).reverse = s := by
            unfold textOf at h3
            rw [if_pos hck] at h3
            exact h3
          have hps := pieces_text _ (by simpa using pieces_ne s) hmm
          rw [htx, List.reverse_reverse] at hps
          have := parseL_texts ((pieces s).map plB) (fun p hp => hmm p (by simpa using hp))
          rw [← hps, hp] at this
          cases this
        · rw [if_neg h3]
      · rw [if_neg h2]
end Go.Proofs.YtmgfdcfbjgokgaaDoor
namespace Go.Proofs.YtmgfdcfbjgokgaaDoor
open Go.RowKit Go.Proofs.YtmgfdcfbjgokgaaDoorW.PrintWords Go.Proofs.YtmgfdcfbjgokgaaDoorW.PrintLast Go.Proofs.YtmgfdcfbjgokgaaDoor.PL
set_option linter.unusedVariables false
set_option linter.unusedSimpArgs false

abbrev sMain : ByteArray := ⟨#[109, 97, 105, 110]⟩
abbrev sF : ByteArray := ⟨#[102]⟩
abbrev sAll : ByteArray := ⟨#[102, 58, 50, 48, 32, 60, 32, 109, 97, 105, 110, 58, 49]⟩
def two : List Pl := [(sMain, 1), (sF, 20)]
theorem dec1 : decB 1 = ⟨#[49]⟩ := by
  unfold decB Lib.itoa
  rw [if_neg (by decide)]
  show (⟨(Lib.decDigits 1).toArray⟩ : ByteArray) = _
  rw [Lib.decDigits_one (by decide)]
  rfl
theorem dec20 : decB 20 = ⟨#[50, 48]⟩ := by
  unfold decB Lib.itoa
  rw [if_neg (by decide)]
  show (⟨(Lib.decDigits 20).toArray⟩ : ByteArray) = _
  rw [Lib.decDigits_two (by decide) (by decide)]
  rfl
theorem check_two : checkN two = 0 := by kernel_rfl
theorem text_two : textOf two = (sAll, 0) := by
  unfold textOf
  rw [if_pos check_two]
  unfold textB two
  simp only [List.reverse_cons, List.reverse_nil, List.nil_append, List.singleton_append, List.map_cons, List.map_nil, ptxt, dec1, dec20]
  rfl
theorem parse_two : parseB sAll = (two, 0) := by
  have h1 : pieces sAll = [⟨#[102, 58, 50, 48]⟩, ⟨#[109, 97, 105, 110, 58, 49]⟩] := by kernel_rfl
  have h2 : pieceP ⟨#[102, 58, 50, 48]⟩ = some (sF, 20) := by
    have hc : Lib.cut (ByteArray.mk #[102, 58, 50, 48]).data.toList [58] = ([102], [50, 48], true) := by kernel_rfl
    have ha : Lib.atoiAll [50, 48] = .ok 20 := by kernel_rfl
    have hi : Lib.itoa 20 = [50, 48] := by have := dec20; unfold decB at this; injection this with this; exact congrArg Array.toList this
    unfold pieceP
    rw [hc]
    simp only [ha, hi]
    rfl
  have h3 : pieceP ⟨#[109, 97, 105, 110, 58, 49]⟩ = some (sMain, 1) := by
    have hc : Lib.cut (ByteArray.mk #[109, 97, 105, 110, 58, 49]).data.toList [58] = ([109, 97, 105, 110], [49], true) := by kernel_rfl
    have ha : Lib.atoiAll [49] = .ok 1 := by kernel_rfl
    have hi : Lib.itoa 1 = [49] := by have := dec1; unfold decB at this; injection this with this; exact congrArg Array.toList this
    unfold pieceP
    rw [hc]
    simp only [ha, hi]
    rfl
  unfold parseB
  rw [if_neg (by decide), h1]
  simp only [parseL, h2, h3, Option.map_some]
  rfl
theorem own_lit (w : World) (l : List Pl) (hl : l.length ≤ maxLen) : (w.alloc (.cells (cellsPl l).toArray 60)).ownsRow w.heap.size 60 2 (.slice (some ⟨w.heap.size, 0, none⟩) l.length l.length) l.length (cellsPl l) :=
  ⟨cellsPl_len l, .inr ⟨w.heap.size, l.length, (cellsPl l).toArray, rfl, Nat.le_refl _, heap_alloc_new w _, Nat.le_refl _, hl, by rw [List.size_toArray, cellsPl_len], by rw [← cellsPl_len]; simp⟩⟩
theorem text_two_calls (w : World) (ht : Tabs w) : Calls Tryd.prog 11 #[.slice (some ⟨w.heap.size, 0, none⟩) 2 2] (w.alloc (.cells #[.string sMain, .int .i64 1, .string sF, .int .i64 20] 60))
    fun e w' => e = .returned (.tuple #[.string sAll, .int .i64 0]) ∧ Below w.heap.size w w' := by
  have hb : Below w.heap.size w (w.alloc (.cells #[.string sMain, .int .i64 1, .string sF, .int .i64 20] 60)) := (Below.refl _ _).alloc (Nat.le_refl _) _
  have hR := R_of_own (own_lit w two (by decide))
  have h := Text_any _ _ (two.map ofPl) _ ((Kd.R_reads' hR).2.2) (Nat.le_refl _) (fun x hx => by obtain ⟨p, hp, rfl⟩ := List.mem_map.1 hx; simp [two] at hp; rcases hp with rfl | rfl <;> decide) (by decide) (ht.below hb)
  rw [toPl_ofPl, text_two] at h
  exact h.mono fun e w' ⟨he, hw⟩ => ⟨he, hb.trans (hw.mono hb.size)⟩
attribute [local go_sem high] eqA60
theorem alive_any (w : World) (ht : Tabs w) : Calls Tryd.prog 23 #[] w fun e w' => e = .returned (.bool true) ∧ Below w.heap.size w w' := by
  have HT := Lib.hid ht
  clear ht
  go_enter Tryd.func23, Tryd.ntmps23
  go_wp2_with (first | (go_at_call 11; refine (text_two_calls w HT.out).mono ?_; rintro e w2 ⟨rfl, hb2⟩) | (go_at_call 19; refine (Parse_any sAll _ (by decide) (HT.out.below hb2)).mono ?_; rintro e w3 ⟨v, rfl, hR3, hb3⟩; rw [parse_two] at hR3 ⊢; obtain ⟨A3, c3, rfl, hc3, hC3⟩ := Kd.R_reads hR3; obtain ⟨ad, rfl, hx0, hx1⟩ := at_T60 hC3 0 (by decide) (by decide); have e9 : ad.add (Int.toNat 0 * 2) = ad := (by simp [Addr.add]); rw [e9] at hx0 hx1; change w3.cell? ad = some (.string sMain) at hx0; change w3.cell? ⟨ad.block, ad.off + 1, none⟩ = some (.int .i64 1) at hx1; clear hR3 hC3 hc3 e9; rw [show List.length (List.map ofPl (two, (0 : Int)).fst) = 2 from rfl]))
  go_ret
  exact ⟨rfl, hb2.trans (hb3.mono hb2.size)⟩
end Go.Proofs.YtmgfdcfbjgokgaaDoor
namespace Go.Proofs.YtmgfdcfbjgokgaaDoor
open Go.RowKit Go.Proofs.YtmgfdcfbjgokgaaDoorW.PrintWords Go.Proofs.YtmgfdcfbjgokgaaDoorW.PrintLast Go.Proofs.YtmgfdcfbjgokgaaDoor.PL
set_option linter.unusedVariables false
set_option linter.unusedSimpArgs false

/-- A list, so many times. -/
def reps (r : List Pl) : Nat → List Pl
  | 0 => []
  | n + 1 => r ++ reps r n
theorem reps_succ (r : List Pl) (n : Nat) : reps r (n + 1) = r ++ reps r n := rfl
theorem reps_len (r : List Pl) : ∀ n, (reps r n).length = r.length * n
  | 0 => by simp [reps]
  | n + 1 => by simp [reps, reps_len r n, Nat.mul_succ]; omega
def mayP (p : Pl) : Bool := mayB p.1 p.2
theorem reps_all (r : List Pl) : ∀ n, 1 ≤ n → (reps r n).all mayP = r.all mayP
  | 1, _ => by simp [reps]
  | n + 2, _ => by
    have := reps_all r (n + 1) (by omega)
    unfold reps
    rw [List.all_append, this, Bool.and_self]
def badR (r : Rn) : Bool := decide (r.2 < 1) || r.1.isEmpty
/-- The runs one behind the other, if they are no more than 64 places. -/
def goU : List Pl → List Rn → Option (List Pl)
  | out, [] => some out
  | out, r :: rs => if r.2 > 64 ∨ (r.1.length : Int) * r.2 > 64 - (out.length : Int) then none else goU (out ++ reps r.1 r.2.toNat) rs
def endU (o : Option (List Pl)) : List Pl × Int :=
  match o with
  | none => ([], 31)
  | some out => if out.all mayP then (out, 0) else ([], 30)
def unfoldOf (l : List Rn) : List Pl × Int := if l.any badR then ([], 1) else endU (goU [] l)
theorem check_64 {l : List Pl} (h : l.length ≤ 64) : checkN l = if l.all mayP then 0 else 30 := by
  unfold checkN mayP
  split
  · rw [if_neg (by omega)]
  · rfl
theorem ofPl_toPl (l : List S60) : (l.map toPl).map ofPl = l := by
  rw [List.map_map]
  conv => rhs; rw [← List.map_id l]
  rfl
theorem rof_rpl (l : List S95) : (l.map rpl).map rof = l := by
  rw [List.map_map]
  conv => rhs; rw [← List.map_id l]
  rfl
theorem run50_rd (l : List S50) (j : Nat) (hj : j < l.length) : rd_T50 l (j : Int) = l[j] := by simp [rd_T50, hj]
theorem run52_rd (l : List S52) (j : Nat) (hj : j < l.length) : rd_T52 l (j : Int) = l[j] := by simp [rd_T52, hj]
theorem bad50 (x : S50) : badR (run50 x) = true ↔ x.f1 < 1 ∨ (x.f0.length : Int) = 0 := by
  unfold badR run50
  simp
/-! #### The program's -/
theorem unf_l2 (x26 : List S50) (x28 : Int) (r : List S60) (t0 : Int) (hr : r.length ≤ 5864062014700) : ∀ (s k : Nat) (out : List S60) (t j : Nat), j + s = t → t ≤ 64 → s < k → out.length + r.length * s ≤ 64 →
    place_Unfold.l2 k out x26 (x26.length : Int) x28 (t : Int) (j : Int) r t0 = place_Unfold.l1 (k - s - 1) (out ++ (reps (r.map toPl) s).map ofPl) x26 (x26.length : Int) (wrap64 (x28 + 1))
  | 0, k + 1, out, t, j, hj, ht, hk, ho => by
    simp only [place_Unfold.l2]
    rw [if_neg (by omega)]
    simp [reps]
  | s + 1, k + 1, out, t, j, hj, ht, hk, ho => by
    rw [Nat.mul_succ] at ho
    simp only [place_Unfold.l2]
    rw [if_pos (by omega), if_pos (by omega), wrap_succ j (by omega), unf_l2 x26 x28 r t0 hr s k (out ++ r) t (j + 1) (by omega) ht (by omega) (by rw [List.length_append]; omega)]
    rw [show k + 1 - (s + 1) - 1 = k - s - 1 by omega]
    rw [reps_succ, List.map_append, ofPl_toPl, List.append_assoc]
theorem unf_l1 (l : List S50) (hl : l.length ≤ 9223372036854775806) (hs : ∀ x ∈ l, x.f0.length ≤ 5864062014700 ∧ 1 ≤ x.f1 ∧ 1 ≤ x.f0.length ∧ ∀ y ∈ x.f0, y.f0.size ≤ 9223372036854775807) : ∀ (d k j : Nat) (out : List S60), j + d = l.length → 70 * d + 80 ≤ k → out.length ≤ 64 → (∀ y ∈ out, y.f0.size ≤ 9223372036854775807) →
    place_Unfold.l1 k out l (l.length : Int) (j : Int) = some ((endU (goU (out.map toPl) ((l.drop j).map run50))).1.map ofPl, (endU (goU (out.map toPl) ((l.drop j).map run50))).2)
  | 0, k + 1, j, out, hj, hk, ho, hy => by
    rw [List.drop_eq_nil_of_le (by omega)]
    simp only [place_Unfold.l1]
    rw [if_neg (by omega)]
    have hc : place_Check.f k out = some (checkN (out.map toPl)) := by
      have h1 := check_f out hy (by omega)
      have hm : ∀ n, place_Check.f (out.length + 1 + n) out = some (checkN (out.map toPl)) := fun n => by
        induction n with
        | zero => exact h1
        | succ n ih => exact place_Check.mono _ _ _ ih
      have := hm (k - (out.length + 1))
      rwa [show out.length + 1 + (k - (out.length + 1)) = k by omega] at this
    rw [hc, Option.bind_some, check_64 (by rw [List.length_map]; exact ho)]
    simp only [List.map_nil, goU, endU]
    cases hm : (out.map toPl).all mayP
    · simp
    · simp only [if_true]
      rw [ofPl_toPl]
  | d + 1, k + 1, j, out, hj, hk, ho, hy => by
    have hjl : j < l.length := by omega
    obtain ⟨h1, h2, h3, h4⟩ := hs l[j] (List.getElem_mem hjl)
    rw [List.drop_eq_getElem_cons hjl, List.map_cons]
    simp only [place_Unfold.l1]
    rw [if_pos (by omega), if_pos (by omega), if_pos (by omega), run50_rd l j hjl]
    obtain ⟨k, rfl⟩ : ∃ q, k = q + 1 := ⟨k - 1, by omega⟩
    have hgo : goU (out.map toPl) (run50 l[j] :: (l.drop (j + 1)).map run50) = if l[j].f1 > 64 ∨ (l[j].f0.length : Int) * l[j].f1 > 64 - (out.length : Int) then none else goU (out.map toPl ++ reps (l[j].f0.map toPl) l[j].f1.toNat) ((l.drop (j + 1)).map run50) := by
      simp only [goU, run50, List.length_map]
    rw [hgo]
    by_cases ht : l[j].f1 > 64
    · rw [if_pos ht, if_pos (.inl ht)]
      simp only [place_Unfold.j2, if_true]
      rfl
    · rw [if_neg ht]
      have hmul : (l[j].f0.length : Int) * l[j].f1 ≤ 5864062014700 * 64 := Int.mul_le_mul (by omega) (by omega) (by omega) (by omega)
      have hmul0 : 0 ≤ (l[j].f0.length : Int) * l[j].f1 := Int.mul_nonneg (by omega) (by omega)
      have hw1 : wrap64 ((l[j].f0.length : Int) * l[j].f1) = (l[j].f0.length : Int) * l[j].f1 := by unfold wrap64; omega
      have hw2 : wrap64 (64 - (out.length : Int)) = 64 - (out.length : Int) := by unfold wrap64; omega
      rw [hw1, hw2]
      simp only [place_Unfold.j2]
      by_cases hb : (l[j].f0.length : Int) * l[j].f1 > 64 - (out.length : Int)
      · rw [if_pos (decide_eq_true hb), if_pos (.inr hb)]
        rfl
      · rw [if_neg (by rw [decide_eq_false hb]; decide), if_neg (by intro h; rcases h with h | h; exact ht h; exact hb h)]
        have ht0 : ((l[j].f1.toNat : Nat) : Int) = l[j].f1 := by omega
        have hlen : out.length + l[j].f0.length * l[j].f1.toNat ≤ 64 := by
          have : ((l[j].f0.length * l[j].f1.toNat : Nat) : Int) = (l[j].f0.length : Int) * l[j].f1 := by rw [Int.natCast_mul, ht0]
          omega
        have h := unf_l2 l (j : Int) l[j].f0 l[j].f1 h1 l[j].f1.toNat k out l[j].f1.toNat 0 (by omega) (by omega) (by omega) hlen
        rw [ht0] at h
        rw [show (0 : Int) = ((0 : Nat) : Int) from rfl, h, wrap_succ j (by omega)]
        rw [unf_l1 l hl hs d (k - l[j].f1.toNat - 1) (j + 1) _ (by omega) (by omega) (by rw [List.length_append, List.length_map, reps_len, List.length_map]; exact hlen) (fun y hyy => by
          rcases List.mem_append.1 hyy with h | h
          · exact hy y h
          · obtain ⟨q, hq, rfl⟩ := List.mem_map.1 h
            have : ∀ n, q ∈ reps (l[j].f0.map toPl) n → q ∈ l[j].f0.map toPl := fun n => by
              induction n with
              | zero => simp [reps]
              | succ n ih =>
                unfold reps
                intro h
                rcases List.mem_append.1 h with h | h
                · exact h
                · exact ih h
            obtain ⟨z, hz, rfl⟩ := List.mem_map.1 (this _ hq)
            exact h4 z hz)]
        rw [List.map_append, toPl_ofPl]
theorem unf_l0 (l : List S50) (hl : l.length ≤ 9223372036854775806) (hs : ∀ x ∈ l, x.f0.length ≤ 5864062014700 ∧ ∀ y ∈ x.f0, y.f0.size ≤ 9223372036854775807) : ∀ (d k j : Nat), j + d = l.length → d + 70 * l.length + 90 ≤ k → (∀ i, i < j → badR (run50 (l.getD i ⟨[], 0⟩)) = false) →
    place_Unfold.l0 k l l (l.length : Int) (j : Int) = some ((unfoldOf (l.map run50)).1.map ofPl, (unfoldOf (l.map run50)).2)
  | 0, k + 1, j, hj, hk, hg => by
    simp only [place_Unfold.l0]
    rw [if_neg (by omega)]
    have hgood : ∀ x ∈ l, badR (run50 x) = false := fun x hx => by
      obtain ⟨i, hi, rfl⟩ := List.mem_iff_getElem.1 hx
      have := hg i (by omega)
      rwa [List.getD_eq_getElem?_getD, List.getElem?_eq_getElem hi] at this
    have hany : (l.map run50).any badR = false := by
      rw [List.any_eq_false]
      intro r hr
      obtain ⟨x, hx, rfl⟩ := List.mem_map.1 hr
      rw [hgood x hx]
      decide
    unfold unfoldOf
    rw [if_neg (by rw [hany]; decide), show (0 : Int) = ((0 : Nat) : Int) from rfl, unf_l1 l hl (fun x hx => by
      have hb : ¬ (badR (run50 x) = true) := by rw [hgood x hx]; decide
      rw [bad50] at hb
      exact ⟨(hs x hx).1, by omega, by omega, (hs x hx).2⟩) l.length k 0 [] (by omega) (by omega) (by simp) (by simp)]
    simp
  | d + 1, k + 1, j, hj, hk, hg => by
    have hjl : j < l.length := by omega
    have hbadany : badR (run50 l[j]) = true → unfoldOf (l.map run50) = ([], 1) := fun h => by
      unfold unfoldOf
      rw [if_pos]
      rw [List.any_eq_true]
      exact ⟨_, List.mem_map.2 ⟨_, List.getElem_mem hjl, rfl⟩, h⟩
    simp only [place_Unfold.l0]
    rw [if_pos (by omega), if_pos (by omega), if_pos (by omega), run50_rd l j hjl]
    by_cases h1 : l[j].f1 < 1
    · rw [if_pos h1, hbadany ((bad50 _).2 (.inl h1))]
      rfl
    · rw [if_neg h1]
      by_cases h2 : (l[j].f0.length : Int) = 0
      · rw [if_pos h2, hbadany ((bad50 _).2 (.inr h2))]
        rfl
      · rw [if_neg h2, wrap_succ j (by omega), unf_l0 l hl hs d k (j + 1) (by omega) (by omega) (fun i hi => by
          by_cases hij : i < j
          · exact hg i hij
          · obtain rfl : i = j := by omega
            rw [List.getD_eq_getElem?_getD, List.getElem?_eq_getElem hjl]
            cases hb : badR (run50 l[i])
            · exact hb
            · rcases (bad50 _).1 hb with h | h
              · exact absurd h h1
              · exact absurd h h2)]
theorem unf_f (l : List S50) (hl : l.length ≤ 9223372036854775806) (hs : ∀ x ∈ l, x.f0.length ≤ 5864062014700 ∧ ∀ y ∈ x.f0, y.f0.size ≤ 9223372036854775807) : place_Unfold.f (71 * l.length + 90) l = some ((unfoldOf (l.map run50)).1.map ofPl, (unfoldOf (l.map run50)).2) :=
  unf_l0 l hl hs l.length _ 0 (by omega) (by omega) (fun i hi => absurd hi (by omega))
end Go.Proofs.YtmgfdcfbjgokgaaDoor
namespace Go.Proofs.YtmgfdcfbjgokgaaDoor
open Go.RowKit Go.Proofs.YtmgfdcfbjgokgaaDoorW.PrintWords Go.Proofs.YtmgfdcfbjgokgaaDoorW.PrintLast Go.Proofs.YtmgfdcfbjgokgaaDoorW.PrintMore Go.Proofs.YtmgfdcfbjgokgaaDoor.PL
set_option linter.unusedVariables false
set_option linter.unusedSimpArgs false

/-! #### Told and read -/
theorem parse_text (A : List Pl) (h : checkN A = 0) : parseB (textB A) = (A, 0) := by
  have hm := (checkN_zero h).2
  cases A with
  | nil => rfl
  | cons x r =>
    have hne : x :: r ≠ [] := by simp
    have hp := pieces_text _ hne hm
    have hs : ¬ (textB (x :: r)).size = 0 := by
      rw [textB_eq, bs_size]
      have := join_ne (txts (x :: r)) (by simp [txts]) (fun y hy => by
        obtain ⟨p, _, rfl⟩ := List.mem_map.1 hy
        rw [ptxt_data]
        simp)
      simpa using this
    unfold parseB
    rw [if_neg hs, hp, parseL_texts _ (fun p hp => hm p (List.mem_reverse.1 hp))]
    simp only
    rw [checkN_rev, if_pos h, List.reverse_reverse]
theorem text_inj {A B : List Pl} (ha : checkN A = 0) (hb : checkN B = 0) : (textB A = textB B) ↔ A = B := by
  constructor
  · intro h
    have h1 := parse_text A ha
    rw [h, parse_text B hb] at h1
    exact (congrArg Prod.fst h1).symm
  · intro h
    rw [h]
/-! #### Folded and unfolded -/
theorem reps_last (r : List Pl) : ∀ n, reps r (n + 1) = reps r n ++ r
  | 0 => by simp [reps]
  | n + 1 => by
    have := reps_last r n
    show r ++ reps r (n + 1) = (r ++ reps r n) ++ r
    rw [this, List.append_assoc]
theorem cntGo_reps (l : List Pl) (p : Nat) : ∀ (f k : Nat), l.take (k * p) = reps (l.take p) k → l.take (cntGo l p f k * p) = reps (l.take p) (cntGo l p f k)
  | 0, k, h => h
  | f + 1, k, h => by
    unfold cntGo
    split
    · rename_i hc
      refine cntGo_reps l p f (k + 1) ?_
      rw [reps_last, ← h]
      have e : l.take (k * p) = (l.take ((k + 1) * p)).take (k * p) := by
        rw [List.take_take, Nat.min_eq_left (Nat.mul_le_mul_right _ (Nat.le_succ k))]
      have e2 := List.take_append_drop (k * p) (l.take ((k + 1) * p))
      rw [← e, hc.2] at e2
      exact e2.symm
    · exact h
theorem block_reps (l : List Pl) (h : 0 < (blockP l).1) : reps (l.take (blockP l).1) (blockP l).2 ++ l.drop ((blockP l).1 * (blockP l).2) = l := by
  rcases blockP_spec l with h0 | ⟨_, _, _, h0⟩
  · omega
  · have := cntGo_reps l (blockP l).1 (l.length + 1) 0 (by simp [reps])
    rw [show cntGo l (blockP l).1 (l.length + 1) 0 = (blockP l).2 from h0.symm] at this
    rw [← this, Nat.mul_comm, List.take_append_drop]
def flatR : List Rn → List Pl
  | [] => []
  | r :: rs => reps r.1 r.2.toNat ++ flatR rs
def sumR : List Rn → Nat
  | [] => 0
  | r :: rs => r.1.length + sumR rs
def adjR : Int → List Rn → Prop
  | _, [] => True
  | t, r :: rs => ¬ (t = 1 ∧ r.2 = 1) ∧ adjR r.2 rs
def lastR : Int → List Rn → Int
  | t, [] => t
  | _, r :: rs => lastR r.2 rs
def goodR (r : Rn) : Prop := 1 ≤ r.1.length ∧ 1 ≤ r.2 ∧ (1 < r.2 → r.1.length ≤ 8)
theorem flatR_snoc (r : Rn) : ∀ rs, flatR (rs ++ [r]) = flatR rs ++ reps r.1 r.2.toNat
  | [] => by simp [flatR]
  | x :: rs => by rw [List.cons_append, flatR, flatR_snoc r rs, flatR, List.append_assoc]
theorem sumR_snoc (r : Rn) : ∀ rs, sumR (rs ++ [r]) = sumR rs + r.1.length
  | [] => by simp [sumR]
  | x :: rs => by rw [List.cons_append, sumR, sumR_snoc r rs, sumR]; omega
theorem lastR_snoc (r : Rn) : ∀ (t : Int) (rs : List Rn), lastR t (rs ++ [r]) = r.2
  | t, [] => rfl
  | t, x :: rs => by rw [List.cons_append, lastR, lastR_snoc r x.2 rs]
theorem adjR_snoc (r : Rn) : ∀ (t : Int) (rs : List Rn), adjR t (rs ++ [r]) ↔ adjR t rs ∧ ¬ (lastR t rs = 1 ∧ r.2 = 1)
  | t, [] => by simp [adjR, lastR]
  | t, x :: rs => by
    rw [List.cons_append, adjR, adjR_snoc r x.2 rs, adjR, lastR, and_assoc]
theorem last_one : ∀ (out : List Rn), lastR 0 out = 1 → ∃ i x, out = i ++ [(x, 1)] := fun out h => by
  rcases List.eq_nil_or_concat out with rfl | ⟨i, b, rfl⟩
  · cases h
  · rw [List.concat_eq_append] at h ⊢
    rw [lastR_snoc] at h
    exact ⟨i, b.1, by rw [← h]⟩
theorem pushL_snoc (i : List Rn) (x : List Pl) (t : Int) (y : Pl) : pushL (i ++ [(x, t)]) y = i ++ [(x ++ [y], t)] := by
  unfold pushL
  simp
theorem goF_all : ∀ (k : Nat) (l : List Pl) (out : List Rn) (s : Bool), l.length < k → (lastR 0 out = 1 ↔ s = true) → adjR 0 out → (∀ r ∈ out, goodR r) →
    flatR (goF k l out s) = flatR out ++ l ∧ adjR 0 (goF k l out s) ∧ (∀ r ∈ goF k l out s, goodR r) ∧ sumR (goF k l out s) ≤ sumR out + l.length
  | 0, l, out, s, hk, _, _, _ => by omega
  | k + 1, [], out, s, hk, hl, ha, hg => by
    rw [goF_nil]
    exact ⟨by simp, ha, hg, by omega⟩
  | k + 1, y :: r, out, s, hk, hl, ha, hg => by
    have hsp := blockP_spec (y :: r)
    have hle := blockP_le (y :: r)
    rw [goF_cons _ _ (by simp)]
    split
    · rename_i hb
      have hbr := block_reps (y :: r) hb
      have hb2 : (blockP (y :: r)).1 ≤ 8 ∧ 2 ≤ (blockP (y :: r)).2 := by rcases hsp with h | ⟨_, h8, h2, _⟩ <;> omega
      have hpm : (blockP (y :: r)).1 * 1 ≤ (blockP (y :: r)).1 * (blockP (y :: r)).2 := Nat.mul_le_mul_left _ (by omega)
      have hlen : ((y :: r).take (blockP (y :: r)).1).length = (blockP (y :: r)).1 := by rw [List.length_take]; omega
      have ih := goF_all k ((y :: r).drop ((blockP (y :: r)).1 * (blockP (y :: r)).2)) (out ++ [((y :: r).take (blockP (y :: r)).1, ((blockP (y :: r)).2 : Int))]) false
        (by rw [List.length_drop]; omega)
        (by rw [lastR_snoc]; simp; omega)
        ((adjR_snoc _ _ _).2 ⟨ha, fun h => by have := h.2; simp at this; omega⟩)
        (fun q hq => by
          rcases List.mem_append.1 hq with hq | hq
          · exact hg q hq
          · rw [List.mem_singleton.1 hq]
            exact ⟨by rw [hlen]; omega, by simp; omega, fun _ => by rw [hlen]; exact hb2.1⟩)
      obtain ⟨h1, h2, h3, h4⟩ := ih
      refine ⟨?_, h2, h3, ?_⟩
      · rw [h1, flatR_snoc, List.append_assoc]
        simp only [Int.toNat_natCast]
        rw [hbr]
      · rw [sumR_snoc, hlen, List.length_drop] at h4
        omega
    · have key : ∀ (i : List Rn) (x : List Pl), pushL (if s then out else out ++ [([], 1)]) y = i ++ [(x ++ [y], 1)] → flatR out = flatR i ++ x → adjR 0 i → ¬ lastR 0 i = 1 → (∀ q ∈ i, goodR q) → sumR i + x.length = sumR out →
          flatR (goF k ((y :: r).drop 1) (pushL (if s then out else out ++ [([], 1)]) ((y :: r).headD (⟨#[]⟩, 0))) true) = flatR out ++ y :: r ∧ adjR 0 (goF k ((y :: r).drop 1) (pushL (if s then out else out ++ [([], 1)]) ((y :: r).headD (⟨#[]⟩, 0))) true) ∧ (∀ q ∈ goF k ((y :: r).drop 1) (pushL (if s then out else out ++ [([], 1)]) ((y :: r).headD (⟨#[]⟩, 0))) true, goodR q) ∧ sumR (goF k ((y :: r).drop 1) (pushL (if s then out else out ++ [([], 1)]) ((y :: r).headD (⟨#[]⟩, 0))) true) ≤ sumR out + (y :: r).length := by
        intro i x e1 e2 e3 e4 e5 e6
        rw [show (y :: r).headD (⟨#[]⟩, 0) = y from rfl, show (y :: r).drop 1 = r from rfl, e1]
        obtain ⟨h1, h2, h3, h4⟩ := goF_all k r (i ++ [(x ++ [y], 1)]) true (by simp at hk; omega) (by rw [lastR_snoc]; simp) ((adjR_snoc _ _ _).2 ⟨e3, fun h => e4 h.1⟩)
          (fun q hq => by
            rcases List.mem_append.1 hq with hq | hq
            · exact e5 q hq
            · rw [List.mem_singleton.1 hq]
              exact ⟨by simp, by show (1 : Int) ≤ 1; decide, fun h => by simp at h⟩)
        refine ⟨?_, h2, h3, ?_⟩
        · rw [h1, flatR_snoc, e2]
          simp [reps]
        · rw [sumR_snoc] at h4
          simp at h4 ⊢
          omega
      cases s with
      | true =>
        obtain ⟨i, x, rfl⟩ := last_one out (hl.2 rfl)
        obtain ⟨h1, h2⟩ := (adjR_snoc _ _ _).1 ha
        exact key i x (by rw [if_pos rfl, pushL_snoc]) (by rw [flatR_snoc]; simp [reps]) h1 (fun h => h2 ⟨h, rfl⟩) (fun q hq => hg q (List.mem_append.2 (.inl hq))) (by rw [sumR_snoc])
      | false =>
        exact key out [] (by rw [if_neg (by decide), pushL_snoc]) (by simp) ha (fun h => by have := hl.1 h; cases this) hg (by simp)
theorem goU_flat : ∀ (rs : List Rn) (out : List Pl), (∀ r ∈ rs, goodR r) → (out ++ flatR rs).length ≤ 64 → goU out rs = some (out ++ flatR rs)
  | [], out, _, _ => by simp [goU, flatR]
  | r :: rs, out, hg, hl => by
    obtain ⟨g1, g2, _⟩ := hg r (List.mem_cons_self ..)
    have hl' := hl
    simp only [flatR, List.length_append, reps_len] at hl'
    have hn : ((r.1.length * r.2.toNat : Nat) : Int) = (r.1.length : Int) * r.2 := by rw [Int.natCast_mul, Int.toNat_of_nonneg (by omega)]
    have hm : 1 * r.2.toNat ≤ r.1.length * r.2.toNat := Nat.mul_le_mul_right _ g1
    unfold goU
    rw [if_neg (by rintro (h | h) <;> omega)]
    rw [goU_flat rs _ (fun q hq => hg q (List.mem_cons_of_mem _ hq)) (by simpa [flatR, List.append_assoc] using hl), flatR, List.append_assoc]
/-- What the law says of the runs. -/
structure Runs (A : List Pl) (R : List Rn) : Prop where
  unf : unfoldOf R = (A, 0)
  adj : adjR 0 R
  good : ∀ r ∈ R, goodR r
  sum : sumR R ≤ A.length
  some : 0 < sumR R ↔ 0 < A.length
  names : ∀ r ∈ R, ∀ p ∈ r.1, mayB p.1 p.2 = true
theorem mem_flat : ∀ (R : List Rn), (∀ r ∈ R, goodR r) → ∀ r ∈ R, ∀ p ∈ r.1, p ∈ flatR R
  | [], _, r, hr, _, _ => by simp at hr
  | x :: R, hg, r, hr, p, hp => by
    unfold flatR
    rcases List.mem_cons.1 hr with rfl | hr
    · obtain ⟨g1, g2, _⟩ := hg r (List.mem_cons_self ..)
      obtain ⟨q, hq⟩ : ∃ q, r.2.toNat = q + 1 := ⟨r.2.toNat - 1, by omega⟩
      rw [hq, reps_succ]
      exact List.mem_append.2 (.inl (List.mem_append.2 (.inl hp)))
    · exact List.mem_append.2 (.inr (mem_flat R (fun q hq => hg q (List.mem_cons_of_mem _ hq)) r hr p hp))
theorem adj_at : ∀ (t : Int) (R : List Rn), adjR t R → ∀ i (h : i + 1 < R.length), ¬ (R[i].2 = 1 ∧ R[i + 1].2 = 1)
  | t, [], _, i, h => by simp at h
  | t, [x], _, i, h => by simp at h
  | t, x :: y :: R, ha, 0, h => ha.2.1
  | t, x :: y :: R, ha, i + 1, h => adj_at x.2 (y :: R) ha.2 i (by simpa using h)
theorem sum_take (R : List Rn) (i : Nat) (h : i < R.length) : sumR (R.take (i + 1)) = sumR (R.take i) + R[i].1.length := by
  rw [List.take_succ_eq_append_getElem h, sumR_snoc]
theorem sum_le : ∀ (R : List Rn) (i : Nat), sumR (R.take i) ≤ sumR R
  | [], i => by simp [sumR]
  | x :: R, 0 => by simp [sumR]
  | x :: R, i + 1 => by
    have := sum_le R i
    simp only [List.take_succ_cons, sumR]
    omega
theorem fold_runs (A : List Pl) (h : checkN A = 0) : Runs A (foldOf A).1 ∧ (foldOf A).2 = 0 := by
  have h64 := (checkN_zero h).1
  have hm := (checkN_zero h).2
  unfold foldOf
  rw [if_pos h]
  obtain ⟨h1, h2, h3, h4⟩ := goF_all (A.length + 1) A [] false (by omega) (by simp [lastR]) (by simp [adjR]) (by simp)
  simp only [flatR, sumR, List.nil_append, Nat.zero_add] at h1 h4
  generalize goF (A.length + 1) A [] false = R at h1 h2 h3 h4
  have hs : 0 < sumR R ↔ 0 < A.length := by
    constructor
    · intro h; omega
    · intro h
      cases R with
      | nil => rw [← h1] at h; simp [flatR] at h
      | cons r rs => have := (h3 r (List.mem_cons_self ..)).1; unfold sumR; omega
  refine ⟨⟨?_, h2, h3, h4, hs, fun r hr p hp => hm p (by rw [← h1]; exact mem_flat R h3 r hr p hp)⟩, rfl⟩
  unfold unfoldOf
  have hb : R.any badR = false := by
    rw [List.any_eq_false]
    intro r hr
    obtain ⟨g1, g2, _⟩ := h3 r hr
    unfold badR
    have : r.1 ≠ [] := fun e => by rw [e] at g1; simp at g1
    simp [this]
    omega
  have ha : A.all mayP = true := by rw [List.all_eq_true]; exact fun x hx => hm x hx
  rw [hb, goU_flat R [] h3 (by rw [List.nil_append, h1]; exact h64), List.nil_append, h1]
  simp [endU, ha]
/-! #### 'alike' and 'fit' -/
theorem alike_l0 (a b : List S60) (hl : a.length ≤ 9223372036854775806) (hab : a.length = b.length) : ∀ (d k j : Nat), j + d = a.length → d < k → erratalaw03_alike.l0 k a b (j : Int) = some (decide ((a.map toPl).drop j = (b.map toPl).drop j))
  | 0, k + 1, j, hj, _ => by
    simp only [erratalaw03_alike.l0]
    rw [if_neg (by omega), List.drop_eq_nil_of_le (by rw [List.length_map]; omega), List.drop_eq_nil_of_le (by rw [List.length_map]; omega)]
    simp
  | d + 1, k + 1, j, hj, hk => by
    have hja : j < a.length := by omega
    have hjb : j < b.length := by omega
    have hr : rd_T60 a (j : Int) = a[j] := by simp [rd_T60, hja]
    have hs : rd_T60 b (j : Int) = b[j] := by simp [rd_T60, hjb]
    have he := eq_pl (toPl a[j]) (toPl b[j])
    simp only [erratalaw03_alike.l0]
    rw [if_pos (by omega), if_pos (by omega), if_pos (by omega), hr, hs]
    have he2 : ((!(a[j].f0.toList == b[j].f0.toList)) || (!(a[j].f1 == b[j].f1))) = decide (¬ toPl a[j] = toPl b[j]) := by
      rw [← Bool.not_and, show ((a[j].f0.toList == b[j].f0.toList) && (a[j].f1 == b[j].f1)) = decide (toPl a[j] = toPl b[j]) from he]
      simp
    rw [he2, List.drop_eq_getElem_cons (l := a.map toPl) (by rw [List.length_map]; exact hja), List.drop_eq_getElem_cons (l := b.map toPl) (by rw [List.length_map]; exact hjb), List.getElem_map, List.getElem_map]
    by_cases h : toPl a[j] = toPl b[j]
    · rw [if_neg (by simpa using h), wrap_succ j (by omega), alike_l0 a b hl hab d k (j + 1) (by omega) (by omega)]
      simp [h]
    · rw [if_pos (by simpa using h)]
      simp [h]
theorem alike_f (a b : List S60) (hl : a.length ≤ 9223372036854775806) : erratalaw03_alike.f (a.length + 1) a b = some (decide (a.map toPl = b.map toPl)) := by
  unfold erratalaw03_alike.f
  by_cases h : a.length = b.length
  · rw [if_pos (by omega)]
    have := alike_l0 a b hl h a.length (a.length + 1) 0 (by omega) (by omega)
    simpa using this
  · rw [if_neg (by omega)]
    have : ¬ a.map toPl = b.map toPl := fun e => h (by have := congrArg List.length e; simpa using this)
    simp [this]
def okI (e : Int) : Prop := 33 ≤ e ∧ e ≤ 126 ∧ e ≠ 58
theorem may_nums (xs : List Int) (n : Int) (h : ∀ e ∈ xs, okI e) (h1 : 1 ≤ xs.length) (h2 : xs.length ≤ 120) (h3 : 0 ≤ n) (h4 : n ≤ 1048576) : mayB (strOfNums xs) n = true := by
  have hn : okName (strOfNums xs) = true := by
    unfold okName
    rw [strOfNums_data, List.all_eq_true]
    intro c hc
    obtain ⟨e, he, rfl⟩ := List.mem_map.1 hc
    have hi := h e he
    unfold okI at hi
    have hc : (UInt8.ofNat e.toNat).toNat = e.toNat := by
      rw [UInt8.toNat_ofNat']
      omega
    unfold okByte
    rw [hc]
    simp
    omega
  unfold mayB
  rw [hn, strOfNums_size]
  simp
  omega
theorem line_ok (n : Int) : 0 ≤ Int.tmod (wrap64 (Int.tmod n 1048577 + 1048577)) 1048577 ∧ Int.tmod (wrap64 (Int.tmod n 1048577 + 1048577)) 1048577 ≤ 1048576 := by
  have h1 : Int.tmod n 1048577 < 1048577 := Int.tmod_lt_of_pos _ (by decide)
  have h2 : -1048577 < Int.tmod n 1048577 := Int.lt_tmod_of_pos _ (by decide)
  have hw : wrap64 (Int.tmod n 1048577 + 1048577) = Int.tmod n 1048577 + 1048577 := by unfold wrap64; omega
  rw [hw]
  have h3 := Int.tmod_nonneg 1048577 (show 0 ≤ Int.tmod n 1048577 + 1048577 by omega)
  have h4 := Int.tmod_lt_of_pos (Int.tmod n 1048577 + 1048577) (show (0 : Int) < 1048577 by decide)
  omega
section
variable (l : List S96) (hl : l.length ≤ 9223372036854775806) (hs : ∀ x ∈ l, x.f0.size ≤ 9223372036854775807)
include hl hs
theorem fit_l1 (x3 : List S60) (h3 : x3.length ≤ 64) (j : Nat) (hj : j < l.length) (Q : List S60 → Prop) (K0 : Nat)
    (hnext : ∀ k nm n, K0 ≤ k → mayB nm n = true → ∃ r, erratalaw03_fit.l0 k l (x3 ++ [⟨nm, n⟩]) ((j + 1 : Nat) : Int) = some r ∧ Q r) :
    ∀ (m k i : Nat) (acc : List Int), i + m = (l[j].f0).size → K0 + 2 * m + 2 ≤ k → (∀ e ∈ acc, okI e) → acc.length ≤ 120 → ∃ r, erratalaw03_fit.l1 k l x3 (j : Int) acc (i : Int) = some r ∧ Q r := by
  have hr : rd_T96 l (j : Int) = l[j] := by simp [rd_T96, hj]
  have hz := hs l[j] (List.getElem_mem hj)
  have hend : ∀ k i (acc : List Int), K0 < k → (∀ e ∈ acc, okI e) → acc.length ≤ 120 → ∃ r, erratalaw03_fit.j3 k l x3 (j : Int) acc i false = some r ∧ Q r := by
    intro k i acc hk ha hc
    obtain ⟨k, rfl⟩ : ∃ q, k = q + 1 := ⟨k - 1, by omega⟩
    have hln := line_ok l[j].f1
    simp only [erratalaw03_fit.j3]
    rw [if_neg (by decide), hr, wrap_succ j (by omega)]
    by_cases h0 : acc.length = 0
    · rw [if_pos (by omega), if_pos (by omega), if_pos (by omega), if_pos (by omega), if_pos (by omega)]
      exact hnext k _ _ (by omega) (may_nums _ _ (fun e he => by
        rcases List.mem_append.1 he with he | he
        · exact ha e he
        · rw [List.mem_singleton.1 he]; exact ⟨by decide, by decide, by decide⟩) (by simp) (by rw [List.length_append, List.length_singleton]; omega) hln.1 hln.2)
    · rw [if_neg (by omega), if_pos (by omega), if_pos (by omega), if_pos (by omega)]
      exact hnext k _ _ (by omega) (may_nums _ _ ha (by omega) hc hln.1 hln.2)
  intro m
  induction m with
  | zero =>
    intro k i acc hi hk ha hc
    obtain ⟨k, rfl⟩ : ∃ q, k = q + 1 := ⟨k - 1, by omega⟩
    simp only [erratalaw03_fit.l1]
    rw [if_pos (by omega), if_pos (by omega), hr, if_neg (by omega)]
    exact hend k _ acc (by omega) ha hc
  | succ m ih =>
    intro k i acc hi hk ha hc
    obtain ⟨k, rfl⟩ : ∃ q, k = q + 1 := ⟨k - 1, by omega⟩
    simp only [erratalaw03_fit.l1]
    rw [if_pos (by omega), if_pos (by omega), hr, if_pos (by omega)]
    by_cases h120 : acc.length < 120
    · rw [decide_eq_true (by omega)]
      obtain ⟨k, rfl⟩ : ∃ q, k = q + 1 := ⟨k - 1, by omega⟩
      simp only [erratalaw03_fit.j3]
      rw [if_pos trivial, if_pos (by omega), if_pos (by omega), if_pos (by omega), hr, if_pos (by omega), wrap_succ i (by omega)]
      generalize bt l[j].f0 (i : Int) = e
      have skip : ∃ r, erratalaw03_fit.l1 k l x3 (j : Int) acc ((i + 1 : Nat) : Int) = some r ∧ Q r := ih k (i + 1) acc (by omega) (by omega) ha hc
      by_cases c1 : e ≥ 33
      · rw [if_pos c1]
        by_cases c2 : e ≤ 126
        · rw [if_pos c2]
          by_cases c3 : e = 58
          · rw [if_pos c3]; exact skip
          · rw [if_neg c3, if_pos (by omega)]
            exact ih k (i + 1) (acc ++ [e]) (by omega) (by omega) (fun q hq => by
              rcases List.mem_append.1 hq with hq | hq
              · exact ha q hq
              · rw [List.mem_singleton.1 hq]; exact ⟨c1, c2, c3⟩) (by rw [List.length_append, List.length_singleton]; omega)
        · rw [if_neg c2]; exact skip
      · rw [if_neg c1]; exact skip
    · rw [decide_eq_false (by omega)]
      exact hend k _ acc (by omega) ha hc
theorem fit_l0 : ∀ (d j : Nat), j + d = 64 → ∃ K, ∀ (k : Nat) (x3 : List S60), K ≤ k → x3.length = j → (∀ x ∈ x3, mayP (toPl x) = true) → ∃ r, erratalaw03_fit.l0 k l x3 (j : Int) = some r ∧ (r.length ≤ 64 ∧ ∀ x ∈ r, mayP (toPl x) = true)
  | 0, j, hj => ⟨2, fun k x3 hk h3 hm => by
    obtain ⟨k, rfl⟩ : ∃ q, k = q + 2 := ⟨k - 2, by omega⟩
    refine ⟨x3, ?_, by omega, hm⟩
    rw [erratalaw03_fit.l0.eq_def]
    simp only
    rw [decide_eq_false (by omega), ite_self, erratalaw03_fit.j1.eq_def]
    simp⟩
  | d + 1, j, hj => by
    by_cases hjl : j < l.length
    · obtain ⟨K, hK⟩ := fit_l0 d (j + 1) (by omega)
      refine ⟨K + 2 * (l[j].f0).size + 4, fun k x3 hk h3 hm => ?_⟩
      obtain ⟨k, rfl⟩ : ∃ q, k = q + 2 := ⟨k - 2, by omega⟩
      rw [erratalaw03_fit.l0.eq_def]
      simp only
      rw [if_pos (by omega), decide_eq_true (by omega), erratalaw03_fit.j1.eq_def]
      simp only
      rw [if_pos trivial]
      exact fit_l1 l hl hs x3 (by omega) j hjl _ K (fun k nm n hk2 hmm => hK k (x3 ++ [⟨nm, n⟩]) hk2 (by rw [List.length_append, List.length_singleton, h3]) (fun x hx => by
          rcases List.mem_append.1 hx with hx | hx
          · exact hm x hx
          · rw [List.mem_singleton.1 hx]; exact hmm)) (l[j].f0).size k 0 [] (by omega) (by omega) (by simp) (by simp)
    · exact ⟨2, fun k x3 hk h3 hm => by
        obtain ⟨k, rfl⟩ : ∃ q, k = q + 2 := ⟨k - 2, by omega⟩
        refine ⟨x3, ?_, by omega, hm⟩
        rw [erratalaw03_fit.l0.eq_def]
        simp only
        rw [if_neg (by omega), erratalaw03_fit.j1.eq_def]
        simp⟩
theorem fit_f : ∃ k r, erratalaw03_fit.f k l = some r ∧ checkN (r.map toPl) = 0 := by
  obtain ⟨K, hK⟩ := fit_l0 l hl hs 64 0 rfl
  obtain ⟨r, h1, h2, h3⟩ := hK K [] (Nat.le_refl _) rfl (by simp)
  refine ⟨K, r, h1, ?_⟩
  have ha : (r.map toPl).all mayP = true := by
    rw [List.all_eq_true]
    intro x hx
    obtain ⟨y, hy, rfl⟩ := List.mem_map.1 hx
    exact h3 y hy
  rw [check_64 (by rw [List.length_map]; exact h2), if_pos ha]
end
end Go.Proofs.YtmgfdcfbjgokgaaDoor
namespace Go.Proofs.YtmgfdcfbjgokgaaDoor
open Go.RowKit Go.Proofs.YtmgfdcfbjgokgaaDoorW.PrintWords Go.Proofs.YtmgfdcfbjgokgaaDoorW.PrintLast Go.Proofs.YtmgfdcfbjgokgaaDoorW.PrintMore Go.Proofs.YtmgfdcfbjgokgaaDoor.PL
set_option linter.unusedVariables false
set_option linter.unusedSimpArgs false

/-- What came in. -/
structure In4 (w : World) (A0 : Option Addr) (c0 n : Nat) (l : List S96) (A1 : Option Addr) (c1 m : Nat) (l2 : List S96) : Prop where
  nl : n = l.length
  ml : m = l2.length
  cn : n ≤ c0
  cm : m ≤ c1
  l0 : Kd.C k96 w A0 n l
  l1 : Kd.C k96 w A1 m l2
  bn : n ≤ 9223372036854775806
  bm : m ≤ 9223372036854775806
  sz : ∀ x ∈ l, x.f0.size ≤ 9223372036854775807
  sz1 : ∀ x ∈ l2, x.f0.size ≤ 9223372036854775807
  tabs : Tabs w
theorem name_bd {a : List S60} (h : checkN (a.map toPl) = 0) : ∀ x ∈ a, x.f0.size ≤ 9223372036854775807 := fun x hx => by
  have := (checkN_zero h).2 (toPl x) (List.mem_map.2 ⟨x, hx, rfl⟩)
  simp only [mayB, Bool.and_eq_true, decide_eq_true_eq, toPl] at this
  exact Nat.le_trans (show x.f0.size ≤ 120 from of_decide_eq_true this.1.1.1.2) (by decide)
theorem len_bd {a : List S60} (h : checkN (a.map toPl) = 0) : a.length ≤ 64 := by
  have := (checkN_zero h).1
  rwa [List.length_map] at this
theorem len_sum : ∀ (R : List Rn), (∀ r ∈ R, goodR r) → R.length ≤ sumR R := fun R => by
  induction R with
  | nil => intro _; simp
  | cons x R ih =>
    intro hg
    have := (hg x (List.mem_cons_self ..)).1
    have := ih (fun q hq => hg q (List.mem_cons_of_mem _ hq))
    simp only [List.length_cons, sumR]
    omega
section
variable {W : World} {A B : Option Addr} {c d n m : Nat}
theorem fit_k {l : List S96} (hn : n = l.length) (h : Kd.C k96 W A n l) (hc : n ≤ c) (hs : ∀ x ∈ l, x.f0.size ≤ 9223372036854775807) (hb : n ≤ 9223372036854775806) :
    Calls Tryd.prog 31 #[.slice A n c] W fun e w' => ∃ A' n' c' a, e = .returned (.slice A' n' c') ∧ n' = a.length ∧ n' ≤ c' ∧ checkN (a.map toPl) = 0 ∧ Kd.C k60 w' A' n' a ∧ Below W.heap.size W w' := by
  subst hn
  obtain ⟨k, r, hf, h0⟩ := fit_f l hb hs
  refine (erratalaw03_fit.calls k A c l r W h hc hf).mono fun e w' ⟨v, he, hR, hbl⟩ => ?_
  obtain ⟨A', c', rfl, h1, h2⟩ := Kd.R_reads hR
  exact ⟨A', r.length, c', r, he, rfl, h1, h0, h2, hbl⟩
variable {a b : List S60}
theorem text_b (hn : n = a.length) (h : Kd.C k60 W A n a) (hc : n ≤ c) (h0 : checkN (a.map toPl) = 0) (ht : Tabs W) :
    Calls Tryd.prog 11 #[.slice A n c] W fun e w' => e = .returned (.tuple #[.string (textB (a.map toPl)), .int .i64 0]) ∧ Below W.heap.size W w' := by
  subst hn
  have hx := len_bd h0
  have := Text_any A c a W h hc (name_bd h0) (by omega) ht
  unfold textOf at this
  rw [if_pos h0] at this
  exact this
theorem alike_b (hn : n = a.length) (hm : m = b.length) (h : Kd.C k60 W A n a) (hc : n ≤ c) (h2 : Kd.C k60 W B m b) (hd : m ≤ d) (hl : a.length ≤ 64) :
    Calls Tryd.prog 32 #[.slice A n c, .slice B m d] W fun e w' => e = .returned (.bool (decide (a.map toPl = b.map toPl))) ∧ Below W.heap.size W w' := by
  subst hn
  subst hm
  exact (erratalaw03_alike.calls _ A c a B d b _ W h hc h2 hd (alike_f a b (by omega))).mono fun e w' h => ⟨h.1, h.2.below⟩
theorem parse_b (hn : n = a.length) (h0 : checkN (a.map toPl) = 0) (ht : Tabs W) : Calls Tryd.prog 19 #[.string (textB (a.map toPl))] W fun e w' => ∃ Ax cx, e = .returned (.tuple #[.slice Ax n cx, .int .i64 0]) ∧ n ≤ cx ∧ Kd.C k60 w' Ax n a ∧ Below W.heap.size W w' := by
  subst hn
  have hsz : (textB (a.map toPl)).size ≤ 9280 := by
    have := join_size (a.map toPl) (checkN_zero h0).2 (txts (a.map toPl)).length (checkN_zero h0).1
    rw [List.take_length] at this
    rw [textB_eq, bs_size]
    exact this
  refine (Parse_any (textB (a.map toPl)) W (by omega) ht).mono fun e w' ⟨v, he, hR, hb⟩ => ?_
  rw [parse_text _ h0] at he hR
  simp only at he hR
  rw [ofPl_toPl] at hR
  obtain ⟨A', c', rfl, h1, h2⟩ := Kd.R_reads hR
  exact ⟨A', c', he, h1, h2, hb⟩
theorem fold_b (hn : n = a.length) (h : Kd.C k60 W A n a) (hc : n ≤ c) (h0 : checkN (a.map toPl) = 0) :
    Calls Tryd.prog 28 #[.slice A n c] W fun e w' => ∃ Ar N cr rs, e = .returned (.tuple #[.slice Ar N cr, .int .i64 0]) ∧ N = rs.length ∧ N ≤ cr ∧ Runs (a.map toPl) (rs.map run50) ∧ Kd.C k50 w' Ar N rs ∧ Below W.heap.size W w' := by
  subst hn
  have hx := len_bd h0
  obtain ⟨hR, hz⟩ := fold_runs _ h0
  refine (Fold_any A c a W h hc (name_bd h0) (by omega)).mono fun e w' ⟨v, rs, he, hrs, hS, hb⟩ => ?_
  obtain ⟨A', c', rfl⟩ := Kd.S_slice hS
  have h3 := Kd.S_reads' hS
  rw [hz] at he
  rw [← hrs] at hR
  exact ⟨A', rs.length, c', rs, he, rfl, h3.2.1, hR, by have := h3.2.2; rwa [← h3.1] at this, hb⟩
theorem unfold_b {rs : List S50} (hn : n = rs.length) (hm : m = a.length) (h : Kd.C k50 W A n rs) (hc : n ≤ c) (hr : Runs (a.map toPl) (rs.map run50)) (h64 : a.length ≤ 64) :
    Calls Tryd.prog 24 #[.slice A n c] W fun e w' => ∃ Ay cy, e = .returned (.tuple #[.slice Ay m cy, .int .i64 0]) ∧ m ≤ cy ∧ Kd.C k60 w' Ay m a ∧ Below W.heap.size W w' := by
  subst hn
  subst hm
  have hmax : rs.length ≤ 9223372036854775806 := by
    have h1 := len_sum _ hr.good
    have h2 := hr.sum
    rw [List.length_map] at h1 h2
    omega
  have hs : ∀ x ∈ rs, x.f0.length ≤ 5864062014700 ∧ ∀ y ∈ x.f0, y.f0.size ≤ 9223372036854775807 := fun x hx => by
    have hm : run50 x ∈ rs.map run50 := List.mem_map.2 ⟨x, hx, rfl⟩
    refine ⟨?_, fun y hy => ?_⟩
    · have h2 := hr.sum
      have h3 : ∀ (R : List Rn), ∀ r ∈ R, r.1.length ≤ sumR R := fun R => by
        induction R with
        | nil => intro r hr; simp at hr
        | cons x R ih =>
          intro r hr
          simp only [sumR]
          rcases List.mem_cons.1 hr with rfl | hr
          · omega
          · have := ih r hr; omega
      have h4 := h3 _ _ hm
      rw [List.length_map] at h2
      simp only [run50, List.length_map] at h4
      omega
    · have := hr.names _ hm (toPl y) (List.mem_map.2 ⟨y, hy, rfl⟩)
      simp only [mayB, Bool.and_eq_true, decide_eq_true_eq, toPl] at this
      exact Nat.le_trans (show y.f0.size ≤ 120 from of_decide_eq_true this.1.1.1.2) (by decide)
  have hf := unf_f rs hmax hs
  rw [hr.unf] at hf
  simp only at hf
  rw [ofPl_toPl] at hf
  refine (place_Unfold.calls _ A c rs _ _ W h hc hf).mono fun e w' ⟨v, he, hR, hb⟩ => ?_
  obtain ⟨A', c', rfl, h1, h2⟩ := Kd.R_reads hR
  exact ⟨A', c', he, h1, h2, hb⟩
end
/-- All that is carried from call to call. -/
structure Sb (w W : World) (Aa : Option Addr) (n : Nat) (a : List S60) (Ab : Option Addr) (m : Nat) (b : List S60) : Prop where
  below : Below w.heap.size w W
  a : Kd.C k60 W Aa n a
  b : Kd.C k60 W Ab m b
  tabs : Tabs W
theorem Sb.step {w W W2 : World} {Aa Ab : Option Addr} {n m : Nat} {a b : List S60} (S : Sb w W Aa n a Ab m b) (hb : Below W.heap.size W W2) : Sb w W2 Aa n a Ab m b :=
  ⟨S.below.trans (hb.mono S.below.size), Kd.C_below S.a hb, Kd.C_below S.b hb, S.tabs.below hb⟩
set_option maxRecDepth 100000 in
set_option maxHeartbeats 16000000 in
theorem backs_any (w : World) (A0 : Option Addr) (c0 n0 : Nat) (l : List S96) (A1 : Option Addr) (c1 m0 : Nat) (l2 : List S96) (I0 : In4 w A0 c0 n0 l A1 c1 m0 l2) :
    Calls Tryd.prog 7 #[.slice A0 n0 c0, .slice A1 m0 c1] w fun e w' => e = .returned (.bool true) ∧ Below w.heap.size w w' := by
  have I := Lib.hid I0
  clear I0
  go_enter Tryd.func7, Tryd.ntmps7
  go_wp2_with (go_at_call 31; (with_reducible refine (fit_k I.out.nl I.out.l0 I.out.cn I.out.sz I.out.bn).mono ?_); rintro e w1 ⟨Aa, n, ca, a, rfl, hna, hca, h0a, hCa, hb⟩; have HNA := Lib.hid hna; have HCA := Lib.hid hca; have H0A := Lib.hid h0a; have HA := Lib.hid hCa; have HB1 := Lib.hid hb; clear hna hca h0a hCa hb)
  go_wp2_with (go_at_call 31; (with_reducible refine (fit_k I.out.ml (Kd.C_below I.out.l1 HB1.out) I.out.cm I.out.sz1 I.out.bm).mono ?_); rintro e w2 ⟨Ab, m, cb, b, rfl, hnb, hcb, h0b, hCb, hb⟩; have HNB := Lib.hid hnb; have HCB := Lib.hid hcb; have H0B := Lib.hid h0b; have S := Lib.hid (show Sb w w2 Aa n a Ab m b from ⟨HB1.out.trans (hb.mono HB1.out.size), Kd.C_below HA.out hb, hCb, (I.out.tabs.below HB1.out).below hb⟩); clear hnb hcb h0b hCb hb HA HB1 I)
  obtain ⟨D, hD⟩ : ∃ D, D = decide (a.map toPl = b.map toPl) := ⟨_, rfl⟩
  obtain ⟨s, hs⟩ : ∃ s, s = textB (a.map toPl) := ⟨_, rfl⟩
  obtain ⟨t, ht⟩ : ∃ t, t = textB (b.map toPl) := ⟨_, rfl⟩
  have hst : (s.toList == t.toList) = D := by
    have h := eq_pl (s, 0) (t, 0)
    simp only [beq_self_eq_true, Bool.and_true, Prod.mk.injEq, and_true] at h
    rw [h, hD, hs, ht]
    exact decide_eq_decide.2 (text_inj H0A.out H0B.out)
  have HD := Lib.hid hD
  have HS := Lib.hid hs
  have HT := Lib.hid ht
  clear hD hs ht
  have hDD : (D != D) = false := by cases D <;> rfl
  go_wp2_with (go_at_call 11; (with_reducible refine (text_b HNA.out S.out.a HCA.out H0A.out S.out.tabs).mono ?_); rintro e w3 ⟨rfl, hb⟩; rw [← HS.out]; have S3 := Lib.hid (S.out.step hb); clear hb S)
  go_wp2_with (go_at_call 11; (with_reducible refine (text_b HNB.out S3.out.b HCB.out H0B.out S3.out.tabs).mono ?_); rintro e w4 ⟨rfl, hb⟩; rw [← HT.out]; have S4 := Lib.hid (S3.out.step hb); clear hb S3)
  go_wp2_with (go_at_call 32; (with_reducible refine (alike_b HNA.out HNB.out S4.out.a HCA.out S4.out.b HCB.out (len_bd H0A.out)).mono ?_); rintro e w5 ⟨rfl, hb⟩; rw [← HD.out]; have S5 := Lib.hid (S4.out.step hb); clear hb S4)
  go_wp2_with (go_at_call 19; (with_reducible refine (show Calls Tryd.prog 19 #[.string s] _ _ from by rw [HS.out]; exact parse_b HNA.out H0A.out S5.out.tabs).mono ?_); rintro e w6 ⟨Ax, cx, rfl, hcx, hCx, hb⟩; have HCX := Lib.hid hcx; have HX := Lib.hid hCx; have S6 := Lib.hid (S5.out.step hb); clear hb hcx hCx S5)
  go_wp2_with (go_at_call 28; (with_reducible refine (fold_b HNA.out S6.out.a HCA.out H0A.out).mono ?_); rintro e w7 ⟨Ar, N, cr, rs, rfl, hN, hcr, hR, hCr, hb⟩; have HN := Lib.hid hN; have HCR := Lib.hid hcr; have HR := Lib.hid hR; have HRS := Lib.hid hCr; have HX7 := Lib.hid (Kd.C_below HX.out hb); have S7 := Lib.hid (S6.out.step hb); clear hb hN hcr hR hCr S6 HX)
  go_wp2_with (go_at_call 24; (with_reducible refine (unfold_b HN.out HNA.out HRS.out HCR.out HR.out (len_bd H0A.out)).mono ?_); rintro e w8 ⟨Ay, cy, rfl, hcy, hCy, hb⟩; have HCY := Lib.hid hcy; have HY := Lib.hid hCy; have HX8 := Lib.hid (Kd.C_below HX7.out hb); have HRS8 := Lib.hid (Kd.C_below HRS.out hb); have S8 := Lib.hid (S7.out.step hb); clear hb hcy hCy S7 HX7 HRS)
  go_wp2_with (go_at_call 32; (with_reducible refine (alike_b HNA.out HNA.out HX8.out HCX.out S8.out.a HCA.out (len_bd H0A.out)).mono ?_); rintro e w9 ⟨rfl, hb⟩; rw [decide_eq_true (Eq.refl (a.map toPl))]; have HY9 := Lib.hid (Kd.C_below HY.out hb); have HRS9 := Lib.hid (Kd.C_below HRS8.out hb); have S9 := Lib.hid (S8.out.step hb); clear hb S8 HX8 HCX HY HRS8)
  go_wp2_with (go_at_call 32; (with_reducible refine (alike_b HNA.out HNA.out HY9.out HCY.out S9.out.a HCA.out (len_bd H0A.out)).mono ?_); rintro e w10 ⟨rfl, hb⟩; rw [decide_eq_true (Eq.refl (a.map toPl))]; have HRS10 := Lib.hid (Kd.C_below HRS9.out hb); have S10 := Lib.hid (S9.out.step hb); clear hb S9 HY9 HCY HRS9)
  have HN64 := Lib.hid (len_bd H0A.out)
  clear hst hDD HD HS HT HNB HCB H0A H0B HCA
  go_loopg [17, 18] N (fun q s17 s18 wx => ∃ i : Nat, i + q = N ∧ s17 = .int .i64 (sumR ((rs.map run50).take i) : Nat) ∧ s18 = .int .i64 i ∧ Drawn0 w10 wx)
  case atStart => exact ⟨0, by omega, rfl, rfl, Drawn0.refl _⟩
  case round =>
    obtain ⟨i, hi, rfl, rfl, ⟨m1, rfl⟩⟩ := hrel
    obtain ⟨sm, hsm⟩ : ∃ sm, sm = sumR ((rs.map run50).take i) := ⟨_, rfl⟩
    rw [← hsm]
    have hs64 : sm ≤ n := by have := HR.out.sum; have h2 := sum_le (rs.map run50) i; rw [List.length_map] at this; rw [hsm, HNA.out]; omega
    have hn64 : n ≤ 64 := by rw [HNA.out]; exact HN64.out
    by_cases hq : gk = 0
    · subst hq
      have hend : decide ((i : Int) < (N : Int)) = false := by simp; omega
      have hendN : ¬ i < N := by omega
      have hfull : sm = sumR (rs.map run50) := by
        rw [hsm, List.take_of_length_le (by rw [List.length_map]; have := HN.out; omega)]
      have hpos : 0 < sm ↔ 0 < n := by
        have := HR.out.some
        rw [List.length_map, ← hfull, ← HNA.out] at this
        exact this
      have b1 : decide ((sm : Int) ≤ (n : Int)) = true := by simp; omega
      have SX := Lib.hid (S10.out.step (show Below w10.heap.size w10 (w10.drewN m1) from (Drawn0.below ⟨⟨m1, rfl⟩⟩)))
      clear hsm hfull S10 HRS10 hi
      by_cases h0 : 0 < n
      · have h0s : 0 < sm := hpos.2 h0
        have b2 : decide (0 < (n : Int)) = true := by simpa using h0
        have b3 : decide (0 < (sm : Int)) = true := by simpa using h0s
        clear hpos
        go_wp2_with (go_at_call 23; (with_reducible refine (alive_any _ SX.out.tabs).mono ?_); rintro e w11 ⟨rfl, hb⟩; have S11 := Lib.hid (SX.out.step hb); clear hb SX)
        go_ret
        exact ⟨rfl, S11.out.below⟩
      · have h0s : ¬ 0 < sm := fun h => h0 (hpos.1 h)
        have b2 : decide (0 < (n : Int)) = false := by simpa using h0
        have b3 : decide (0 < (sm : Int)) = false := by simpa using h0s
        clear hpos
        go_wp2_with (go_at_call 23; (with_reducible refine (alive_any _ SX.out.tabs).mono ?_); rintro e w11 ⟨rfl, hb⟩; have S11 := Lib.hid (SX.out.step hb); clear hb SX)
        go_ret
        exact ⟨rfl, S11.out.below⟩
    · obtain ⟨q, rfl⟩ : ∃ q, gk = q + 1 := ⟨gk - 1, by omega⟩
      have hlt : decide ((i : Int) < (N : Int)) = true := by simp; omega
      have hlt0 : decide (0 ≤ (i : Int)) = true := by simp
      have hir : i < rs.length := by have := HN.out; omega
      have hiR : i < (rs.map run50).length := by rw [List.length_map]; exact hir
      have hst := sum_take (rs.map run50) i hiR
      have hsl := sum_le (rs.map run50) (i + 1)
      have hgood := HR.out.good _ (List.getElem_mem hiR)
      rw [List.getElem_map] at hst hgood
      rw [← hsm] at hst
      have hrd := run50_rd rs i hir
      obtain ⟨ad, A3, c3, e3, hx0, hx1, _, _⟩ := at_T50 HRS10.out (i : Int) (by omega) (by omega)
      subst e3
      rw [hrd] at hx0 hx1
      obtain ⟨pl, hpl⟩ : ∃ pl, pl = rs[i].f0.length := ⟨_, rfl⟩
      obtain ⟨tm, htm⟩ : ∃ tm, tm = rs[i].f1 := ⟨_, rfl⟩
      rw [← hpl, Int.toNat_natCast] at hx0
      rw [← htm, Int.toNat_natCast] at hx1
      have hnx : sumR ((rs.map run50).take (i + 1)) = sm + pl := by
        rw [hst]
        simp only [run50, List.length_map]
        rw [← hpl]
      have hp64 : pl ≤ 64 := by
        have h3 := HR.out.sum
        have h4 := HN64.out
        rw [List.length_map] at h3
        omega
      have hi64 : i ≤ 64 := by
        have h2 := len_sum (rs.map run50) HR.out.good
        have h3 := HR.out.sum
        have h4 := HN64.out
        rw [List.length_map] at h2 h3
        omega
      have hgl : pl ≤ 8 ∨ tm ≤ 1 := by
        have := hgood.2.2
        simp only [run50, List.length_map] at this
        rw [← hpl, ← htm] at this
        omega
      have hg1 : 1 ≤ tm := by have := hgood.2.1; simp only [run50] at this; rw [← htm] at this; exact this
      have hadj : ∀ (j : Nat) (h : j < rs.length), j + 1 = i → tm = 1 → ¬ rs[j].f1 = 1 := fun j h e h1 h2 => by
        subst e
        have := adj_at 0 _ HR.out.adj j hiR
        rw [List.getElem_map, List.getElem_map] at this
        exact this ⟨h2, by show rs[j + 1].f1 = 1; rw [← htm]; exact h1⟩
      clear hsm hpl htm hrd hgood hst hsl
      have ht1 : decide (tm < 1) = false := by simp; omega
      by_cases h1 : 1 < tm
      · have hp8 : pl ≤ 8 := by omega
        have g1 : decide (1 < tm) = true := by simpa using h1
        have g2 : decide (8 < (pl : Int)) = false := by simp; omega
        have g3 : (tm == 1) = false := by simp; omega
        by_cases hi0 : 0 < i
        · go_wp2
          go_roundg q
          case measure => omega
          case rel => exact ⟨i + 1, by omega, (by rw [hnx]; first | rfl | (congr 1; unfold wrap64; omega) | (congr 1; omega)), (by first | rfl | go_num | (congr 1; omega)), ⟨⟨m1, rfl⟩⟩⟩
        · go_wp2
          go_roundg q
          case measure => omega
          case rel => exact ⟨i + 1, by omega, (by rw [hnx]; first | rfl | (congr 1; unfold wrap64; omega) | (congr 1; omega)), (by first | rfl | go_num | (congr 1; omega)), ⟨⟨m1, rfl⟩⟩⟩
      · have h1' : tm = 1 := by omega
        subst h1'
        by_cases hi0 : 0 < i
        · obtain ⟨p, hp⟩ : ∃ p, p + 1 = i := ⟨i - 1, by omega⟩
          have hj : p < rs.length := by omega
          have hne := hadj p hj hp rfl
          have hrd2 := run50_rd rs p hj
          obtain ⟨ad2, A4, c4, e4, hy0, hy1, _, _⟩ := at_T50 HRS10.out (p : Int) (by omega) (by omega)
          cases e4
          rw [hrd2] at hy0 hy1
          obtain ⟨tp, htp⟩ : ∃ tp, tp = rs[p].f1 := ⟨_, rfl⟩
          rw [← htp] at hy1 hne
          rw [Int.toNat_natCast] at hy1
          have g4 : (tp == 1) = false := by simpa using hne
          rw [show p = i - 1 by omega] at hy1
          clear hy0 htp hadj hrd2
          go_wp2
          go_roundg q
          case measure => omega
          case rel => exact ⟨i + 1, by omega, (by rw [hnx]; first | rfl | (congr 1; unfold wrap64; omega) | (congr 1; omega)), (by first | rfl | go_num | (congr 1; omega)), ⟨⟨m1, rfl⟩⟩⟩
        · go_wp2
          go_roundg q
          case measure => omega
          case rel => exact ⟨i + 1, by omega, (by rw [hnx]; first | rfl | (congr 1; unfold wrap64; omega) | (congr 1; omega)), (by first | rfl | go_num | (congr 1; omega)), ⟨⟨m1, rfl⟩⟩⟩
end Go.Proofs.YtmgfdcfbjgokgaaDoor
namespace Go.Proofs.YtmgfdcfbjgokgaaDoor.bulks

theorem one_le {H : Type} (d : DataW H) : 1 ≤ Rows.uptoBulk d := by
  cases d with
  | lit l => cases l <;> simp [Rows.uptoBulk]
  | nil => simp [Rows.uptoBulk]
  | ptr d => simp [Rows.uptoBulk]
  | slice elems spare => simp [Rows.uptoBulk]
  | agg parts => simp [Rows.uptoBulk]
  | iface t d => simp [Rows.uptoBulk]
  | map entries => simp [Rows.uptoBulk]
  | held h => simp [Rows.uptoBulk]

/-- a part's bulk is at most the whole's -/
theorem part_le {H : Type} {d : DataW H} {l : List (DataW H)} (h : d ∈ l) : Rows.uptoBulk d ≤ Rows.uptoBulkAll l := by
  induction l with
  | nil => cases h
  | cons x r ih =>
    simp only [Rows.uptoBulkAll]
    cases List.mem_cons.1 h with
    | inl e => subst e; omega
    | inr e => have := ih e; omega

theorem append {H : Type} (l r : List (DataW H)) : Rows.uptoBulkAll (l ++ r) = Rows.uptoBulkAll l + Rows.uptoBulkAll r := by
  induction l with
  | nil => simp [Rows.uptoBulkAll]
  | cons x l ih => simp only [List.cons_append, Rows.uptoBulkAll, ih]; omega

/-- so many values at the most -/
theorem length_le {H : Type} (l : List (DataW H)) : l.length ≤ Rows.uptoBulkAll l := by
  induction l with
  | nil => simp [Rows.uptoBulkAll]
  | cons x r ih => have := one_le x; simp only [Rows.uptoBulkAll, List.length_cons]; omega

/-- a slice's places, and what they hold -/
theorem slice_le {H : Type} (elems spare : List (DataW H)) : elems.length + spare.length + 1 ≤ Rows.uptoBulk (.slice elems spare) := by
  have h1 := length_le elems
  have h2 := length_le spare
  simp only [Rows.uptoBulk]
  omega
theorem slice_elems {H : Type} (elems spare : List (DataW H)) : Rows.uptoBulkAll elems + 1 ≤ Rows.uptoBulk (.slice elems spare) := by
  simp only [Rows.uptoBulk]
  omega

/-- a string's letters -/
theorem string_eq {H : Type} (bytes : List UInt8) : Rows.uptoBulk (DataW.lit (H := H) (.string bytes)) = bytes.length + 1 := by
  simp [Rows.uptoBulk]

/-- THE BOUND, as the builder hands it over ('hk') -/
theorem bound {H : Type} {l : List (DataW H)} (hk : Rows.uptoSmall H l = true) : Rows.uptoBulkAll l ≤ 1048576 := by
  simpa [Rows.uptoSmall] using hk

/-- ROOM: a slice of n elements of b bytes, grown by append: below the 2^48 bytes that append, make and a Builder bear. Here n up to 2^21, b up to 4,096: put your own numbers. -/
theorem room {n b : Nat} (hn : n ≤ 2097152) (hb : b ≤ 4096) : (n + n / 4 + 192) * b ≤ 281474976710656 := by
  have h : (n + n / 4 + 192) * b ≤ 2621632 * 4096 := Nat.mul_le_mul (by omega) hb
  omega

end Go.Proofs.YtmgfdcfbjgokgaaDoor.bulks
namespace Go.Proofs.YtmgfdcfbjgokgaaDoor
open Go.ChangeShapes Go.WideShapes Go.ChangeAt Go.RowKit Go.Proofs.YtmgfdcfbjgokgaaDoorW.PrintWords
set_option linter.unusedVariables false
set_option linter.unusedSimpArgs false

theorem backs_reads (os : Os) {H : Type} (enc : TypeId × Value → H) : ∃ places, DataW.whole enc Tryd.prog ((laidWorld os).forCall (fun _ _ => 0) ⟨#[], #[.slice none 0 0, .slice none 0 0], []⟩).memory Tryd.f7.params.toList Rows.placeBackSpec.vars false #[Value.slice none 0 0, .slice none 0 0].toList 8 = some ([.nil, .nil], [], places) :=
  ⟨[], by kernel_rfl⟩
set_option maxRecDepth 100000 in
theorem backs_lifted (os : Os) (started : os.Started) (H : Type) (enc : TypeId × Value → H) (F : Stop.Interp) :
    ReturnsInHanded {} Tryd.checked os 7 .any ((Rows.OpenSpec.upto Rows.placeBackSpec).preRow enc Tryd.prog Tryd.f7 Rows.placeBackUptoRow.domain false Rows.placeBackUptoRow.laid) (((Rows.OpenSpec.upto Rows.placeBackSpec).at F).post enc Tryd.prog Tryd.f7 false true false false) := by
  obtain ⟨places, hx⟩ := backs_reads os enc
  refine returnsInHanded_of_row (C := Tryd.checked) (s := Rows.OpenSpec.upto Rows.placeBackSpec) own_knob started (by kernel_rfl) Tryd.func7
    (witness_row_at (enc := enc) (C := Tryd.checked) false (laidWorld os) #[.slice none 0 0, .slice none 0 0] rfl (by kernel_rfl) (by kernel_rfl) (by kernel_rfl)
      (OpenSpec.preRow_of_cond 8 hx (by kernel_rfl) (fun k hk => by cases hk; kernel_rfl) (by kernel_rfl) (laid_met0 os _))) ?_
  intro W base args ds gs before hval0 hW _ hcond hsz hL hsh _
  have hval : ∀ (j : Nat) t v, Tryd.f7.params[j]? = some t → args[j]? = some v → Value.okWide Tryd.prog W .any base t v := hval0
  have hW' := hW
  obtain ⟨p, q, hA0, hV, rfl, hfz, hnd⟩ := hW
  have hA : DataW.TrodAll enc Tryd.prog W 0 (fun _ => true) true Tryd.f7.params.toList args.toList ds p := hA0
  rw [Tryd.params7] at hA hval
  obtain ⟨v0, v1, d0, d1, p0, p1, rfl, rfl, rfl, h0, h1⟩ := trodAll_two hA
  obtain ⟨rfl, rfl⟩ := trodVars_none hV
  have k0 := h0
  have k1 := h1
  have lt0 : ∀ x ∈ p0, x.block < W.heap.size := by obtain ⟨m, hm⟩ := k0; exact DataW.trod_lt m _ _ _ hm
  have lt1 : ∀ x ∈ p1, x.block < W.heap.size := by obtain ⟨m, hm⟩ := k1; exact DataW.trod_lt m _ _ _ hm
  obtain ⟨A0, n, c0, l, rfl, hc0, hn, hC0, hs0, hd0⟩ := open_spots (hval 0 22 v0 rfl rfl) h0
  obtain ⟨A1, m, c1, l2, rfl, hc1, hm, hC1, hs1, hd1⟩ := open_spots (hval 1 22 v1 rfl rfl) h1
  have hk := bulks.bound (hcond _ rfl)
  simp only [List.cons_append, List.nil_append, Rows.uptoBulkAll] at hk
  have bn : n ≤ 1048576 := by
    rcases hd0 with rfl | ⟨e, sp, rfl, he⟩
    · omega
    · have := bulks.slice_le e sp
      omega
  have bm : m ≤ 1048576 := by
    rcases hd1 with rfl | ⟨e, sp, rfl, he⟩
    · omega
    · have := bulks.slice_le e sp
      omega
  clear hA0 hval0
  refine (backs_any W A0 c0 n l A1 c1 m l2 ⟨hn, hm, hc0, hc1, hC0, hC1, by omega, by omega, hs0, hs1, tabs_of hL hsh⟩).mono fun e W' ⟨he, bel⟩ => ?_
  subst he
  exact ⟨_, rfl, _, _, _, [], _, [], hW', trodAll_mk1 (shut_bool Tryd.underlying4 _), (trodAll_cons_mk (Below.trod laid_out (by kernel_rfl) (of_decide_eq_true (by kernel_rfl)) k0 bel lt0) (trodAll_cons_mk (Below.trod laid_out (by kernel_rfl) (of_decide_eq_true (by kernel_rfl)) k1 bel lt1) trodAll_mk0)), rfl, bel.frame _, fun h => by cases h⟩

theorem backs_row : Rows.PlaceBackUptoSaid :=
  OpenClaim.holds_of_cond 7 Tryd.f7 rfl rfl rfl rfl rfl rfl rfl ⟨rfl, rfl, rfl, rfl, rfl⟩ rfl rfl rfl rfl rfl (by kernel_rfl) Tryd.func7 (by kernel_rfl)
    (of_decide_eq_true (by kernel_rfl)) (by unfold Func.isWrapper; first | (rw [if_pos (by decide +kernel)]; kernel_rfl) | (rw [if_neg (by decide +kernel)]; exact ⟨rfl, rfl⟩))
    (fun os started H enc _ F => by rw [OpenClaim.pre_eq_preRow]; exact backs_lifted os started H enc F)

theorem placeBack_card : Rows.PlaceBackUptoCardSaid :=
  Claim7.holds_tied_plain_at .later [] _ _ _ _
    backs_row (fun _ h => by cases h) (by kernel_rfl) (fun _ h => by cases h) placeBackUpto_row_tie rfl ⟨rfl, rfl⟩ (by kernel_rfl) rfl
    (fun f fn hf hfn => by
      obtain rfl : f = 7 := Option.some.inj ((show Tryd.prog.funcNamed "errata/erratalaw03.PlaceBack" = some 7 by kernel_rfl).symm.trans hf) |>.symm
      obtain rfl : fn = Tryd.f7 := (Option.some.inj (Tryd.func7.symm.trans hfn)).symm
      exact ⟨by kernel_rfl, fun j t ht => by
        rw [Tryd.params7] at ht
        rcases j with _ | _ | j
        · have : t = 22 := by simpa using ht.symm
          subst this
          exact (show Tryd.prog.wantsStandIn 22 = false by kernel_rfl)
        · have : t = 22 := by simpa using ht.symm
          subst this
          exact (show Tryd.prog.wantsStandIn 22 = false by kernel_rfl)
        · simp at ht⟩)
    (by kernel_rfl)
end Go.Proofs.YtmgfdcfbjgokgaaDoor
