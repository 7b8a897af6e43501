/- What the reference's 'Parse' comes to; it is what the program's comes to. -/
import Derived.Test.YtmgfdcfbjgokgaaDoorRp
namespace Go.Proofs.YtmgfdcfbjgokgaaDoor
open Go Go.RowKit Go.Proofs.YtmgfdcfbjgokgaaDoorW.PrintWords Go.Proofs.YtmgfdcfbjgokgaaDoorW.PrintLast Go.Proofs.YtmgfdcfbjgokgaaDoorW.PrintMore Go.Proofs.YtmgfdcfbjgokgaaDoor.PL
set_option linter.unusedVariables false
set_option linter.unusedSimpArgs false

theorem ext_data (s : ByteArray) (a b : Nat) : (s.extract a b).data.toList = (s.data.toList.drop a).take (b - a) := Lib.extract_data s a b
theorem take3 (l : List UInt8) : l.take 3 = sepL ↔ ∃ r, l = 32 :: r ∧ r.take 2 = [60, 32] := by
  constructor
  · intro h
    match l, h with
    | [], h => simp at h
    | c :: r, h =>
      simp only [List.take_succ_cons, List.cons.injEq] at h
      exact ⟨r, by rw [h.1], h.2⟩
  · rintro ⟨r, rfl, h⟩
    simp [h]
section
variable {s : ByteArray}
/-- What stands at the end of the text. -/
theorem rp_end (h0 : s.size ≠ 0) (hb : s.size ≤ 4294967295) {k i at_ : Nat} {acc : List ByteArray} (hi : s.size < i + 3) (hin : i ≤ s.size) (ha : at_ ≤ s.size) (hac : acc.length ≤ at_) :
    errataref03_pieces.l0 (k + 1) s acc (at_ : Int) (i : Int) = some (acc ++ [s.extract at_ s.size]) := by
  have hw : wrap64 ((i : Int) + 3) = (i : Int) + 3 := by unfold wrap64; omega
  simp only [errataref03_pieces.l0]
  rw [hw, if_neg (by omega), if_neg (by
    rw [ByteArray.toList_eq]
    intro e
    exact h0 (by rw [bs_size, e]; rfl)), if_pos (by omega), if_pos (by omega), if_pos (by omega)]
  simp
theorem rp_l0 (h0 : s.size ≠ 0) (hb : s.size ≤ 4294967295) : ∀ (m k i at_ : Nat) (acc : List ByteArray), s.size ≤ i + m → m < k → i ≤ s.size → at_ ≤ s.size → acc.length ≤ at_ →
    (at_ ≤ i → ∃ out, errataref03_pieces.l0 k s acc (at_ : Int) (i : Int) = some out ∧ out.map (·.data.toList) = acc.map (·.data.toList) ++ scan ((s.data.toList.take i).drop at_) (s.data.toList.drop i)) ∧
    (i < at_ → at_ ≤ i + 2 → ∃ out, errataref03_pieces.l0 k s acc (at_ : Int) (i : Int) = some out ∧ out.map (·.data.toList) = acc.map (·.data.toList) ++ scan [] (s.data.toList.drop at_))
  | m, 0, i, at_, acc, hm, hk, hi, ha, hac => by omega
  | m, k + 1, i, at_, acc, hm, hk, hi, ha, hac => by
    have hL : s.data.toList.length = s.size := (bs_size s).symm
    by_cases hend : s.size < i + 3
    · have he := rp_end (k := k) (i := i) (at_ := at_) (acc := acc) h0 hb hend hi ha hac
      refine ⟨fun h => ⟨_, he, ?_⟩, fun h h2 => ⟨_, he, ?_⟩⟩
      · rw [scan_short _ _ (by rw [List.length_drop]; omega), List.map_append, List.map_cons, List.map_nil, Lib.extract_to_end]
        congr 2
        conv => lhs; rw [← List.take_append_drop i s.data.toList]
        rw [List.drop_append_of_le_length (by rw [List.length_take]; omega)]
      · rw [scan_short _ _ (by rw [List.length_drop]; omega), List.map_append, List.map_cons, List.map_nil, Lib.extract_to_end]
        simp
    · have hw : wrap64 ((i : Int) + 3) = ((i + 3 : Nat) : Int) := by unfold wrap64; omega
      have hw1 : wrap64 ((i : Int) + 1) = ((i + 1 : Nat) : Int) := wrap_succ i (by omega)
      have hil : i < s.data.toList.length := by omega
      have hex : (s.extract i (i + 3)).data.toList = (s.data.toList.drop i).take 3 := by rw [ext_data, show i + 3 - i = 3 by omega]
      obtain ⟨m, rfl⟩ : ∃ q, m = q + 1 := ⟨m - 1, by omega⟩
      have hgo : ∀ (Q : Option (List ByteArray)), errataref03_pieces.l0 (k + 1) s acc (at_ : Int) (i : Int) = Q ↔
          (if (s.data.toList.drop i).take 3 = sepL then (if at_ ≤ i then errataref03_pieces.l0 k s (acc ++ [s.extract at_ i]) ((i + 3 : Nat) : Int) ((i + 1 : Nat) : Int) else errataref03_pieces.l0 k s acc (at_ : Int) ((i + 1 : Nat) : Int)) else errataref03_pieces.l0 k s acc (at_ : Int) ((i + 1 : Nat) : Int)) = Q := fun Q => by
        simp only [errataref03_pieces.l0]
        rw [hw, hw1, if_pos (by omega), if_pos (by omega), if_pos (by omega), Int.toNat_natCast, Int.toNat_natCast, ByteArray.toList_eq, hex]
        by_cases h3 : (s.data.toList.drop i).take 3 = sepL
        · rw [if_pos h3, if_pos h3]
          by_cases h4 : at_ ≤ i
          · rw [if_pos (by omega), if_pos (by omega), if_pos (by omega), if_pos (by omega), if_pos (by omega), if_pos h4, Int.toNat_natCast]
          · rw [if_neg (by omega), if_neg h4]
        · rw [if_neg h3, if_neg h3]
      have hdr : s.data.toList.drop i = s.data.toList[i] :: s.data.toList.drop (i + 1) := List.drop_eq_getElem_cons hil
      refine ⟨fun h => ?_, fun h h2 => ?_⟩
      · by_cases h3 : (s.data.toList.drop i).take 3 = sepL
        · obtain ⟨out, ho, hm'⟩ := (rp_l0 h0 hb m k (i + 1) (i + 3) (acc ++ [s.extract at_ i]) (by omega) (by omega) (by omega) (by omega) (by simp; omega)).2 (by omega) (by omega)
          refine ⟨out, (hgo _).2 (by rw [if_pos h3, if_pos h]; exact ho), ?_⟩
          obtain ⟨r, hr, hr2⟩ := (take3 _).1 h3
          rw [hm', hr, scan_cons, if_pos ⟨rfl, hr2⟩, List.map_append, List.append_assoc]
          congr 1
          rw [List.map_cons, List.map_nil, ext_data, List.singleton_append]
          congr 1
          · rw [List.drop_take]
          · have : r = s.data.toList.drop (i + 1) := by
              rw [hdr] at hr
              injection hr with _ hr
              exact hr.symm
            rw [this, List.drop_drop]
        · obtain ⟨out, ho, hm'⟩ := (rp_l0 h0 hb m k (i + 1) at_ acc (by omega) (by omega) (by omega) ha hac).1 (by omega)
          refine ⟨out, (hgo _).2 (by rw [if_neg h3]; exact ho), ?_⟩
          rw [hm', hdr, scan_cons, if_neg (by
            rintro ⟨e1, e2⟩
            exact h3 ((take3 _).2 ⟨_, by rw [hdr, e1], e2⟩))]
          congr 2
          rw [List.take_succ_eq_append_getElem hil, List.drop_append_of_le_length (by rw [List.length_take]; omega)]
      · have hnx : ∃ out, errataref03_pieces.l0 k s acc (at_ : Int) ((i + 1 : Nat) : Int) = some out ∧ out.map (·.data.toList) = acc.map (·.data.toList) ++ scan [] (s.data.toList.drop at_) := by
          by_cases h5 : i + 1 < at_
          · exact (rp_l0 h0 hb m k (i + 1) at_ acc (by omega) (by omega) (by omega) ha hac).2 h5 (by omega)
          · have e5 : at_ = i + 1 := by omega
            obtain ⟨out, ho, hm'⟩ := (rp_l0 h0 hb m k (i + 1) at_ acc (by omega) (by omega) (by omega) ha hac).1 (by omega)
            refine ⟨out, ho, ?_⟩
            rw [hm', e5, List.drop_take, Nat.sub_self, List.take_zero]
        obtain ⟨out, ho, hm'⟩ := hnx
        refine ⟨out, (hgo _).2 ?_, hm'⟩
        split
        · rw [if_neg (by omega)]; exact ho
        · exact ho
/-- The reference's pieces. -/
def rpieces (s : ByteArray) : List ByteArray := if s.size = 0 then [] else pieces s
theorem rpieces_f (hb : s.size ≤ 4294967295) (k : Nat) (hk : s.size + 1 < k) : errataref03_pieces.f k s = some (rpieces s) := by
  unfold errataref03_pieces.f rpieces
  by_cases h0 : s.size = 0
  · obtain ⟨k, rfl⟩ : ∃ j, k = j + 1 := ⟨k - 1, by omega⟩
    rw [if_pos h0]
    simp only [errataref03_pieces.l0]
    have hw : wrap64 ((0 : Int) + 3) = 3 := by unfold wrap64; omega
    rw [hw, if_neg (by omega), if_pos (by
      rw [ByteArray.toList_eq]
      rw [bs_size] at h0
      exact List.eq_nil_of_length_eq_zero h0)]
  · rw [if_neg h0]
    obtain ⟨out, ho, hm⟩ := (rp_l0 (s := s) h0 hb s.size k 0 0 [] (by omega) (by omega) (by omega) (by omega) (by simp)).1 (by omega)
    have e : out = pieces s := by
      apply bs_inj
      rw [hm]
      show [] ++ scan ((s.data.toList.take 0).drop 0) (s.data.toList.drop 0) = _
      simp only [List.take_zero, List.drop_zero, List.drop_nil, List.nil_append]
      exact (split_scan _ s rfl).symm
    rw [← e]
    exact ho
end
/-! #### Places -/
/-- The place that a piece seems to be. -/
def plB (s : ByteArray) : Pl := (s.extract 0 (s.data.toList.idxOf 58), readL 0 ((s.data.toList.drop (s.data.toList.idxOf 58 + 1)).take 8))
theorem bt_get (s : ByteArray) (j : Nat) (hj : j < s.data.toList.length) : bt s (j : Int) = ((s.data.toList[j]).toNat : Int) := by
  have hj' : j < s.size := by rw [bs_size]; exact hj
  have h := bt_at s (j : Int) (by simpa using hj')
  simp only [Int.toNat_natCast] at h
  rw [← h]
  simp [ByteArray.getElem_eq_getElem_data]
theorem readL_snoc (l : List UInt8) (c : UInt8) : readL 0 (l ++ [c]) = 10 * readL 0 l + (c.toNat % 16 : Nat) := by rw [readL_append]; rfl
theorem wrap_dig (X : Int) (c : Nat) (h0 : 0 ≤ X) (h1 : X < 200000000) (hc : c < 16) : wrap64 (wrap64 (10 * X) + wrap64 (c : Int)) = 10 * X + c := by
  have e1 : wrap64 (10 * X) = 10 * X := by unfold wrap64; omega
  have e2 : wrap64 (c : Int) = c := by unfold wrap64; omega
  rw [e1, e2]
  unfold wrap64
  omega
theorem rpl_l1 (s : ByteArray) (hb : s.size ≤ 4294967295) (i : Nat) (nm : ByteArray) : ∀ (m k j : Nat), j + m = i + 9 → m < k → i + 1 ≤ j → i ≤ s.size →
    errataref03_place.l1 k s (i : Int) (j : Int) nm (readL 0 ((s.data.toList.drop (i + 1)).take (j - (i + 1)))) = some (nm, readL 0 ((s.data.toList.drop (i + 1)).take 8))
  | 0, k + 1, j, hj, _, hij, his => by
    have hL : s.data.toList.length = s.size := (bs_size s).symm
    have hw : wrap64 ((i : Int) + 9) = ((i + 9 : Nat) : Int) := by unfold wrap64; omega
    simp only [errataref03_place.l1]
    have ej : j - (i + 1) = 8 := by omega
    rw [hw, ej]
    split
    · rw [if_neg (by omega)]
    · rfl
  | m + 1, k + 1, j, hj, hk, hij, his => by
    have hL : s.data.toList.length = s.size := (bs_size s).symm
    have hw : wrap64 ((i : Int) + 9) = ((i + 9 : Nat) : Int) := by unfold wrap64; omega
    simp only [errataref03_place.l1]
    by_cases hjs : j < s.size
    · have ih := rpl_l1 s hb i nm m k (j + 1) (by omega) (by omega) (by omega) his
      have hjl : j < s.data.toList.length := by omega
      rw [if_pos (by omega), hw, if_pos (by omega), if_pos (by omega), wrap_succ j (by omega)]
      rw [show j + 1 - (i + 1) = (j - (i + 1)) + 1 by omega, List.take_succ_eq_append_getElem (by rw [List.length_drop]; omega), readL_snoc] at ih
      rw [List.getElem_drop] at ih
      have ei : i + 1 + (j - (i + 1)) = j := by omega
      simp only [ei] at ih
      have hbd := readL_small ((s.data.toList.drop (i + 1)).take (j - (i + 1))) (by rw [List.length_take]; omega)
      have hbt := bt_get s j hjl
      have ht : Int.tmod (bt s (j : Int)) 16 = (((s.data.toList[j]).toNat % 16 : Nat) : Int) := by rw [hbt]; exact (Int.ofNat_tmod _ _).symm
      have hc : (s.data.toList[j]).toNat % 16 < 16 := Nat.mod_lt _ (by decide)
      rw [ht]
      generalize readL 0 ((s.data.toList.drop (i + 1)).take (j - (i + 1))) = X at ih hbd ⊢
      rw [wrap_dig X _ hbd.1 hbd.2 hc]
      exact ih
    · rw [if_neg (by omega)]
      rw [List.take_of_length_le (by rw [List.length_drop]; omega), List.take_of_length_le (by rw [List.length_drop]; omega)]
theorem rpl_l0 (s : ByteArray) (hb : s.size ≤ 4294967295) : ∀ (m k i : Nat), i + m = s.data.toList.idxOf 58 → m + 12 < k → errataref03_place.l0 k s (i : Int) (⟨#[]⟩ : ByteArray) 0 = some (plB s)
  | 0, k + 2, i, hi, hk => by
    have hL : s.data.toList.length = s.size := (bs_size s).symm
    have hle : s.data.toList.idxOf 58 ≤ s.data.toList.length := List.idxOf_le_length
    have hj1 : errataref03_place.j1 (k + 1) s (i : Int) (⟨#[]⟩ : ByteArray) 0 = some (plB s) := by
      simp only [errataref03_place.j1]
      rw [if_pos (by omega), if_pos (by omega), wrap_succ i (by omega), Int.toNat_natCast]
      have := rpl_l1 s hb i (s.extract 0 i) 8 k (i + 1) (by omega) (by omega) (by omega) (by omega)
      rw [Nat.sub_self, List.take_zero] at this
      unfold plB
      rw [← hi]
      exact this
    rw [errataref03_place.l0.eq_def]
    simp only
    by_cases h : i < s.size
    · have hl : i < s.data.toList.length := by omega
      have hg : s.data.toList[i] = 58 := by
        have hx : s.data.toList.idxOf 58 < s.data.toList.length := by omega
        have := List.getElem_idxOf hx
        have e : s.data.toList.idxOf 58 = i := by omega
        simpa only [e] using this
      rw [if_pos (by omega), if_pos (by omega), bt_get s i hl, hg, if_pos (by rfl)]
      exact hj1
    · rw [if_neg (by omega)]
      exact hj1
  | m + 1, k + 1, i, hi, hk => by
    have hL : s.data.toList.length = s.size := (bs_size s).symm
    have hle : s.data.toList.idxOf 58 ≤ s.data.toList.length := List.idxOf_le_length
    have hl : i < s.data.toList.length := by omega
    have hne : ¬ s.data.toList[i] = 58 := by
      have := List.not_of_lt_findIdx (p := fun x => x == (58 : UInt8)) (xs := s.data.toList) (i := i) (by show i < s.data.toList.idxOf 58; omega)
      simpa using this
    rw [errataref03_place.l0.eq_def]
    simp only
    rw [if_pos (by omega), if_pos (by omega), bt_get s i hl, if_neg (by
      intro e
      apply hne
      apply UInt8.toNat_inj.1
      show (s.data.toList[i]).toNat = 58
      omega), wrap_succ i (by omega)]
    exact rpl_l0 s hb m k (i + 1) (by omega) (by omega)
  | 0, 0, i, hi, hk => by omega
  | 0, 1, i, hi, hk => by omega
theorem rplace_f (s : ByteArray) (hb : s.size ≤ 4294967295) (k : Nat) (hk : s.size + 12 < k) : errataref03_place.f k s = some (plB s) := by
  have hle : s.data.toList.idxOf 58 ≤ s.data.toList.length := List.idxOf_le_length
  have hL : s.data.toList.length = s.size := (bs_size s).symm
  exact rpl_l0 s hb (s.data.toList.idxOf 58) k 0 (by omega) (by omega)
/-! #### Parse -/
theorem rpieces_len (s : ByteArray) : (rpieces s).length ≤ s.size + 1 := by
  unfold rpieces
  split
  · simp
  · rw [pieces_len]
    have := Lib.countB_le ⟨#[32, 60, 32]⟩ (by decide) s.size s (Nat.le_refl _)
    omega
theorem rpieces_size (s : ByteArray) : ∀ x ∈ rpieces s, x.size ≤ s.size := fun x hx => by
  unfold rpieces at hx
  split at hx
  · simp at hx
  · obtain ⟨q, hq, rfl⟩ := List.mem_iff_getElem.1 hx
    exact pieces_size s q hq
def rstack (s : ByteArray) : List Pl := ((rpieces s).map plB).reverse
def rparseB (s : ByteArray) : List Pl × Int := if (textOf (rstack s)).2 = 0 then (if (textOf (rstack s)).1 = s then (rstack s, 0) else ([], 4)) else ([], 4)
theorem rparse_l0 (s : ByteArray) (hb : s.size ≤ 1048576) : ∀ (j k : Nat), j ≤ (rpieces s).length → j + s.size + (rpieces s).length + 160 ≤ k →
    errataref03_Parse.l0 k s (rpieces s) (((rpieces s).drop j).reverse.map fun x => rof (plB x)) ((j : Int) - 1) = some ((rparseB s).1.map rof, (rparseB s).2)
  | 0, k + 1, hj, hk => by
    have hst : (((rpieces s).drop 0).reverse.map fun x => rof (plB x)).map rpl = rstack s := by
      unfold rstack
      rw [List.drop_zero, List.map_map, ← List.map_reverse]
      rfl
    have hlen : (((rpieces s).drop 0).reverse.map fun x => rof (plB x)).length = (rpieces s).length := by simp
    have hpl := rpieces_len s
    simp only [errataref03_Parse.l0]
    rw [if_neg (by omega), rtext_f _ (by rw [hlen]; omega) k (by rw [hlen]; omega), hst, Option.bind_some]
    unfold rparseB
    by_cases h1 : (textOf (rstack s)).2 = 0
    · rw [if_pos h1, if_pos h1]
      by_cases h2 : (textOf (rstack s)).1 = s
      · rw [if_pos (by rw [h2]), if_pos h2]
        have e : ((rpieces s).drop 0).reverse.map (fun x => rof (plB x)) = (rstack s).map rof := by
          unfold rstack
          rw [List.drop_zero, ← List.map_reverse, List.map_map]
          rfl
        rw [e]
      · rw [if_neg (by
          rw [ByteArray.toList_eq, ByteArray.toList_eq]
          exact fun e => h2 (bs_ext e)), if_neg h2]
        rfl
    · rw [if_neg h1, if_neg h1]
      rfl
  | j + 1, k + 1, hj, hk => by
    have hjl : j < (rpieces s).length := by omega
    have hlen := rpieces_len s
    have ej : ((j + 1 : Nat) : Int) - 1 = (j : Int) := by omega
    have ew : wrap64 ((j : Int) - 1) = (j : Int) - 1 := by unfold wrap64; omega
    have hr : rdOf ByteArray.empty (rpieces s) (j : Int) = (rpieces s)[j] := by simp [rdOf, hjl]
    have hps : (rpieces s)[j].size ≤ s.size := rpieces_size s _ (List.getElem_mem hjl)
    have ih := rparse_l0 s hb j k (by omega) (by omega)
    rw [List.drop_eq_getElem_cons hjl, List.reverse_cons, List.map_append] at ih
    rw [ej]
    simp only [errataref03_Parse.l0]
    rw [if_pos (by omega), if_pos (by omega), if_pos (by omega), hr, rplace_f _ (by omega) k (by omega), Option.bind_some, if_pos (by simp; omega), ew]
    exact ih
theorem rparse_f (s : ByteArray) (hb : s.size ≤ 1048576) (k : Nat) (hk : 3 * s.size + 200 ≤ k) : errataref03_Parse.f k s = some ((rparseB s).1.map rof, (rparseB s).2) := by
  have hlen := rpieces_len s
  unfold errataref03_Parse.f
  rw [rpieces_f (by omega) k (by omega), Option.bind_some]
  have := rparse_l0 s hb (rpieces s).length k (Nat.le_refl _) (by omega)
  rw [List.drop_length] at this
  have ew : wrap64 (((rpieces s).length : Int) - 1) = ((rpieces s).length : Int) - 1 := by unfold wrap64; omega
  rw [ew]
  exact this
end Go.Proofs.YtmgfdcfbjgokgaaDoor
