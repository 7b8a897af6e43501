/- The reference's 'Parse' and the program's come to the same. -/
import Derived.Test.YtmgfdcfbjgokgaaDoorRq
namespace Go.Proofs.YtmgfdcfbjgokgaaDoor
open Go Go.RowKit Go.Proofs.YtmgfdcfbjgokgaaDoorW.PrintWords Go.Proofs.YtmgfdcfbjgokgaaDoorW.PrintLast Go.Proofs.YtmgfdcfbjgokgaaDoorW.PrintMore Go.Proofs.YtmgfdcfbjgokgaaDoor.PL
set_option linter.unusedVariables false
set_option linter.unusedSimpArgs false

theorem okB_ne {c : UInt8} (h : okByte c = true) : c ≠ 32 ∧ c ≠ 58 := by
  unfold okByte at h
  simp only [Bool.and_eq_true, decide_eq_true_eq] at h
  constructor
  · rintro rfl; exact absurd h.1.1 (by decide)
  · rintro rfl; exact absurd h.2 (by decide)
theorem may_free {p : Pl} (h : mayB p.1 p.2 = true) : (32 : UInt8) ∉ p.1.data.toList ∧ (58 : UInt8) ∉ p.1.data.toList := by
  have ho : okName p.1 = true := by
    unfold mayB at h
    simp only [Bool.and_eq_true] at h
    exact h.2
  unfold okName at ho
  rw [List.all_eq_true] at ho
  exact ⟨fun e => (okB_ne (ho _ e)).1 rfl, fun e => (okB_ne (ho _ e)).2 rfl⟩
theorem itoa_free (n : Int) (h0 : 0 ≤ n) : (32 : UInt8) ∉ Lib.itoa n := by
  obtain ⟨u, rfl⟩ : ∃ u : Nat, n = u := ⟨n.toNat, by omega⟩
  rw [itoa_nat]
  intro h
  have := dec_all u _ h
  exact absurd this.1 (by decide)
theorem ptxt_free {p : Pl} (h : mayB p.1 p.2 = true) : (32 : UInt8) ∉ (ptxt decB p).data.toList := by
  obtain ⟨_, _, h3, _⟩ := mayB_bd h
  rw [ptxt_data]
  intro hm
  rcases List.mem_append.1 hm with hm | hm
  · exact (may_free h).1 hm
  · rcases List.mem_cons.1 hm with hm | hm
    · cases hm
    · exact itoa_free _ h3 hm
/-- The texts of a stack are the pieces of its text. -/
theorem pieces_text (L : List Pl) (hne : L ≠ []) (hm : ∀ p ∈ L, mayB p.1 p.2 = true) : pieces (textB L) = L.reverse.map (ptxt decB) := by
  apply bs_inj
  have h1 : (pieces (textB L)).map (·.data.toList) = scan [] (textB L).data.toList := split_scan _ _ rfl
  rw [h1, textB_eq]
  show scan [] (Lib.join (txts L) sepL) = _
  rw [scan_of_join _ (by simpa [txts] using hne) (fun x hx => by
    obtain ⟨p, hp, rfl⟩ := List.mem_map.1 hx
    exact ptxt_free (hm p (by simpa using hp)))]
  unfold txts
  rw [List.map_map]
  rfl
theorem piece_text {p : Pl} (h : mayB p.1 p.2 = true) : pieceP (ptxt decB p) = some p := by
  obtain ⟨_, _, h3, h4⟩ := mayB_bd h
  have hc : Lib.cut (ptxt decB p).data.toList [58] = (p.1.data.toList, Lib.itoa p.2, true) := by
    rw [ptxt_data]
    exact cut_colon _ _ (may_free h).2
  unfold pieceP
  rw [hc]
  simp only
  rw [atoi_itoa _ h3 (by omega)]
  simp
theorem pl_text {p : Pl} (h : mayB p.1 p.2 = true) : plB (ptxt decB p) = p := by
  obtain ⟨_, _, h3, h4⟩ := mayB_bd h
  have hi : (ptxt decB p).data.toList.idxOf 58 = p.1.data.toList.length := by
    rw [ptxt_data, List.idxOf_append, if_neg (may_free h).2, List.idxOf_cons_self]
    omega
  unfold plB
  rw [hi]
  refine Prod.ext ?_ ?_
  · apply bs_ext
    rw [ext_data, ptxt_data]
    simp
  · show readL 0 (((ptxt decB p).data.toList.drop (p.1.data.toList.length + 1)).take 8) = p.2
    rw [ptxt_data, List.drop_append, List.drop_eq_nil_of_le (by omega), show p.1.data.toList.length + 1 - p.1.data.toList.length = 1 by omega]
    simp only [List.nil_append, List.drop_succ_cons, List.drop_zero]
    obtain ⟨u, hu⟩ : ∃ u : Nat, p.2 = u := ⟨p.2.toNat, by omega⟩
    rw [hu, itoa_nat]
    have hl := dec_len u 6 (by simp only [Nat.reduceAdd, Nat.reducePow]; omega)
    rw [List.take_of_length_le (by omega), readL_dec]
theorem piece_some {x : ByteArray} {p : Pl} (h : pieceP x = some p) : x = ptxt decB p := by
  unfold pieceP at h
  split at h
  · rename_i v hv
    split at h
    · rename_i hi
      injection h with h
      subst h
      have hne : (Lib.cut x.data.toList [58]).2.1 ≠ [] := by
        intro e
        rw [e] at hv
        cases hv
      apply bs_ext
      rw [ptxt_data]
      show _ = (Lib.cut x.data.toList [58]).1 ++ 58 :: Lib.itoa v
      rw [hi]
      exact (cut_some hne).1
    · cases h
  · cases h
theorem parseL_map : ∀ (xs : List ByteArray) (l : List Pl), parseL xs = some l → xs = l.map (ptxt decB)
  | [], l, h => by
    unfold parseL at h
    cases h
    rfl
  | x :: xs, l, h => by
    unfold parseL at h
    split at h
    · cases h
    · rename_i p hp
      cases hr : parseL xs with
      | none => rw [hr] at h; cases h
      | some r =>
        rw [hr] at h
        cases h
        rw [List.map_cons, ← parseL_map xs r hr, ← piece_some hp]
theorem parseL_texts : ∀ (l : List Pl), (∀ p ∈ l, mayB p.1 p.2 = true) → parseL (l.map (ptxt decB)) = some l
  | [], _ => rfl
  | p :: l, h => by
    rw [List.map_cons]
    unfold parseL
    rw [piece_text (h p (by simp)), parseL_texts l (fun q hq => h q (by simp [hq]))]
    rfl
theorem pls_texts : ∀ (l : List Pl), (∀ p ∈ l, mayB p.1 p.2 = true) → (l.map (ptxt decB)).map plB = l
  | [], _ => rfl
  | p :: l, h => by
    rw [List.map_cons, List.map_cons, pl_text (h p (by simp)), pls_texts l (fun q hq => h q (by simp [hq]))]
theorem checkN_rev (l : List Pl) : checkN l.reverse = checkN l := by
  unfold checkN
  rw [List.all_reverse, List.length_reverse]
theorem pieces_ne (s : ByteArray) : pieces s ≠ [] := by
  intro e
  have := pieces_len s
  rw [e] at this
  simp at this
/-- The text of the pieces is the text. -/
theorem text_pieces (s : ByteArray) (l : List Pl) (h : pieces s = l.map (ptxt decB)) : textB l.reverse = s := by
  apply bs_ext
  rw [textB_eq]
  show Lib.join (txts l.reverse) sepL = _
  have e : txts l.reverse = (pieces s).map (·.data.toList) := by
    unfold txts
    rw [List.reverse_reverse, h, List.map_map]
    rfl
  rw [e]
  have h1 : (pieces s).map (·.data.toList) = scan [] s.data.toList := split_scan _ _ rfl
  rw [h1, scan_join _ _ _ (Nat.le_refl _)]
  rfl
theorem parse_same (s : ByteArray) : rparseB s = parseB s := by
  unfold rparseB parseB rstack rpieces
  by_cases h0 : s.size = 0
  · have hs : s = ⟨#[]⟩ := bs_ext (by rw [bs_size] at h0; rw [List.eq_nil_of_length_eq_zero h0])
    subst hs
    rw [if_pos h0, if_pos h0]
    rfl
  · rw [if_neg h0, if_neg h0]
    cases hp : parseL (pieces s) with
    | some l =>
      have hx := parseL_map _ _ hp
      simp only
      by_cases hc : checkN l = 0
      · have hm := (checkN_zero hc).2
        have hl : ((pieces s).map plB).reverse = l.reverse := by rw [hx, pls_texts l hm]
        have ht : textOf l.reverse = (textB l.reverse, 0) := by unfold textOf; rw [if_pos (by rw [checkN_rev]; exact hc)]
        rw [hl, if_pos hc, ht, if_pos rfl, if_pos (text_pieces s l hx)]
      · rw [if_neg hc]
        by_cases h2 : (textOf ((pieces s).map plB).reverse).2 = 0
        · rw [if_pos h2]
          by_cases h3 : (textOf ((pieces s).map plB).reverse).1 = s
          · exfalso
            have hck : checkN ((pieces s).map plB).reverse = 0 := by
              unfold textOf at h2
              split at h2
              · assumption
              · exact h2
            have hmm := (checkN_zero hck).2
            have htx : textB ((pieces s).map plB).reverse = s := by
              unfold textOf at h3
              rw [if_pos hck] at h3
              exact h3
            have hps := pieces_text _ (by simpa using pieces_ne s) hmm
            rw [htx, List.reverse_reverse] at hps
            have := parseL_texts ((pieces s).map plB) (fun p hp => hmm p (by simpa using hp))
            rw [← hps, hp] at this
            injection this with this
            rw [checkN_rev] at hck
            rw [this] at hc
            exact hc hck
          · rw [if_neg h3]
        · rw [if_neg h2]
    | none =>
      simp only
      by_cases h2 : (textOf ((pieces s).map plB).reverse).2 = 0
      · rw [if_pos h2]
        by_cases h3 : (textOf ((pieces s).map plB).reverse).1 = s
        · exfalso
          have hck : checkN ((pieces s).map plB).reverse = 0 := by
            unfold textOf at h2
            split at h2
            · assumption
            · exact h2
          have hmm := (checkN_zero hck).2
          have htx : textB ((pieces s).map plB).reverse = s := by
            unfold textOf at h3
            rw [if_pos hck] at h3
            exact h3
          have hps := pieces_text _ (by simpa using pieces_ne s) hmm
          rw [htx, List.reverse_reverse] at hps
          have := parseL_texts ((pieces s).map plB) (fun p hp => hmm p (by simpa using hp))
          rw [← hps, hp] at this
          cases this
        · rw [if_neg h3]
      · rw [if_neg h2]
end Go.Proofs.YtmgfdcfbjgokgaaDoor
