/- The tree of stacks, VIII: what 'number' and 'text' take, in plain words. The tree of stacks, V: 'Add'. The tree of stacks, IX: 'From'. -/
import Derived.Test.YtmgfdcfbjgokgaaDoorPLx16
import Derived.Laws.BitsLemmas
import Derived.Test.YtmgfdcfbjgokgaaDoorTrePush
namespace Go.Proofs.YtmgfdcfbjgokgaaDoor
open Go Go.RowKit Go.Proofs.YtmgfdcfbjgokgaaDoorW.PrintWords Go.Proofs.YtmgfdcfbjgokgaaDoorW.PrintLast Go.Proofs.YtmgfdcfbjgokgaaDoor.PL
set_option linter.unusedVariables false
set_option linter.unusedSimpArgs false

def bN (s : ByteArray) (i : Nat) : Nat := (bt s (i : Int)).toNat
theorem bN_eq (s : ByteArray) (i : Nat) : bt s (i : Int) = (bN s i : Nat) := by have := bt_range s i; unfold bN; omega
theorem bN_lt (s : ByteArray) (i : Nat) : bN s i < 256 := by have := bt_range s i; unfold bN; omega
/-- Value and last byte's place of the short number that stands at the front, from byte i on. -/
def numG (s : ByteArray) : Nat → Nat → Nat → Option (Nat × Nat)
  | 0, _, _ => none
  | f + 1, i, acc => if i < s.size then (if bN s i < 128 then some (acc + bN s i % 128 * 128 ^ i, i) else numG s f (i + 1) (acc + bN s i % 128 * 128 ^ i)) else none
def numP (s : ByteArray) (bad : Bool) (most : Nat) : Nat × ByteArray × Bool :=
  match numG s 4 0 0 with
  | none => (0, s, true)
  | some (n, j) => (n, s.extract (j + 1) s.size, bad || decide (most < n) || (decide (0 < j) && decide (bN s j = 0)))
def textP (s : ByteArray) (bad : Bool) (n : Nat) : ByteArray × ByteArray × Bool := if bad then (⟨#[]⟩, s, true) else if s.size < n then (⟨#[]⟩, s, true) else (s.extract 0 n, s.extract n s.size, bad)
theorem bits_or_comm (k : IntKind) (x y : Int) : bits .or k x y = bits .or k y x := by unfold bits; simp only; rw [BitVec.or_comm]
theorem wraps_i64 (n : Int) (h0 : 0 ≤ n) (h1 : n < 2 ^ 63) : IntKind.i64.wrap n = n := by rw [IntKind.wrap_i64]; omega
theorem or_step (acc b i : Nat) (hb : b < 256) (hi : i < 4) (ha : acc < 128 ^ i) : bits .or .i64 (acc : Int) (shl .i64 (wrap64 (bits .and .u8 (b : Int) 127)) (wrap64 (7 * (i : Int)))) = ((acc + b % 128 * 128 ^ i : Nat) : Int) := by
  have h1 : bits .and .u8 (b : Int) 127 = ((b % 128 : Nat) : Int) := by
    have := bits_mask .u8 8 (by decide) wraps_u8 7 (by decide) (b : Int) (by omega) (by omega)
    rw [show (2 : Int) ^ 7 - 1 = 127 by decide, show (2 : Int) ^ 7 = 128 by decide] at this
    rw [this]
    omega
  have h2 : wrap64 ((b % 128 : Nat) : Int) = ((b % 128 : Nat) : Int) := by unfold wrap64; omega
  have hm : b % 128 < 128 := Nat.mod_lt _ (by decide)
  rw [h1, h2, bits_or_comm]
  generalize b % 128 = c at hm
  have key : ∀ (j : Nat), (wrap64 (7 * (i : Int))).toNat = j → j < 28 → 128 ^ i = 2 ^ j → bits .or .i64 (shl .i64 ((c : Nat) : Int) (wrap64 (7 * (i : Int)))) (acc : Int) = ((acc + c * 128 ^ i : Nat) : Int) := by
    intro j hj hj2 hp
    unfold shl
    rw [hj, Nat.min_eq_left (by show j ≤ 64; omega)]
    have hpow : (2 : Int) ^ j = ((2 ^ j : Nat) : Int) := by simp
    have hle : 2 ^ j ≤ 2 ^ 27 := Nat.pow_le_pow_right (by decide) (by omega)
    have hc1 : c * 2 ^ j ≤ 127 * 2 ^ 27 := Nat.mul_le_mul (by omega) hle
    have hbig : (127 : Nat) * 2 ^ 27 < 2 ^ 62 := by decide
    rw [hpow, ← Int.natCast_mul, wraps_i64 _ (by omega) (by omega)]
    rw [hp] at ha ⊢
    have hb := bits_join .i64 63 (by decide) wraps_i64 j ((c * 2 ^ j : Nat) : Int) (acc : Int) (by omega) (by rw [hpow, ← Int.natCast_emod, Nat.mul_mod_left]; rfl) (by omega) (by omega) (by rw [hpow]; omega) (by omega)
    rw [hb]
    omega
  have hw : wrap64 (7 * (i : Int)) = 7 * (i : Int) := by unfold wrap64; omega
  refine key (7 * i) (by rw [hw]; omega) (by omega) ?_
  rw [show 128 = 2 ^ 7 by decide, ← Nat.pow_mul]
theorem num_l0 (s : ByteArray) (bad : Bool) (most : Nat) (hs : s.size ≤ 9223372036854775807) : ∀ (f i acc k : Nat), i + f = 4 → acc < 128 ^ i → 2 * f + 2 ≤ k →
    place_reader_number.l0 k (most : Int) (acc : Int) (i : Int) s bad = some (match numG s f i acc with | none => (0, s, true) | some (n, j) => ((n : Int), s.extract (j + 1) s.size, bad || decide (most < n) || (decide (0 < j) && decide (bN s j = 0))))
  | 0, i, acc, k + 2, hi, ha, hk => by
    have h4 : i = 4 := by omega
    subst h4
    have h2 : decide (((4 : Nat) : Int) < 4) = false := by decide
    simp only [place_reader_number.l0, place_reader_number.j1, numG, h2, Bool.false_eq_true, if_false]
    exact ite_self _
  | f + 1, i, acc, k + 2, hi, ha, hk => by
    have g2 : decide ((i : Int) < 4) = true := by simp; omega
    have g3 : (0 : Int) ≤ (i : Int) := by omega
    simp only [place_reader_number.l0, place_reader_number.j1, numG]
    by_cases hlt : i < s.size
    · have g1 : (i : Int) < (s.size : Int) := by omega
      have hw : wrap64 (7 * (i : Int)) = 7 * (i : Int) := by unfold wrap64; omega
      have g4 : 0 ≤ wrap64 (7 * (i : Int)) := by rw [hw]; omega
      have hw1 : wrap64 ((i : Int) + 1) = ((i + 1 : Nat) : Int) := by unfold wrap64; omega
      have hst := or_step acc (bN s i) i (bN_lt s i) (by omega) ha
      obtain ⟨V, hV⟩ : ∃ V, V = acc + bN s i % 128 * 128 ^ i := ⟨_, rfl⟩
      rw [← hV] at hst ⊢
      have hj : (0 : Int) ≤ ((i + 1 : Nat) : Int) := by omega
      have hj2 : ((i + 1 : Nat) : Int) ≤ (s.size : Int) := by omega
      simp only [g1, g2, g3, g4, if_true, bN_eq, hst, hw1, hlt, hj, hj2, Int.toNat_natCast]
      by_cases hb : bN s i < 128
      · rw [if_pos (by omega), if_pos hb]
        simp only
        cases bad with
        | true => simp only [Bool.true_or, if_true]
        | false =>
          simp only [Bool.false_eq_true, if_false, Bool.false_or]
          by_cases hm : most < V
          · rw [if_pos (show (V : Int) > (most : Int) by omega), decide_eq_true hm, Bool.true_or]
          · rw [if_neg (show ¬ (V : Int) > (most : Int) by omega), decide_eq_false hm, Bool.false_or]
            by_cases h0 : 0 < i
            · rw [if_pos (show (i : Int) > 0 by omega), decide_eq_true h0, Bool.true_and]
              congr 3
              rw [Bool.eq_iff_iff, beq_iff_eq, decide_eq_true_eq]
              omega
            · rw [if_neg (show ¬ (i : Int) > 0 by omega), decide_eq_false h0, Bool.false_and]
      · rw [if_neg (by omega), if_neg hb]
        have hlt2 : V < 128 ^ (i + 1) := by
          have h1 : bN s i % 128 ≤ 127 := by omega
          have h2 := Nat.mul_le_mul_right (128 ^ i) h1
          rw [Nat.pow_succ]
          omega
        exact num_l0 s bad most hs f (i + 1) V k (by omega) hlt2 (by omega)
    · have g1 : ¬ (i : Int) < (s.size : Int) := by omega
      simp only [g1, if_false, hlt, Bool.false_eq_true]
theorem num_f (s : ByteArray) (bad : Bool) (most : Nat) (hs : s.size ≤ 9223372036854775807) : place_reader_number.f 10 s bad (most : Int) = some (((numP s bad most).1 : Int), (numP s bad most).2.1, (numP s bad most).2.2) := by
  have := num_l0 s bad most hs 4 0 0 10 rfl (by decide) (by decide)
  unfold place_reader_number.f numP
  refine this.trans ?_
  cases numG s 4 0 0 with
  | none => rfl
  | some r => rfl
theorem text_f (s : ByteArray) (bad : Bool) (n : Nat) : place_reader_text.f s bad (n : Int) = some ((textP s bad n).1, (textP s bad n).2.1, (textP s bad n).2.2) := by
  unfold place_reader_text.f textP
  cases bad with
  | true => simp
  | false =>
    simp only [Bool.false_eq_true, if_false]
    by_cases h : s.size < n
    · rw [if_pos (by omega), if_pos h]
    · rw [if_neg (by omega), if_neg h, if_pos (by omega), if_pos (by omega)]
      simp
theorem numG_lt (s : ByteArray) : ∀ (f i acc : Nat) (n j : Nat), i + f = 4 → acc < 128 ^ i → numG s f i acc = some (n, j) → n < 268435456 ∧ j < s.size
  | 0, i, acc, n, j, _, _, h => by simp [numG] at h
  | f + 1, i, acc, n, j, hi, ha, h => by
    have hlt2 : acc + bN s i % 128 * 128 ^ i < 128 ^ (i + 1) := by
      have h1 : bN s i % 128 ≤ 127 := by omega
      have h2 := Nat.mul_le_mul_right (128 ^ i) h1
      rw [Nat.pow_succ]
      omega
    unfold numG at h
    split at h
    · rename_i hs
      split at h
      · simp only [Option.some.injEq, Prod.mk.injEq] at h
        obtain ⟨h1, h2⟩ := h
        have : 128 ^ (i + 1) ≤ 128 ^ 4 := Nat.pow_le_pow_right (by decide) (by omega)
        have h128 : 128 ^ 4 = 268435456 := by decide
        omega
      · exact numG_lt s f (i + 1) _ n j (by omega) hlt2 h
    · cases h
theorem numP_lt (s : ByteArray) (bad : Bool) (most : Nat) : (numP s bad most).1 < 268435456 ∧ (numP s bad most).2.1.size ≤ s.size := by
  unfold numP
  cases h : numG s 4 0 0 with
  | none => exact ⟨by show 0 < 268435456; omega, Nat.le_refl _⟩
  | some r =>
    have := numG_lt s 4 0 0 r.1 r.2 rfl (by decide) h
    exact ⟨this.1, by show (s.extract (r.2 + 1) s.size).size ≤ _; rw [ByteArray.size_extract]; omega⟩
theorem textP_le (s : ByteArray) (bad : Bool) (n : Nat) : (textP s bad n).1.size ≤ s.size ∧ (textP s bad n).2.1.size ≤ s.size := by
  have h0 : (⟨#[]⟩ : ByteArray).size = 0 := rfl
  unfold textP
  split
  · exact ⟨by show (⟨#[]⟩ : ByteArray).size ≤ _; omega, Nat.le_refl _⟩
  split
  · exact ⟨by show (⟨#[]⟩ : ByteArray).size ≤ _; omega, Nat.le_refl _⟩
  · exact ⟨by show (s.extract 0 n).size ≤ _; rw [ByteArray.size_extract]; omega, by show (s.extract n s.size).size ≤ _; rw [ByteArray.size_extract]; omega⟩
end Go.Proofs.YtmgfdcfbjgokgaaDoor
namespace Go.Proofs.YtmgfdcfbjgokgaaDoor
open Go Go.RowKit Go.Maps Go.Proofs.YtmgfdcfbjgokgaaDoorW.PrintWords Go.Proofs.YtmgfdcfbjgokgaaDoorW.PrintLast Go.Proofs.YtmgfdcfbjgokgaaDoor.PL
set_option linter.unusedVariables false
set_option linter.unusedSimpArgs false

def addGo : List Pl → Int → Tr → (Int × Int) × Tr
  | [], a, T => ((a, 0), T)
  | p :: l, a, T => if (pushT T a p).1.2 ≠ 0 then ((0, (pushT T a p).1.2), (pushT T a p).2) else addGo l (pushT T a p).1.1 (pushT T a p).2
def addT (T : Tr) (l : List Pl) : (Int × Int) × Tr := if checkN l ≠ 0 then ((0, checkN l), T) else addGo l 0 T
/-- Blocks beside the tree's stay, and are not the tree's. -/
def KeepT (W w2 : World) (g gn gd mb gn2 gd2 : Nat) : Prop := ∀ k, k < W.heap.size → k ≠ g → k ≠ gn → k ≠ gd → k ≠ mb → (k ≠ gn2 ∧ k ≠ gd2) ∧ w2.heap[k]? = W.heap[k]?
theorem KeepT.trans {W w1 w2 : World} {g gn gd mb gn1 gd1 gn2 gd2 : Nat} (h1 : KeepT W w1 g gn gd mb gn1 gd1) (h2 : KeepT w1 w2 g gn1 gd1 mb gn2 gd2) (hz : W.heap.size ≤ w1.heap.size) : KeepT W w2 g gn gd mb gn2 gd2 := fun k hk a b c d => by
  obtain ⟨⟨e1, e2⟩, e3⟩ := h1 k hk a b c d
  obtain ⟨e4, e5⟩ := h2 k (by omega) a e1 e2 d
  exact ⟨e4, e5.trans e3⟩
theorem KeepT.below {W w1 : World} (g gn gd mb : Nat) (h : Below W.heap.size W w1) : KeepT W w1 g gn gd mb gn gd := fun k hk _ b c _ => ⟨⟨b, c⟩, h.block k hk⟩
section
variable {H : Type} {W : World} {base g gn gd mb cn cd : Nat} {D : DataW H} {T : Tr}
set_option maxRecDepth 100000 in
set_option maxHeartbeats 3200000 in
theorem Add_any (h : TreeW W base g gn gd mb cn cd D T) (A : Option Addr) (c : Nat) (l : List S60) (hC : Kd.C k60 W A l.length l) (hc : l.length ≤ c) (hs : ∀ x ∈ l, x.f0.size ≤ 9223372036854775807) (hl : l.length ≤ 9223372036854775806)
    (hA : ∀ ad, A = some ad → ad.block ≠ g ∧ ad.block ≠ gn ∧ ad.block ≠ gd ∧ ad.block ≠ mb) (hbase : base ≤ W.heap.size) :
    Calls Tryd.prog 40 #[.pointer (some ⟨g, 0, none⟩), .slice A l.length c] W fun e w2 => ∃ gn2 gd2 cn2 cd2, ∃ D2 : DataW H, e = .returned (.tuple #[.int .i64 (addT T (l.map toPl)).1.1, .int .i64 (addT T (l.map toPl)).1.2]) ∧
      TreeW w2 base g gn2 gd2 mb cn2 cd2 D2 (addT T (l.map toPl)).2 ∧ Below base W w2 ∧ KeepT W w2 g gn gd mb gn2 gd2 := by
  have hchk := Check_any A c l W hC hc hs hl
  have HCHK := Lib.hid hchk
  have H0 := Lib.hid h
  have HC := Lib.hid hC
  have HA := Lib.hid hA
  have HS := Lib.hid hs
  obtain ⟨N, hN⟩ : ∃ N, N = l.length := ⟨_, rfl⟩
  have HNN := Lib.hid hN
  obtain ⟨E, hE⟩ : ∃ E, E = checkN (l.map toPl) := ⟨_, rfl⟩
  have hN63 : N ≤ 9223372036854775806 := by omega
  rw [← hE, ← hN] at HCHK
  rw [← hN] at HC ⊢
  by_cases hE0 : E = 0
  · have d0 : (E != 0) = false := by simp [hE0]
    obtain ⟨R, hR⟩ : ∃ R, R = addT T (l.map toPl) := ⟨_, rfl⟩
    have HR0 := Lib.hid (show addGo (l.map toPl) 0 T = R by rw [hR]; unfold addT; rw [← hE, if_neg (by simp [hE0])])
    rw [← hR]
    clear hR h hC hA hs hN hchk hE hE0 hc hl
    go_enter Tryd.func40, Tryd.ntmps40
    go_wp2_with (go_at_call 14; (with_reducible refine HCHK.out.mono ?_); rintro e w1 ⟨rfl, hb1⟩; have HB1 := Lib.hid hb1; clear hb1)
    go_loopg [7, 21] N (fun q s7 s21 wx => ∃ (k : Nat) (a : Int) (Tk : Tr) (gn1 gd1 cn1 cd1 : Nat) (D1 : DataW H), k + q = N ∧ s7 = .int .i64 a ∧ s21 = .int .i64 k ∧ Hid (TreeW wx base g gn1 gd1 mb cn1 cd1 D1 Tk) ∧ Hid (addGo ((l.map toPl).drop k) a Tk = R) ∧ Hid (Below base W wx) ∧ Hid (W.heap.size ≤ wx.heap.size) ∧ Hid (KeepT W wx g gn gd mb gn1 gd1))
    case atStart => exact ⟨0, 0, T, gn, gd, cn, cd, D, by omega, rfl, rfl, Lib.hid (H0.out.below HB1.out), HR0, Lib.hid (HB1.out.mono hbase), Lib.hid HB1.out.size, Lib.hid (KeepT.below _ _ _ _ HB1.out)⟩
    case round =>
      obtain ⟨k, a, Tk, gn1, gd1, cn1, cd1, D1, hkq, rfl, rfl, HT, HG, HBW, HSZ, HK⟩ := hrel
      by_cases hlt : k < N
      · have d1 : decide ((k : Int) < (N : Int)) = true := by simp; omega
        have hkl : k < l.length := by have := HNN.out; omega
        obtain ⟨ad, hAd, hx0, hx1⟩ := at_T60 HC.out (k : Int) (by omega) (by omega)
        have hne := HA.out ad hAd
        subst hAd
        rw [Int.toNat_natCast] at hx0 hx1
        obtain ⟨x, hx⟩ : ∃ x, x = rd_T60 l (k : Int) := ⟨_, rfl⟩
        rw [← hx] at hx0 hx1
        have hxl : x = l[k] := by rw [hx]; unfold rd_T60; rw [Int.toNat_natCast, List.getD_eq_getElem?_getD, List.getElem?_eq_getElem hkl]; rfl
        have hblk : (ad.add (k * 2)).block = ad.block := by unfold Addr.add; split <;> rfl
        have hkb : wr.heap[ad.block]? = W.heap[ad.block]? := (HK.out ad.block (by have := World.block_lt_of_cell? W _ hx0; rw [hblk] at this; exact this) hne.1 hne.2.1 hne.2.2.1 hne.2.2.2).2
        have hy0 : wr.cell? (ad.add (k * 2)) = some (.string x.f0) := (World.cell?_of_block (by rw [hblk]; exact hkb)).trans hx0
        have hy1 : wr.cell? ⟨(ad.add (k * 2)).block, (ad.add (k * 2)).off + 1, none⟩ = some (.int .i64 x.f1) := (World.cell?_of_block (by show wr.heap[(ad.add (k * 2)).block]? = _; rw [hblk]; exact hkb)).trans hx1
        have HX := Lib.hid hxl
        have HXS := Lib.hid (HS.out x (by rw [hxl]; exact List.getElem_mem hkl))
        clear hx0 hx1 hx hxl hne hkb hblk
        have HG2 := Lib.hid (show (if (pushT Tk a (toPl x)).1.2 ≠ 0 then ((0, (pushT Tk a (toPl x)).1.2), (pushT Tk a (toPl x)).2) else addGo ((l.map toPl).drop (k + 1)) (pushT Tk a (toPl x)).1.1 (pushT Tk a (toPl x)).2) = R by
          have := HG.out
          rw [List.drop_eq_getElem_cons (by rw [List.length_map]; exact hkl), List.getElem_map, ← HX.out] at this
          exact this)
        clear HG
        go_wp2_with (go_at_call 64; (with_reducible refine (Push_any (p := (x.f0, x.f1)) (HT.out.alloc _) a HXS.out (by have := HBW.out.size; have := HSZ.out; simp; omega)).mono ?_); rintro e w2 ⟨gn2, gd2, cn2, cd2, D2, rfl, hT2, hb2, hk2⟩; have HT2 := Lib.hid hT2; have HB2 := Lib.hid hb2; have HK2 := Lib.hid hk2; clear hT2 hb2 hk2)
        · have h0 : (pushT Tk a (toPl x)).1.2 ≠ 0 := by
            have h_ : ((pushT Tk a (x.f0, x.f1)).1.2 != 0) = true := by assumption
            have h2_ : (pushT Tk a (x.f0, x.f1)).1.2 ≠ 0 := by simpa using h_
            exact h2_
          have hg := HG2.out
          rw [if_pos h0] at hg
          subst hg
          have hz := HSZ.out
          go_ret2
          exact ⟨gn2, gd2, cn2, cd2, D2, rfl, HT2.out, ((HBW.out).alloc (by have := HBW.out.size; omega) _).trans HB2.out, KeepT.trans (HK.out.trans (KeepT.below g gn1 gd1 mb ((Below.refl _ wr).alloc (Nat.le_refl _) _)) HSZ.out) HK2.out (by simp; omega)⟩
        · have h0 : (pushT Tk a (toPl x)).1.2 = 0 := by
            have h_ : ((pushT Tk a (x.f0, x.f1)).1.2 != 0) = false := by assumption
            have h2_ : (pushT Tk a (x.f0, x.f1)).1.2 = 0 := by simpa using h_
            exact h2_
          have hg := HG2.out
          rw [if_neg (by simp [h0])] at hg
          have hz := HSZ.out
          have hz2 := HB2.out.size
          simp only [World.size_alloc] at hz2
          obtain ⟨q, rfl⟩ : ∃ q, gk = q + 1 := ⟨gk - 1, by omega⟩
          go_roundg q
          case measure => omega
          case rel => exact ⟨k + 1, _, _, gn2, gd2, cn2, cd2, D2, by omega, rfl, by first | rfl | go_num, HT2, Lib.hid hg, Lib.hid (((HBW.out).alloc (by have := HBW.out.size; omega) _).trans HB2.out), Lib.hid (by omega), Lib.hid ((KeepT.trans (HK.out.trans (KeepT.below g gn1 gd1 mb ((Below.refl _ wr).alloc (Nat.le_refl _) _)) HSZ.out) HK2.out (by simp; omega)))⟩
      · obtain rfl : k = N := by omega
        have d1 : decide ((k : Int) < (k : Int)) = false := by simp
        have hg := HG.out
        rw [List.drop_eq_nil_of_le (by rw [List.length_map, ← HNN.out]; exact Nat.le_refl _)] at hg
        subst hg
        clear HR0 HG HCHK
        go_wp2
        go_ret2
        exact ⟨gn1, gd1, cn1, cd1, D1, rfl, HT.out, HBW.out, HK.out⟩
  · have d0 : (E != 0) = true := by simpa using hE0
    have hA2 : addT T (l.map toPl) = ((0, E), T) := by unfold addT; rw [← hE, if_pos hE0]
    rw [hA2]
    clear h hC hA hs hN hchk hE hE0 hc hl hA2
    go_enter Tryd.func40, Tryd.ntmps40
    go_wp2_with (go_at_call 14; (with_reducible refine HCHK.out.mono ?_); rintro e w1 ⟨rfl, hb1⟩; have HB1 := Lib.hid hb1; clear hb1)
    go_ret2
    exact ⟨gn, gd, cn, cd, D, rfl, H0.out.below HB1.out, HB1.out.mono hbase, KeepT.below _ _ _ _ HB1.out⟩
end
end Go.Proofs.YtmgfdcfbjgokgaaDoor
namespace Go.Proofs.YtmgfdcfbjgokgaaDoor
open Go Go.RowKit Go.Maps Go.Proofs.YtmgfdcfbjgokgaaDoorW.PrintWords Go.Proofs.YtmgfdcfbjgokgaaDoorW.PrintLast Go.Proofs.YtmgfdcfbjgokgaaDoor.PL
set_option linter.unusedVariables false
set_option linter.unusedSimpArgs false

/-- One node taken. -/
structure Got where
  up : Int
  nm : ByteArray
  ln : Nat
  rest : ByteArray
  bad : Bool
def gotP (i : Nat) (s : ByteArray) (bad : Bool) : Got :=
  let a := numP s bad (i + 1)
  let b := numP a.2.1 a.2.2 120
  let c := textP b.2.1 b.2.2 b.1
  let d := numP c.2.1 c.2.2 1048576
  ⟨(i : Int) + 1 - a.1, c.1, d.1, d.2.1, d.2.2⟩
def fromGo : Nat → Nat → Tr → ByteArray → Bool → Option Tr
  | 0, _, T, s, bad => if bad || decide (s.size ≠ 0) then none else some T
  | f + 1, i, T, s, bad =>
    if (gotP i s bad).bad then none
    else if (pushT T (gotP i s bad).up ((gotP i s bad).nm, ((gotP i s bad).ln : Int))).1 ≠ ((i : Int) + 1, 0) then none
    else fromGo f (i + 1) (pushT T (gotP i s bad).up ((gotP i s bad).nm, ((gotP i s bad).ln : Int))).2 (gotP i s bad).rest (gotP i s bad).bad
def fromT (s : ByteArray) : Option Tr := fromGo (numP s false 4095).1 0 newT (numP s false 4095).2.1 (numP s false 4095).2.2
theorem TreeW.move {H : Type} {W W2 : World} {base g gn gd mb cn cd : Nat} {D : DataW H} {T : Tr} (h : TreeW W base g gn gd mb cn cd D T) (hm : ∀ k, k = g ∨ k = gn ∨ k = gd ∨ k = mb → W2.heap[k]? = W.heap[k]?) : TreeW W2 base g gn gd mb cn cd D T where
  box := (hm g (.inl rfl)).trans h.box
  nodes := Kd.R_move h.nodes (fun k hk => hm k (.inr (.inl hk)))
  deep := Kd.R_move h.deep (fun k hk => hm k (.inr (.inr (.inl hk))))
  map := by
    obtain ⟨es, clock, h1, h2⟩ := h.map
    exact ⟨es, clock, (hm mb (.inr (.inr (.inr rfl)))).trans h1, h2⟩
  told := h.told
  wf := h.wf
  low := h.low
  apart := h.apart
theorem TreeW.lt {H : Type} {W : World} {base g gn gd mb cn cd : Nat} {D : DataW H} {T : Tr} (h : TreeW W base g gn gd mb cn cd D T) : g < W.heap.size ∧ gn < W.heap.size ∧ gd < W.heap.size ∧ mb < W.heap.size :=
  ⟨(Array.getElem?_eq_some_iff.1 h.box).1, Kd.R_lt h.nodes gn rfl, Kd.R_lt h.deep gd rfl, h.map.lt⟩
theorem TreeW.keepBut {H : Type} {W W2 : World} {base g gn gd mb cn cd r : Nat} {D : DataW H} {T : Tr} (h : TreeW W base g gn gd mb cn cd D T) (hk : KeepBut W W2 r none) (hr : r < base) : TreeW W2 base g gn gd mb cn cd D T := by
  have hl := h.lt
  have hw := h.low
  refine h.move (fun k hh => hk.2 k (by omega) (by omega) (by simp))
theorem TreeW.lower {H : Type} {W : World} {base b2 g gn gd mb cn cd : Nat} {D : DataW H} {T : Tr} (h : TreeW W base g gn gd mb cn cd D T) (hb : b2 ≤ base) : TreeW W b2 g gn gd mb cn cd D T where
  box := h.box
  nodes := Kd.R_lower h.nodes hb
  deep := Kd.R_lower h.deep hb
  map := h.map
  told := h.told
  wf := h.wf
  low := by have := h.low; omega
  apart := h.apart
/-- What 'From' answers. -/
def FromIs (W : World) (s : ByteArray) (e : Ending) (w2 : World) : Prop :=
  Below W.heap.size W w2 ∧ match fromT s with
  | none => e = .returned (.tuple #[.pointer none, .int .i64 4])
  | some T => ∃ g gn gd mb cn cd, ∃ D : DataW Unit, e = .returned (.tuple #[.pointer (some ⟨g, 0, none⟩), .int .i64 0]) ∧ TreeW w2 W.heap.size g gn gd mb cn cd D T
section
variable {W : World}
theorem number_any {w0 w : World} (g : Nat) (s : ByteArray) (bad : Bool) (most : Nat) (m : Int) (hm : m = (most : Nat)) (hI : IsS118 w0 w g s bad) (hB : Below w0.heap.size w0 w) (hs : s.size ≤ 9223372036854775807) :
    Calls Tryd.prog 62 #[.pointer (some ⟨g, 0, none⟩), .int .i64 m] w fun e w2 => e = .returned (.int .i64 (numP s bad most).1) ∧ IsS118 w0 w2 g (numP s bad most).2.1 (numP s bad most).2.2 ∧ Below w0.heap.size w0 w2 ∧ KeepBut w w2 g none :=
  hm ▸ place_reader_number.calls 10 g s bad most _ _ _ w0 w hI hB (num_f s bad most hs)
theorem text_any {w0 w : World} (g : Nat) (s : ByteArray) (bad : Bool) (n : Nat) (hI : IsS118 w0 w g s bad) (hB : Below w0.heap.size w0 w) :
    Calls Tryd.prog 63 #[.pointer (some ⟨g, 0, none⟩), .int .i64 n] w fun e w2 => e = .returned (.string (textP s bad n).1) ∧ IsS118 w0 w2 g (textP s bad n).2.1 (textP s bad n).2.2 ∧ Below w0.heap.size w0 w2 ∧ KeepBut w w2 g none :=
  place_reader_text.calls g s bad n _ _ _ w0 w hI hB (text_f s bad n)
theorem gotP_eq {i : Nat} {s : ByteArray} {bad : Bool} {d k ln : Nat} {s1 s2 s3 s4 nm : ByteArray} {b1 b2 b3 b4 : Bool} (e1 : numP s bad (i + 1) = (d, s1, b1)) (e2 : numP s1 b1 120 = (k, s2, b2)) (e3 : textP s2 b2 k = (nm, s3, b3)) (e4 : numP s3 b3 1048576 = (ln, s4, b4)) :
    gotP i s bad = ⟨(i : Int) + 1 - d, nm, ln, s4, b4⟩ := by
  unfold gotP
  simp only [e1, e2, e3, e4]
set_option maxRecDepth 100000 in
set_option maxHeartbeats 3200000 in
theorem From_any (s : ByteArray) (hs : s.size ≤ 9223372036854775807) : Calls Tryd.prog 33 #[.string s] W (FromIs W s) := by
  obtain ⟨n0, s0, b0, e0⟩ : ∃ n0 s0 b0, numP s false 4095 = (n0, s0, b0) := ⟨_, _, _, rfl⟩
  have hn0 := (numP_lt s false 4095).1
  have hs0 := (numP_lt s false 4095).2
  rw [e0] at hn0 hs0
  simp only at hn0 hs0
  have hft : fromT s = fromGo n0 0 newT s0 b0 := by unfold fromT; rw [e0]
  obtain ⟨R, hR⟩ : ∃ R, R = fromT s := ⟨_, rfl⟩
  unfold FromIs
  rw [← hR]
  rw [← hR] at hft
  have HR := Lib.hid hft.symm
  have HS := Lib.hid hs
  have HE0 := Lib.hid e0
  have hs0' : s0.size ≤ 9223372036854775807 := by omega
  have HS0 := Lib.hid hs0'
  clear hft hs hs0 hR e0 hs0'
  go_enter Tryd.func33, Tryd.ntmps33
  obtain ⟨B, hBs⟩ : ∃ B, B = (W.alloc (.cells #[.string s, .bool false] 118)).heap.size := ⟨_, rfl⟩
  have hB1 : B = W.heap.size + 1 := by rw [hBs]; simp
  have HBs := Lib.hid hB1
  have HBe := Lib.hid hBs
  clear hBs hB1
  go_wp2_with (first | (go_at_call 39; (with_reducible refine (New_any _).mono ?_); rintro e w1 ⟨g, gn, gd, mb, cn, cd, rfl, hT, hb⟩; rw [← HBe.out] at hT hb; have HT := Lib.hid hT; have hb2 : Below W.heap.size W w1 := ((Below.refl _ W).alloc (Nat.le_refl _) _).trans (hb.mono (by have := HBs.out; omega)); have hI1 : IsS118 W w1 W.heap.size s false := ⟨(hb.block W.heap.size (by have := HBs.out; omega)).trans (heap_alloc_new W _), Nat.le_refl _⟩; have HB1 := Lib.hid hb2; have HI1 := Lib.hid hI1; clear hT hb hb2 hI1) | (go_at_call 62; (with_reducible refine (number_any (w0 := W) W.heap.size s false 4095 4095 (by omega) HI1.out HB1.out HS.out).mono ?_); rintro e w2 ⟨rfl, hI, hb, hk⟩; rw [HE0.out] at hI ⊢; have HI2 := Lib.hid hI; have HB2 := Lib.hid hb; have HT2 := Lib.hid (HT.out.keepBut hk (by have := HBs.out; omega)); clear hI hb hk))
  clear HS HE0 HB1 HI1 HT HBe
  go_loopg [18] n0 (fun q s18 wx => ∃ (i : Nat) (s1 : ByteArray) (x1 : Bool) (Tk : Tr) (gn gd cn cd : Nat) (D : DataW Unit), i + q = n0 ∧ s18 = .int .i64 i ∧ Hid (TreeW wx B g gn gd mb cn cd D Tk) ∧ Hid (IsS118 W wx W.heap.size s1 x1) ∧ Hid (Below W.heap.size W wx) ∧ Hid (fromGo q i Tk s1 x1 = R) ∧ Hid (s1.size ≤ 9223372036854775807))
  case atStart => exact ⟨0, s0, b0, newT, gn, gd, cn, cd, _, by omega, rfl, HT2, HI2, HB2, HR, HS0⟩
  case round =>
    clear HR HS0 HT2 HI2 HB2
    obtain ⟨i, s1, x1, Tk, gn, gd, cn, cd, D, hiq, rfl, HT, HI, HB, HG, HS1⟩ := hrel
    by_cases hlt : i < n0
    · have d1 : decide ((i : Int) < (n0 : Int)) = true := by simp; omega
      obtain ⟨q, rfl⟩ : ∃ q, gk = q + 1 := ⟨gk - 1, by omega⟩
      obtain ⟨d, s2, x2, e1⟩ : ∃ a_ b_ c_, numP s1 x1 (i + 1) = (a_, b_, c_) := ⟨_, _, _, rfl⟩
      obtain ⟨k, s3, x3, e2⟩ : ∃ a_ b_ c_, numP s2 x2 120 = (a_, b_, c_) := ⟨_, _, _, rfl⟩
      obtain ⟨nm, s4, x4, e3⟩ : ∃ a_ b_ c_, textP s3 x3 k = (a_, b_, c_) := ⟨_, _, _, rfl⟩
      obtain ⟨ln, s5, x5, e4⟩ : ∃ a_ b_ c_, numP s4 x4 1048576 = (a_, b_, c_) := ⟨_, _, _, rfl⟩
      have l1 := numP_lt s1 x1 (i + 1)
      have l2 := numP_lt s2 x2 120
      have l3 := textP_le s3 x3 k
      have l4 := numP_lt s4 x4 1048576
      rw [e1] at l1
      rw [e2] at l2
      rw [e3] at l3
      rw [e4] at l4
      simp only at l1 l2 l3 l4
      have hss := HS1.out
      have HS2 := Lib.hid (show s2.size ≤ 9223372036854775807 by omega)
      have HS4 := Lib.hid (show s4.size ≤ 9223372036854775807 by omega)
      have HS5 := Lib.hid (show s5.size ≤ 9223372036854775807 by omega)
      have HNM := Lib.hid (show nm.size ≤ 9223372036854775807 by omega)
      have hg := HG.out
      unfold fromGo at hg
      rw [gotP_eq e1 e2 e3 e4] at hg
      simp only at hg
      have E1 := Lib.hid e1
      have E2 := Lib.hid e2
      have E3 := Lib.hid e3
      have E4 := Lib.hid e4
      have hd := l1.1
      have hk := l2.1
      have hl := l4.1
      clear e1 e2 e3 e4 l1 l2 l3 l4 hss HG
      cases x5 with
      | true =>
        rw [if_pos rfl] at hg
        subst hg
        go_wp2_with (go_at_call 62; (with_reducible refine (number_any (w0 := W) W.heap.size s1 x1 (i + 1) _ (by omega) HI.out HB.out HS1.out).mono ?_); rintro e w2 ⟨rfl, hI, hb, hk⟩; rw [E1.out] at hI ⊢; have HI2 := Lib.hid hI; have HB2 := Lib.hid hb; have HT2 := Lib.hid (HT.out.keepBut hk (by have := HBs.out; omega)); clear hI hb hk)
        go_wp2_with (first | (go_at_call 62; (with_reducible refine (number_any (w0 := W) W.heap.size s2 x2 120 120 (by omega) HI2.out HB2.out HS2.out).mono ?_); rintro e w3 ⟨rfl, hI, hb, hk⟩; rw [E2.out] at hI ⊢; have HI3 := Lib.hid hI; have HB3 := Lib.hid hb; have HT3 := Lib.hid (HT2.out.keepBut hk (by have := HBs.out; omega)); clear hI hb hk) | (go_at_call 63; (with_reducible refine (text_any (w0 := W) W.heap.size s3 x3 k HI3.out HB3.out).mono ?_); rintro e w4 ⟨rfl, hI, hb, hk⟩; rw [E3.out] at hI ⊢; have HI4 := Lib.hid hI; have HB4 := Lib.hid hb; have HT4 := Lib.hid (HT3.out.keepBut hk (by have := HBs.out; omega)); clear hI hb hk))
        go_wp2_with (go_at_call 62; (with_reducible refine (number_any (w0 := W) W.heap.size s4 x4 1048576 1048576 (by omega) HI4.out HB4.out HS4.out).mono ?_); rintro e w5 ⟨rfl, hI, hb, hk⟩; rw [E4.out] at hI ⊢; have hc5 := cellS118_1 hI.1; have HI5 := Lib.hid hI; have HB5 := Lib.hid hb; have HT5 := Lib.hid (HT4.out.keepBut hk (by have := HBs.out; omega)); clear hI hb hk)
        go_ret2
        exact ⟨HB5.out, rfl⟩
      | false =>
        rw [if_neg (by decide)] at hg
        obtain ⟨m, E, T2, hp⟩ : ∃ m E T2, pushT Tk ((i : Int) + 1 - (d : Int)) (nm, (ln : Int)) = ((m, E), T2) := ⟨_, _, _, rfl⟩
        have HP := Lib.hid hp
        rw [hp] at hg
        simp only at hg
        clear hp
        by_cases hE : E = 0
        · subst hE
          by_cases hm : m = (i : Int) + 1
          · subst hm
            rw [if_neg (by simp)] at hg
            have HG2 := Lib.hid hg
            clear hg
            go_wp2_with (go_at_call 62; (with_reducible refine (number_any (w0 := W) W.heap.size s1 x1 (i + 1) _ (by omega) HI.out HB.out HS1.out).mono ?_); rintro e w2 ⟨rfl, hI, hb, hk⟩; rw [E1.out] at hI ⊢; have HI2 := Lib.hid hI; have HB2 := Lib.hid hb; have HT2 := Lib.hid (HT.out.keepBut hk (by have := HBs.out; omega)); clear hI hb hk)
            go_wp2_with (first | (go_at_call 62; (with_reducible refine (number_any (w0 := W) W.heap.size s2 x2 120 120 (by omega) HI2.out HB2.out HS2.out).mono ?_); rintro e w3 ⟨rfl, hI, hb, hk⟩; rw [E2.out] at hI ⊢; have HI3 := Lib.hid hI; have HB3 := Lib.hid hb; have HT3 := Lib.hid (HT2.out.keepBut hk (by have := HBs.out; omega)); clear hI hb hk) | (go_at_call 63; (with_reducible refine (text_any (w0 := W) W.heap.size s3 x3 k HI3.out HB3.out).mono ?_); rintro e w4 ⟨rfl, hI, hb, hk⟩; rw [E3.out] at hI ⊢; have HI4 := Lib.hid hI; have HB4 := Lib.hid hb; have HT4 := Lib.hid (HT3.out.keepBut hk (by have := HBs.out; omega)); clear hI hb hk))
            go_wp2_with (go_at_call 62; (with_reducible refine (number_any (w0 := W) W.heap.size s4 x4 1048576 1048576 (by omega) HI4.out HB4.out HS4.out).mono ?_); rintro e w5 ⟨rfl, hI, hb, hk⟩; rw [E4.out] at hI ⊢; have hc5 := cellS118_1 hI.1; have HI5 := Lib.hid hI; have HB5 := Lib.hid hb; have HT5 := Lib.hid (HT4.out.keepBut hk (by have := HBs.out; omega)); clear hI hb hk)
            go_wp2_with (go_at_call 64; (with_reducible refine (Push_any (p := (nm, (ln : Int))) HT5.out ((i : Int) + 1 - (d : Int)) HNM.out (by have := HT5.out.lt; have := HT5.out.low; omega)).mono ?_); rintro e w6 ⟨gn2, gd2, cn2, cd2, D2, rfl, hT2, hb2, hk2⟩; rw [HP.out] at hT2 ⊢; have hlo := HT5.out.low; have hlt5 := HT5.out.lt; have hBs := HBs.out; have HI6 := Lib.hid (show IsS118 W w6 W.heap.size s5 false from ⟨((hk2 W.heap.size (by omega) (by omega) (by omega) (by omega) (by omega)).2).trans HI5.out.1, Nat.le_refl _⟩); have HT6 := Lib.hid hT2; have HB6 := Lib.hid (HB5.out.trans (hb2.mono (by omega))); clear hT2 hb2 hk2 hlo hlt5 hBs)
            go_roundg q
            case measure => omega
            case rel => exact ⟨i + 1, s5, false, T2, gn2, gd2, cn2, cd2, D2, by omega, by first | rfl | go_num, HT6, HI6, HB6, HG2, HS5⟩
          · have hme : (m != (i : Int) + 1) = true := by simpa using hm
            have hne : ¬ ((m, (0 : Int)) : Int × Int) = ((i : Int) + 1, 0) := fun h => hm (by rw [Prod.mk.injEq] at h; exact h.1)
            rw [if_pos hne] at hg
            subst hg
            clear hm hne
            go_wp2_with (go_at_call 62; (with_reducible refine (number_any (w0 := W) W.heap.size s1 x1 (i + 1) _ (by omega) HI.out HB.out HS1.out).mono ?_); rintro e w2 ⟨rfl, hI, hb, hk⟩; rw [E1.out] at hI ⊢; have HI2 := Lib.hid hI; have HB2 := Lib.hid hb; have HT2 := Lib.hid (HT.out.keepBut hk (by have := HBs.out; omega)); clear hI hb hk)
            go_wp2_with (first | (go_at_call 62; (with_reducible refine (number_any (w0 := W) W.heap.size s2 x2 120 120 (by omega) HI2.out HB2.out HS2.out).mono ?_); rintro e w3 ⟨rfl, hI, hb, hk⟩; rw [E2.out] at hI ⊢; have HI3 := Lib.hid hI; have HB3 := Lib.hid hb; have HT3 := Lib.hid (HT2.out.keepBut hk (by have := HBs.out; omega)); clear hI hb hk) | (go_at_call 63; (with_reducible refine (text_any (w0 := W) W.heap.size s3 x3 k HI3.out HB3.out).mono ?_); rintro e w4 ⟨rfl, hI, hb, hk⟩; rw [E3.out] at hI ⊢; have HI4 := Lib.hid hI; have HB4 := Lib.hid hb; have HT4 := Lib.hid (HT3.out.keepBut hk (by have := HBs.out; omega)); clear hI hb hk))
            go_wp2_with (go_at_call 62; (with_reducible refine (number_any (w0 := W) W.heap.size s4 x4 1048576 1048576 (by omega) HI4.out HB4.out HS4.out).mono ?_); rintro e w5 ⟨rfl, hI, hb, hk⟩; rw [E4.out] at hI ⊢; have hc5 := cellS118_1 hI.1; have HI5 := Lib.hid hI; have HB5 := Lib.hid hb; have HT5 := Lib.hid (HT4.out.keepBut hk (by have := HBs.out; omega)); clear hI hb hk)
            go_wp2_with (go_at_call 64; (with_reducible refine (Push_any (p := (nm, (ln : Int))) HT5.out ((i : Int) + 1 - (d : Int)) HNM.out (by have := HT5.out.lt; have := HT5.out.low; omega)).mono ?_); rintro e w6 ⟨gn2, gd2, cn2, cd2, D2, rfl, hT2, hb2, hk2⟩; rw [HP.out] at hT2 ⊢; have hlo := HT5.out.low; have hlt5 := HT5.out.lt; have hBs := HBs.out; have HI6 := Lib.hid (show IsS118 W w6 W.heap.size s5 false from ⟨((hk2 W.heap.size (by omega) (by omega) (by omega) (by omega) (by omega)).2).trans HI5.out.1, Nat.le_refl _⟩); have HT6 := Lib.hid hT2; have HB6 := Lib.hid (HB5.out.trans (hb2.mono (by omega))); clear hT2 hb2 hk2 hlo hlt5 hBs)
            go_ret2
            exact ⟨HB6.out, rfl⟩
        · have hEe : (E != 0) = true := by simpa using hE
          have hne : ¬ ((m, E) : Int × Int) = ((i : Int) + 1, 0) := fun h => hE (by rw [Prod.mk.injEq] at h; exact h.2)
          rw [if_pos hne] at hg
          subst hg
          clear hE hne
          go_wp2_with (go_at_call 62; (with_reducible refine (number_any (w0 := W) W.heap.size s1 x1 (i + 1) _ (by omega) HI.out HB.out HS1.out).mono ?_); rintro e w2 ⟨rfl, hI, hb, hk⟩; rw [E1.out] at hI ⊢; have HI2 := Lib.hid hI; have HB2 := Lib.hid hb; have HT2 := Lib.hid (HT.out.keepBut hk (by have := HBs.out; omega)); clear hI hb hk)
          go_wp2_with (first | (go_at_call 62; (with_reducible refine (number_any (w0 := W) W.heap.size s2 x2 120 120 (by omega) HI2.out HB2.out HS2.out).mono ?_); rintro e w3 ⟨rfl, hI, hb, hk⟩; rw [E2.out] at hI ⊢; have HI3 := Lib.hid hI; have HB3 := Lib.hid hb; have HT3 := Lib.hid (HT2.out.keepBut hk (by have := HBs.out; omega)); clear hI hb hk) | (go_at_call 63; (with_reducible refine (text_any (w0 := W) W.heap.size s3 x3 k HI3.out HB3.out).mono ?_); rintro e w4 ⟨rfl, hI, hb, hk⟩; rw [E3.out] at hI ⊢; have HI4 := Lib.hid hI; have HB4 := Lib.hid hb; have HT4 := Lib.hid (HT3.out.keepBut hk (by have := HBs.out; omega)); clear hI hb hk))
          go_wp2_with (go_at_call 62; (with_reducible refine (number_any (w0 := W) W.heap.size s4 x4 1048576 1048576 (by omega) HI4.out HB4.out HS4.out).mono ?_); rintro e w5 ⟨rfl, hI, hb, hk⟩; rw [E4.out] at hI ⊢; have hc5 := cellS118_1 hI.1; have HI5 := Lib.hid hI; have HB5 := Lib.hid hb; have HT5 := Lib.hid (HT4.out.keepBut hk (by have := HBs.out; omega)); clear hI hb hk)
          go_wp2_with (go_at_call 64; (with_reducible refine (Push_any (p := (nm, (ln : Int))) HT5.out ((i : Int) + 1 - (d : Int)) HNM.out (by have := HT5.out.lt; have := HT5.out.low; omega)).mono ?_); rintro e w6 ⟨gn2, gd2, cn2, cd2, D2, rfl, hT2, hb2, hk2⟩; rw [HP.out] at hT2 ⊢; have hlo := HT5.out.low; have hlt5 := HT5.out.lt; have hBs := HBs.out; have HI6 := Lib.hid (show IsS118 W w6 W.heap.size s5 false from ⟨((hk2 W.heap.size (by omega) (by omega) (by omega) (by omega) (by omega)).2).trans HI5.out.1, Nat.le_refl _⟩); have HT6 := Lib.hid hT2; have HB6 := Lib.hid (HB5.out.trans (hb2.mono (by omega))); clear hT2 hb2 hk2 hlo hlt5 hBs)
          go_ret2
          exact ⟨HB6.out, rfl⟩
    · obtain rfl : i = n0 := by omega
      obtain rfl : gk = 0 := by omega
      have d1 : decide ((i : Int) < (i : Int)) = false := by simp
      have hg := HG.out
      unfold fromGo at hg
      have hc0 := cellS118_0 HI.out.1
      have hc1 := cellS118_1 HI.out.1
      clear HG
      cases x1 with
      | true =>
        rw [Bool.true_or, if_pos rfl] at hg
        subst hg
        go_wp2
        go_ret2
        exact ⟨HB.out, rfl⟩
      | false =>
        rw [Bool.false_or] at hg
        by_cases hz : s1.size = 0
        · obtain rfl := size_zero hz
          rw [if_neg (by simp [hz])] at hg
          subst hg
          clear hz
          go_wp2
          go_ret2
          exact ⟨HB.out, g, rfl, gn, gd, mb, cn, cd, D, HT.out.lower (by have := HBs.out; omega)⟩
        · rw [if_pos (by simp [hz])] at hg
          subst hg
          have hz2 : (!s1.toList.isEmpty) = true := by
            rw [ByteArray.toList_eq]
            cases hl : s1.data.toList with
            | nil => exact absurd (by rw [← data_length, hl]; rfl) hz
            | cons a l => rfl
          go_wp2
          go_ret2
          exact ⟨HB.out, rfl⟩
end
end Go.Proofs.YtmgfdcfbjgokgaaDoor
