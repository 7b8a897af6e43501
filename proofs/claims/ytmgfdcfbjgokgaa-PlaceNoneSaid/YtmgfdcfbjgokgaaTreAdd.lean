/- The tree of stacks, V: 'Add'. -/
import Derived.Test.YtmgfdcfbjgokgaaTrePush
namespace Go.Proofs.Ytmgfdcfbjgokgaa
open Go Go.RowKit Go.Maps Go.Proofs.YtmgfdcfbjgokgaaW.PrintWords Go.Proofs.YtmgfdcfbjgokgaaW.PrintLast Go.Proofs.Ytmgfdcfbjgokgaa.PL
set_option linter.unusedVariables false
set_option linter.unusedSimpArgs false

def addGo : List Pl → Int → Tr → (Int × Int) × Tr
  | [], a, T => ((a, 0), T)
  | p :: l, a, T => if (pushT T a p).1.2 ≠ 0 then ((0, (pushT T a p).1.2), (pushT T a p).2) else addGo l (pushT T a p).1.1 (pushT T a p).2
def addT (T : Tr) (l : List Pl) : (Int × Int) × Tr := if checkN l ≠ 0 then ((0, checkN l), T) else addGo l 0 T
/-- Blocks beside the tree's stay, and are not the tree's. -/
def KeepT (W w2 : World) (g gn gd mb gn2 gd2 : Nat) : Prop := ∀ k, k < W.heap.size → k ≠ g → k ≠ gn → k ≠ gd → k ≠ mb → (k ≠ gn2 ∧ k ≠ gd2) ∧ w2.heap[k]? = W.heap[k]?
theorem KeepT.trans {W w1 w2 : World} {g gn gd mb gn1 gd1 gn2 gd2 : Nat} (h1 : KeepT W w1 g gn gd mb gn1 gd1) (h2 : KeepT w1 w2 g gn1 gd1 mb gn2 gd2) (hz : W.heap.size ≤ w1.heap.size) : KeepT W w2 g gn gd mb gn2 gd2 := fun k hk a b c d => by
  obtain ⟨⟨e1, e2⟩, e3⟩ := h1 k hk a b c d
  obtain ⟨e4, e5⟩ := h2 k (by omega) a e1 e2 d
  exact ⟨e4, e5.trans e3⟩
theorem KeepT.below {W w1 : World} (g gn gd mb : Nat) (h : Below W.heap.size W w1) : KeepT W w1 g gn gd mb gn gd := fun k hk _ b c _ => ⟨⟨b, c⟩, h.block k hk⟩
section
variable {H : Type} {W : World} {base g gn gd mb cn cd : Nat} {D : DataW H} {T : Tr}
set_option maxRecDepth 100000 in
set_option maxHeartbeats 3200000 in
theorem Add_any (h : TreeW W base g gn gd mb cn cd D T) (A : Option Addr) (c : Nat) (l : List S24) (hC : Kd.C k24 W A l.length l) (hc : l.length ≤ c) (hs : ∀ x ∈ l, x.f0.size ≤ 9223372036854775807) (hl : l.length ≤ 9223372036854775806)
    (hA : ∀ ad, A = some ad → ad.block ≠ g ∧ ad.block ≠ gn ∧ ad.block ≠ gd ∧ ad.block ≠ mb) (hbase : base ≤ W.heap.size) :
    Calls Try.prog 5 #[.pointer (some ⟨g, 0, none⟩), .slice A l.length c] W fun e w2 => ∃ gn2 gd2 cn2 cd2, ∃ D2 : DataW H, e = .returned (.tuple #[.int .i64 (addT T (l.map toPl)).1.1, .int .i64 (addT T (l.map toPl)).1.2]) ∧
      TreeW w2 base g gn2 gd2 mb cn2 cd2 D2 (addT T (l.map toPl)).2 ∧ Below base W w2 ∧ KeepT W w2 g gn gd mb gn2 gd2 := by
  have hchk := Check_any A c l W hC hc hs hl
  have HCHK := Lib.hid hchk
  have H0 := Lib.hid h
  have HC := Lib.hid hC
  have HA := Lib.hid hA
  have HS := Lib.hid hs
  obtain ⟨N, hN⟩ : ∃ N, N = l.length := ⟨_, rfl⟩
  have HNN := Lib.hid hN
  obtain ⟨E, hE⟩ : ∃ E, E = checkN (l.map toPl) := ⟨_, rfl⟩
  have hN63 : N ≤ 9223372036854775806 := by omega
  rw [← hE, ← hN] at HCHK
  rw [← hN] at HC ⊢
  by_cases hE0 : E = 0
  · have d0 : (E != 0) = false := by simp [hE0]
    obtain ⟨R, hR⟩ : ∃ R, R = addT T (l.map toPl) := ⟨_, rfl⟩
    have HR0 := Lib.hid (show addGo (l.map toPl) 0 T = R by rw [hR]; unfold addT; rw [← hE, if_neg (by simp [hE0])])
    rw [← hR]
    clear hR h hC hA hs hN hchk hE hE0 hc hl
    go_enter Try.func5, Try.ntmps5
    go_wp2_with (go_at_call 12; (with_reducible refine HCHK.out.mono ?_); rintro e w1 ⟨rfl, hb1⟩; have HB1 := Lib.hid hb1; clear hb1)
    go_loopg [7, 21] N (fun q s7 s21 wx => ∃ (k : Nat) (a : Int) (Tk : Tr) (gn1 gd1 cn1 cd1 : Nat) (D1 : DataW H), k + q = N ∧ s7 = .int .i64 a ∧ s21 = .int .i64 k ∧ Hid (TreeW wx base g gn1 gd1 mb cn1 cd1 D1 Tk) ∧ Hid (addGo ((l.map toPl).drop k) a Tk = R) ∧ Hid (Below base W wx) ∧ Hid (W.heap.size ≤ wx.heap.size) ∧ Hid (KeepT W wx g gn gd mb gn1 gd1))
    case atStart => exact ⟨0, 0, T, gn, gd, cn, cd, D, by omega, rfl, rfl, Lib.hid (H0.out.below HB1.out), HR0, Lib.hid (HB1.out.mono hbase), Lib.hid HB1.out.size, Lib.hid (KeepT.below _ _ _ _ HB1.out)⟩
    case round =>
      obtain ⟨k, a, Tk, gn1, gd1, cn1, cd1, D1, hkq, rfl, rfl, HT, HG, HBW, HSZ, HK⟩ := hrel
      by_cases hlt : k < N
      · have d1 : decide ((k : Int) < (N : Int)) = true := by simp; omega
        have hkl : k < l.length := by have := HNN.out; omega
        obtain ⟨ad, hAd, hx0, hx1⟩ := at_T24 HC.out (k : Int) (by omega) (by omega)
        have hne := HA.out ad hAd
        subst hAd
        rw [Int.toNat_natCast] at hx0 hx1
        obtain ⟨x, hx⟩ : ∃ x, x = rd_T24 l (k : Int) := ⟨_, rfl⟩
        rw [← hx] at hx0 hx1
        have hxl : x = l[k] := by rw [hx]; unfold rd_T24; rw [Int.toNat_natCast, List.getD_eq_getElem?_getD, List.getElem?_eq_getElem hkl]; rfl
        have hblk : (ad.add (k * 2)).block = ad.block := by unfold Addr.add; split <;> rfl
        have hkb : wr.heap[ad.block]? = W.heap[ad.block]? := (HK.out ad.block (by have := World.block_lt_of_cell? W _ hx0; rw [hblk] at this; exact this) hne.1 hne.2.1 hne.2.2.1 hne.2.2.2).2
        have hy0 : wr.cell? (ad.add (k * 2)) = some (.string x.f0) := (World.cell?_of_block (by rw [hblk]; exact hkb)).trans hx0
        have hy1 : wr.cell? ⟨(ad.add (k * 2)).block, (ad.add (k * 2)).off + 1, none⟩ = some (.int .i64 x.f1) := (World.cell?_of_block (by show wr.heap[(ad.add (k * 2)).block]? = _; rw [hblk]; exact hkb)).trans hx1
        have HX := Lib.hid hxl
        have HXS := Lib.hid (HS.out x (by rw [hxl]; exact List.getElem_mem hkl))
        clear hx0 hx1 hx hxl hne hkb hblk
        have HG2 := Lib.hid (show (if (pushT Tk a (toPl x)).1.2 ≠ 0 then ((0, (pushT Tk a (toPl x)).1.2), (pushT Tk a (toPl x)).2) else addGo ((l.map toPl).drop (k + 1)) (pushT Tk a (toPl x)).1.1 (pushT Tk a (toPl x)).2) = R by
          have := HG.out
          rw [List.drop_eq_getElem_cons (by rw [List.length_map]; exact hkl), List.getElem_map, ← HX.out] at this
          exact this)
        clear HG
        go_wp2_with (go_at_call 4; (with_reducible refine (Push_any (p := (x.f0, x.f1)) (HT.out.alloc _) a HXS.out (by have := HBW.out.size; have := HSZ.out; simp; omega)).mono ?_); rintro e w2 ⟨gn2, gd2, cn2, cd2, D2, rfl, hT2, hb2, hk2⟩; have HT2 := Lib.hid hT2; have HB2 := Lib.hid hb2; have HK2 := Lib.hid hk2; clear hT2 hb2 hk2)
        · have h0 : (pushT Tk a (toPl x)).1.2 ≠ 0 := by
            have h_ : ((pushT Tk a (x.f0, x.f1)).1.2 != 0) = true := by assumption
            have h2_ : (pushT Tk a (x.f0, x.f1)).1.2 ≠ 0 := by simpa using h_
            exact h2_
          have hg := HG2.out
          rw [if_pos h0] at hg
          subst hg
          have hz := HSZ.out
          go_ret2
          exact ⟨gn2, gd2, cn2, cd2, D2, rfl, HT2.out, ((HBW.out).alloc (by have := HBW.out.size; omega) _).trans HB2.out, KeepT.trans (HK.out.trans (KeepT.below g gn1 gd1 mb ((Below.refl _ wr).alloc (Nat.le_refl _) _)) HSZ.out) HK2.out (by simp; omega)⟩
        · have h0 : (pushT Tk a (toPl x)).1.2 = 0 := by
            have h_ : ((pushT Tk a (x.f0, x.f1)).1.2 != 0) = false := by assumption
            have h2_ : (pushT Tk a (x.f0, x.f1)).1.2 = 0 := by simpa using h_
            exact h2_
          have hg := HG2.out
          rw [if_neg (by simp [h0])] at hg
          have hz := HSZ.out
          have hz2 := HB2.out.size
          simp only [World.size_alloc] at hz2
          obtain ⟨q, rfl⟩ : ∃ q, gk = q + 1 := ⟨gk - 1, by omega⟩
          go_roundg q
          case measure => omega
          case rel => exact ⟨k + 1, _, _, gn2, gd2, cn2, cd2, D2, by omega, rfl, by first | rfl | go_num, HT2, Lib.hid hg, Lib.hid (((HBW.out).alloc (by have := HBW.out.size; omega) _).trans HB2.out), Lib.hid (by omega), Lib.hid ((KeepT.trans (HK.out.trans (KeepT.below g gn1 gd1 mb ((Below.refl _ wr).alloc (Nat.le_refl _) _)) HSZ.out) HK2.out (by simp; omega)))⟩
      · obtain rfl : k = N := by omega
        have d1 : decide ((k : Int) < (k : Int)) = false := by simp
        have hg := HG.out
        rw [List.drop_eq_nil_of_le (by rw [List.length_map, ← HNN.out]; exact Nat.le_refl _)] at hg
        subst hg
        clear HR0 HG HCHK
        go_wp2
        go_ret2
        exact ⟨gn1, gd1, cn1, cd1, D1, rfl, HT.out, HBW.out, HK.out⟩
  · have d0 : (E != 0) = true := by simpa using hE0
    have hA2 : addT T (l.map toPl) = ((0, E), T) := by unfold addT; rw [← hE, if_pos hE0]
    rw [hA2]
    clear h hC hA hs hN hchk hE hE0 hc hl hA2
    go_enter Try.func5, Try.ntmps5
    go_wp2_with (go_at_call 12; (with_reducible refine HCHK.out.mono ?_); rintro e w1 ⟨rfl, hb1⟩; have HB1 := Lib.hid hb1; clear hb1)
    go_ret2
    exact ⟨gn, gd, cn, cd, D, rfl, H0.out.below HB1.out, HB1.out.mono hbase, KeepT.below _ _ _ _ HB1.out⟩
end
end Go.Proofs.Ytmgfdcfbjgokgaa
