/- The tree of stacks, IX: 'From'. -/
import Derived.Test.YtmgfdcfbjgokgaaTreAdd
import Derived.Test.YtmgfdcfbjgokgaaTreNum
namespace Go.Proofs.Ytmgfdcfbjgokgaa
open Go Go.RowKit Go.Maps Go.Proofs.YtmgfdcfbjgokgaaW.PrintWords Go.Proofs.YtmgfdcfbjgokgaaW.PrintLast Go.Proofs.Ytmgfdcfbjgokgaa.PL
set_option linter.unusedVariables false
set_option linter.unusedSimpArgs false

/-- One node taken. -/
structure Got where
  up : Int
  nm : ByteArray
  ln : Nat
  rest : ByteArray
  bad : Bool
def gotP (i : Nat) (s : ByteArray) (bad : Bool) : Got :=
  let a := numP s bad (i + 1)
  let b := numP a.2.1 a.2.2 120
  let c := textP b.2.1 b.2.2 b.1
  let d := numP c.2.1 c.2.2 1048576
  ⟨(i : Int) + 1 - a.1, c.1, d.1, d.2.1, d.2.2⟩
def fromGo : Nat → Nat → Tr → ByteArray → Bool → Option Tr
  | 0, _, T, s, bad => if bad || decide (s.size ≠ 0) then none else some T
  | f + 1, i, T, s, bad =>
    if (gotP i s bad).bad then none
    else if (pushT T (gotP i s bad).up ((gotP i s bad).nm, ((gotP i s bad).ln : Int))).1 ≠ ((i : Int) + 1, 0) then none
    else fromGo f (i + 1) (pushT T (gotP i s bad).up ((gotP i s bad).nm, ((gotP i s bad).ln : Int))).2 (gotP i s bad).rest (gotP i s bad).bad
def fromT (s : ByteArray) : Option Tr := fromGo (numP s false 4095).1 0 newT (numP s false 4095).2.1 (numP s false 4095).2.2
theorem TreeW.move {H : Type} {W W2 : World} {base g gn gd mb cn cd : Nat} {D : DataW H} {T : Tr} (h : TreeW W base g gn gd mb cn cd D T) (hm : ∀ k, k = g ∨ k = gn ∨ k = gd ∨ k = mb → W2.heap[k]? = W.heap[k]?) : TreeW W2 base g gn gd mb cn cd D T where
  box := (hm g (.inl rfl)).trans h.box
  nodes := Kd.R_move h.nodes (fun k hk => hm k (.inr (.inl hk)))
  deep := Kd.R_move h.deep (fun k hk => hm k (.inr (.inr (.inl hk))))
  map := by
    obtain ⟨es, clock, h1, h2⟩ := h.map
    exact ⟨es, clock, (hm mb (.inr (.inr (.inr rfl)))).trans h1, h2⟩
  told := h.told
  wf := h.wf
  low := h.low
  apart := h.apart
theorem TreeW.lt {H : Type} {W : World} {base g gn gd mb cn cd : Nat} {D : DataW H} {T : Tr} (h : TreeW W base g gn gd mb cn cd D T) : g < W.heap.size ∧ gn < W.heap.size ∧ gd < W.heap.size ∧ mb < W.heap.size :=
  ⟨(Array.getElem?_eq_some_iff.1 h.box).1, Kd.R_lt h.nodes gn rfl, Kd.R_lt h.deep gd rfl, h.map.lt⟩
theorem TreeW.keepBut {H : Type} {W W2 : World} {base g gn gd mb cn cd r : Nat} {D : DataW H} {T : Tr} (h : TreeW W base g gn gd mb cn cd D T) (hk : KeepBut W W2 r none) (hr : r < base) : TreeW W2 base g gn gd mb cn cd D T := by
  have hl := h.lt
  have hw := h.low
  refine h.move (fun k hh => hk.2 k (by omega) (by omega) (by simp))
theorem TreeW.lower {H : Type} {W : World} {base b2 g gn gd mb cn cd : Nat} {D : DataW H} {T : Tr} (h : TreeW W base g gn gd mb cn cd D T) (hb : b2 ≤ base) : TreeW W b2 g gn gd mb cn cd D T where
  box := h.box
  nodes := Kd.R_lower h.nodes hb
  deep := Kd.R_lower h.deep hb
  map := h.map
  told := h.told
  wf := h.wf
  low := by have := h.low; omega
  apart := h.apart
/-- What 'From' answers. -/
def FromIs (W : World) (s : ByteArray) (e : Ending) (w2 : World) : Prop :=
  Below W.heap.size W w2 ∧ match fromT s with
  | none => e = .returned (.tuple #[.pointer none, .int .i64 4])
  | some T => ∃ g gn gd mb cn cd, ∃ D : DataW Unit, e = .returned (.tuple #[.pointer (some ⟨g, 0, none⟩), .int .i64 0]) ∧ TreeW w2 W.heap.size g gn gd mb cn cd D T
section
variable {W : World}
theorem number_any {w0 w : World} (g : Nat) (s : ByteArray) (bad : Bool) (most : Nat) (m : Int) (hm : m = (most : Nat)) (hI : IsS56 w0 w g s bad) (hB : Below w0.heap.size w0 w) (hs : s.size ≤ 9223372036854775807) :
    Calls Try.prog 19 #[.pointer (some ⟨g, 0, none⟩), .int .i64 m] w fun e w2 => e = .returned (.int .i64 (numP s bad most).1) ∧ IsS56 w0 w2 g (numP s bad most).2.1 (numP s bad most).2.2 ∧ Below w0.heap.size w0 w2 ∧ KeepBut w w2 g none :=
  hm ▸ place_reader_number.calls 10 g s bad most _ _ _ w0 w hI hB (num_f s bad most hs)
theorem text_any {w0 w : World} (g : Nat) (s : ByteArray) (bad : Bool) (n : Nat) (hI : IsS56 w0 w g s bad) (hB : Below w0.heap.size w0 w) :
    Calls Try.prog 20 #[.pointer (some ⟨g, 0, none⟩), .int .i64 n] w fun e w2 => e = .returned (.string (textP s bad n).1) ∧ IsS56 w0 w2 g (textP s bad n).2.1 (textP s bad n).2.2 ∧ Below w0.heap.size w0 w2 ∧ KeepBut w w2 g none :=
  place_reader_text.calls g s bad n _ _ _ w0 w hI hB (text_f s bad n)
theorem gotP_eq {i : Nat} {s : ByteArray} {bad : Bool} {d k ln : Nat} {s1 s2 s3 s4 nm : ByteArray} {b1 b2 b3 b4 : Bool} (e1 : numP s bad (i + 1) = (d, s1, b1)) (e2 : numP s1 b1 120 = (k, s2, b2)) (e3 : textP s2 b2 k = (nm, s3, b3)) (e4 : numP s3 b3 1048576 = (ln, s4, b4)) :
    gotP i s bad = ⟨(i : Int) + 1 - d, nm, ln, s4, b4⟩ := by
  unfold gotP
  simp only [e1, e2, e3, e4]
set_option maxRecDepth 100000 in
set_option maxHeartbeats 3200000 in
theorem From_any (s : ByteArray) (hs : s.size ≤ 9223372036854775807) : Calls Try.prog 14 #[.string s] W (FromIs W s) := by
  obtain ⟨n0, s0, b0, e0⟩ : ∃ n0 s0 b0, numP s false 4095 = (n0, s0, b0) := ⟨_, _, _, rfl⟩
  have hn0 := (numP_lt s false 4095).1
  have hs0 := (numP_lt s false 4095).2
  rw [e0] at hn0 hs0
  simp only at hn0 hs0
  have hft : fromT s = fromGo n0 0 newT s0 b0 := by unfold fromT; rw [e0]
  obtain ⟨R, hR⟩ : ∃ R, R = fromT s := ⟨_, rfl⟩
  unfold FromIs
  rw [← hR]
  rw [← hR] at hft
  have HR := Lib.hid hft.symm
  have HS := Lib.hid hs
  have HE0 := Lib.hid e0
  have hs0' : s0.size ≤ 9223372036854775807 := by omega
  have HS0 := Lib.hid hs0'
  clear hft hs hs0 hR e0 hs0'
  go_enter Try.func14, Try.ntmps14
  obtain ⟨B, hBs⟩ : ∃ B, B = (W.alloc (.cells #[.string s, .bool false] 56)).heap.size := ⟨_, rfl⟩
  have hB1 : B = W.heap.size + 1 := by rw [hBs]; simp
  have HBs := Lib.hid hB1
  have HBe := Lib.hid hBs
  clear hBs hB1
  go_wp2_with (first | (go_at_call 13; (with_reducible refine (New_any _).mono ?_); rintro e w1 ⟨g, gn, gd, mb, cn, cd, rfl, hT, hb⟩; rw [← HBe.out] at hT hb; have HT := Lib.hid hT; have hb2 : Below W.heap.size W w1 := ((Below.refl _ W).alloc (Nat.le_refl _) _).trans (hb.mono (by have := HBs.out; omega)); have hI1 : IsS56 W w1 W.heap.size s false := ⟨(hb.block W.heap.size (by have := HBs.out; omega)).trans (heap_alloc_new W _), Nat.le_refl _⟩; have HB1 := Lib.hid hb2; have HI1 := Lib.hid hI1; clear hT hb hb2 hI1) | (go_at_call 19; (with_reducible refine (number_any (w0 := W) W.heap.size s false 4095 4095 (by omega) HI1.out HB1.out HS.out).mono ?_); rintro e w2 ⟨rfl, hI, hb, hk⟩; rw [HE0.out] at hI ⊢; have HI2 := Lib.hid hI; have HB2 := Lib.hid hb; have HT2 := Lib.hid (HT.out.keepBut hk (by have := HBs.out; omega)); clear hI hb hk))
  clear HS HE0 HB1 HI1 HT HBe
  go_loopg [18] n0 (fun q s18 wx => ∃ (i : Nat) (s1 : ByteArray) (x1 : Bool) (Tk : Tr) (gn gd cn cd : Nat) (D : DataW Unit), i + q = n0 ∧ s18 = .int .i64 i ∧ Hid (TreeW wx B g gn gd mb cn cd D Tk) ∧ Hid (IsS56 W wx W.heap.size s1 x1) ∧ Hid (Below W.heap.size W wx) ∧ Hid (fromGo q i Tk s1 x1 = R) ∧ Hid (s1.size ≤ 9223372036854775807))
  case atStart => exact ⟨0, s0, b0, newT, gn, gd, cn, cd, _, by omega, rfl, HT2, HI2, HB2, HR, HS0⟩
  case round =>
    clear HR HS0 HT2 HI2 HB2
    obtain ⟨i, s1, x1, Tk, gn, gd, cn, cd, D, hiq, rfl, HT, HI, HB, HG, HS1⟩ := hrel
    by_cases hlt : i < n0
    · have d1 : decide ((i : Int) < (n0 : Int)) = true := by simp; omega
      obtain ⟨q, rfl⟩ : ∃ q, gk = q + 1 := ⟨gk - 1, by omega⟩
      obtain ⟨d, s2, x2, e1⟩ : ∃ a_ b_ c_, numP s1 x1 (i + 1) = (a_, b_, c_) := ⟨_, _, _, rfl⟩
      obtain ⟨k, s3, x3, e2⟩ : ∃ a_ b_ c_, numP s2 x2 120 = (a_, b_, c_) := ⟨_, _, _, rfl⟩
      obtain ⟨nm, s4, x4, e3⟩ : ∃ a_ b_ c_, textP s3 x3 k = (a_, b_, c_) := ⟨_, _, _, rfl⟩
      obtain ⟨ln, s5, x5, e4⟩ : ∃ a_ b_ c_, numP s4 x4 1048576 = (a_, b_, c_) := ⟨_, _, _, rfl⟩
      have l1 := numP_lt s1 x1 (i + 1)
      have l2 := numP_lt s2 x2 120
      have l3 := textP_le s3 x3 k
      have l4 := numP_lt s4 x4 1048576
      rw [e1] at l1
      rw [e2] at l2
      rw [e3] at l3
      rw [e4] at l4
      simp only at l1 l2 l3 l4
      have hss := HS1.out
      have HS2 := Lib.hid (show s2.size ≤ 9223372036854775807 by omega)
      have HS4 := Lib.hid (show s4.size ≤ 9223372036854775807 by omega)
      have HS5 := Lib.hid (show s5.size ≤ 9223372036854775807 by omega)
      have HNM := Lib.hid (show nm.size ≤ 9223372036854775807 by omega)
      have hg := HG.out
      unfold fromGo at hg
      rw [gotP_eq e1 e2 e3 e4] at hg
      simp only at hg
      have E1 := Lib.hid e1
      have E2 := Lib.hid e2
      have E3 := Lib.hid e3
      have E4 := Lib.hid e4
      have hd := l1.1
      have hk := l2.1
      have hl := l4.1
      clear e1 e2 e3 e4 l1 l2 l3 l4 hss HG
      cases x5 with
      | true =>
        rw [if_pos rfl] at hg
        subst hg
        go_wp2_with (go_at_call 19; (with_reducible refine (number_any (w0 := W) W.heap.size s1 x1 (i + 1) _ (by omega) HI.out HB.out HS1.out).mono ?_); rintro e w2 ⟨rfl, hI, hb, hk⟩; rw [E1.out] at hI ⊢; have HI2 := Lib.hid hI; have HB2 := Lib.hid hb; have HT2 := Lib.hid (HT.out.keepBut hk (by have := HBs.out; omega)); clear hI hb hk)
        go_wp2_with (first | (go_at_call 19; (with_reducible refine (number_any (w0 := W) W.heap.size s2 x2 120 120 (by omega) HI2.out HB2.out HS2.out).mono ?_); rintro e w3 ⟨rfl, hI, hb, hk⟩; rw [E2.out] at hI ⊢; have HI3 := Lib.hid hI; have HB3 := Lib.hid hb; have HT3 := Lib.hid (HT2.out.keepBut hk (by have := HBs.out; omega)); clear hI hb hk) | (go_at_call 20; (with_reducible refine (text_any (w0 := W) W.heap.size s3 x3 k HI3.out HB3.out).mono ?_); rintro e w4 ⟨rfl, hI, hb, hk⟩; rw [E3.out] at hI ⊢; have HI4 := Lib.hid hI; have HB4 := Lib.hid hb; have HT4 := Lib.hid (HT3.out.keepBut hk (by have := HBs.out; omega)); clear hI hb hk))
        go_wp2_with (go_at_call 19; (with_reducible refine (number_any (w0 := W) W.heap.size s4 x4 1048576 1048576 (by omega) HI4.out HB4.out HS4.out).mono ?_); rintro e w5 ⟨rfl, hI, hb, hk⟩; rw [E4.out] at hI ⊢; have hc5 := cellS56_1 hI.1; have HI5 := Lib.hid hI; have HB5 := Lib.hid hb; have HT5 := Lib.hid (HT4.out.keepBut hk (by have := HBs.out; omega)); clear hI hb hk)
        go_ret2
        exact ⟨HB5.out, rfl⟩
      | false =>
        rw [if_neg (by decide)] at hg
        obtain ⟨m, E, T2, hp⟩ : ∃ m E T2, pushT Tk ((i : Int) + 1 - (d : Int)) (nm, (ln : Int)) = ((m, E), T2) := ⟨_, _, _, rfl⟩
        have HP := Lib.hid hp
        rw [hp] at hg
        simp only at hg
        clear hp
        by_cases hE : E = 0
        · subst hE
          by_cases hm : m = (i : Int) + 1
          · subst hm
            rw [if_neg (by simp)] at hg
            have HG2 := Lib.hid hg
            clear hg
            go_wp2_with (go_at_call 19; (with_reducible refine (number_any (w0 := W) W.heap.size s1 x1 (i + 1) _ (by omega) HI.out HB.out HS1.out).mono ?_); rintro e w2 ⟨rfl, hI, hb, hk⟩; rw [E1.out] at hI ⊢; have HI2 := Lib.hid hI; have HB2 := Lib.hid hb; have HT2 := Lib.hid (HT.out.keepBut hk (by have := HBs.out; omega)); clear hI hb hk)
            go_wp2_with (first | (go_at_call 19; (with_reducible refine (number_any (w0 := W) W.heap.size s2 x2 120 120 (by omega) HI2.out HB2.out HS2.out).mono ?_); rintro e w3 ⟨rfl, hI, hb, hk⟩; rw [E2.out] at hI ⊢; have HI3 := Lib.hid hI; have HB3 := Lib.hid hb; have HT3 := Lib.hid (HT2.out.keepBut hk (by have := HBs.out; omega)); clear hI hb hk) | (go_at_call 20; (with_reducible refine (text_any (w0 := W) W.heap.size s3 x3 k HI3.out HB3.out).mono ?_); rintro e w4 ⟨rfl, hI, hb, hk⟩; rw [E3.out] at hI ⊢; have HI4 := Lib.hid hI; have HB4 := Lib.hid hb; have HT4 := Lib.hid (HT3.out.keepBut hk (by have := HBs.out; omega)); clear hI hb hk))
            go_wp2_with (go_at_call 19; (with_reducible refine (number_any (w0 := W) W.heap.size s4 x4 1048576 1048576 (by omega) HI4.out HB4.out HS4.out).mono ?_); rintro e w5 ⟨rfl, hI, hb, hk⟩; rw [E4.out] at hI ⊢; have hc5 := cellS56_1 hI.1; have HI5 := Lib.hid hI; have HB5 := Lib.hid hb; have HT5 := Lib.hid (HT4.out.keepBut hk (by have := HBs.out; omega)); clear hI hb hk)
            go_wp2_with (go_at_call 4; (with_reducible refine (Push_any (p := (nm, (ln : Int))) HT5.out ((i : Int) + 1 - (d : Int)) HNM.out (by have := HT5.out.lt; have := HT5.out.low; omega)).mono ?_); rintro e w6 ⟨gn2, gd2, cn2, cd2, D2, rfl, hT2, hb2, hk2⟩; rw [HP.out] at hT2 ⊢; have hlo := HT5.out.low; have hlt5 := HT5.out.lt; have hBs := HBs.out; have HI6 := Lib.hid (show IsS56 W w6 W.heap.size s5 false from ⟨((hk2 W.heap.size (by omega) (by omega) (by omega) (by omega) (by omega)).2).trans HI5.out.1, Nat.le_refl _⟩); have HT6 := Lib.hid hT2; have HB6 := Lib.hid (HB5.out.trans (hb2.mono (by omega))); clear hT2 hb2 hk2 hlo hlt5 hBs)
            go_roundg q
            case measure => omega
            case rel => exact ⟨i + 1, s5, false, T2, gn2, gd2, cn2, cd2, D2, by omega, by first | rfl | go_num, HT6, HI6, HB6, HG2, HS5⟩
          · have hme : (m != (i : Int) + 1) = true := by simpa using hm
            have hne : ¬ ((m, (0 : Int)) : Int × Int) = ((i : Int) + 1, 0) := fun h => hm (by rw [Prod.mk.injEq] at h; exact h.1)
            rw [if_pos hne] at hg
            subst hg
            clear hm hne
            go_wp2_with (go_at_call 19; (with_reducible refine (number_any (w0 := W) W.heap.size s1 x1 (i + 1) _ (by omega) HI.out HB.out HS1.out).mono ?_); rintro e w2 ⟨rfl, hI, hb, hk⟩; rw [E1.out] at hI ⊢; have HI2 := Lib.hid hI; have HB2 := Lib.hid hb; have HT2 := Lib.hid (HT.out.keepBut hk (by have := HBs.out; omega)); clear hI hb hk)
            go_wp2_with (first | (go_at_call 19; (with_reducible refine (number_any (w0 := W) W.heap.size s2 x2 120 120 (by omega) HI2.out HB2.out HS2.out).mono ?_); rintro e w3 ⟨rfl, hI, hb, hk⟩; rw [E2.out] at hI ⊢; have HI3 := Lib.hid hI; have HB3 := Lib.hid hb; have HT3 := Lib.hid (HT2.out.keepBut hk (by have := HBs.out; omega)); clear hI hb hk) | (go_at_call 20; (with_reducible refine (text_any (w0 := W) W.heap.size s3 x3 k HI3.out HB3.out).mono ?_); rintro e w4 ⟨rfl, hI, hb, hk⟩; rw [E3.out] at hI ⊢; have HI4 := Lib.hid hI; have HB4 := Lib.hid hb; have HT4 := Lib.hid (HT3.out.keepBut hk (by have := HBs.out; omega)); clear hI hb hk))
            go_wp2_with (go_at_call 19; (with_reducible refine (number_any (w0 := W) W.heap.size s4 x4 1048576 1048576 (by omega) HI4.out HB4.out HS4.out).mono ?_); rintro e w5 ⟨rfl, hI, hb, hk⟩; rw [E4.out] at hI ⊢; have hc5 := cellS56_1 hI.1; have HI5 := Lib.hid hI; have HB5 := Lib.hid hb; have HT5 := Lib.hid (HT4.out.keepBut hk (by have := HBs.out; omega)); clear hI hb hk)
            go_wp2_with (go_at_call 4; (with_reducible refine (Push_any (p := (nm, (ln : Int))) HT5.out ((i : Int) + 1 - (d : Int)) HNM.out (by have := HT5.out.lt; have := HT5.out.low; omega)).mono ?_); rintro e w6 ⟨gn2, gd2, cn2, cd2, D2, rfl, hT2, hb2, hk2⟩; rw [HP.out] at hT2 ⊢; have hlo := HT5.out.low; have hlt5 := HT5.out.lt; have hBs := HBs.out; have HI6 := Lib.hid (show IsS56 W w6 W.heap.size s5 false from ⟨((hk2 W.heap.size (by omega) (by omega) (by omega) (by omega) (by omega)).2).trans HI5.out.1, Nat.le_refl _⟩); have HT6 := Lib.hid hT2; have HB6 := Lib.hid (HB5.out.trans (hb2.mono (by omega))); clear hT2 hb2 hk2 hlo hlt5 hBs)
            go_ret2
            exact ⟨HB6.out, rfl⟩
        · have hEe : (E != 0) = true := by simpa using hE
          have hne : ¬ ((m, E) : Int × Int) = ((i : Int) + 1, 0) := fun h => hE (by rw [Prod.mk.injEq] at h; exact h.2)
          rw [if_pos hne] at hg
          subst hg
          clear hE hne
          go_wp2_with (go_at_call 19; (with_reducible refine (number_any (w0 := W) W.heap.size s1 x1 (i + 1) _ (by omega) HI.out HB.out HS1.out).mono ?_); rintro e w2 ⟨rfl, hI, hb, hk⟩; rw [E1.out] at hI ⊢; have HI2 := Lib.hid hI; have HB2 := Lib.hid hb; have HT2 := Lib.hid (HT.out.keepBut hk (by have := HBs.out; omega)); clear hI hb hk)
          go_wp2_with (first | (go_at_call 19; (with_reducible refine (number_any (w0 := W) W.heap.size s2 x2 120 120 (by omega) HI2.out HB2.out HS2.out).mono ?_); rintro e w3 ⟨rfl, hI, hb, hk⟩; rw [E2.out] at hI ⊢; have HI3 := Lib.hid hI; have HB3 := Lib.hid hb; have HT3 := Lib.hid (HT2.out.keepBut hk (by have := HBs.out; omega)); clear hI hb hk) | (go_at_call 20; (with_reducible refine (text_any (w0 := W) W.heap.size s3 x3 k HI3.out HB3.out).mono ?_); rintro e w4 ⟨rfl, hI, hb, hk⟩; rw [E3.out] at hI ⊢; have HI4 := Lib.hid hI; have HB4 := Lib.hid hb; have HT4 := Lib.hid (HT3.out.keepBut hk (by have := HBs.out; omega)); clear hI hb hk))
          go_wp2_with (go_at_call 19; (with_reducible refine (number_any (w0 := W) W.heap.size s4 x4 1048576 1048576 (by omega) HI4.out HB4.out HS4.out).mono ?_); rintro e w5 ⟨rfl, hI, hb, hk⟩; rw [E4.out] at hI ⊢; have hc5 := cellS56_1 hI.1; have HI5 := Lib.hid hI; have HB5 := Lib.hid hb; have HT5 := Lib.hid (HT4.out.keepBut hk (by have := HBs.out; omega)); clear hI hb hk)
          go_wp2_with (go_at_call 4; (with_reducible refine (Push_any (p := (nm, (ln : Int))) HT5.out ((i : Int) + 1 - (d : Int)) HNM.out (by have := HT5.out.lt; have := HT5.out.low; omega)).mono ?_); rintro e w6 ⟨gn2, gd2, cn2, cd2, D2, rfl, hT2, hb2, hk2⟩; rw [HP.out] at hT2 ⊢; have hlo := HT5.out.low; have hlt5 := HT5.out.lt; have hBs := HBs.out; have HI6 := Lib.hid (show IsS56 W w6 W.heap.size s5 false from ⟨((hk2 W.heap.size (by omega) (by omega) (by omega) (by omega) (by omega)).2).trans HI5.out.1, Nat.le_refl _⟩); have HT6 := Lib.hid hT2; have HB6 := Lib.hid (HB5.out.trans (hb2.mono (by omega))); clear hT2 hb2 hk2 hlo hlt5 hBs)
          go_ret2
          exact ⟨HB6.out, rfl⟩
    · obtain rfl : i = n0 := by omega
      obtain rfl : gk = 0 := by omega
      have d1 : decide ((i : Int) < (i : Int)) = false := by simp
      have hg := HG.out
      unfold fromGo at hg
      have hc0 := cellS56_0 HI.out.1
      have hc1 := cellS56_1 HI.out.1
      clear HG
      cases x1 with
      | true =>
        rw [Bool.true_or, if_pos rfl] at hg
        subst hg
        go_wp2
        go_ret2
        exact ⟨HB.out, rfl⟩
      | false =>
        rw [Bool.false_or] at hg
        by_cases hz : s1.size = 0
        · obtain rfl := size_zero hz
          rw [if_neg (by simp [hz])] at hg
          subst hg
          clear hz
          go_wp2
          go_ret2
          exact ⟨HB.out, g, rfl, gn, gd, mb, cn, cd, D, HT.out.lower (by have := HBs.out; omega)⟩
        · rw [if_pos (by simp [hz])] at hg
          subst hg
          have hz2 : (!s1.toList.isEmpty) = true := by
            rw [ByteArray.toList_eq]
            cases hl : s1.data.toList with
            | nil => exact absurd (by rw [← data_length, hl]; rfl) hz
            | cons a l => rfl
          go_wp2
          go_ret2
          exact ⟨HB.out, rfl⟩
end
end Go.Proofs.Ytmgfdcfbjgokgaa
