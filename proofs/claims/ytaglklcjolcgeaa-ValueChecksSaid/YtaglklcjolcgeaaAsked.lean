/- The walk of 'asked'. (Printed by genasked.py.) -/
import Derived.Test.YtaglklcjolcgeaaKept
import Derived.Test.YtaglklcjolcgeaaWLast
import Derived.Test.YtaglklcjolcgeaaWWords
namespace Go.Proofs.Ytaglklcjolcgeaa
open Go Go.RowKit Go.Proofs.YtaglklcjolcgeaaW.PrintWords Go.Proofs.YtaglklcjolcgeaaW.PrintLast
set_option linter.unusedVariables false
set_option linter.unusedSimpArgs false
attribute [local go_sem] run_store_float
/-- Four boxes. -/
structure Four (B : Nat) (A1 A2 A3 A4 : Array Value) (W : World) : Prop where
  f1 : ∀ j, W.cell? ⟨B, j, none⟩ = A1[j]?
  f2 : ∀ j, W.cell? ⟨B + 1, j, none⟩ = A2[j]?
  f3 : ∀ j, W.cell? ⟨B + 1 + 1, j, none⟩ = A3[j]?
  f4 : ∀ j, W.cell? ⟨B + 1 + 1 + 1, j, none⟩ = A4[j]?
  sz : B + 1 + 1 + 1 < W.heap.size
theorem Four.below {B : Nat} {A1 A2 A3 A4 : Array Value} {W W' : World} (h : Four B A1 A2 A3 A4 W) (hb : Below W.heap.size W W') : Four B A1 A2 A3 A4 W' :=
  have hs := h.sz
  ⟨fun j => (hb.cell (p := ⟨B, j, none⟩) (by show B < _; omega)).trans (h.f1 j), fun j => (hb.cell (p := ⟨B + 1, j, none⟩) (by show B + 1 < _; omega)).trans (h.f2 j), fun j => (hb.cell (p := ⟨B + 1 + 1, j, none⟩) (by show B + 1 + 1 < _; omega)).trans (h.f3 j), fun j => (hb.cell (p := ⟨B + 1 + 1 + 1, j, none⟩) (by show B + 1 + 1 + 1 < _; omega)).trans (h.f4 j), Nat.lt_of_lt_of_le hs hb.size⟩
theorem four_of (w : World) (A1 A2 A3 A4 : Array Value) : Four w.heap.size A1 A2 A3 A4 ((((w.alloc (.cells A1 25)).alloc (.cells A2 25)).alloc (.cells A3 25)).alloc (.cells A4 25)) := by
  have k1 := bb2 ((w.alloc (.cells A1 25)).alloc (.cells A2 25)) (.cells A3 25) (.cells A4 25)
  have h3 := two1 ((w.alloc (.cells A1 25)).alloc (.cells A2 25)) (.cells A3 25) (.cells A4 25)
  have h4 := two2 ((w.alloc (.cells A1 25)).alloc (.cells A2 25)) (.cells A3 25) (.cells A4 25)
  have hs : ((w.alloc (.cells A1 25)).alloc (.cells A2 25)).heap.size = w.heap.size + 1 + 1 := by simp
  rw [hs] at h3 h4
  exact ⟨box_keep (two1 w _ _) k1, box_keep (two2 w _ _) k1, box_all h3, box_all h4, by simp⟩
theorem four_below (w : World) (A B C D : Obj) : Below w.heap.size w ((((w.alloc A).alloc B).alloc C).alloc D) := bnew (bnew (bnew (bnew (Below.refl _ _) _) _) _) _
set_option maxRecDepth 100000 in
set_option maxHeartbeats 4000000 in
theorem asked_any (r r2 : Va) (hw1 : r.wf) (hw2 : r2.wf) (cx cy ca cb : List Value) (F1 F2 F3 F4 : List Nat) (w : World) (hx : r.tr.own 6 w cx F1) (hy : r2.tr.own 6 w cy F2) (ha : r.tr.own 6 w ca F3) (hb : r2.tr.own 6 w cb F4) :
    Calls Try.prog 6 #[.agg cx.toArray, .agg cy.toArray, .agg ca.toArray, .agg cb.toArray] w (LikeIs true w) := by
  obtain ⟨c0, c1, c2, c3, c4, c5, rfl⟩ := Va.shape hx
  obtain ⟨d0, d1, d2, d3, d4, d5, rfl⟩ := Va.shape hy
  obtain ⟨f0, f1, f2, f3, f4, f5, rfl⟩ := Va.shape ha
  obtain ⟨g0, g1, g2, g3, g4, g5, rfl⟩ := Va.shape hb
  have H1 : Hid (∀ W, Below w.heap.size w W → r.tr.own 6 W [c0, c1, c2, c3, c4, c5] F1) := fun W hW => Tr.own_below hx hW
  have H2 : Hid (∀ W, Below w.heap.size w W → r2.tr.own 6 W [d0, d1, d2, d3, d4, d5] F2) := fun W hW => Tr.own_below hy hW
  have H3 : Hid (∀ W, Below w.heap.size w W → r.tr.own 6 W [f0, f1, f2, f3, f4, f5] F3) := fun W hW => Tr.own_below ha hW
  have H4 : Hid (∀ W, Below w.heap.size w W → r2.tr.own 6 W [g0, g1, g2, g3, g4, g5] F4) := fun W hW => Tr.own_below hb hW
  have HW := Lib.hid (And.intro hw1 hw2)
  have HFour := Lib.hid (four_of w #[c0, c1, c2, c3, c4, c5] #[d0, d1, d2, d3, d4, d5] #[f0, f1, f2, f3, f4, f5] #[g0, g1, g2, g3, g4, g5])
  have HB0 := Lib.hid (four_below w (.cells #[c0, c1, c2, c3, c4, c5] 25) (.cells #[d0, d1, d2, d3, d4, d5] 25) (.cells #[f0, f1, f2, f3, f4, f5] 25) (.cells #[g0, g1, g2, g3, g4, g5] 25))
  clear hx hy ha hb hw1 hw2
  obtain ⟨C, hC⟩ : ∃ C : Int, (if r.okV = true then (0 : Int) else 20) = C := ⟨_, rfl⟩
  obtain ⟨S, hS⟩ : ∃ S : Int, (if (r.okV && r2.okV) = true then sameV r r2 else 0) = S := ⟨_, rfl⟩
  obtain ⟨E, hE⟩ : ∃ E : Int, (if (r.okV && r2.okV) = true then (0 : Int) else 20) = E := ⟨_, rfl⟩
  obtain ⟨V, hV⟩ : ∃ V : Int, (if (r.okV && r2.okV) = true then ordV r r2 else 0) = V := ⟨_, rfl⟩
  have hE2 : (if (r2.okV && r.okV) = true then (0 : Int) else 20) = E := by rw [Bool.and_comm]; exact hE
  have hV2 : (if (r2.okV && r.okV) = true then ordV r2 r else 0) = -V := by
    rw [← hV, Bool.and_comm, ordV_neg r r2]
    split
    · rfl
    · rfl
  have hbd : V = -1 ∨ V = 0 ∨ V = 1 := by
    rw [← hV]
    have := ordV_bd r r2
    split
    · omega
    · omega
  have HC := Lib.hid hC
  have HS := Lib.hid hS
  have HE := Lib.hid hE
  have HV := Lib.hid hV
  have HE2 := Lib.hid hE2
  have HV2 := Lib.hid hV2
  clear hC hS hE hV hE2 hV2
  rcases hbd with rfl | rfl | rfl
  all_goals
    go_enter Try.func6, Try.ntmps6
    go_wp2_with fail
    refine start_ (n := 5) (S := Four w.heap.size #[c0, c1, c2, c3, c4, c5] #[d0, d1, d2, d3, d4, d5] #[f0, f1, f2, f3, f4, f5] #[g0, g1, g2, g3, g4, g5]) (ds := []) #[false, false, false, false, false] (by kernel_rfl) rfl rfl (show Four _ _ _ _ _ (World.drew _) from ⟨HFour.out.f1, HFour.out.f2, HFour.out.f3, HFour.out.f4, HFour.out.sz⟩) (fun hHeld => ?_)
    have HB1 := Lib.hid (show Below w.heap.size w _ from HB0.out.drew)
    generalize World.drew _ = wd at hHeld HB1 ⊢
    refine take_ (i := 0) (N := some 19) (v := ?_) (a' := ?_) #[true, false, false, false, false] rfl rfl (by kernel_rfl) (fun _ _ _ h => h) (Or.inl ⟨by rfl, ?_⟩) hHeld ?_ ?_
    rotate_left
    · rintro w' ⟨s0, s1, s2, s3, s4⟩
      go_simp
      with_reducible rfl
    rotate_left
    · simp only [Act.put, List.setIfInBounds_toArray, List.set_cons_zero, List.set_cons_succ, i64_w, i32_w]
      rfl
    refine take_ (i := 2) (N := some 21) (v := ?_) (a' := ?_) #[true, false, true, false, false] rfl rfl (by kernel_rfl) (fun _ _ _ h => h) (Or.inl ⟨by rfl, ?_⟩) hHeld ?_ ?_
    rotate_left
    · rintro w' ⟨s0, s1, s2, s3, s4⟩
      go_simp
      with_reducible rfl
    rotate_left
    · simp only [Act.put, List.setIfInBounds_toArray, List.set_cons_zero, List.set_cons_succ, i64_w, i32_w]
      rfl
    refine one_ (i := 1) (N := some 20) #[true, true, true, false, false] rfl rfl (by kernel_rfl) (by decide) (fun K hK => ?_)
    refine goes_ Try.func16 (by kernel_rfl) (by kernel_rfl) #[.agg #[c0, c1, c2, c3, c4, c5]] (by rfl) rfl rfl (by (try simp only [List.map_toArray, List.map_cons, List.map_nil]); first | done | rfl) ?_
    refine (Check_any r [c0, c1, c2, c3, c4, c5] F1 _ (H1.out _ HB1.out) HW.out.1).mono ?_
    rintro e w2 ⟨rfl, hb⟩
    rw [HC.out]
    have HB2 := Lib.hid (bthen HB1.out hb)
    have hHeld2 := hHeld.below hb
    clear hb hHeld
    refine ⟨_, rfl, ?_⟩
    refine hK.out _ _ hHeld2 (fun hHeld => ?_)
    clear hK K hHeld2
    refine norm_ (a' := ?_) ?_ ?_
    rotate_left
    · show Act.put _ (some 20) _ = _
      simp only [Act.put, List.setIfInBounds_toArray, List.set_cons_zero, List.set_cons_succ, i64_w, i32_w]
      rfl
    refine one_ (i := 3) (N := some 22) #[true, true, true, true, false] rfl rfl (by kernel_rfl) (by decide) (fun K hK => ?_)
    refine goes_ Try.func14 (by kernel_rfl) (by kernel_rfl) #[.agg #[f0, f1, f2, f3, f4, f5]] (by rfl) rfl rfl (by (try simp only [List.map_toArray, List.map_cons, List.map_nil]); first | done | rfl) ?_
    refine (rCheck_any r [f0, f1, f2, f3, f4, f5] F3 _ (H3.out _ HB2.out)).mono ?_
    rintro e w3 ⟨rfl, hb⟩
    rw [HC.out]
    have HB3 := Lib.hid (bthen HB2.out hb)
    have hHeld2 := hHeld.below hb
    clear hb hHeld
    refine ⟨_, rfl, ?_⟩
    refine hK.out _ _ hHeld2 (fun hHeld => ?_)
    clear hK K hHeld2
    refine norm_ (a' := ?_) ?_ ?_
    rotate_left
    · show Act.put _ (some 22) _ = _
      simp only [Act.put, List.setIfInBounds_toArray, List.set_cons_zero, List.set_cons_succ, i64_w, i32_w]
      rfl
    refine pure_ (i := 4) (N := some 23) (v := ?_) (a' := ?_) #[true, true, true, true, true] rfl rfl (by kernel_rfl) (fun _ _ _ h => h) (Or.inl ⟨by rfl, ?_⟩) ?_ ?_
    rotate_left
    · intro w'
      go_simp
      with_reducible rfl
    rotate_left
    · simp only [Act.put, List.setIfInBounds_toArray, List.set_cons_zero, List.set_cons_succ, i64_w, i32_w]
      rfl
    refine done_ (by kernel_rfl) ?_
    have j1 := hHeld.f1
    have j2 := hHeld.f2
    have j3 := hHeld.f3
    have j4 := hHeld.f4
    have HFa := Lib.hid hHeld
    clear hHeld
    go_wp2_with (first | (go_at_call 17; (with_reducible refine (rSame_any r r2 [f0, f1, f2, f3, f4, f5] [g0, g1, g2, g3, g4, g5] F3 F4 _ (H3.out _ HB3.out) (H4.out _ HB3.out)).mono ?_); rintro e w4 ⟨rfl, hb⟩; rw [HS.out, HE.out]; have HB4 := Lib.hid (bthen HB3.out hb); have HFb := Lib.hid (HFa.out.below hb); clear hb j1 j2 j3 j4; have j1 := HFb.out.f1; have j2 := HFb.out.f2; have j3 := HFb.out.f3; have j4 := HFb.out.f4) | (go_at_call 18; (with_reducible refine (Same_any r r2 [c0, c1, c2, c3, c4, c5] [d0, d1, d2, d3, d4, d5] F1 F2 _ (H1.out _ HB4.out) (H2.out _ HB4.out) HW.out.1 HW.out.2).mono ?_); rintro e w5 ⟨rfl, hb⟩; rw [HS.out, HE.out]; have HB5 := Lib.hid (bthen HB4.out hb); have HFc := Lib.hid (HFb.out.below hb); clear hb j1 j2 j3 j4; have j1 := HFc.out.f1; have j2 := HFc.out.f2; have j3 := HFc.out.f3; have j4 := HFc.out.f4) | (go_at_call 19; (with_reducible refine (rCompare_any r r2 [f0, f1, f2, f3, f4, f5] [g0, g1, g2, g3, g4, g5] F3 F4 _ (H3.out _ HB5.out) (H4.out _ HB5.out) HW.out.1 HW.out.2).mono ?_); rintro e w6 ⟨rfl, hb⟩; rw [HV.out, HE.out]; have HB6 := Lib.hid (bthen HB5.out hb); have HFd := Lib.hid (HFc.out.below hb); clear hb j1 j2 j3 j4; have j1 := HFd.out.f1; have j2 := HFd.out.f2; have j3 := HFd.out.f3; have j4 := HFd.out.f4) | (go_at_call 20; (with_reducible refine (Compare_any r r2 [c0, c1, c2, c3, c4, c5] [d0, d1, d2, d3, d4, d5] F1 F2 _ (H1.out _ HB6.out) (H2.out _ HB6.out) HW.out.1 HW.out.2).mono ?_); rintro e w7 ⟨rfl, hb⟩; rw [HV.out, HE.out]; have HB7 := Lib.hid (bthen HB6.out hb); have HFe := Lib.hid (HFd.out.below hb); clear hb j1 j2 j3 j4; have j1 := HFe.out.f1; have j2 := HFe.out.f2; have j3 := HFe.out.f3; have j4 := HFe.out.f4) | (go_at_call 20; (with_reducible refine (Compare_any r2 r [d0, d1, d2, d3, d4, d5] [c0, c1, c2, c3, c4, c5] F2 F1 _ (H2.out _ HB7.out) (H1.out _ HB7.out) HW.out.2 HW.out.1).mono ?_); rintro e w8 ⟨rfl, hb⟩; rw [HV2.out, HE2.out]; have HB8 := Lib.hid (bthen HB7.out hb); have HFf := Lib.hid (HFe.out.below hb); clear hb j1 j2 j3 j4; have j1 := HFf.out.f1; have j2 := HFf.out.f2; have j3 := HFf.out.f3; have j4 := HFf.out.f4))
    go_ret
    exact ⟨rfl, HB8.out⟩
end Go.Proofs.Ytaglklcjolcgeaa
