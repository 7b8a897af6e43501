/- The walks of 'like' and 'kept'. The walk of 'asked'. (Printed by genasked.py.) -/
import Derived.Test.YtaglklcjolcgeaaOwnR
import Derived.Test.YtaglklcjolcgeaaWLast
import Derived.Test.YtaglklcjolcgeaaWWords
namespace Go.Proofs.Ytaglklcjolcgeaa
open Go Go.RowKit Go.Proofs.YtaglklcjolcgeaaW.PrintWords Go.Proofs.YtaglklcjolcgeaaW.PrintLast
set_option linter.unusedVariables false
set_option linter.unusedSimpArgs false
attribute [local go_sem] run_store_float
set_option maxRecDepth 100000 in
set_option maxHeartbeats 1000000 in
theorem like_any (r r2 : Va) (o1 : r.okV = true) (o2 : r2.okV = true) (c c2 : List Value) (F F2 : List Nat) (w : World) (hr : r.tr.own 6 w c F) (hr2 : r2.tr.own 6 w c2 F2) (h1 : r.wf) (h2 : r2.wf) :
    Calls Try.prog 12 #[.agg c.toArray, .agg c2.toArray] w (LikeIs (likeB r r2) w) := by
  obtain ⟨v0, v1, v2, v3, v4, v5, rfl⟩ := Va.shape hr
  obtain ⟨x0, x1, x2, x3, x4, x5, rfl⟩ := Va.shape hr2
  have HR : Hid (∀ W, Below w.heap.size w W → r.tr.own 6 W [v0, v1, v2, v3, v4, v5] F) := fun W hW => Tr.own_below hr hW
  have HR2 : Hid (∀ W, Below w.heap.size w W → r2.tr.own 6 W [x0, x1, x2, x3, x4, x5] F2) := fun W hW => Tr.own_below hr2 hW
  have HB := Lib.hid (bb2 w (.cells #[v0, v1, v2, v3, v4, v5] 25) (.cells #[x0, x1, x2, x3, x4, x5] 25))
  have HW := Lib.hid (And.intro h1 h2)
  have O1 := Lib.hid o1
  have O2 := Lib.hid o2
  clear hr hr2 h1 h2 o1 o2
  go_enter Try.func12, Try.ntmps12
  go_wp2_with (first | (go_at_call 14; (with_reducible refine (rCheck_any r [v0, v1, v2, v3, v4, v5] F _ (HR.out _ HB.out)).mono ?_); rintro e w1 ⟨rfl, hb1⟩; rw [ok_ite O1.out]; have j1 := box_keep (two1 w _ _) hb1; have j2 := box_keep (two2 w _ _) hb1) | (go_at_call 14; (with_reducible refine (rCheck_any r2 [x0, x1, x2, x3, x4, x5] F2 _ (HR2.out _ (bthen HB.out hb1))).mono ?_); rintro e w2 ⟨rfl, hb2⟩; rw [ok_ite O2.out]; clear j1 j2; have j1 := box_keep2 (two1 w _ _) hb1 hb2; have j2 := box_keep2 (two2 w _ _) hb1 hb2) | (go_at_call 26; (with_reducible refine (Like_any r r2 [v0, v1, v2, v3, v4, v5] [x0, x1, x2, x3, x4, x5] F F2 _ (HR.out _ (bthen (bthen HB.out hb1) hb2)) (HR2.out _ (bthen (bthen HB.out hb1) hb2)) HW.out.1 HW.out.2).mono ?_); rintro e w3 ⟨rfl, hb3⟩))
  go_ret
  exact ⟨rfl, bthen (bthen (bthen HB.out hb1) hb2) hb3⟩
theorem likeB_self (r : Va) : likeB r r = true := by unfold likeB; rw [ordV_self]; simp
theorem mark_ok (k : Nat) : (markV k).okV = true := by
  unfold markV Va.okV Va.cnt okB Va.cnts
  simp
  have e : ({ data := #[] } : ByteArray) = ByteArray.empty := rfl
  rw [if_pos e]
  omega
theorem mark_wf (k : Nat) (hk : k ≤ 1000) : (markV k).wf := by
  unfold markV Va.wf Va.wfs
  refine ⟨by omega, by omega, by omega, by omega, by omega, by omega, trivial⟩
theorem kept_bad (r : Va) (ho : r.okV = false) (c c2 : List Value) (F2 : List Nat) (w : World) (hc : c.length = 6) (hr2 : r.tr.own 6 w c2 F2) : Calls Try.prog 7 #[.agg c.toArray, .agg c2.toArray] w (LikeIs true w) := by
  obtain ⟨v0, v1, v2, v3, v4, v5, rfl⟩ : ∃ v0 v1 v2 v3 v4 v5, c = [v0, v1, v2, v3, v4, v5] := by
    match c, hc with
    | [v0, v1, v2, v3, v4, v5], _ => exact ⟨_, _, _, _, _, _, rfl⟩
  obtain ⟨x0, x1, x2, x3, x4, x5, rfl⟩ := Va.shape hr2
  have HR2 : Hid (∀ W, Below w.heap.size w W → r.tr.own 6 W [x0, x1, x2, x3, x4, x5] F2) := fun W hW => Tr.own_below hr2 hW
  have HB := Lib.hid (bb2 w (.cells #[v0, v1, v2, v3, v4, v5] 25) (.cells #[x0, x1, x2, x3, x4, x5] 25))
  have HO := Lib.hid ho
  clear hr2 ho
  go_enter Try.func7, Try.ntmps7
  go_wp2_with (go_at_call 14; (with_reducible refine (rCheck_any r [x0, x1, x2, x3, x4, x5] F2 _ (HR2.out _ HB.out)).mono ?_); rintro e w1 ⟨rfl, hb1⟩; rw [bad_ite HO.out])
  go_ret
  exact ⟨rfl, bthen HB.out hb1⟩
/-- What the region at a mark reads. -/
structure MarkAt (B b o : Nat) (l v0 v1 v2 v3 v4 v5 : Value) (W : World) : Prop where
  k5 : W.cell? ⟨B + 1, 5, none⟩ = some l
  c0 : W.cell? ⟨b, o, none⟩ = some v0
  c1 : W.cell? ⟨b, o + 1, none⟩ = some v1
  c2 : W.cell? ⟨b, o + 2, none⟩ = some v2
  c3 : W.cell? ⟨b, o + 3, none⟩ = some v3
  c4 : W.cell? ⟨b, o + 4, none⟩ = some v4
  c5 : W.cell? ⟨b, o + 5, none⟩ = some v5
theorem MarkAt.below {B b o : Nat} {l v0 v1 v2 v3 v4 v5 : Value} {W W' : World} (h : MarkAt B b o l v0 v1 v2 v3 v4 v5 W) (hb : Below W.heap.size W W') : MarkAt B b o l v0 v1 v2 v3 v4 v5 W' :=
  have k : ∀ {p v}, W.cell? p = some v → W'.cell? p = some v := fun {p v} hv => (hb.cell (World.block_lt_of_cell? W p hv)).trans hv
  ⟨k h.k5, k h.c0, k h.c1, k h.c2, k h.c3, k h.c4, k h.c5⟩
set_option maxRecDepth 100000 in
set_option maxHeartbeats 4000000 in
theorem kept_N (N : Nat) : ∀ (r : Va) (_ : r.size ≤ N) (_ : r.okV = true) (_ : r.wf) (c c2 : List Value) (F F2 : List Nat) (w : World) (_ : r.ltr.own 6 w c F) (_ : r.tr.own 6 w c2 F2),
    Calls Try.prog 7 #[.agg c.toArray, .agg c2.toArray] w (LikeIs true w) := by
  induction N with
  | zero => intro r hN; have := r.size_pos; omega
  | succ N ih =>
  intro r hN ho hwf c c2 F F2 w hr hr2
  have HR : Hid (∀ W, Below w.heap.size w W → r.tr.own 6 W c F) := fun W hW => Va.own_ltr r c F (Tr.own_below hr hW)
  have HR2 : Hid (∀ W, Below w.heap.size w W → r.tr.own 6 W c2 F2) := fun W hW => Tr.own_below hr2 hW
  obtain ⟨kd, n, x, y, s, rs⟩ := r
  obtain ⟨a, cap, rfl, hcap, hcap', hc⟩ := Va.openL hr
  obtain ⟨a2, cap2, rfl, hcap2, hcap2', hc2⟩ := Va.open hr2
  clear hr hr2
  have HO := Lib.hid ho
  have HWF := Lib.hid hwf
  unfold Va.wf at hwf
  have HWS := Lib.hid hwf.2.2.2.2.2.2
  have HOK := Lib.hid (fun k hk => Va.ok_kid ho k hk)
  have hsz := Va.ok_size ho
  clear ho hwf
  unfold Va.size at hN hsz
  have hlen := Va.sizes_len rs
  have IH := Lib.hid ih
  have HLS := Lib.hid (likeB_self (Va.mk kd n x y s rs))
  clear ih
  have HB := Lib.hid (bb2 w (.cells #[.int .u8 kd, .int .i64 n, .float .f64 x, .float .f64 y, .string s, .slice a rs.length cap] 25) (.cells #[.int .u8 kd, .int .i64 n, .float .f64 x, .float .f64 y, .string s, .slice a2 rs.length cap2] 25))
  by_cases hemp : rs.length = 0
  · have hi : ((rs.length : Int) == 0) = true := by rw [hemp]; rfl
    clear hemp
    go_enter Try.func7, Try.ntmps7
    go_wp2_with (first | (go_at_call 14; (with_reducible refine (rCheck_any (Va.mk kd n x y s rs) [.int .u8 kd, .int .i64 n, .float .f64 x, .float .f64 y, .string s, .slice a2 rs.length cap2] F2 _ (HR2.out _ HB.out)).mono ?_); rintro e w1 ⟨rfl, hb1⟩; rw [ok_ite HO.out]; have j1 := box_keep (two1 w _ _) hb1; have j2 := box_keep (two2 w _ _) hb1) | (go_at_call 12; (with_reducible refine (like_any (Va.mk kd n x y s rs) (Va.mk kd n x y s rs) HO.out HO.out [.int .u8 kd, .int .i64 n, .float .f64 x, .float .f64 y, .string s, .slice a rs.length cap] [.int .u8 kd, .int .i64 n, .float .f64 x, .float .f64 y, .string s, .slice a2 rs.length cap2] F F2 _ (HR.out _ (bthen HB.out hb1)) (HR2.out _ (bthen HB.out hb1)) HWF.out HWF.out).mono ?_); rintro e w2 ⟨rfl, hb2⟩; rw [HLS.out]; clear j1 j2; have j1 := box_keep2 (two1 w _ _) hb1 hb2; have j2 := box_keep2 (two2 w _ _) hb1 hb2))
    go_ret
    exact ⟨rfl, bthen (bthen HB.out hb1) hb2⟩
  have hi : ((rs.length : Int) == 0) = false := beq_eq_false_iff_ne.2 (by omega)
  rcases hc with ⟨h0, _⟩ | ⟨_, hcap20, b, o, cs, cm, F', rfl, rfl, hra, hkl, hml⟩
  · exact absurd h0 hemp
  rcases hc2 with ⟨h0, _⟩ | ⟨_, b2, o2, cs2, F2', rfl, rfl, hra2, hkl2⟩
  · exact absurd h0 hemp
  have hcl : cs.length = rs.length * 6 := by rw [Tr.ownL_len hkl, Va.ltrs_len]
  have hbl : b < w.heap.size := rangeAt_lt hra (by rw [List.length_append, hcl]; omega)
  have hbl2 : b2 < w.heap.size := rangeAt_lt hra2 (by rw [Tr.ownL_len hkl2, Va.trs_len]; omega)
  have HKL : Hid (∀ W, Below w.heap.size w W → W.rangeAt b o cs ∧ W.rangeAt b (o + rs.length * 6) cm ∧ Tr.ownL 6 W (Va.ltrs rs) cs F' ∧ Tr.ownL 6 W (Va.trs (marks 20)) cm [] ∧ W.rangeAt b2 o2 cs2 ∧ Tr.ownL 6 W (Va.trs rs) cs2 F2') := fun W hW => by
    have h := rangeAt_of_block hra (hW.block b hbl)
    have h2 := rangeAt_right h
    rw [hcl] at h2
    exact ⟨rangeAt_left h, h2, Tr.ownL_below hkl hW, Tr.ownL_same _ _ _ (fun i hi => by simp at hi) hml, rangeAt_of_block hra2 (hW.block b2 hbl2), Tr.ownL_below hkl2 hW⟩
  clear hra hkl hml hra2 hkl2 hcl hbl hbl2 hemp
  have hc63 : ((rs.length : Int) + 20) ≤ (cap : Int) := by omega
  go_enter Try.func7, Try.ntmps7
  go_wp2_with (first | (go_at_call 14; (with_reducible refine (rCheck_any (Va.mk kd n x y s rs) [.int .u8 kd, .int .i64 n, .float .f64 x, .float .f64 y, .string s, .slice (some ⟨b2, o2, none⟩) rs.length cap2] (b2 :: F2') _ (HR2.out _ HB.out)).mono ?_); rintro e w1 ⟨rfl, hb1⟩; rw [ok_ite HO.out]; have j1 := box_keep (two1 w _ _) hb1; have j2 := box_keep (two2 w _ _) hb1) | (go_at_call 12; (with_reducible refine (like_any (Va.mk kd n x y s rs) (Va.mk kd n x y s rs) HO.out HO.out [.int .u8 kd, .int .i64 n, .float .f64 x, .float .f64 y, .string s, .slice (some ⟨b, o, none⟩) rs.length cap] [.int .u8 kd, .int .i64 n, .float .f64 x, .float .f64 y, .string s, .slice (some ⟨b2, o2, none⟩) rs.length cap2] (b :: F') (b2 :: F2') _ (HR.out _ (bthen HB.out hb1)) (HR2.out _ (bthen HB.out hb1)) HWF.out HWF.out).mono ?_); rintro e w2 ⟨rfl, hb2⟩; rw [HLS.out]; clear j1 j2; have j1 := box_keep2 (two1 w _ _) hb1 hb2; have j2 := box_keep2 (two2 w _ _) hb1 hb2; have HB2 := Lib.hid (bthen (bthen HB.out hb1) hb2); have HT2 := Lib.hid (two_below (two_below (two_of w #[.int .u8 kd, .int .i64 n, .float .f64 x, .float .f64 y, .string s, .slice (some ⟨b, o, none⟩) rs.length cap] #[.int .u8 kd, .int .i64 n, .float .f64 x, .float .f64 y, .string s, .slice (some ⟨b2, o2, none⟩) rs.length cap2]) hb1) hb2); clear hb1 hb2))
  clear j1 j2
  go_loopw [6] (fun u6 wr => ∃ m : Nat, m ≤ 20 ∧ u6 = .int .i64 m ∧ Hid (Below w.heap.size w wr) ∧ Hid (Two w.heap.size #[.int .u8 kd, .int .i64 n, .float .f64 x, .float .f64 y, .string s, .slice (some ⟨b, o, none⟩) rs.length cap] #[.int .u8 kd, .int .i64 n, .float .f64 x, .float .f64 y, .string s, .slice (some ⟨b2, o2, none⟩) rs.length cap2] wr)) (fun u6 _ => 20 - (intOf u6).toNat)
  case atStart => exact ⟨0, by omega, rfl, HB2, HT2⟩
  case round =>
    clear HB2 HT2
    obtain ⟨m, hm, rfl, hb, ht⟩ := hrel
    by_cases hlt : m < 20
    · obtain ⟨g1, g2, g3, g4, g5, g6⟩ := HKL.out _ hb.out
      obtain ⟨v0, v1, v2, v3, v4, v5, Fa, F1, Fb, hF1, hkid, c0, c1, c2, c3, c4, c5⟩ := Va.kid m (by rw [marks_len]; exact hlt) g4 g2
      have hmk : (marks 20)[m]'(by rw [marks_len]; exact hlt) = markV m := by simp [marks]
      rw [hmk] at hkid
      have e : o + rs.length * 6 + m * 6 = o + ((rs.length : Int) + (m : Int)).toNat * 6 := by omega
      rw [e] at c0 c1 c2 c3 c4 c5
      have HKID := Lib.hid (fun W (hW : Below wr.heap.size wr W) => Tr.own_below hkid hW)
      clear g1 g2 g3 g4 g5 g6 hF1 hkid hmk e
      have hri : (0:Int) ≤ (rs.length : Int) + (m : Int) := by omega
      have hri2 : (rs.length : Int) + (m : Int) < (rs.length : Int) + 20 := by omega
      have hW64 : Hid (wrap64 ((rs.length : Int) + (m : Int)) = (rs.length : Int) + (m : Int)) := by show _ = _; unfold wrap64; omega
      have s2 := ht.out.2.1 5
      have s2' : wr.cell? ⟨w.heap.size + 1, 5, none⟩ = some (.slice (some ⟨b2, o2, none⟩) rs.length cap2) := s2.trans rfl
      clear s2
      have HML := Lib.hid (likeB_self (markV m))
      have HWL : Hid (Below wr.heap.size wr wr.drew) := ⟨rfl, rfl, rfl, Nat.le_refl _, fun _ _ => rfl⟩
      go_wp2_with fail
      refine start_ (n := 12) (S := MarkAt w.heap.size b (o + ((rs.length : Int) + (m : Int)).toNat * 6) (.slice (some ⟨b2, o2, none⟩) rs.length cap2) v0 v1 v2 v3 v4 v5) (ds := []) #[false, false, false, false, false, false, false, false, false, false, false, false] (by kernel_rfl) rfl rfl (⟨s2', c0, c1, c2, c3, c4, c5⟩ : MarkAt _ _ _ _ _ _ _ _ _ _ wr.drew) (fun hHeld => ?_)
      have HB1 := Lib.hid (show Below wr.heap.size wr wr.drew from HWL.out)
      generalize World.drew _ = wd at hHeld HB1 ⊢
      refine pure_ (i := 0) (N := some 30) (v := ?_) (a' := ?_) #[true, false, false, false, false, false, false, false, false, false, false, false] rfl rfl (by kernel_rfl) (fun _ _ _ h => h) (Or.inl ⟨by rfl, ?_⟩) ?_ ?_
      rotate_left
      · intro w'
        go_simp
        with_reducible rfl
      rotate_left
      · simp only [Act.put, List.setIfInBounds_toArray, List.set_cons_zero, List.set_cons_succ, i64_w, i32_w]
        rfl
      refine pure_ (i := 1) (N := some 31) (v := ?_) (a' := ?_) #[true, true, false, false, false, false, false, false, false, false, false, false] rfl rfl (by kernel_rfl) (fun _ _ _ h => h) (Or.inl ⟨by rfl, ?_⟩) ?_ ?_
      rotate_left
      · intro w'
        go_simp
        with_reducible rfl
      rotate_left
      · simp only [Act.put, List.setIfInBounds_toArray, List.set_cons_zero, List.set_cons_succ, i64_w, i32_w]
        rfl
      refine take_ (i := 2) (N := some 32) (v := ?_) (a' := ?_) #[true, true, true, false, false, false, false, false, false, false, false, false] rfl rfl (by kernel_rfl) (fun _ _ _ h => h) (Or.inl ⟨by rfl, ?_⟩) hHeld ?_ ?_
      rotate_left
      · rintro w' ⟨s0, s1, s2, s3, s4, s5, s6⟩
        go_simp
        with_reducible rfl
      rotate_left
      · simp only [Act.put, List.setIfInBounds_toArray, List.set_cons_zero, List.set_cons_succ, i64_w, i32_w]
        rfl
      refine pure_ (i := 3) (N := some 33) (v := ?_) (a' := ?_) #[true, true, true, true, false, false, false, false, false, false, false, false] rfl rfl (by kernel_rfl) (fun _ _ _ h => h) (Or.inl ⟨by rfl, ?_⟩) ?_ ?_
      rotate_left
      · intro w'
        go_simp
        with_reducible rfl
      rotate_left
      · simp only [Act.put, List.setIfInBounds_toArray, List.set_cons_zero, List.set_cons_succ, i64_w, i32_w]
        rfl
      refine pure_ (i := 4) (N := some 34) (v := ?_) (a' := ?_) #[true, true, true, true, true, false, false, false, false, false, false, false] rfl rfl (by kernel_rfl) (fun _ _ _ h => h) (Or.inl ⟨by rfl, ?_⟩) ?_ ?_
      rotate_left
      · intro w'
        go_simp
        with_reducible rfl
      rotate_left
      · simp only [Act.put, List.setIfInBounds_toArray, List.set_cons_zero, List.set_cons_succ, i64_w, i32_w]
        rfl
      refine pure_ (i := 5) (N := some 35) (v := ?_) (a' := ?_) #[true, true, true, true, true, true, false, false, false, false, false, false] rfl rfl (by kernel_rfl) (fun _ _ _ h => h) (Or.inl ⟨by rfl, ?_⟩) ?_ ?_
      rotate_left
      · intro w'
        go_simp
        with_reducible rfl
      rotate_left
      · simp only [Act.put, List.setIfInBounds_toArray, List.set_cons_zero, List.set_cons_succ, i64_w, i32_w]
        rfl
      have hwr2 : wrap64 ((rs.length : Int) + (m : Int)) = (rs.length : Int) + (m : Int) := hW64.out
      rw [hwr2]
      clear hwr2
      refine pure_ (i := 6) (N := some 36) (v := ?_) (a' := ?_) #[true, true, true, true, true, true, true, false, false, false, false, false] rfl rfl (by kernel_rfl) (fun _ _ _ h => h) (Or.inl ⟨by rfl, ?_⟩) ?_ ?_
      rotate_left
      · intro w'
        go_simp
        with_reducible rfl
      rotate_left
      · simp only [Act.put, List.setIfInBounds_toArray, List.set_cons_zero, List.set_cons_succ, i64_w, i32_w]
        rfl
      refine take_ (i := 7) (N := some 37) (v := ?_) (a' := ?_) #[true, true, true, true, true, true, true, true, false, false, false, false] rfl rfl (by kernel_rfl) (fun _ _ _ h => h) (Or.inl ⟨by rfl, ?_⟩) hHeld ?_ ?_
      rotate_left
      · rintro w' ⟨s0, s1, s2, s3, s4, s5, s6⟩
        go_simp
        with_reducible rfl
      rotate_left
      · simp only [Act.put, List.setIfInBounds_toArray, List.set_cons_zero, List.set_cons_succ, i64_w, i32_w]
        rfl
      refine pure_ (i := 8) (N := some 38) (v := ?_) (a' := ?_) #[true, true, true, true, true, true, true, true, true, false, false, false] rfl rfl (by kernel_rfl) (fun _ _ _ h => h) (Or.inl ⟨by rfl, ?_⟩) ?_ ?_
      rotate_left
      · intro w'
        go_simp
        with_reducible rfl
      rotate_left
      · simp only [Act.put, List.setIfInBounds_toArray, List.set_cons_zero, List.set_cons_succ, i64_w, i32_w]
        rfl
      refine one_ (i := 9) (N := some 39) #[true, true, true, true, true, true, true, true, true, true, false, false] rfl rfl (by kernel_rfl) (by decide) (fun K hK => ?_)
      refine goes_ Try.func15 (by kernel_rfl) (by kernel_rfl) #[.int .i64 m] (by rfl) rfl rfl (by (try simp only [List.map_toArray, List.map_cons, List.map_nil]); first | done | rfl) ?_
      refine (mark_any m (by omega) _).mono ?_
      rintro e w3 ⟨rfl, hb⟩
      have HB3 := Lib.hid (bthen HB1.out hb)
      have hHeld2 := hHeld.below hb
      clear hb hHeld
      refine ⟨_, rfl, ?_⟩
      refine hK.out _ _ hHeld2 (fun hHeld => ?_)
      clear hK K hHeld2
      refine norm_ (a' := ?_) ?_ ?_
      rotate_left
      · show Act.put _ (some 39) _ = _
        simp only [Act.put, List.setIfInBounds_toArray, List.set_cons_zero, List.set_cons_succ, i64_w, i32_w]
        rfl
      refine one_ (i := 10) (N := some 40) #[true, true, true, true, true, true, true, true, true, true, true, false] rfl rfl (by kernel_rfl) (by decide) (fun K hK => ?_)
      refine goes_ Try.func12 (by kernel_rfl) (by kernel_rfl) #[.agg #[v0, v1, v2, v3, v4, v5], .agg #[.int .u8 2, .int .i64 (900 + (m : Int)), .float .f64 0, .float .f64 0, .string ⟨#[]⟩, .slice none 0 0]] (by rfl) rfl rfl (by (try simp only [List.map_toArray, List.map_cons, List.map_nil]); first | done | rfl) ?_
      refine (like_any (markV m) (markV m) (mark_ok m) (mark_ok m) [v0, v1, v2, v3, v4, v5] [.int .u8 2, .int .i64 (900 + (m : Int)), .float .f64 0, .float .f64 0, .string ⟨#[]⟩, .slice none 0 0] F1 [] _ (HKID.out _ HB3.out) (mark_own m _) (mark_wf m (by omega)) (mark_wf m (by omega))).mono ?_
      rintro e w4 ⟨rfl, hb⟩
      rw [HML.out]
      have HB4 := Lib.hid (bthen HB3.out hb)
      have hHeld2 := hHeld.below hb
      clear hb hHeld
      refine ⟨_, rfl, ?_⟩
      refine hK.out _ _ hHeld2 (fun hHeld => ?_)
      clear hK K hHeld2
      refine norm_ (a' := ?_) ?_ ?_
      rotate_left
      · show Act.put _ (some 40) _ = _
        simp only [Act.put, List.setIfInBounds_toArray, List.set_cons_zero, List.set_cons_succ, i64_w, i32_w]
        rfl
      refine pure_ (i := 11) (N := some 41) (v := ?_) (a' := ?_) #[true, true, true, true, true, true, true, true, true, true, true, true] rfl rfl (by kernel_rfl) (fun _ _ _ h => h) (Or.inl ⟨by rfl, ?_⟩) ?_ ?_
      rotate_left
      · intro w'
        go_simp
        with_reducible rfl
      rotate_left
      · simp only [Act.put, List.setIfInBounds_toArray, List.set_cons_zero, List.set_cons_succ, i64_w, i32_w]
        rfl
      refine done_ (by kernel_rfl) ?_
      go_wp2_with fail
      go_roundw
      case rel => exact ⟨m + 1, by omega, by go_num, bthen hb.out HB4.out, two_below ht.out HB4.out⟩
      case measure => simp [intOf]; omega
    · obtain rfl : m = 20 := by omega
      have s2' : wr.cell? ⟨w.heap.size + 1, 5, none⟩ = some (.slice (some ⟨b2, o2, none⟩) rs.length cap2) := (ht.out.2.1 5).trans rfl
      go_wp2_with fail
      go_loopw [4, 7] (fun u4 u7 wq => ∃ k : Nat, k ≤ rs.length ∧ u7 = .int .i64 k ∧ Hid (Below w.heap.size w wq) ∧ Hid (Two w.heap.size #[.int .u8 kd, .int .i64 n, .float .f64 x, .float .f64 y, .string s, .slice (some ⟨b, o, none⟩) rs.length cap] #[.int .u8 kd, .int .i64 n, .float .f64 x, .float .f64 y, .string s, .slice (some ⟨b2, o2, none⟩) rs.length cap2] wq)) (fun _ u7 _ => rs.length - (intOf u7).toNat)
      case atStart => exact ⟨0, by omega, rfl, hb, ht⟩
      case round =>
        clear hb ht s2'
        obtain ⟨k, hk, rfl, hb, ht⟩ := hrel
        have s1' : wr.cell? ⟨w.heap.size, 5, none⟩ = some (.slice (some ⟨b, o, none⟩) rs.length cap) := (ht.out.1 5).trans rfl
        have s2' : wr.cell? ⟨w.heap.size + 1, 5, none⟩ = some (.slice (some ⟨b2, o2, none⟩) rs.length cap2) := (ht.out.2.1 5).trans rfl
        by_cases hlt2 : k < rs.length
        · obtain ⟨g1, g2, g3, g4, g5, g6⟩ := HKL.out _ hb.out
          obtain ⟨c, Fa, F1, Fb, r1, r2, r3, _⟩ := Tr.ownL_at b o k (by rw [Va.ltrs_len]; exact hlt2) g3 g1
          have hlk : (Va.ltrs rs)[k]'(by rw [Va.ltrs_len]; exact hlt2) = rs[k].ltr := by simp [Va.ltrs_eq]
          rw [hlk] at r3
          obtain ⟨v0, v1, v2, v3, v4, v5, rfl⟩ := Va.shapeL r3
          obtain ⟨x0, x1, x2, x3, x4, x5, Fc, F3, Fd, hF2, hkid2, d0, d1, d2, d3, d4, d5⟩ := Va.kid k hlt2 g6 g5
          have c0 : wr.cell? ⟨b, o + k * 6, none⟩ = some v0 := r1 0 _ rfl
          have c1 : wr.cell? ⟨b, o + k * 6 + 1, none⟩ = some v1 := r1 1 _ rfl
          have c2 : wr.cell? ⟨b, o + k * 6 + 2, none⟩ = some v2 := r1 2 _ rfl
          have c3 : wr.cell? ⟨b, o + k * 6 + 3, none⟩ = some v3 := r1 3 _ rfl
          have c4 : wr.cell? ⟨b, o + k * 6 + 4, none⟩ = some v4 := r1 4 _ rfl
          have c5 : wr.cell? ⟨b, o + k * 6 + 5, none⟩ = some v5 := r1 5 _ rfl
          have HKID := Lib.hid (And.intro (Tr.own_drew r3) (Tr.own_drew hkid2))
          have HZ := Va.sizes_at rs k hlt2
          have hri : (0:Int) ≤ (k:Int) := by omega
          have hri2 : (k:Int) < (rs.length:Int) := by omega
          clear g1 g2 g3 g4 g5 g6 r1 r2 r3 hF2 hkid2 hlk
          go_wp2_with fail
          go_still_tail 10, (by kernel_rfl)
          change wpList _ _ _ _ _ wr.drew
          go_wp2_with (go_at_call 7; refine (IH.out rs[k] (by omega) (HOK.out k hlt2) (Va.wfs_at rs k hlt2 HWS.out) [v0, v1, v2, v3, v4, v5] [x0, x1, x2, x3, x4, x5] F1 F3 _ HKID.out.1 HKID.out.2).mono ?_; rintro e w3 ⟨rfl, hb3⟩; have HB3 := Lib.hid (below_of_drew (w := wr) hb3); clear hb3)
          go_roundw
          case rel =>
            exact ⟨_, _, _, _, _, _, _, _, _, _, _, _, _, _, _, _, _, _, _, _, _, ⟨k + 1, by omega, by go_num, bthen hb.out HB3.out, two_below ht.out HB3.out⟩, rfl⟩
          case measure => simp [intOf]; omega
        · have hd : decide ((k : Int) < (rs.length : Int)) = false := decide_eq_false (by omega)
          go_wp2_with fail
          go_ret
          exact ⟨rfl, hb.out⟩
end Go.Proofs.Ytaglklcjolcgeaa
namespace Go.Proofs.Ytaglklcjolcgeaa
open Go Go.RowKit Go.Proofs.YtaglklcjolcgeaaW.PrintWords Go.Proofs.YtaglklcjolcgeaaW.PrintLast
set_option linter.unusedVariables false
set_option linter.unusedSimpArgs false
attribute [local go_sem] run_store_float
/-- Four boxes. -/
structure Four (B : Nat) (A1 A2 A3 A4 : Array Value) (W : World) : Prop where
  f1 : ∀ j, W.cell? ⟨B, j, none⟩ = A1[j]?
  f2 : ∀ j, W.cell? ⟨B + 1, j, none⟩ = A2[j]?
  f3 : ∀ j, W.cell? ⟨B + 1 + 1, j, none⟩ = A3[j]?
  f4 : ∀ j, W.cell? ⟨B + 1 + 1 + 1, j, none⟩ = A4[j]?
  sz : B + 1 + 1 + 1 < W.heap.size
theorem Four.below {B : Nat} {A1 A2 A3 A4 : Array Value} {W W' : World} (h : Four B A1 A2 A3 A4 W) (hb : Below W.heap.size W W') : Four B A1 A2 A3 A4 W' :=
  have hs := h.sz
  ⟨fun j => (hb.cell (p := ⟨B, j, none⟩) (by show B < _; omega)).trans (h.f1 j), fun j => (hb.cell (p := ⟨B + 1, j, none⟩) (by show B + 1 < _; omega)).trans (h.f2 j), fun j => (hb.cell (p := ⟨B + 1 + 1, j, none⟩) (by show B + 1 + 1 < _; omega)).trans (h.f3 j), fun j => (hb.cell (p := ⟨B + 1 + 1 + 1, j, none⟩) (by show B + 1 + 1 + 1 < _; omega)).trans (h.f4 j), Nat.lt_of_lt_of_le hs hb.size⟩
theorem four_of (w : World) (A1 A2 A3 A4 : Array Value) : Four w.heap.size A1 A2 A3 A4 ((((w.alloc (.cells A1 25)).alloc (.cells A2 25)).alloc (.cells A3 25)).alloc (.cells A4 25)) := by
  have k1 := bb2 ((w.alloc (.cells A1 25)).alloc (.cells A2 25)) (.cells A3 25) (.cells A4 25)
  have h3 := two1 ((w.alloc (.cells A1 25)).alloc (.cells A2 25)) (.cells A3 25) (.cells A4 25)
  have h4 := two2 ((w.alloc (.cells A1 25)).alloc (.cells A2 25)) (.cells A3 25) (.cells A4 25)
  have hs : ((w.alloc (.cells A1 25)).alloc (.cells A2 25)).heap.size = w.heap.size + 1 + 1 := by simp
  rw [hs] at h3 h4
  exact ⟨box_keep (two1 w _ _) k1, box_keep (two2 w _ _) k1, box_all h3, box_all h4, by simp⟩
theorem four_below (w : World) (A B C D : Obj) : Below w.heap.size w ((((w.alloc A).alloc B).alloc C).alloc D) := bnew (bnew (bnew (bnew (Below.refl _ _) _) _) _) _
set_option maxRecDepth 100000 in
set_option maxHeartbeats 4000000 in
theorem asked_any (r r2 : Va) (hw1 : r.wf) (hw2 : r2.wf) (cx cy ca cb : List Value) (F1 F2 F3 F4 : List Nat) (w : World) (hx : r.tr.own 6 w cx F1) (hy : r2.tr.own 6 w cy F2) (ha : r.tr.own 6 w ca F3) (hb : r2.tr.own 6 w cb F4) :
    Calls Try.prog 6 #[.agg cx.toArray, .agg cy.toArray, .agg ca.toArray, .agg cb.toArray] w (LikeIs true w) := by
  obtain ⟨c0, c1, c2, c3, c4, c5, rfl⟩ := Va.shape hx
  obtain ⟨d0, d1, d2, d3, d4, d5, rfl⟩ := Va.shape hy
  obtain ⟨f0, f1, f2, f3, f4, f5, rfl⟩ := Va.shape ha
  obtain ⟨g0, g1, g2, g3, g4, g5, rfl⟩ := Va.shape hb
  have H1 : Hid (∀ W, Below w.heap.size w W → r.tr.own 6 W [c0, c1, c2, c3, c4, c5] F1) := fun W hW => Tr.own_below hx hW
  have H2 : Hid (∀ W, Below w.heap.size w W → r2.tr.own 6 W [d0, d1, d2, d3, d4, d5] F2) := fun W hW => Tr.own_below hy hW
  have H3 : Hid (∀ W, Below w.heap.size w W → r.tr.own 6 W [f0, f1, f2, f3, f4, f5] F3) := fun W hW => Tr.own_below ha hW
  have H4 : Hid (∀ W, Below w.heap.size w W → r2.tr.own 6 W [g0, g1, g2, g3, g4, g5] F4) := fun W hW => Tr.own_below hb hW
  have HW := Lib.hid (And.intro hw1 hw2)
  have HFour := Lib.hid (four_of w #[c0, c1, c2, c3, c4, c5] #[d0, d1, d2, d3, d4, d5] #[f0, f1, f2, f3, f4, f5] #[g0, g1, g2, g3, g4, g5])
  have HB0 := Lib.hid (four_below w (.cells #[c0, c1, c2, c3, c4, c5] 25) (.cells #[d0, d1, d2, d3, d4, d5] 25) (.cells #[f0, f1, f2, f3, f4, f5] 25) (.cells #[g0, g1, g2, g3, g4, g5] 25))
  clear hx hy ha hb hw1 hw2
  obtain ⟨C, hC⟩ : ∃ C : Int, (if r.okV = true then (0 : Int) else 20) = C := ⟨_, rfl⟩
  obtain ⟨S, hS⟩ : ∃ S : Int, (if (r.okV && r2.okV) = true then sameV r r2 else 0) = S := ⟨_, rfl⟩
  obtain ⟨E, hE⟩ : ∃ E : Int, (if (r.okV && r2.okV) = true then (0 : Int) else 20) = E := ⟨_, rfl⟩
  obtain ⟨V, hV⟩ : ∃ V : Int, (if (r.okV && r2.okV) = true then ordV r r2 else 0) = V := ⟨_, rfl⟩
  have hE2 : (if (r2.okV && r.okV) = true then (0 : Int) else 20) = E := by rw [Bool.and_comm]; exact hE
  have hV2 : (if (r2.okV && r.okV) = true then ordV r2 r else 0) = -V := by
    rw [← hV, Bool.and_comm, ordV_neg r r2]
    split
    · rfl
    · rfl
  have hbd : V = -1 ∨ V = 0 ∨ V = 1 := by
    rw [← hV]
    have := ordV_bd r r2
    split
    · omega
    · omega
  have HC := Lib.hid hC
  have HS := Lib.hid hS
  have HE := Lib.hid hE
  have HV := Lib.hid hV
  have HE2 := Lib.hid hE2
  have HV2 := Lib.hid hV2
  clear hC hS hE hV hE2 hV2
  rcases hbd with rfl | rfl | rfl
  all_goals
    go_enter Try.func6, Try.ntmps6
    go_wp2_with fail
    refine start_ (n := 5) (S := Four w.heap.size #[c0, c1, c2, c3, c4, c5] #[d0, d1, d2, d3, d4, d5] #[f0, f1, f2, f3, f4, f5] #[g0, g1, g2, g3, g4, g5]) (ds := []) #[false, false, false, false, false] (by kernel_rfl) rfl rfl (show Four _ _ _ _ _ (World.drew _) from ⟨HFour.out.f1, HFour.out.f2, HFour.out.f3, HFour.out.f4, HFour.out.sz⟩) (fun hHeld => ?_)
    have HB1 := Lib.hid (show Below w.heap.size w _ from HB0.out.drew)
    generalize World.drew _ = wd at hHeld HB1 ⊢
    refine take_ (i := 0) (N := some 19) (v := ?_) (a' := ?_) #[true, false, false, false, false] rfl rfl (by kernel_rfl) (fun _ _ _ h => h) (Or.inl ⟨by rfl, ?_⟩) hHeld ?_ ?_
    rotate_left
    · rintro w' ⟨s0, s1, s2, s3, s4⟩
      go_simp
      with_reducible rfl
    rotate_left
    · simp only [Act.put, List.setIfInBounds_toArray, List.set_cons_zero, List.set_cons_succ, i64_w, i32_w]
      rfl
    refine take_ (i := 2) (N := some 21) (v := ?_) (a' := ?_) #[true, false, true, false, false] rfl rfl (by kernel_rfl) (fun _ _ _ h => h) (Or.inl ⟨by rfl, ?_⟩) hHeld ?_ ?_
    rotate_left
    · rintro w' ⟨s0, s1, s2, s3, s4⟩
      go_simp
      with_reducible rfl
    rotate_left
    · simp only [Act.put, List.setIfInBounds_toArray, List.set_cons_zero, List.set_cons_succ, i64_w, i32_w]
      rfl
    refine one_ (i := 1) (N := some 20) #[true, true, true, false, false] rfl rfl (by kernel_rfl) (by decide) (fun K hK => ?_)
    refine goes_ Try.func16 (by kernel_rfl) (by kernel_rfl) #[.agg #[c0, c1, c2, c3, c4, c5]] (by rfl) rfl rfl (by (try simp only [List.map_toArray, List.map_cons, List.map_nil]); first | done | rfl) ?_
    refine (Check_any r [c0, c1, c2, c3, c4, c5] F1 _ (H1.out _ HB1.out) HW.out.1).mono ?_
    rintro e w2 ⟨rfl, hb⟩
    rw [HC.out]
    have HB2 := Lib.hid (bthen HB1.out hb)
    have hHeld2 := hHeld.below hb
    clear hb hHeld
    refine ⟨_, rfl, ?_⟩
    refine hK.out _ _ hHeld2 (fun hHeld => ?_)
    clear hK K hHeld2
    refine norm_ (a' := ?_) ?_ ?_
    rotate_left
    · show Act.put _ (some 20) _ = _
      simp only [Act.put, List.setIfInBounds_toArray, List.set_cons_zero, List.set_cons_succ, i64_w, i32_w]
      rfl
    refine one_ (i := 3) (N := some 22) #[true, true, true, true, false] rfl rfl (by kernel_rfl) (by decide) (fun K hK => ?_)
    refine goes_ Try.func14 (by kernel_rfl) (by kernel_rfl) #[.agg #[f0, f1, f2, f3, f4, f5]] (by rfl) rfl rfl (by (try simp only [List.map_toArray, List.map_cons, List.map_nil]); first | done | rfl) ?_
    refine (rCheck_any r [f0, f1, f2, f3, f4, f5] F3 _ (H3.out _ HB2.out)).mono ?_
    rintro e w3 ⟨rfl, hb⟩
    rw [HC.out]
    have HB3 := Lib.hid (bthen HB2.out hb)
    have hHeld2 := hHeld.below hb
    clear hb hHeld
    refine ⟨_, rfl, ?_⟩
    refine hK.out _ _ hHeld2 (fun hHeld => ?_)
    clear hK K hHeld2
    refine norm_ (a' := ?_) ?_ ?_
    rotate_left
    · show Act.put _ (some 22) _ = _
      simp only [Act.put, List.setIfInBounds_toArray, List.set_cons_zero, List.set_cons_succ, i64_w, i32_w]
      rfl
    refine pure_ (i := 4) (N := some 23) (v := ?_) (a' := ?_) #[true, true, true, true, true] rfl rfl (by kernel_rfl) (fun _ _ _ h => h) (Or.inl ⟨by rfl, ?_⟩) ?_ ?_
    rotate_left
    · intro w'
      go_simp
      with_reducible rfl
    rotate_left
    · simp only [Act.put, List.setIfInBounds_toArray, List.set_cons_zero, List.set_cons_succ, i64_w, i32_w]
      rfl
    refine done_ (by kernel_rfl) ?_
    have j1 := hHeld.f1
    have j2 := hHeld.f2
    have j3 := hHeld.f3
    have j4 := hHeld.f4
    have HFa := Lib.hid hHeld
    clear hHeld
    go_wp2_with (first | (go_at_call 17; (with_reducible refine (rSame_any r r2 [f0, f1, f2, f3, f4, f5] [g0, g1, g2, g3, g4, g5] F3 F4 _ (H3.out _ HB3.out) (H4.out _ HB3.out)).mono ?_); rintro e w4 ⟨rfl, hb⟩; rw [HS.out, HE.out]; have HB4 := Lib.hid (bthen HB3.out hb); have HFb := Lib.hid (HFa.out.below hb); clear hb j1 j2 j3 j4; have j1 := HFb.out.f1; have j2 := HFb.out.f2; have j3 := HFb.out.f3; have j4 := HFb.out.f4) | (go_at_call 18; (with_reducible refine (Same_any r r2 [c0, c1, c2, c3, c4, c5] [d0, d1, d2, d3, d4, d5] F1 F2 _ (H1.out _ HB4.out) (H2.out _ HB4.out) HW.out.1 HW.out.2).mono ?_); rintro e w5 ⟨rfl, hb⟩; rw [HS.out, HE.out]; have HB5 := Lib.hid (bthen HB4.out hb); have HFc := Lib.hid (HFb.out.below hb); clear hb j1 j2 j3 j4; have j1 := HFc.out.f1; have j2 := HFc.out.f2; have j3 := HFc.out.f3; have j4 := HFc.out.f4) | (go_at_call 19; (with_reducible refine (rCompare_any r r2 [f0, f1, f2, f3, f4, f5] [g0, g1, g2, g3, g4, g5] F3 F4 _ (H3.out _ HB5.out) (H4.out _ HB5.out) HW.out.1 HW.out.2).mono ?_); rintro e w6 ⟨rfl, hb⟩; rw [HV.out, HE.out]; have HB6 := Lib.hid (bthen HB5.out hb); have HFd := Lib.hid (HFc.out.below hb); clear hb j1 j2 j3 j4; have j1 := HFd.out.f1; have j2 := HFd.out.f2; have j3 := HFd.out.f3; have j4 := HFd.out.f4) | (go_at_call 20; (with_reducible refine (Compare_any r r2 [c0, c1, c2, c3, c4, c5] [d0, d1, d2, d3, d4, d5] F1 F2 _ (H1.out _ HB6.out) (H2.out _ HB6.out) HW.out.1 HW.out.2).mono ?_); rintro e w7 ⟨rfl, hb⟩; rw [HV.out, HE.out]; have HB7 := Lib.hid (bthen HB6.out hb); have HFe := Lib.hid (HFd.out.below hb); clear hb j1 j2 j3 j4; have j1 := HFe.out.f1; have j2 := HFe.out.f2; have j3 := HFe.out.f3; have j4 := HFe.out.f4) | (go_at_call 20; (with_reducible refine (Compare_any r2 r [d0, d1, d2, d3, d4, d5] [c0, c1, c2, c3, c4, c5] F2 F1 _ (H2.out _ HB7.out) (H1.out _ HB7.out) HW.out.2 HW.out.1).mono ?_); rintro e w8 ⟨rfl, hb⟩; rw [HV2.out, HE2.out]; have HB8 := Lib.hid (bthen HB7.out hb); have HFf := Lib.hid (HFe.out.below hb); clear hb j1 j2 j3 j4; have j1 := HFf.out.f1; have j2 := HFf.out.f2; have j3 := HFf.out.f3; have j4 := HFf.out.f4))
    go_ret
    exact ⟨rfl, HB8.out⟩
end Go.Proofs.Ytaglklcjolcgeaa
