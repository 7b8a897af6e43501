/- The walk of 'lent'. -/
import Derived.Test.YtbbpngoffpegbaaGreatDoorTwin
namespace Go.Proofs.YtbbpngoffpegbaaGreatDoor
open Go.RowKit
set_option linter.unusedVariables false
set_option linter.unusedSimpArgs false
attribute [local go_sem] run_store_float
/-- What 'lent' gives. -/
def GivesL (r : Va) (w : World) (e : Ending) (w' : World) : Prop := ∃ v0 v1 v2 v3 v4 v5 F, e = .returned (.agg #[v0, v1, v2, v3, v4, v5]) ∧ r.ltr.own 6 w' [v0, v1, v2, v3, v4, v5] F ∧ Apart w.heap.size F ∧ Soft w' F ∧ Below w.heap.size w w'
def LentIs (r : Va) (c : List Value) (w : World) (e : Ending) (w' : World) : Prop := (r.okV = false ∧ e = .returned (.agg c.toArray) ∧ Below w.heap.size w w') ∨ (r.okV = true ∧ GivesL r w e w')
theorem ltr_nil (kd n : Int) (x y : Nat) (s : ByteArray) : (Va.mk kd n x y s []).ltr = (Va.mk kd n x y s []).tr := by simp [Va.ltr, Va.tr, Va.trs]
theorem marks_take (m : Nat) : Va.trs (marks (m + 1)) = Va.trs (marks m) ++ [(markV m).tr] := by
  rw [marks_succ, Va.trs_eq, Va.trs_eq, List.map_append]
  rfl
set_option maxRecDepth 100000 in
set_option maxHeartbeats 2000000 in
theorem lent_N (N : Nat) : ∀ (r : Va) (_ : r.size ≤ N) (c : List Value) (F : List Nat) (w : World) (_ : r.tr.own 6 w c F),
    Calls Tryz.prog 9 #[.agg c.toArray] w (LentIs r c w) := by
  induction N with
  | zero => intro r hN; have := r.size_pos; omega
  | succ N ih =>
  intro r hN c F w hr
  have HR := Lib.hid (fun A B => Tr.own_below hr (bb2 w A B))
  have HR0 := Lib.hid hr
  have hok := fun h => Va.ok_kid (kd := r.kd) (n := 0) (x := 0) (y := 0) (s := ⟨#[]⟩) (rs := []) h
  clear hok
  obtain ⟨kd, n, x, y, s, rs⟩ := r
  obtain ⟨a, cap, rfl, hcap, hcap', hc⟩ := Va.open hr
  clear hr
  cases ho : (Va.mk kd n x y s rs).okV
  · have HO := Lib.hid ho
    clear ho
    go_enter Tryz.func9, Tryz.ntmps9
    go_wp2_with (first | (go_at_call 10; (with_reducible refine (rCheck_any (Va.mk kd n x y s rs) [.int .u8 kd, .int .i64 n, .float .f64 x, .float .f64 y, .string s, .slice a rs.length cap] F _ (HR.out _ _)).mono ?_); rintro e w1 ⟨rfl, hb1⟩; rw [bad_ite HO.out]; have j1 := box_keep (two1 w _ _) hb1; have HB1 := Lib.hid (hb1.block (w.heap.size + 1) (by simp)); have HB2 := Lib.hid hb1; clear hb1) | (refine wpList_store_rowTo (by rfl) 25 _ _ (by rfl) (by rfl) (w.heap.size + 1) #[.int .u8 kd, .int .i64 n, .float .f64 x, .float .f64 y, .string s, .slice a rs.length cap] (by rfl) (by rfl) 25 zero6 (HB1.out.trans (two2 w _ _)) (by kernel_rfl) (by kernel_rfl) (all_oneCell_toArray (cs := [.int .u8 kd, .int .i64 n, .float .f64 x, .float .f64 y, .string s, .slice a rs.length cap]) (by simp [Value.oneCell'])) ?_))
    refine bodyPost_ret (v := .agg #[.int .u8 kd, .int .i64 n, .float .f64 x, .float .f64 y, .string s, .slice a rs.length cap]) (results_cell_row rfl _ _ (w.heap.size + 1) 25 _ (0, 0) _ rfl (setRow_heap _ _ _ _ _ _ (HB1.out.trans (two2 w _ _))) Tryz.underlying25 rfl (by kernel_rfl)) rfl ?_
    exact .inl ⟨HO.out, rfl, (bthen (bb2 w _ _) HB2.out).trans ⟨rfl, rfl, rfl, by simp, fun i hi => setRow_other _ _ _ _ (by omega)⟩⟩
  by_cases hemp : rs.length = 0
  · have HO := Lib.hid ho
    have hi : ((rs.length : Int) == 0) = true := by rw [hemp]; rfl
    have HEM := Lib.hid hemp
    have HRR : Hid (∀ W, Below w.heap.size w W → F = [] ∧ (Va.mk kd n x y s rs).ltr.own 6 W [.int .u8 kd, .int .i64 n, .float .f64 x, .float .f64 y, .string s, .slice a rs.length cap] []) := fun W hW => by
      have h1 := Tr.own_below HR0.out hW
      obtain rfl := List.eq_nil_of_length_eq_zero HEM.out
      have h2 : F = [] := by
        rcases hc with h | h
        · exact h.2
        · have := h.1; simp at this
      rw [ltr_nil]
      rw [h2] at h1
      exact ⟨h2, h1⟩
    clear ho hemp
    go_enter Tryz.func9, Tryz.ntmps9
    go_wp2_with (first | (go_at_call 10; (with_reducible refine (rCheck_any (Va.mk kd n x y s rs) [.int .u8 kd, .int .i64 n, .float .f64 x, .float .f64 y, .string s, .slice a rs.length cap] F _ (HR.out _ _)).mono ?_); rintro e w1 ⟨rfl, hb1⟩; rw [ok_ite HO.out]; have j1 := box_keep (two1 w _ _) hb1; have HB1 := Lib.hid (hb1.block (w.heap.size + 1) (by simp)); have HB2 := Lib.hid hb1; clear hb1) | (refine wpList_store_rowTo (by rfl) 25 _ _ (by rfl) (by rfl) (w.heap.size + 1) #[.int .u8 kd, .int .i64 n, .float .f64 x, .float .f64 y, .string s, .slice a rs.length cap] (by rfl) (by rfl) 25 zero6 (HB1.out.trans (two2 w _ _)) (by kernel_rfl) (by kernel_rfl) (all_oneCell_toArray (cs := [.int .u8 kd, .int .i64 n, .float .f64 x, .float .f64 y, .string s, .slice a rs.length cap]) (by simp [Value.oneCell'])) ?_))
    refine bodyPost_ret (v := .agg #[.int .u8 kd, .int .i64 n, .float .f64 x, .float .f64 y, .string s, .slice a rs.length cap]) (results_cell_row rfl _ _ (w.heap.size + 1) 25 _ (0, 0) _ rfl (setRow_heap _ _ _ _ _ _ (HB1.out.trans (two2 w _ _))) Tryz.underlying25 rfl (by kernel_rfl)) rfl ?_
    have hbe : Below w.heap.size w (w1.setRow (w.heap.size + 1) #[.int .u8 kd, .int .i64 n, .float .f64 x, .float .f64 y, .string s, .slice a rs.length cap]) := (bthen (bb2 w _ _) HB2.out).trans ⟨rfl, rfl, rfl, by simp, fun i hi => setRow_other _ _ _ _ (by omega)⟩
    exact .inr ⟨HO.out, _, _, _, _, _, _, [], rfl, (HRR.out _ hbe).2, Apart.nil _, Soft.nil _, hbe⟩
  have hemi : ((rs.length : Int) == 0) = false := beq_eq_false_iff_ne.2 (by omega)
  have HO := Lib.hid ho
  have HOK := Lib.hid (fun k hk => Va.ok_kid ho k hk)
  have hsz := Va.ok_size ho
  clear ho
  unfold Va.size at hN hsz
  have hlen := Va.sizes_len rs
  have IH := Lib.hid ih
  clear ih
  obtain ⟨i0, hi0, hz0, hz1, hz2⟩ := info_parts info_tV
  go_enter Tryz.func9, Tryz.ntmps9
  go_wp2_with (go_at_call 10; (with_reducible refine (rCheck_any (Va.mk kd n x y s rs) [.int .u8 kd, .int .i64 n, .float .f64 x, .float .f64 y, .string s, .slice a rs.length cap] F _ (HR.out _ _)).mono ?_); rintro e w1 ⟨rfl, hb1⟩; rw [ok_ite HO.out]; have j5 : w1.cell? ⟨w.heap.size, 5, none⟩ = some (.slice a rs.length cap) := (box_keep (two1 w _ _) hb1 5).trans rfl; have HB0 := Lib.hid (hb1.block w.heap.size (by simp; omega)); have HB1 := Lib.hid (hb1.block (w.heap.size + 1) (by simp)); have HB2 := Lib.hid hb1; clear hb1)
  go_loopw [3, 4] (fun u3 u4 wr => ∃ (k : Nat) (v : Value) (xs : List Value) (G : List Nat), k ≤ rs.length ∧ u4 = .int .i64 k ∧ u3 = v ∧ Hid (Kids 6 25 (w.heap.size + 2) wr v (Va.ltrs (rs.take k)) xs G) ∧ Below w.heap.size w wr ∧ w.heap.size + 2 ≤ wr.heap.size ∧
      wr.cell? ⟨w.heap.size, 5, none⟩ = some (.slice a rs.length cap) ∧
      Hid (wr.heap[w.heap.size]? = some (.cells #[.int .u8 kd, .int .i64 n, .float .f64 x, .float .f64 y, .string s, .slice a rs.length cap] 25 (0, 0))) ∧ Hid (wr.heap[w.heap.size + 1]? = some (.cells zero6 25 (0, 0)))) (fun _ u4 _ => rs.length - (intOf u4).toNat)
  case atStart =>
    have hs := HB2.out.size
    have h0 := HB0.out.trans (two1 w _ _)
    exact ⟨0, .slice none 0 0, [], [], by omega, rfl, rfl, Lib.hid (by simpa [Va.ltrs] using Kids.nil 6 25 _ _), bthen (bb2 w _ _) HB2.out, by simp at hs; omega, (box_all h0 5).trans rfl, h0, HB1.out.trans (two2 w _ _)⟩
  case round =>
    clear HB0 HB1 HB2 j5
    obtain ⟨k, v, xs, G, hk, rfl, rfl, HK, hb, hz, hcell, HE0, HE1⟩ := hrel
    by_cases hlt : k < rs.length
    · rcases hc with ⟨h0, _⟩ | ⟨_, b, o, cs, F', rfl, rfl, hra, hkl⟩
      · omega
      have hbl : b < w.heap.size := rangeAt_lt hra (by rw [Tr.ownL_len hkl, Va.trs_len]; omega)
      have hkl' := Tr.ownL_same _ _ _ (fun i hi => hb.block i (Tr.ownL_lt _ _ _ hkl i hi)) hkl
      obtain ⟨v0, v1, v2, v3, v4, v5, Fa, F1, Fb, hF, hkid, c0, c1, c2, c3, c4, c5⟩ := Va.kid k hlt hkl' (rangeAt_of_block hra (hb.block b hbl))
      have HKID := Lib.hid hkid
      have HS := Va.sizes_at rs k hlt
      have hri : (0:Int) ≤ (k:Int) := by omega
      have hri2 : (k:Int) < (rs.length:Int) := by omega
      clear hra hkl hkl' hF hkid
      go_wp2_with (first | (go_at_call 9; refine (IH.out rs[k] (by omega) [v0, v1, v2, v3, v4, v5] F1 _ HKID.out).mono ?_; rintro e w1 (⟨hno, _⟩ | ⟨_, x0, x1, x2, x3, x4, x5, G1, rfl, hown1, hap1, hso1, hb1⟩); (have hh := HOK.out k hlt; rw [hh] at hno; cases hno); have H1 := Lib.hid (And.intro hown1 (And.intro hap1 (And.intro hso1 hb1))); clear hown1 hap1 hso1 hb1) | (refine wpList_push (wr := wr) (w1 := w1) (by rfl) _ _ _ (by rfl) (w.heap.size + 2) 25 i0 _ 6 72 Tryz.underlying23 hi0 hz0 hz1 hz2 rfl (by omega) _ _ xs G (by rfl) HK.out (by simpa using hz) H1.out.2.2.2 rs[k].ltr [x0, x1, x2, x3, x4, x5] G1 H1.out.1 H1.out.2.1 H1.out.2.2.1 (by rfl) (by rw [Va.ltrs_len, List.length_take]; omega) (by omega) ?_; intro g3 cap3 w3 hk3 hg3 hbg hlt3))
      go_roundw
      case rel =>
        have hs1 := H1.out.2.2.2.size
        have hs3 := hg3.size
        have hblk : ∀ i, i < w.heap.size + 2 → w3.heap[i]? = wr.heap[i]? := fun i hi => (far_block hg3 HK.out.block i hi (by omega)).trans (H1.out.2.2.2.block i (by omega))
        refine ⟨k + 1, _, xs ++ [x0, x1, x2, x3, x4, x5], G ++ G1, by omega, by go_num, rfl, ?_, ?_, by omega, (World.cell?_of_block (w := wr) (a := ⟨w.heap.size, 5, none⟩) (hblk w.heap.size (by omega))).trans hcell, (hblk _ (by omega)).trans HE0.out, (hblk _ (by omega)).trans HE1.out⟩
        · rw [Va.ltrs_take rs k hlt]
          exact hk3
        · exact hb.trans ⟨hg3.os.trans H1.out.2.2.2.os, hg3.tape.trans H1.out.2.2.2.tape, hg3.output.trans H1.out.2.2.2.output, by omega, fun i hi => hblk i (by omega)⟩
      case measure => simp [intOf]; omega
    · obtain rfl : k = rs.length := by omega
      go_wp2_with fail
      go_loopw [3, 5] (fun u3 u5 wq => ∃ (m : Nat) (v : Value) (xs : List Value) (G : List Nat), m ≤ 20 ∧ u5 = .int .i64 m ∧ u3 = v ∧ Hid (Kids 6 25 (w.heap.size + 2) wq v (Va.ltrs rs ++ Va.trs (marks m)) xs G) ∧ Below w.heap.size w wq ∧ w.heap.size + 2 ≤ wq.heap.size ∧
        wq.cell? ⟨w.heap.size, 5, none⟩ = some (.slice a rs.length cap) ∧
        Hid (wq.heap[w.heap.size]? = some (.cells #[.int .u8 kd, .int .i64 n, .float .f64 x, .float .f64 y, .string s, .slice a rs.length cap] 25 (0, 0))) ∧ Hid (wq.heap[w.heap.size + 1]? = some (.cells zero6 25 (0, 0)))) (fun _ u5 _ => 20 - (intOf u5).toNat)
      case atStart => exact ⟨0, _, xs, G, by omega, rfl, rfl, Lib.hid (by have := HK.out; rw [List.take_length] at this; simpa [marks, Va.trs] using this), hb, hz, hcell, HE0, HE1⟩
      case round =>
        clear HK hb hz hcell HE0 HE1
        obtain ⟨m, v, xs, G, hm, rfl, rfl, HK, hb, hz, hcell, HE0, HE1⟩ := hrel
        have hl : (Va.ltrs rs ++ Va.trs (marks m)).length = rs.length + m := by rw [List.length_append, Va.ltrs_len, Va.trs_len, marks_len]
        have HL := Lib.hid hl
        clear hl
        by_cases hlt2 : m < 20
        · go_wp2_with (first | (go_at_call 28; (with_reducible refine (mark_any m (by omega) _).mono ?_); rintro e w1 ⟨rfl, hb1⟩; have H1 := Lib.hid hb1; clear hb1) | (refine wpList_push (wr := wr) (w1 := w1) (by rfl) _ _ _ (by rfl) (w.heap.size + 2) 25 i0 _ 6 72 Tryz.underlying23 hi0 hz0 hz1 hz2 rfl (by omega) _ _ xs G (by rfl) HK.out (by simpa using hz) H1.out (markV m).tr [.int .u8 2, .int .i64 (900 + (m : Int)), .float .f64 0, .float .f64 0, .string ⟨#[]⟩, .slice none 0 0] [] (mark_own m w1) (Apart.nil _) (Soft.nil _) (by rfl) (by rw [HL.out]; omega) (by omega) ?_; intro g3 cap3 w3 hk3 hg3 hbg hlt3))
          go_roundw
          case rel =>
            have hs1 := H1.out.size
            have hs3 := hg3.size
            have hblk : ∀ i, i < w.heap.size + 2 → w3.heap[i]? = wr.heap[i]? := fun i hi => (far_block hg3 HK.out.block i hi (by omega)).trans (H1.out.block i (by omega))
            refine ⟨m + 1, _, xs ++ [.int .u8 2, .int .i64 (900 + (m : Int)), .float .f64 0, .float .f64 0, .string ⟨#[]⟩, .slice none 0 0], G ++ [], by omega, by go_num, rfl, ?_, ?_, by omega, (World.cell?_of_block (w := wr) (a := ⟨w.heap.size, 5, none⟩) (hblk w.heap.size (by omega))).trans hcell, (hblk _ (by omega)).trans HE0.out, (hblk _ (by omega)).trans HE1.out⟩
            · rw [marks_take, ← List.append_assoc]
              rw [List.length_append] at hk3
              exact hk3
            · exact hb.trans ⟨hg3.os.trans H1.out.os, hg3.tape.trans H1.out.tape, hg3.output.trans H1.out.output, by omega, fun i hi => hblk i (by omega)⟩
          case measure => simp [intOf]; omega
        · obtain rfl : m = 20 := by omega
          have hkids := HK.out
          obtain ⟨A, cap2, hv, hcl⟩ := hkids.form
          rw [hv] at hkids
          obtain ⟨GF, hnode, hap, hsoft⟩ := hkids.nodeV (vis := rs.length) (by rw [HL.out]; omega) [.int .u8 kd, .int .i64 n, .float .f64 x, .float .f64 y, .string s] rfl (by simp [Value.oneCell'])
          have hbox := end_box (hd := [.int .u8 kd, .int .i64 n, .float .f64 x, .float .f64 y, .string s]) (u := .slice A rs.length cap2) HE0.out HE1.out 5 rfl
          have HBX := Lib.hid hbox
          have HN := Lib.hid (And.intro hnode (And.intro hap hsoft))
          have hfz : wr.frozen? ⟨w.heap.size, 5, none⟩ = false := by simp [World.frozen?, HE0.out]
          rw [HL.out] at hv hcl
          subst hv
          clear hnode hap hsoft hkids hbox
          go_wp2_with (first | (refine wpList_load_row (by rfl) 25 _ (by rfl) w.heap.size (by rfl) 25 _ (0, 0) _ HBX.out.1 Tryz.underlying25 rfl (by kernel_rfl) ?_) | (refine wpList_store_rowTo (by rfl) 25 _ _ (by rfl) (by rfl) (w.heap.size + 1) #[.int .u8 kd, .int .i64 n, .float .f64 x, .float .f64 y, .string s, .slice A rs.length cap2] (by rfl) (by rfl) 25 zero6 HBX.out.2 (by kernel_rfl) (by kernel_rfl) (all_oneCell_toArray (cs := [.int .u8 kd, .int .i64 n, .float .f64 x, .float .f64 y, .string s, .slice A rs.length cap2]) (by simp [Value.oneCell'])) ?_))
          refine bodyPost_ret (v := .agg #[.int .u8 kd, .int .i64 n, .float .f64 x, .float .f64 y, .string s, .slice A rs.length cap2]) (results_cell_row rfl _ _ (w.heap.size + 1) 25 _ (0, 0) _ rfl (setRow_heap _ _ _ _ _ _ HBX.out.2) Tryz.underlying25 rfl (by kernel_rfl)) rfl ?_
          obtain ⟨h1, h2, h3⟩ := HN.out
          refine .inr ⟨HO.out, _, _, _, _, _, _, GF, rfl, ?_, h2.mono (by omega), h3.same fun i hi => ?_, end_below hb⟩
          · unfold Va.ltr
            rw [if_neg hemp]
            exact Tr.own_same _ _ _ (fun i hi => by have := h2.2 i hi; exact end_other i (by omega) (by omega)) h1
          · have := h2.2 i hi
            exact end_other i (by omega) (by omega)
end Go.Proofs.YtbbpngoffpegbaaGreatDoor
