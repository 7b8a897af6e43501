/- The walk of 'given': a rule is made anew. -/
import Derived.Test.YtlejmlkojohnbaaRl
import Derived.Test.YtlejmlkojohnbaaProg
import Derived.WalkLawsBesides
import Derived.WalkSpells
import Derived.Lib.Hide
import Derived.Deep.RegionLaw
namespace Go.Proofs.Ytlejmlkojohnbaa
open Go.RowKit
attribute [local go_sem] run_store_float
theorem info_tR : (Try.prog.info? 29).map (fun i => (i.zero, i.size, i.bytes)) = some (some (.agg #[.int .u8 0, .int .i64 0, .int .i64 0, .float .f64 0, .float .f64 0, .string ⟨#[]⟩, .slice none 0 0]), 7, 80) := by kernel_rfl
set_option maxRecDepth 100000 in
set_option maxHeartbeats 1000000 in
theorem given_N (N : Nat) : ∀ (r : Rl) (_ : r.size ≤ N) (_ : r.size ≤ 3000) (c : List Value) (F : List Nat) (w : World) (_ : r.tr.own 7 w c F),
    Calls Try.prog 5 #[.agg c.toArray] w (GivesR r w) := by
  induction N with
  | zero => intro r hN; have := r.size_pos; omega
  | succ N ih =>
  intro r hN h3 c F w hr
  obtain ⟨op, n, m, x, y, s, rs⟩ := r
  obtain ⟨a, cap, rfl, hcap, hcap', hc⟩ := Rl.open hr
  clear hr
  unfold Rl.size at hN h3
  have hlen := Rl.sizes_len rs
  have IH := Lib.hid ih
  clear ih
  go_enter Try.func5, Try.ntmps5
  go_wp2_with fail
  go_loopw [4] (fun u4 wr => ∃ (k : Nat) (v : Value) (xs : List Value) (F : List Nat), k ≤ rs.length ∧ u4 = .int .i64 k ∧ Kids 7 29 (w.heap.size + 3) wr v (Rl.trs (rs.take k)) xs F ∧ Below w.heap.size w wr ∧ w.heap.size + 3 ≤ wr.heap.size ∧
      wr.cell? ⟨w.heap.size, 6, none⟩ = some (.slice a rs.length cap) ∧
      wr.heap[w.heap.size + 1]? = some (.cells #[.int .u8 0, .int .i64 0, .int .i64 0, .float .f64 0, .float .f64 0, .string ⟨#[]⟩, .slice none 0 0] 29 (0, 0)) ∧
      wr.heap[w.heap.size + 1 + 1]? = some (.cells #[.int .u8 op, .int .i64 n, .int .i64 m, .float .f64 x, .float .f64 y, .string s, v] 29 (0, 0))) (fun u4 _ => rs.length - (intOf u4).toNat)
  case atStart =>
    refine ⟨0, .slice none 0 0, [], [], by omega, rfl, by simpa [Rl.trs] using Kids.nil 7 29 _ _, ?_, by simp, by simp [go_sem], ?_, ?_⟩
    · exact (((Below.refl _ _).alloc (Nat.le_refl _) _).alloc (by simp) _).alloc (by simp; omega) _
    · exact heap_alloc_mid w _ _ _
    · exact heap_alloc_top w _ _ _
  case round =>
    obtain ⟨k, v, xs, G, hk, rfl, hkids, hb, hz, hcell, hB1, hB2⟩ := hrel
    by_cases hlt : k < rs.length
    · rcases hc with ⟨h0, _⟩ | ⟨_, b, o, cs, F', rfl, rfl, hra, hkl⟩
      · omega
      have hbl : b < w.heap.size := rangeAt_lt hra (by rw [Tr.ownL_len hkl, Rl.trs_len]; omega)
      have hra' := rangeAt_of_block hra (hb.block b hbl)
      have hkl' := Tr.ownL_same _ _ _ (fun i hi => hb.block i (Tr.ownL_lt _ _ _ hkl i hi)) hkl
      obtain ⟨v0, v1, v2, v3, v4, v5, v6, Fa, F1, Fb, hF, hkid, c0, c1, c2, c3, c4, c5, c6⟩ := Rl.kid k hlt hkl' hra'
      have hv : wr.cell? ⟨w.heap.size + 1 + 1, 6, none⟩ = some v := by simp [World.cell?, hB2]
      have hfz : wr.frozen? ⟨w.heap.size + 1 + 1, 6, none⟩ = false := by simp [World.frozen?, hB2]
      have HK := Lib.hid hkids
      have HB1 := Lib.hid hB1
      have HB2 := Lib.hid hB2
      have HB := Lib.hid hkids.block
      have hri : (0:Int) ≤ (k:Int) := by omega
      have hri2 : (k:Int) < (rs.length:Int) := by omega
      have HS := Rl.sizes_at rs k hlt
      clear hkids hB1 hB2 hra hkl hra' hkl'
      obtain ⟨i0, hi0, hz0, hz1, hz2⟩ := info_parts info_tR
      go_wp2_with fail
      go_region_law (first | (go_simp; go_at_call 5; refine (IH.out rs[k] (by omega) (by omega) [v0, v1, v2, v3, v4, v5, v6] F1 _ (Tr.own_drew hkid)).mono ?_; rintro e w1 ⟨x0, x1, x2, x3, x4, x5, x6, G1, rfl, hown1, hap1, hso1, hb1⟩; have d1 := ((below_of_drew (w := wr) hb1).cell (p := ⟨w.heap.size + 1 + 1, 6, none⟩) (by show w.heap.size + 1 + 1 < _; omega)).trans hv; have d2 := ((below_of_drew (w := wr) hb1).frozen (p := ⟨w.heap.size + 1 + 1, 6, none⟩) (by show w.heap.size + 1 + 1 < _; omega)).trans hfz; have d3 := fun ob => (cell_new w1 ob ⟨w.heap.size + 1 + 1, 6, none⟩ (by have := (below_of_drew (w := wr) hb1).size; show w.heap.size + 1 + 1 < _; omega)).trans d1) | (refine step_push (wr := wr.drew) (w1 := w1) (by rfl) _ _ _ (by rfl) (w.heap.size + 3) 29 i0 _ 7 80 Try.underlying27 hi0 hz0 hz1 hz2 rfl (by omega) v _ xs G (by rfl) HK.out.drew (by simpa using hz) hb1 rs[k].tr [x0, x1, x2, x3, x4, x5, x6] G1 hown1 hap1 hso1 (by rfl) (by rw [Rl.trs_len, List.length_take]; omega) (by omega) ?_; intro g3 cap3 w3 hk3 hg3 hbg hlt3; have hs1 := (below_of_drew (w := wr) hb1).size; have e1 := (far_cell hg3 HB.out ⟨w.heap.size + 1 + 1, 6, none⟩ (by show w.heap.size + 1 + 1 < _; omega) (by show w.heap.size + 1 + 1 < _; omega)).trans d1; have e2 := (far_frozen hg3 HB.out ⟨w.heap.size + 1 + 1, 6, none⟩ (by show w.heap.size + 1 + 1 < _; omega) (by show w.heap.size + 1 + 1 < _; omega)).trans d2))
      all_goals
        go_wp2_with fail
        go_roundw
        case rel =>
          obtain ⟨q1, q2, q3, q4⟩ := out_step (base := w.heap.size + 3) (B := w.heap.size + 1 + 1) (u := .slice (some ⟨g3, 0, none⟩) ((Rl.trs (List.take k rs)).length + 1) cap3) (hd := [.int .u8 op, .int .i64 n, .int .i64 m, .float .f64 x, .float .f64 y, .string s]) (m := 6) rfl (by omega) (by omega) hb HB2.out (below_of_drew (w := wr) hb1) hg3 HB.out
          refine ⟨k + 1, .slice (some ⟨g3, 0, none⟩) ((Rl.trs (List.take k rs)).length + 1) cap3, xs ++ [x0, x1, x2, x3, x4, x5, x6], G ++ G1, by omega, by go_num, ?_, q1, by omega, ?_, (q4 _ (by omega) (by omega) (by omega)).trans HB1.out, q2⟩
          · rw [Rl.trs_take rs k hlt]
            exact hk3.setCell _ (by show w.heap.size + 1 + 1 < _; omega) _
          · exact (World.cell?_of_block (w := wr) (a := ⟨w.heap.size, 6, none⟩) (q4 _ (by show w.heap.size < _; omega) (by show w.heap.size < _; omega) (by show w.heap.size ≠ _; omega))).trans hcell
        case measure => simp [intOf]; omega
    · obtain rfl : k = rs.length := by omega
      rw [List.take_length] at hkids
      obtain ⟨GF, hnode, hap, hsoft⟩ := hkids.node [.int .u8 op, .int .i64 n, .int .i64 m, .float .f64 x, .float .f64 y, .string s] rfl (by simp [Value.oneCell'])
      have HN := Lib.hid hnode
      have HSO := Lib.hid hsoft
      clear hsoft
      have HB1 := Lib.hid hB1
      have HB2 := Lib.hid hB2
      clear hkids hnode hB1 hB2
      go_wp2_with (first | (refine wpList_load_row (by rfl) 29 _ (by rfl) (w.heap.size + 1 + 1) (by rfl) 29 _ (0, 0) _ HB2.out Try.underlying29 rfl (by kernel_rfl) ?_) | (refine wpList_store_row (by rfl) 29 _ _ (by rfl) (w.heap.size + 1) #[.int .u8 op, .int .i64 n, .int .i64 m, .float .f64 x, .float .f64 y, .string s, v] (by rfl) (by rfl) 29 _ HB1.out (by kernel_rfl) rfl ?hone ?_))
      case hone => exact all_oneCell_toArray (cs := [.int .u8 op, .int .i64 n, .int .i64 m, .float .f64 x, .float .f64 y, .string s, v]) (Tr.own_one HN.out)
      refine bodyPost_ret (v := .agg #[.int .u8 op, .int .i64 n, .int .i64 m, .float .f64 x, .float .f64 y, .string s, v]) (results_cell_row rfl _ _ (w.heap.size + 1) 29 _ (0, 0) _ rfl (setRow_heap _ _ _ _ _ _ HB1.out) Try.underlying29 rfl (by kernel_rfl)) rfl ?_
      refine ⟨_, _, _, _, _, _, _, GF, rfl, ?_, ?_, ?_, ?_⟩
      · unfold Rl.tr
        exact Tr.own_same _ _ _ (fun b hb => setRow_other _ _ _ _ (by have := hap.2 b hb; omega)) HN.out
      · exact hap.mono (by omega)
      · exact HSO.out.same fun b hb => setRow_other _ _ _ _ (by have := hap.2 b hb; omega)
      · exact hb.trans ⟨rfl, rfl, rfl, by simp, fun i hi => setRow_other _ _ _ _ (by omega)⟩
end Go.Proofs.Ytlejmlkojohnbaa
