/- The walks of 'mark' and 'twin'. -/
import Derived.Test.YtaglklcjolcgeaaSame
namespace Go.Proofs.Ytaglklcjolcgeaa
open Go.RowKit
set_option linter.unusedVariables false
set_option linter.unusedSimpArgs false
attribute [local go_sem] run_store_float
theorem info_tV : (Try.prog.info? 25).map (fun i => (i.zero, i.size, i.bytes)) = some (some (.agg #[.int .u8 0, .int .i64 0, .float .f64 0, .float .f64 0, .string ⟨#[]⟩, .slice none 0 0]), 6, 72) := by kernel_rfl
def zero6 : Array Value := #[.int .u8 0, .int .i64 0, .float .f64 0, .float .f64 0, .string ⟨#[]⟩, .slice none 0 0]
theorem mark_any (k : Nat) (hk : k ≤ 1000) (w : World) : Calls Try.prog 15 #[.int .i64 k] w fun e w' => e = .returned (.agg #[.int .u8 2, .int .i64 (900 + (k : Int)), .float .f64 0, .float .f64 0, .string ⟨#[]⟩, .slice none 0 0]) ∧ Below w.heap.size w w' := by
  go_enter Try.func15, Try.ntmps15
  go_wp2_with fail
  refine bodyPost_ret (v := .agg #[.int .u8 2, .int .i64 (900 + (k : Int)), .float .f64 0, .float .f64 0, .string ⟨#[]⟩, .slice none 0 0]) (results_cell_row rfl _ _ w.heap.size 25 _ (0, 0) _ rfl (heap_alloc_new w _) Try.underlying25 rfl (by kernel_rfl)) rfl ?_
  exact ⟨rfl, bnew (Below.refl _ _) _⟩
theorem mark_own (k : Nat) (w : World) : (markV k).tr.own 6 w [.int .u8 2, .int .i64 (900 + (k : Int)), .float .f64 0, .float .f64 0, .string ⟨#[]⟩, .slice none 0 0] [] := by
  unfold markV Va.tr Tr.own
  refine ⟨none, 0, 0, rfl, rfl, by simp [Value.oneCell'], ⟨rfl, Nat.le_refl _⟩, Nat.le_refl _, by omega, .inl ⟨rfl, rfl⟩⟩
/-- What 'twin' gives. -/
def TwinIs (r : Va) (c : List Value) (w : World) (e : Ending) (w' : World) : Prop := (r.okV = false ∧ e = .returned (.agg c.toArray) ∧ Below w.heap.size w w') ∨ (r.okV = true ∧ GivesR r w e w')
/-- The end of 'twin' and 'lent': what the boxes hold. -/
theorem end_box {wr : World} {B : Nat} {hd : List Value} {v u : Value} {z : Array Value} {e : TypeId} (h0 : wr.heap[B]? = some (.cells (hd ++ [v]).toArray e (0, 0))) (h1 : wr.heap[B + 1]? = some (.cells z e (0, 0))) (m : Nat) (hm : hd.length = m) :
    (wr.setCell ⟨B, m, none⟩ u).heap[B]? = some (.cells (hd ++ [u]).toArray e (0, 0)) ∧ (wr.setCell ⟨B, m, none⟩ u).heap[B + 1]? = some (.cells z e (0, 0)) := by
  subst hm
  refine ⟨?_, (Below.heap_setCell _ _ _ _ (by show B + 1 ≠ B; omega)).trans h1⟩
  have := Joins.block_setCell (i := hd.length) h0 u
  rw [this]
  simp
theorem end_other {wr : World} {B m : Nat} {u : Value} {cs : Array Value} (i : Nat) (h1 : i ≠ B) (h2 : i ≠ B + 1) : ((wr.setCell ⟨B, m, none⟩ u).setRow (B + 1) cs).heap[i]? = wr.heap[i]? :=
  (setRow_other _ _ _ _ h2).trans (Below.heap_setCell _ _ _ _ h1)
theorem end_below {w wr : World} {m : Nat} {u : Value} {cs : Array Value} (hb : Below w.heap.size w wr) : Below w.heap.size w ((wr.setCell ⟨w.heap.size, m, none⟩ u).setRow (w.heap.size + 1) cs) :=
  ⟨hb.os, hb.tape, hb.output, by simpa [World.setCell] using hb.size, fun i hi => (end_other i (by omega) (by omega)).trans (hb.block i hi)⟩
set_option maxRecDepth 100000 in
set_option maxHeartbeats 2000000 in
theorem twin_N (N : Nat) : ∀ (r : Va) (_ : r.size ≤ N) (c : List Value) (F : List Nat) (w : World) (_ : r.tr.own 6 w c F),
    Calls Try.prog 9 #[.agg c.toArray] w (TwinIs r c w) := by
  induction N with
  | zero => intro r hN; have := r.size_pos; omega
  | succ N ih =>
  intro r hN c F w hr
  have HR := Lib.hid (fun A B => Tr.own_below hr (bb2 w A B))
  have hok := fun h => Va.ok_kid (kd := r.kd) (n := 0) (x := 0) (y := 0) (s := ⟨#[]⟩) (rs := []) h
  clear hok
  obtain ⟨kd, n, x, y, s, rs⟩ := r
  obtain ⟨a, cap, rfl, hcap, hcap', hc⟩ := Va.open hr
  clear hr
  cases ho : (Va.mk kd n x y s rs).okV
  · have HO := Lib.hid ho
    clear ho
    go_enter Try.func9, Try.ntmps9
    go_wp2_with (first | (go_at_call 14; (with_reducible refine (rCheck_any (Va.mk kd n x y s rs) [.int .u8 kd, .int .i64 n, .float .f64 x, .float .f64 y, .string s, .slice a rs.length cap] F _ (HR.out _ _)).mono ?_); rintro e w1 ⟨rfl, hb1⟩; rw [bad_ite HO.out]; have j1 := box_keep (two1 w _ _) hb1; have HB1 := Lib.hid (hb1.block (w.heap.size + 1) (by simp)); have HB2 := Lib.hid hb1; clear hb1) | (refine wpList_store_rowTo (by rfl) 25 _ _ (by rfl) (by rfl) (w.heap.size + 1) #[.int .u8 kd, .int .i64 n, .float .f64 x, .float .f64 y, .string s, .slice a rs.length cap] (by rfl) (by rfl) 25 zero6 (HB1.out.trans (two2 w _ _)) (by kernel_rfl) (by kernel_rfl) (all_oneCell_toArray (cs := [.int .u8 kd, .int .i64 n, .float .f64 x, .float .f64 y, .string s, .slice a rs.length cap]) (by simp [Value.oneCell'])) ?_))
    refine bodyPost_ret (v := .agg #[.int .u8 kd, .int .i64 n, .float .f64 x, .float .f64 y, .string s, .slice a rs.length cap]) (results_cell_row rfl _ _ (w.heap.size + 1) 25 _ (0, 0) _ rfl (setRow_heap _ _ _ _ _ _ (HB1.out.trans (two2 w _ _))) Try.underlying25 rfl (by kernel_rfl)) rfl ?_
    exact .inl ⟨HO.out, rfl, (bthen (bb2 w _ _) HB2.out).trans ⟨rfl, rfl, rfl, by simp, fun i hi => setRow_other _ _ _ _ (by omega)⟩⟩
  have HO := Lib.hid ho
  have HOK := Lib.hid (fun k hk => Va.ok_kid ho k hk)
  have hsz := Va.ok_size ho
  clear ho
  unfold Va.size at hN hsz
  have hlen := Va.sizes_len rs
  have IH := Lib.hid ih
  clear ih
  obtain ⟨i0, hi0, hz0, hz1, hz2⟩ := info_parts info_tV
  go_enter Try.func9, Try.ntmps9
  go_wp2_with (go_at_call 14; (with_reducible refine (rCheck_any (Va.mk kd n x y s rs) [.int .u8 kd, .int .i64 n, .float .f64 x, .float .f64 y, .string s, .slice a rs.length cap] F _ (HR.out _ _)).mono ?_); rintro e w1 ⟨rfl, hb1⟩; rw [ok_ite HO.out]; have HB0 := Lib.hid (hb1.block w.heap.size (by simp; omega)); have HB1 := Lib.hid (hb1.block (w.heap.size + 1) (by simp)); have HB2 := Lib.hid hb1; clear hb1)
  go_loopw [3, 4] (fun u3 u4 wr => ∃ (k : Nat) (v : Value) (xs : List Value) (G : List Nat), k ≤ rs.length ∧ u4 = .int .i64 k ∧ u3 = v ∧ Hid (Kids 6 25 (w.heap.size + 2) wr v (Va.trs (rs.take k)) xs G) ∧ Below w.heap.size w wr ∧ w.heap.size + 2 ≤ wr.heap.size ∧
      wr.cell? ⟨w.heap.size, 5, none⟩ = some (.slice a rs.length cap) ∧
      Hid (wr.heap[w.heap.size]? = some (.cells #[.int .u8 kd, .int .i64 n, .float .f64 x, .float .f64 y, .string s, .slice a rs.length cap] 25 (0, 0))) ∧ Hid (wr.heap[w.heap.size + 1]? = some (.cells zero6 25 (0, 0)))) (fun _ u4 _ => rs.length - (intOf u4).toNat)
  case atStart =>
    have hs := HB2.out.size
    have h0 := HB0.out.trans (two1 w _ _)
    exact ⟨0, .slice none 0 0, [], [], by omega, rfl, rfl, Lib.hid (by simpa [Va.trs] using Kids.nil 6 25 _ _), bthen (bb2 w _ _) HB2.out, by simp at hs; omega, (box_all h0 5).trans rfl, h0, HB1.out.trans (two2 w _ _)⟩
  case round =>
    clear HB0 HB1 HB2
    obtain ⟨k, v, xs, G, hk, rfl, rfl, HK, hb, hz, hcell, HE0, HE1⟩ := hrel
    by_cases hlt : k < rs.length
    · rcases hc with ⟨h0, _⟩ | ⟨_, b, o, cs, F', rfl, rfl, hra, hkl⟩
      · omega
      have hbl : b < w.heap.size := rangeAt_lt hra (by rw [Tr.ownL_len hkl, Va.trs_len]; omega)
      have hkl' := Tr.ownL_same _ _ _ (fun i hi => hb.block i (Tr.ownL_lt _ _ _ hkl i hi)) hkl
      obtain ⟨v0, v1, v2, v3, v4, v5, Fa, F1, Fb, hF, hkid, c0, c1, c2, c3, c4, c5⟩ := Va.kid k hlt hkl' (rangeAt_of_block hra (hb.block b hbl))
      have HKID := Lib.hid hkid
      have HS := Va.sizes_at rs k hlt
      have hri : (0:Int) ≤ (k:Int) := by omega
      have hri2 : (k:Int) < (rs.length:Int) := by omega
      clear hra hkl hkl' hF hkid
      go_wp2_with (first | (go_at_call 9; refine (IH.out rs[k] (by omega) [v0, v1, v2, v3, v4, v5] F1 _ HKID.out).mono ?_; rintro e w1 (⟨hno, _⟩ | ⟨_, x0, x1, x2, x3, x4, x5, G1, rfl, hown1, hap1, hso1, hb1⟩); (have hh := HOK.out k hlt; rw [hh] at hno; cases hno); have H1 := Lib.hid (And.intro hown1 (And.intro hap1 (And.intro hso1 hb1))); clear hown1 hap1 hso1 hb1) | (refine wpList_push (wr := wr) (w1 := w1) (by rfl) _ _ _ (by rfl) (w.heap.size + 2) 25 i0 _ 6 72 Try.underlying23 hi0 hz0 hz1 hz2 rfl (by omega) _ _ xs G (by rfl) HK.out (by simpa using hz) H1.out.2.2.2 rs[k].tr [x0, x1, x2, x3, x4, x5] G1 H1.out.1 H1.out.2.1 H1.out.2.2.1 (by rfl) (by rw [Va.trs_len, List.length_take]; omega) (by omega) ?_; intro g3 cap3 w3 hk3 hg3 hbg hlt3))
      go_roundw
      case rel =>
        have hs1 := H1.out.2.2.2.size
        have hs3 := hg3.size
        have hblk : ∀ i, i < w.heap.size + 2 → w3.heap[i]? = wr.heap[i]? := fun i hi => (far_block hg3 HK.out.block i hi (by omega)).trans (H1.out.2.2.2.block i (by omega))
        refine ⟨k + 1, _, xs ++ [x0, x1, x2, x3, x4, x5], G ++ G1, by omega, by go_num, rfl, ?_, ?_, by omega, (World.cell?_of_block (w := wr) (a := ⟨w.heap.size, 5, none⟩) (hblk w.heap.size (by omega))).trans hcell, (hblk _ (by omega)).trans HE0.out, (hblk _ (by omega)).trans HE1.out⟩
        · rw [Va.trs_take rs k hlt]
          exact hk3
        · exact hb.trans ⟨hg3.os.trans H1.out.2.2.2.os, hg3.tape.trans H1.out.2.2.2.tape, hg3.output.trans H1.out.2.2.2.output, by omega, fun i hi => hblk i (by omega)⟩
      case measure => simp [intOf]; omega
    · obtain rfl : k = rs.length := by omega
      have hkids := HK.out
      rw [List.take_length] at hkids
      obtain ⟨A, cap2, hv⟩ := hkids.slice
      rw [hv] at hkids
      obtain ⟨GF, hnode, hap, hsoft⟩ := hkids.nodeV (vis := rs.length) (by rw [Va.trs_len]; omega) [.int .u8 kd, .int .i64 n, .float .f64 x, .float .f64 y, .string s] rfl (by simp [Value.oneCell'])
      have hbox := end_box (hd := [.int .u8 kd, .int .i64 n, .float .f64 x, .float .f64 y, .string s]) (u := .slice A rs.length cap2) HE0.out HE1.out 5 rfl
      have HBX := Lib.hid hbox
      have HN := Lib.hid (And.intro hnode (And.intro hap hsoft))
      have hfz : wr.frozen? ⟨w.heap.size, 5, none⟩ = false := by simp [World.frozen?, HE0.out]
      rw [Va.trs_len] at hv
      subst hv
      clear hnode hap hsoft hkids hbox
      go_wp2_with (first | (refine wpList_load_row (by rfl) 25 _ (by rfl) w.heap.size (by rfl) 25 _ (0, 0) _ HBX.out.1 Try.underlying25 rfl (by kernel_rfl) ?_) | (refine wpList_store_rowTo (by rfl) 25 _ _ (by rfl) (by rfl) (w.heap.size + 1) #[.int .u8 kd, .int .i64 n, .float .f64 x, .float .f64 y, .string s, .slice A rs.length cap2] (by rfl) (by rfl) 25 zero6 HBX.out.2 (by kernel_rfl) (by kernel_rfl) (all_oneCell_toArray (cs := [.int .u8 kd, .int .i64 n, .float .f64 x, .float .f64 y, .string s, .slice A rs.length cap2]) (by simp [Value.oneCell'])) ?_))
      refine bodyPost_ret (v := .agg #[.int .u8 kd, .int .i64 n, .float .f64 x, .float .f64 y, .string s, .slice A rs.length cap2]) (results_cell_row rfl _ _ (w.heap.size + 1) 25 _ (0, 0) _ rfl (setRow_heap _ _ _ _ _ _ HBX.out.2) Try.underlying25 rfl (by kernel_rfl)) rfl ?_
      obtain ⟨h1, h2, h3⟩ := HN.out
      refine .inr ⟨HO.out, _, _, _, _, _, _, GF, rfl, ?_, h2.mono (by omega), h3.same fun i hi => ?_, end_below hb⟩
      · unfold Va.tr
        exact Tr.own_same _ _ _ (fun i hi => by have := h2.2 i hi; exact end_other i (by omega) (by omega)) h1
      · have := h2.2 i hi
        exact end_other i (by omega) (by omega)
end Go.Proofs.Ytaglklcjolcgeaa
