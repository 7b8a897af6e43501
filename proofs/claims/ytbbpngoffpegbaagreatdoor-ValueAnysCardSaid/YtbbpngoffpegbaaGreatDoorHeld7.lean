/- The walk of the program's held: bools, bytes, lists; all kinds together. (Printed by genheld7.py.) -/
import Derived.Test.YtbbpngoffpegbaaGreatDoorHeld
import Derived.Test.YtbbpngoffpegbaaGreatDoorOwnR
namespace Go.Proofs.YtbbpngoffpegbaaGreatDoor
open Go Go.RowKit Go.Proofs.YtbbpngoffpegbaaGreatDoorW.PrintWords Go.Proofs.YtbbpngoffpegbaaGreatDoorW.PrintLast
set_option linter.unusedVariables false
set_option linter.unusedSimpArgs false
attribute [local go_sem] run_store_float
structure Box5 (B : Nat) (v : Value) (W : World) : Prop where
  c5 : W.cell? ⟨B, 5, none⟩ = some v
theorem vcells {w : World} {r : Va} {c : List Value} {F : List Nat} (h : r.tr.own 6 w c F) : ∃ (kd n : Int) (x y : Nat) (s : ByteArray) (q : Value), ∃ a len cap, q = .slice a len cap ∧ c = [.int .u8 kd, .int .i64 n, .float .f64 x, .float .f64 y, .string s, .slice a len cap] := by
  cases r
  obtain ⟨a, cap, rfl, _⟩ := Va.open h
  exact ⟨_, _, _, _, _, _, _, _, _, rfl, rfl⟩
theorem str_nums (s : ByteArray) : strOfNums (s.data.toList.map fun x => (x.toNat : Int)) = s := by
  apply ByteArray.ext
  apply Array.toList_inj.1
  rw [strOfNums_data, List.map_map]
  conv => rhs; rw [← List.map_id s.data.toList]
  refine List.map_congr_left fun x _ => ?_
  show UInt8.ofNat ((x.toNat : Int).toNat) = x
  simp
theorem conv_bytes (W : World) (b cap : Nat) (s : ByteArray) (h : W.rangeAt b 0 (Lib.strCells s)) : Sem.run Tryz.prog (convert 32 9 (.slice (some ⟨b, 0, none⟩) s.size cap)) W = .ok (.string s) W := by
  have := run_convert_bytes_arg (P := Tryz.prog) W 32 5 Tryz.underlying32 Tryz.underlying5 b 0 s.size cap (s.data.toList.map fun x => (x.toNat : Int)) (by simp) (fun i hi => by
    have hi' : i < s.data.toList.length := by simpa using hi
    have := h i (.int .u8 s.data.toList[i].toNat) (by simp [Lib.strCells, List.getElem?_eq_getElem hi'])
    rw [this]
    have h3 : s.data[i]? = some s.data[i] := Array.getElem?_eq_getElem hi
    simp [List.getD, h3]) 9 Tryz.underlying9
  rw [str_nums] at this
  exact this
set_option maxRecDepth 100000 in
set_option maxHeartbeats 2000000 in
theorem held_6 (w : World) (s : ByteArray) (b cap : Nat) (hr : w.rangeAt b 0 (Lib.strCells s)) (hb : b < w.heap.size) : Calls Tryz.prog 39 #[.iface 32 (.slice (some ⟨b, 0, none⟩) s.size cap)] w (GivesR (.mk 6 0 0 0 s []) w) := by
  have a0 := ta_yb
  have a1 := ta_yi
  have a2 := ta_yf
  have a3 := ta_yc
  have a4 := ta_ys
  have a5 := ta_yy
  have HB := Lib.hid (bnew (Below.refl w.heap.size w) (.cells zero6 25))
  have HE := Lib.hid (heap_alloc_new w (.cells zero6 25))
  have a6 := conv_bytes (w.alloc (.cells #[.int .u8 0, .int .i64 0, .float .f64 0, .float .f64 0, .string ⟨#[]⟩, .slice none 0 0] 25)) b cap s (rangeAt_of_block hr (HB.out.block b hb))
  clear hr
  go_enter Tryz.func39, Tryz.ntmps39
  go_wp2_with (refine wpList_store_rowTo (by rfl) 25 _ _ (by rfl) (by rfl) w.heap.size #[.int .u8 6, .int .i64 0, .float .f64 0, .float .f64 0, .string s, .slice none 0 0] (by rfl) (by rfl) 25 zero6 HE.out (by kernel_rfl) (by kernel_rfl) (all_oneCell_toArray (cs := [.int .u8 6, .int .i64 0, .float .f64 0, .float .f64 0, .string s, .slice none 0 0]) (by simp [Value.oneCell'])) ?_)
  refine bodyPost_ret (v := .agg #[.int .u8 6, .int .i64 0, .float .f64 0, .float .f64 0, .string s, .slice none 0 0]) (results_cell_row rfl _ _ w.heap.size 25 _ (0, 0) _ rfl (setRow_heap _ _ _ _ _ _ HE.out) Tryz.underlying25 rfl (by kernel_rfl)) rfl ?_
  refine held_end HB.out (fun W => ?_)
  unfold Va.tr Tr.own
  exact ⟨none, 0, 0, by simp, rfl, by simp [Value.oneCell'], ⟨rfl, Nat.le_refl _⟩, Nat.le_refl _, by omega, .inl ⟨rfl, rfl⟩⟩
set_option maxRecDepth 100000 in
set_option maxHeartbeats 2000000 in
theorem held_1 (w : World) (c : Bool) : Calls Tryz.prog 39 #[.iface 4 (.bool c)] w (GivesR (mkI 1 (if c then 1 else 0)) w) := by
  have a0 := ta_bb
  have HE0 := Lib.hid (two1 w (.cells zero6 25) (.cells #[.int .u8 1, .int .i64 0, .float .f64 0, .float .f64 0, .string ⟨#[]⟩, .slice none 0 0] 25))
  have HX0 := Lib.hid (two2 w (.cells zero6 25) (.cells #[.int .u8 1, .int .i64 0, .float .f64 0, .float .f64 0, .string ⟨#[]⟩, .slice none 0 0] 25))
  have HB0 := Lib.hid (bb2 w (.cells zero6 25) (.cells #[.int .u8 1, .int .i64 0, .float .f64 0, .float .f64 0, .string ⟨#[]⟩, .slice none 0 0] 25))
  cases c
  · go_enter Tryz.func39, Tryz.ntmps39
    go_wp2_with (refine wpList_store_rowTo (by rfl) 25 _ _ (by rfl) (by rfl) w.heap.size #[.int .u8 1, .int .i64 0, .float .f64 0, .float .f64 0, .string ⟨#[]⟩, .slice none 0 0] (by rfl) (by rfl) 25 zero6 HE0.out (by kernel_rfl) (by kernel_rfl) (all_oneCell_toArray (cs := [.int .u8 1, .int .i64 0, .float .f64 0, .float .f64 0, .string ⟨#[]⟩, .slice none 0 0]) (by simp [Value.oneCell'])) ?_)
    refine bodyPost_ret (v := .agg #[.int .u8 1, .int .i64 0, .float .f64 0, .float .f64 0, .string ⟨#[]⟩, .slice none 0 0]) (results_cell_row rfl _ _ w.heap.size 25 _ (0, 0) _ rfl (setRow_heap _ _ _ _ _ _ HE0.out) Tryz.underlying25 rfl (by kernel_rfl)) rfl ?_
    refine held_end HB0.out (fun W => ?_)
    unfold mkI Va.tr Tr.own
    exact ⟨none, 0, 0, by simp, rfl, by simp [Value.oneCell'], ⟨rfl, Nat.le_refl _⟩, Nat.le_refl _, by omega, .inl ⟨rfl, rfl⟩⟩
  · go_enter Tryz.func39, Tryz.ntmps39
    go_wp2_with fail
    refine bodyPost_ret (v := .agg #[.int .u8 1, .int .i64 1, .float .f64 0, .float .f64 0, .string ⟨#[]⟩, .slice none 0 0]) (results_cell_row rfl _ _ w.heap.size 25 _ (0, 0) _ rfl (two1 w _ _) Tryz.underlying25 rfl (by kernel_rfl)) rfl ?_
    refine ⟨_, _, _, _, _, _, [], rfl, ?_, Apart.nil _, Soft.nil _, bb2 w _ _⟩
    unfold mkI Va.tr Tr.own
    exact ⟨none, 0, 0, by simp, rfl, by simp [Value.oneCell'], ⟨rfl, Nat.le_refl _⟩, Nat.le_refl _, by omega, .inl ⟨rfl, rfl⟩⟩
theorem Va.pls_at {w : World} {lo : Nat} : ∀ (rs : List Va) (vs : List Value) (k : Nat) (hk : k < rs.length) (hv : k < vs.length), Va.pls w lo rs vs → rs[k].pl w lo vs[k]
  | [], _, k, hk, _, _ => by simp at hk
  | r :: rs, vs, k, hk, hv, h => by
    unfold Va.pls at h
    obtain ⟨v, vs', rfl, h2, h3⟩ := h
    cases k with
    | zero => exact h2
    | succ k => exact Va.pls_at rs vs' k (by simpa using hk) (by simpa using hv) h3
/-- What stands ahead of a round of held. -/
structure Lh (rs : List Va) (w : World) (k : Nat) (v : Value) (xs : List Value) (G : List Nat) (W : World) : Prop where
  low : Below w.heap.size w W
  res : W.heap[w.heap.size]? = some (.cells zero6 25 (0, 0))
  box : W.heap[w.heap.size + 1]? = some (.cells #[.int .u8 7, .int .i64 0, .float .f64 0, .float .f64 0, .string ⟨#[]⟩, v] 25 (0, 0))
  kids : Kids 6 25 (w.heap.size + 2) W v (Va.trs (rs.take k)) xs G
theorem Lh.sz {rs : List Va} {w : World} {k : Nat} {v : Value} {xs : List Value} {G : List Nat} {W : World} (h : Lh rs w k v xs G W) : w.heap.size + 2 ≤ W.heap.size := (Array.getElem?_eq_some_iff.1 h.box).1
theorem Lh.cell {rs : List Va} {w : World} {k : Nat} {v : Value} {xs : List Value} {G : List Nat} {W : World} (h : Lh rs w k v xs G W) : W.cell? ⟨w.heap.size + 1, 5, none⟩ = some v := box_all h.box 5
theorem Lh.frozen {rs : List Va} {w : World} {k : Nat} {v : Value} {xs : List Value} {G : List Nat} {W : World} (h : Lh rs w k v xs G W) : W.frozen? ⟨w.heap.size + 1, 5, none⟩ = false := by simp [World.frozen?, h.box]
theorem Lh.drew {rs : List Va} {w : World} {k : Nat} {v : Value} {xs : List Value} {G : List Nat} {W : World} (h : Lh rs w k v xs G W) : Lh rs w k v xs G W.drew := ⟨h.low.drew, h.res, h.box, h.kids.drew⟩
theorem Lh.below {rs : List Va} {w : World} {k : Nat} {v : Value} {xs : List Value} {G : List Nat} {W W2 : World} (h : Lh rs w k v xs G W) (hb : Below W.heap.size W W2) : Lh rs w k v xs G W2 := by
  have := h.sz
  exact ⟨h.low.trans (hb.mono (by omega)), (hb.block _ (by omega)).trans h.res, (hb.block _ (by omega)).trans h.box, h.kids.below hb⟩
/-- Behind a round. -/
theorem Lh.next {rs : List Va} {w : World} {k : Nat} {v v' : Value} {xs xs' : List Value} {G G' : List Nat} {W W2 : World} (h : Lh rs w k v xs G W) (hlt : k < rs.length) (hg : W.grownBy W2 v.ownBlock) (hk : Kids 6 25 (w.heap.size + 2) W2 v' (Va.trs (rs.take k) ++ [rs[k].tr]) xs' G') :
    Lh rs w (k + 1) v' xs' G' (W2.setCell ⟨w.heap.size + 1, 5, none⟩ v') := by
  have hsz := h.sz
  have hv := h.kids.block
  have h1 := hg.size
  have hb2 : Below w.heap.size w W2 := h.low.grown hg (by omega) (fun g e => by have := (hv g e).1; omega)
  have hs : ∀ i, i < w.heap.size + 2 → W2.heap[i]? = W.heap[i]? := fun i hi => hg.block i (by omega) fun e => by have := (hv i e.symm).1; omega
  refine ⟨hb2.setCell (by show w.heap.size ≤ w.heap.size + 1; omega) _, (Below.heap_setCell _ _ _ _ (by show w.heap.size ≠ w.heap.size + 1; omega)).trans ((hs _ (by omega)).trans h.res), Joins.block_setCell (i := 5) ((hs _ (by omega)).trans h.box) v', ?_⟩
  rw [Va.trs_take rs k hlt]
  exact hk.setCell _ (by show w.heap.size + 1 < w.heap.size + 2; omega) _
theorem Lh.fin {rs : List Va} {w : World} {A : Option Addr} {cap : Nat} {xs : List Value} {G : List Nat} {W : World} (h : Lh rs w rs.length (.slice A rs.length cap) xs G W) :
    GivesR (.mk 7 0 0 0 ⟨#[]⟩ rs) w (.returned (.agg #[.int .u8 7, .int .i64 0, .float .f64 0, .float .f64 0, .string ⟨#[]⟩, .slice A rs.length cap])) (W.setRow w.heap.size #[.int .u8 7, .int .i64 0, .float .f64 0, .float .f64 0, .string ⟨#[]⟩, .slice A rs.length cap]) := by
  have hkids := h.kids
  rw [List.take_length] at hkids
  have hl := Va.trs_len rs
  rw [← hl] at hkids
  obtain ⟨GF, hnode, hap, hsoft⟩ := hkids.nodeV (vis := rs.length) (by rw [Va.trs_len]; omega) [.int .u8 7, .int .i64 0, .float .f64 0, .float .f64 0, .string ⟨#[]⟩] rfl (by simp [Value.oneCell'])
  have hs : ∀ i ∈ GF, (W.setRow w.heap.size #[.int .u8 7, .int .i64 0, .float .f64 0, .float .f64 0, .string ⟨#[]⟩, .slice A rs.length cap]).heap[i]? = W.heap[i]? := fun i hi => setRow_other _ _ _ _ (by have := hap.2 i hi; omega)
  refine ⟨_, _, _, _, _, _, GF, rfl, ?_, hap.mono (by omega), hsoft.same hs, h.low.trans ⟨rfl, rfl, rfl, by simp, fun i hi => setRow_other _ _ _ _ (by omega)⟩⟩
  unfold Va.tr
  exact Tr.own_same _ _ _ hs hnode
set_option maxRecDepth 100000 in
set_option maxHeartbeats 4000000 in
theorem held_7 (rs : List Va) (vs : List Value) (lo b cap : Nat) (w : World) (hl : rs.length ≤ 1024) (hb : b < w.heap.size) (hr : w.rangeAt b 0 vs) (hp : Va.pls w lo rs vs)
    (IH : ∀ (k : Nat) (hk : k < rs.length) (v : Value) (W : World), rs[k].pl W lo v → Calls Tryz.prog 39 #[v] W (GivesR rs[k] W)) :
    Calls Tryz.prog 39 #[.iface 34 (.slice (some ⟨b, 0, none⟩) rs.length cap)] w (GivesR (.mk 7 0 0 0 ⟨#[]⟩ rs) w) := by
  have a0 := ta_ab
  have a1 := ta_ai
  have a2 := ta_af
  have a3 := ta_ac
  have a4 := ta_as
  have a5 := ta_ay
  have a6 := ta_aa
  have hvl := Va.pls_len hp
  have IH := Lib.hid IH
  have HP := Lib.hid (And.intro hr (And.intro hp hb))
  have HL := Lib.hid hl
  have hv2 := Lib.hid (show Lh rs w 0 (.slice none 0 0) [] [] ((w.alloc (.cells zero6 25)).alloc (.cells #[.int .u8 7, .int .i64 0, .float .f64 0, .float .f64 0, .string ⟨#[]⟩, .slice none 0 0] 25)) from ⟨bb2 w _ _, two1 w _ _, two2 w _ _, by simpa [Va.trs] using Kids.nil 6 25 _ _⟩)
  obtain ⟨i0, hi0, hz0, hz1, hz2⟩ := info_parts info_tV
  clear hr hp
  go_enter Tryz.func39, Tryz.ntmps39
  go_wp2_with fail
  clear a0 a1 a2 a3 a4 a5 a6
  go_loopw [57] (fun u57 wr => ∃ (k : Nat) (v : Value) (xs : List Value) (G : List Nat), k ≤ rs.length ∧ u57 = .int .i64 k ∧ Hid (Lh rs w k v xs G wr)) (fun u57 _ => rs.length - (intOf u57).toNat)
  case atStart => exact ⟨0, .slice none 0 0, [], [], by omega, rfl, hv2⟩
  case round =>
    clear hv2
    obtain ⟨k, v, xs, G, hk, rfl, HL2⟩ := hrel
    by_cases hlt : k < rs.length
    · have d1 : (k : Int) < (rs.length : Int) := by omega
      have d0 : (0 : Int) ≤ (k : Int) := by omega
      have hsz := HL2.out.sz
      have hpl : ∀ W, Below wr.heap.size wr W → rs[k].pl W lo vs[k] := fun W hW => Va.pl_same (Nat.le_refl _) (Nat.le_trans (by omega) hW.size) (fun i _ hi => (hW.block i (by omega)).trans (HL2.out.low.block i hi)) _ _ (Va.pls_at rs vs k hlt (by omega) HP.out.2.1)
      have hcl : wr.cell? ⟨b, k, none⟩ = some vs[k] := by
        have := rangeAt_of_block HP.out.1 (HL2.out.low.block b HP.out.2.2) k vs[k] (List.getElem?_eq_getElem (by omega))
        simpa using this
      have HPL := Lib.hid hpl
      have HQ := Lib.hid (show Box5 (w.heap.size + 1) v wr.drew from ⟨HL2.out.cell⟩)
      have hform := Va.pl_form (hpl wr (Below.refl _ _))
      obtain ⟨vk, hvk⟩ : ∃ vk, vk = vs[k] := ⟨_, rfl⟩
      rw [← hvk] at HPL hcl
      clear hpl hvk hform
      go_wp2_with fail
      refine start_ (n := 8) (S := Box5 (w.heap.size + 1) v) (ds := [7]) #[false, false, false, false, false, false, false, false] (by kernel_rfl) rfl rfl HQ.out (fun hHeld => ?_)
      have HB1 := Lib.hid (show Below wr.heap.size wr wr.drew from (Below.refl _ wr).drew)
      have HL2 := Lib.hid HL2.out.drew
      have hsz : w.heap.size + 2 ≤ wr.drew.heap.size := hsz
      generalize wr.drew = wd at *
      refine pure_ (i := 0) (N := some 61) (v := ?_) (a' := ?_) #[true, false, false, false, false, false, false, false] rfl rfl (by kernel_rfl) (fun _ _ _ h => h) (Or.inl ⟨by rfl, ?_⟩) ?_ ?_
      rotate_left
      · intro w'
        go_simp
        with_reducible rfl
      rotate_left
      · simp only [Act.put, List.setIfInBounds_toArray, List.set_cons_zero, List.set_cons_succ, i64_w, i32_w]
        rfl
      refine pure_ (i := 2) (N := some 63) (v := ?_) (a' := ?_) #[true, false, true, false, false, false, false, false] rfl rfl (by kernel_rfl) (fun _ _ _ h => h) (Or.inl ⟨by rfl, ?_⟩) ?_ ?_
      rotate_left
      · intro w'
        go_simp
        with_reducible rfl
      rotate_left
      · simp only [Act.put, List.setIfInBounds_toArray, List.set_cons_zero, List.set_cons_succ, i64_w, i32_w]
        rfl
      refine take_ (i := 1) (N := some 62) (v := ?_) (a' := ?_) #[true, true, true, false, false, false, false, false] rfl rfl (by kernel_rfl) (fun _ _ _ h => h) (Or.inl ⟨by rfl, ?_⟩) hHeld ?_ ?_
      rotate_left
      · rintro w' ⟨s0⟩
        go_simp
        with_reducible rfl
      rotate_left
      · simp only [Act.put, List.setIfInBounds_toArray, List.set_cons_zero, List.set_cons_succ, i64_w, i32_w]
        rfl
      refine one_ (i := 3) (N := some 64) #[true, true, true, true, false, false, false, false] rfl rfl (by kernel_rfl) (by decide) (fun K hK => ?_)
      refine goes_ Tryz.func39 (by kernel_rfl) (by kernel_rfl) #[vk] (by rfl) rfl rfl (by (try simp only [List.map_toArray, List.map_cons, List.map_nil]); first | done | rfl) ?_
      refine (IH.out k hlt vk _ (HPL.out _ HB1.out)).mono ?_
      rintro e w3 ⟨v0, v1, v2, v3, v4, v5, G1, rfl, hown1, hap1, hso1, hb1⟩
      obtain ⟨kd', n', x', y', s', _, a', len', cap', _, hv0⟩ := vcells hown1
      simp only [List.cons.injEq, and_true] at hv0
      obtain ⟨rfl, rfl, rfl, rfl, rfl, rfl⟩ := hv0
      have HL3 := Lib.hid (HL2.out.below hb1)
      have hFl := Tr.ownL_lt _ _ _ HL2.out.kids.own
      have hvl2 := fun g hg => (HL2.out.kids.block g hg).2
      have hHeld2 : Box5 (w.heap.size + 1) v w3 := ⟨HL3.out.cell⟩
      have hsz3 := hb1.size
      have HS3 := Lib.hid (And.intro hFl (And.intro hvl2 (And.intro hown1 (And.intro hap1 hso1))))
      clear hFl hvl2 hown1 hap1 hso1 hb1 hHeld
      refine ⟨_, rfl, ?_⟩
      refine hK.out _ _ hHeld2 (fun hHeld => ?_)
      clear hK K hHeld2
      refine norm_ (a' := ?_) ?_ ?_
      rotate_left
      · show Act.put _ (some 64) _ = _
        simp only [Act.put, List.setIfInBounds_toArray, List.set_cons_zero, List.set_cons_succ, i64_w, i32_w]
        rfl
      refine one_ (i := 4) (N := some 65) #[true, true, true, true, true, false, false, false] rfl rfl (by kernel_rfl) (by decide) (fun K hK => ?_)
      refine value_ (w1 := w3.alloc (.cells [.int .u8 kd', .int .i64 n', .float .f64 x', .float .f64 y', .string s', .slice a' len' cap'].toArray 25)) (v := .slice (some ⟨w3.heap.size, 0, none⟩) 1 1) (by rfl) rfl ?_ ?_
      · go_simp
      refine hK.out _ _ ⟨(cell_new w3 _ _ (by show w.heap.size + 1 < w3.heap.size; omega)).trans hHeld.c5⟩ (fun hHeld => ?_)
      clear hK K
      refine norm_ (a' := ?_) ?_ ?_
      rotate_left
      · show Act.put _ (some 65) _ = _
        simp only [Act.put, List.setIfInBounds_toArray, List.set_cons_zero, List.set_cons_succ, i64_w, i32_w]
        rfl
      refine one_ (i := 5) (N := some 66) #[true, true, true, true, true, true, false, false] rfl rfl (by kernel_rfl) (by decide) (fun K hK => ?_)
      refine step_push2 (w1 := w3) (by rfl) _ _ _ (by rfl) (w.heap.size + 2) wd.heap.size 25 i0 _ 6 72 Tryz.underlying23 hi0 hz0 hz1 hz2 rfl (by omega) _ _ xs G (by rfl) HL3.out.kids HS3.out.1 HS3.out.2.1 hsz hsz3 rs[k].tr [.int .u8 kd', .int .i64 n', .float .f64 x', .float .f64 y', .string s', .slice a' len' cap'] G1 HS3.out.2.2.1 HS3.out.2.2.2.1 HS3.out.2.2.2.2 (by rfl) (by rw [Va.trs_len, List.length_take]; have := HL.out; omega) (by omega) ?_
      intro g3 cap3 w4 hk4 hg4 hbg hlt4
      have hq : ∀ i, i < w.heap.size + 2 → w4.heap[i]? = w3.heap[i]? := fun i hi => hg4.block i (by omega) fun e => by have := (HL3.out.kids.block i e.symm).1; omega
      have q6 : w4.cell? ⟨w.heap.size + 1, 5, none⟩ = some v := (World.cell?_of_block (w := w3) (hq _ (by show w.heap.size + 1 < w.heap.size + 2; omega))).trans HL3.out.cell
      have z6 : w4.frozen? ⟨w.heap.size + 1, 5, none⟩ = false := (World.frozen?_of_block (w := w3) (hq _ (by show w.heap.size + 1 < w.heap.size + 2; omega))).trans HL3.out.frozen
      have hHeld2 : Box5 (w.heap.size + 1) v w4 := ⟨q6⟩
      have HS4 := Lib.hid (And.intro hk4 hg4)
      clear hk4 hg4 hHeld hq
      refine hK.out _ _ hHeld2 (fun hHeld => ?_)
      clear hK K hHeld2
      refine norm_ (a' := ?_) ?_ ?_
      rotate_left
      · show Act.put _ (some 66) _ = _
        simp only [Act.put, List.setIfInBounds_toArray, List.set_cons_zero, List.set_cons_succ, i64_w, i32_w]
        rfl
      refine pure_ (i := 6) (N := some 67) (v := ?_) (a' := ?_) #[true, true, true, true, true, true, true, false] rfl rfl (by kernel_rfl) (fun _ _ _ h => h) (Or.inl ⟨by rfl, ?_⟩) ?_ ?_
      rotate_left
      · intro w'
        go_simp
        with_reducible rfl
      rotate_left
      · simp only [Act.put, List.setIfInBounds_toArray, List.set_cons_zero, List.set_cons_succ, i64_w, i32_w]
        rfl
      refine last_ (i := 7) (N := none) #[true, true, true, true, true, true, true, true] rfl rfl (by kernel_rfl) (by decide) (fun K hK => ?_)
      refine skip_ (w1 := w4.setCell ⟨w.heap.size + 1, 5, none⟩ (.slice (some ⟨g3, 0, none⟩) ((Va.trs (rs.take k)).length + 1) cap3)) (by rfl) rfl ?_ ?_
      · go_simp
      refine hK.out _ _ ?_
      clear hK K
      refine done_ (by kernel_rfl) ?_
      go_wp2_with fail
      go_roundw
      case rel =>
        exact ⟨k + 1, _, _, _, by omega, by go_num, Lib.hid (HL3.out.next hlt HS4.out.2 HS4.out.1)⟩
      case measure => simp [intOf]; omega
    · obtain rfl : k = rs.length := by omega
      have d1 : ¬ (rs.length : Int) < (rs.length : Int) := by omega
      obtain ⟨A, cap2, hv⟩ := HL2.out.kids.slice
      rw [Va.trs_len, List.length_take, Nat.min_self] at hv
      subst hv
      go_wp2_with (first | (refine wpList_load_row (by rfl) 25 _ (by rfl) (w.heap.size + 1) (by rfl) 25 _ (0, 0) _ HL2.out.box Tryz.underlying25 rfl (by kernel_rfl) ?_) | (refine wpList_store_rowTo (by rfl) 25 _ _ (by rfl) (by rfl) w.heap.size #[.int .u8 7, .int .i64 0, .float .f64 0, .float .f64 0, .string ⟨#[]⟩, .slice A rs.length cap2] (by rfl) (by rfl) 25 zero6 HL2.out.res (by kernel_rfl) (by kernel_rfl) (all_oneCell_toArray (cs := [.int .u8 7, .int .i64 0, .float .f64 0, .float .f64 0, .string ⟨#[]⟩, .slice A rs.length cap2]) (by simp [Value.oneCell'])) ?_))
      refine bodyPost_ret (v := .agg #[.int .u8 7, .int .i64 0, .float .f64 0, .float .f64 0, .string ⟨#[]⟩, .slice A rs.length cap2]) (results_cell_row rfl _ _ w.heap.size 25 _ (0, 0) _ rfl (setRow_heap _ _ _ _ _ _ HL2.out.res) Tryz.underlying25 rfl (by kernel_rfl)) rfl ?_
      exact HL2.out.fin
theorem empty_of {s : ByteArray} (h : s.size = 0) : s = ⟨#[]⟩ := by
  cases s with
  | mk d => cases d with
    | mk l => cases l with
      | nil => rfl
      | cons a l => simp [ByteArray.size] at h
theorem held_N (N : Nat) : ∀ (r : Va) (_ : r.size ≤ N) (_ : r.all) (_ : r.sm) (lo : Nat) (v : Value) (w : World), r.pl w lo v → Calls Tryz.prog 39 #[v] w (GivesR r w) := by
  induction N with
  | zero => intro r hN; have := r.size_pos; omega
  | succ N ih =>
  intro r hN hall hsm lo v w hp
  obtain ⟨kd, n, x, y, s, rs⟩ := r
  unfold Va.all at hall
  unfold Va.sm at hsm
  unfold Va.size at hN
  obtain ⟨hok, hall⟩ := hall
  unfold Va.pl at hp
  have nolist : rs.length = 0 → rs = [] := List.eq_nil_of_length_eq_zero
  rcases hp with ⟨h, rfl⟩ | ⟨rfl, rfl⟩ | ⟨rfl, rfl⟩ | ⟨rfl, rfl⟩ | ⟨rfl, rfl⟩ | ⟨rfl, rfl⟩ | ⟨rfl, b, cap, rfl, h2, h3, h4, h5⟩ | ⟨rfl, b, cap, vs, rfl, h2, h3, h4, h5, h6⟩
  · unfold okB at hok
    by_cases h0 : kd = 0
    · subst h0
      simp only [if_true, decide_eq_true_eq] at hok
      obtain ⟨rfl, rfl, rfl, hs, hl⟩ := hok
      rw [empty_of hs, nolist hl]
      exact held_0 w
    · rw [if_neg h0, if_neg (by omega), if_neg (by omega), if_neg (by omega), if_neg (by omega), if_neg (by omega), if_neg (by omega)] at hok
      cases hok
  · simp only [okB, show ¬ (1 : Int) = 0 by decide, if_false, if_true, decide_eq_true_eq] at hok
    obtain ⟨hn, rfl, rfl, hs, hl⟩ := hok
    rw [empty_of hs, nolist hl]
    have := held_1 w (n == 1)
    rcases hn with rfl | rfl
    · exact this
    · exact this
  · simp [okB] at hok
    obtain ⟨rfl, rfl, hs, hl⟩ := hok
    rw [show s = ⟨#[]⟩ from hs, hl]
    exact held_2 w n
  · simp [okB] at hok
    obtain ⟨rfl, rfl, hs, hl⟩ := hok
    rw [show s = ⟨#[]⟩ from hs, hl]
    exact held_3 w x
  · simp [okB] at hok
    obtain ⟨rfl, hs, hl⟩ := hok
    rw [show s = ⟨#[]⟩ from hs, hl]
    exact held_4 w x y
  · simp [okB] at hok
    obtain ⟨rfl, rfl, rfl, hs, hl⟩ := hok
    rw [hl]
    exact held_5 w s
  · simp [okB] at hok
    obtain ⟨rfl, rfl, rfl, hs, hl⟩ := hok
    rw [hl]
    exact held_6 w s b cap h5 h4
  · simp [okB] at hok
    obtain ⟨rfl, rfl, rfl, hs⟩ := hok
    rw [show s = ⟨#[]⟩ from hs]
    exact held_7 rs vs lo b cap w hsm.2.1 h4 h5 h6 (fun k hk v W h => ih rs[k] (by have := Va.sizes_at rs k hk; omega) (Va.alls_at rs k hk hall) (Va.sms_at rs k hk hsm.2.2) lo v W h)
end Go.Proofs.YtbbpngoffpegbaaGreatDoor
