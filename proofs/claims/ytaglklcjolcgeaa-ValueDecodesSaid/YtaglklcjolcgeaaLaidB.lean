/- The walk of the program's held: bools, bytes, lists; all kinds together. (Printed by genheld7.py.) The walk of the first closure of laid: a number's bytes behind others. (Printed by genlaida.py.) The walk of the second closure of laid: a float's bytes behind others. -/
import Derived.Test.YtaglklcjolcgeaaHeld
import Derived.Test.YtaglklcjolcgeaaPVal7
import Derived.Test.YtaglklcjolcgeaaEncL
import Derived.StillTailTactics
namespace Go.Proofs.Ytaglklcjolcgeaa
open Go Go.RowKit Go.Proofs.YtaglklcjolcgeaaW.PrintWords Go.Proofs.YtaglklcjolcgeaaW.PrintLast
set_option linter.unusedVariables false
set_option linter.unusedSimpArgs false
attribute [local go_sem] run_store_float
theorem str_nums (s : ByteArray) : strOfNums (s.data.toList.map fun x => (x.toNat : Int)) = s := by
  apply ByteArray.ext
  apply Array.toList_inj.1
  rw [strOfNums_data, List.map_map]
  conv => rhs; rw [← List.map_id s.data.toList]
  refine List.map_congr_left fun x _ => ?_
  show UInt8.ofNat ((x.toNat : Int).toNat) = x
  simp
theorem conv_bytes (W : World) (b cap : Nat) (s : ByteArray) (h : W.rangeAt b 0 (Lib.strCells s)) : Sem.run Try.prog (convert 68 9 (.slice (some ⟨b, 0, none⟩) s.size cap)) W = .ok (.string s) W := by
  have := run_convert_bytes_arg (P := Try.prog) W 68 5 Try.underlying68 Try.underlying5 b 0 s.size cap (s.data.toList.map fun x => (x.toNat : Int)) (by simp) (fun i hi => by
    have hi' : i < s.data.toList.length := by simpa using hi
    have := h i (.int .u8 s.data.toList[i].toNat) (by simp [Lib.strCells, List.getElem?_eq_getElem hi'])
    rw [this]
    have h3 : s.data[i]? = some s.data[i] := Array.getElem?_eq_getElem hi
    simp [List.getD, h3]) 9 Try.underlying9
  rw [str_nums] at this
  exact this
set_option maxRecDepth 100000 in
set_option maxHeartbeats 2000000 in
theorem held_6 (w : World) (s : ByteArray) (b cap : Nat) (hr : w.rangeAt b 0 (Lib.strCells s)) (hb : b < w.heap.size) : Calls Try.prog 61 #[.iface 68 (.slice (some ⟨b, 0, none⟩) s.size cap)] w (GivesR (.mk 6 0 0 0 s []) w) := by
  have a0 := ta_yb
  have a1 := ta_yi
  have a2 := ta_yf
  have a3 := ta_yc
  have a4 := ta_ys
  have a5 := ta_yy
  have HB := Lib.hid (bnew (Below.refl w.heap.size w) (.cells zero6 25))
  have HE := Lib.hid (heap_alloc_new w (.cells zero6 25))
  have a6 := conv_bytes (w.alloc (.cells #[.int .u8 0, .int .i64 0, .float .f64 0, .float .f64 0, .string ⟨#[]⟩, .slice none 0 0] 25)) b cap s (rangeAt_of_block hr (HB.out.block b hb))
  clear hr
  go_enter Try.func61, Try.ntmps61
  go_wp2_with (refine wpList_store_rowTo (by rfl) 25 _ _ (by rfl) (by rfl) w.heap.size #[.int .u8 6, .int .i64 0, .float .f64 0, .float .f64 0, .string s, .slice none 0 0] (by rfl) (by rfl) 25 zero6 HE.out (by kernel_rfl) (by kernel_rfl) (all_oneCell_toArray (cs := [.int .u8 6, .int .i64 0, .float .f64 0, .float .f64 0, .string s, .slice none 0 0]) (by simp [Value.oneCell'])) ?_)
  refine bodyPost_ret (v := .agg #[.int .u8 6, .int .i64 0, .float .f64 0, .float .f64 0, .string s, .slice none 0 0]) (results_cell_row rfl _ _ w.heap.size 25 _ (0, 0) _ rfl (setRow_heap _ _ _ _ _ _ HE.out) Try.underlying25 rfl (by kernel_rfl)) rfl ?_
  refine held_end HB.out (fun W => ?_)
  unfold Va.tr Tr.own
  exact ⟨none, 0, 0, by simp, rfl, by simp [Value.oneCell'], ⟨rfl, Nat.le_refl _⟩, Nat.le_refl _, by omega, .inl ⟨rfl, rfl⟩⟩
set_option maxRecDepth 100000 in
set_option maxHeartbeats 2000000 in
theorem held_1 (w : World) (c : Bool) : Calls Try.prog 61 #[.iface 4 (.bool c)] w (GivesR (mkI 1 (if c then 1 else 0)) w) := by
  have a0 := ta_bb
  have HE0 := Lib.hid (two1 w (.cells zero6 25) (.cells #[.int .u8 1, .int .i64 0, .float .f64 0, .float .f64 0, .string ⟨#[]⟩, .slice none 0 0] 25))
  have HX0 := Lib.hid (two2 w (.cells zero6 25) (.cells #[.int .u8 1, .int .i64 0, .float .f64 0, .float .f64 0, .string ⟨#[]⟩, .slice none 0 0] 25))
  have HB0 := Lib.hid (bb2 w (.cells zero6 25) (.cells #[.int .u8 1, .int .i64 0, .float .f64 0, .float .f64 0, .string ⟨#[]⟩, .slice none 0 0] 25))
  cases c
  · go_enter Try.func61, Try.ntmps61
    go_wp2_with (refine wpList_store_rowTo (by rfl) 25 _ _ (by rfl) (by rfl) w.heap.size #[.int .u8 1, .int .i64 0, .float .f64 0, .float .f64 0, .string ⟨#[]⟩, .slice none 0 0] (by rfl) (by rfl) 25 zero6 HE0.out (by kernel_rfl) (by kernel_rfl) (all_oneCell_toArray (cs := [.int .u8 1, .int .i64 0, .float .f64 0, .float .f64 0, .string ⟨#[]⟩, .slice none 0 0]) (by simp [Value.oneCell'])) ?_)
    refine bodyPost_ret (v := .agg #[.int .u8 1, .int .i64 0, .float .f64 0, .float .f64 0, .string ⟨#[]⟩, .slice none 0 0]) (results_cell_row rfl _ _ w.heap.size 25 _ (0, 0) _ rfl (setRow_heap _ _ _ _ _ _ HE0.out) Try.underlying25 rfl (by kernel_rfl)) rfl ?_
    refine held_end HB0.out (fun W => ?_)
    unfold mkI Va.tr Tr.own
    exact ⟨none, 0, 0, by simp, rfl, by simp [Value.oneCell'], ⟨rfl, Nat.le_refl _⟩, Nat.le_refl _, by omega, .inl ⟨rfl, rfl⟩⟩
  · go_enter Try.func61, Try.ntmps61
    go_wp2_with fail
    refine bodyPost_ret (v := .agg #[.int .u8 1, .int .i64 1, .float .f64 0, .float .f64 0, .string ⟨#[]⟩, .slice none 0 0]) (results_cell_row rfl _ _ w.heap.size 25 _ (0, 0) _ rfl (two1 w _ _) Try.underlying25 rfl (by kernel_rfl)) rfl ?_
    refine ⟨_, _, _, _, _, _, [], rfl, ?_, Apart.nil _, Soft.nil _, bb2 w _ _⟩
    unfold mkI Va.tr Tr.own
    exact ⟨none, 0, 0, by simp, rfl, by simp [Value.oneCell'], ⟨rfl, Nat.le_refl _⟩, Nat.le_refl _, by omega, .inl ⟨rfl, rfl⟩⟩
theorem Va.pls_at {w : World} {lo : Nat} : ∀ (rs : List Va) (vs : List Value) (k : Nat) (hk : k < rs.length) (hv : k < vs.length), Va.pls w lo rs vs → rs[k].pl w lo vs[k]
  | [], _, k, hk, _, _ => by simp at hk
  | r :: rs, vs, k, hk, hv, h => by
    unfold Va.pls at h
    obtain ⟨v, vs', rfl, h2, h3⟩ := h
    cases k with
    | zero => exact h2
    | succ k => exact Va.pls_at rs vs' k (by simpa using hk) (by simpa using hv) h3
/-- What stands ahead of a round of held. -/
structure Lh (rs : List Va) (w : World) (k : Nat) (v : Value) (xs : List Value) (G : List Nat) (W : World) : Prop where
  low : Below w.heap.size w W
  res : W.heap[w.heap.size]? = some (.cells zero6 25 (0, 0))
  box : W.heap[w.heap.size + 1]? = some (.cells #[.int .u8 7, .int .i64 0, .float .f64 0, .float .f64 0, .string ⟨#[]⟩, v] 25 (0, 0))
  kids : Kids 6 25 (w.heap.size + 2) W v (Va.trs (rs.take k)) xs G
theorem Lh.sz {rs : List Va} {w : World} {k : Nat} {v : Value} {xs : List Value} {G : List Nat} {W : World} (h : Lh rs w k v xs G W) : w.heap.size + 2 ≤ W.heap.size := (Array.getElem?_eq_some_iff.1 h.box).1
theorem Lh.cell {rs : List Va} {w : World} {k : Nat} {v : Value} {xs : List Value} {G : List Nat} {W : World} (h : Lh rs w k v xs G W) : W.cell? ⟨w.heap.size + 1, 5, none⟩ = some v := box_all h.box 5
theorem Lh.frozen {rs : List Va} {w : World} {k : Nat} {v : Value} {xs : List Value} {G : List Nat} {W : World} (h : Lh rs w k v xs G W) : W.frozen? ⟨w.heap.size + 1, 5, none⟩ = false := by simp [World.frozen?, h.box]
theorem Lh.drew {rs : List Va} {w : World} {k : Nat} {v : Value} {xs : List Value} {G : List Nat} {W : World} (h : Lh rs w k v xs G W) : Lh rs w k v xs G W.drew := ⟨h.low.drew, h.res, h.box, h.kids.drew⟩
theorem Lh.below {rs : List Va} {w : World} {k : Nat} {v : Value} {xs : List Value} {G : List Nat} {W W2 : World} (h : Lh rs w k v xs G W) (hb : Below W.heap.size W W2) : Lh rs w k v xs G W2 := by
  have := h.sz
  exact ⟨h.low.trans (hb.mono (by omega)), (hb.block _ (by omega)).trans h.res, (hb.block _ (by omega)).trans h.box, h.kids.below hb⟩
/-- Behind a round. -/
theorem Lh.next {rs : List Va} {w : World} {k : Nat} {v v' : Value} {xs xs' : List Value} {G G' : List Nat} {W W2 : World} (h : Lh rs w k v xs G W) (hlt : k < rs.length) (hg : W.grownBy W2 v.ownBlock) (hk : Kids 6 25 (w.heap.size + 2) W2 v' (Va.trs (rs.take k) ++ [rs[k].tr]) xs' G') :
    Lh rs w (k + 1) v' xs' G' (W2.setCell ⟨w.heap.size + 1, 5, none⟩ v') := by
  have hsz := h.sz
  have hv := h.kids.block
  have h1 := hg.size
  have hb2 : Below w.heap.size w W2 := h.low.grown hg (by omega) (fun g e => by have := (hv g e).1; omega)
  have hs : ∀ i, i < w.heap.size + 2 → W2.heap[i]? = W.heap[i]? := fun i hi => hg.block i (by omega) fun e => by have := (hv i e.symm).1; omega
  refine ⟨hb2.setCell (by show w.heap.size ≤ w.heap.size + 1; omega) _, (Below.heap_setCell _ _ _ _ (by show w.heap.size ≠ w.heap.size + 1; omega)).trans ((hs _ (by omega)).trans h.res), Joins.block_setCell (i := 5) ((hs _ (by omega)).trans h.box) v', ?_⟩
  rw [Va.trs_take rs k hlt]
  exact hk.setCell _ (by show w.heap.size + 1 < w.heap.size + 2; omega) _
theorem Lh.fin {rs : List Va} {w : World} {A : Option Addr} {cap : Nat} {xs : List Value} {G : List Nat} {W : World} (h : Lh rs w rs.length (.slice A rs.length cap) xs G W) :
    GivesR (.mk 7 0 0 0 ⟨#[]⟩ rs) w (.returned (.agg #[.int .u8 7, .int .i64 0, .float .f64 0, .float .f64 0, .string ⟨#[]⟩, .slice A rs.length cap])) (W.setRow w.heap.size #[.int .u8 7, .int .i64 0, .float .f64 0, .float .f64 0, .string ⟨#[]⟩, .slice A rs.length cap]) := by
  have hkids := h.kids
  rw [List.take_length] at hkids
  have hl := Va.trs_len rs
  rw [← hl] at hkids
  obtain ⟨GF, hnode, hap, hsoft⟩ := hkids.nodeV (vis := rs.length) (by rw [Va.trs_len]; omega) [.int .u8 7, .int .i64 0, .float .f64 0, .float .f64 0, .string ⟨#[]⟩] rfl (by simp [Value.oneCell'])
  have hs : ∀ i ∈ GF, (W.setRow w.heap.size #[.int .u8 7, .int .i64 0, .float .f64 0, .float .f64 0, .string ⟨#[]⟩, .slice A rs.length cap]).heap[i]? = W.heap[i]? := fun i hi => setRow_other _ _ _ _ (by have := hap.2 i hi; omega)
  refine ⟨_, _, _, _, _, _, GF, rfl, ?_, hap.mono (by omega), hsoft.same hs, h.low.trans ⟨rfl, rfl, rfl, by simp, fun i hi => setRow_other _ _ _ _ (by omega)⟩⟩
  unfold Va.tr
  exact Tr.own_same _ _ _ hs hnode
set_option maxRecDepth 100000 in
set_option maxHeartbeats 4000000 in
theorem held_7 (rs : List Va) (vs : List Value) (lo b cap : Nat) (w : World) (hl : rs.length ≤ 1024) (hb : b < w.heap.size) (hr : w.rangeAt b 0 vs) (hp : Va.pls w lo rs vs)
    (IH : ∀ (k : Nat) (hk : k < rs.length) (v : Value) (W : World), rs[k].pl W lo v → Calls Try.prog 61 #[v] W (GivesR rs[k] W)) :
    Calls Try.prog 61 #[.iface 78 (.slice (some ⟨b, 0, none⟩) rs.length cap)] w (GivesR (.mk 7 0 0 0 ⟨#[]⟩ rs) w) := by
  have a0 := ta_ab
  have a1 := ta_ai
  have a2 := ta_af
  have a3 := ta_ac
  have a4 := ta_as
  have a5 := ta_ay
  have a6 := ta_aa
  have hvl := Va.pls_len hp
  have IH := Lib.hid IH
  have HP := Lib.hid (And.intro hr (And.intro hp hb))
  have HL := Lib.hid hl
  have hv2 := Lib.hid (show Lh rs w 0 (.slice none 0 0) [] [] ((w.alloc (.cells zero6 25)).alloc (.cells #[.int .u8 7, .int .i64 0, .float .f64 0, .float .f64 0, .string ⟨#[]⟩, .slice none 0 0] 25)) from ⟨bb2 w _ _, two1 w _ _, two2 w _ _, by simpa [Va.trs] using Kids.nil 6 25 _ _⟩)
  obtain ⟨i0, hi0, hz0, hz1, hz2⟩ := info_parts info_tV
  clear hr hp
  go_enter Try.func61, Try.ntmps61
  go_wp2_with fail
  clear a0 a1 a2 a3 a4 a5 a6
  go_loopw [57] (fun u57 wr => ∃ (k : Nat) (v : Value) (xs : List Value) (G : List Nat), k ≤ rs.length ∧ u57 = .int .i64 k ∧ Hid (Lh rs w k v xs G wr)) (fun u57 _ => rs.length - (intOf u57).toNat)
  case atStart => exact ⟨0, .slice none 0 0, [], [], by omega, rfl, hv2⟩
  case round =>
    clear hv2
    obtain ⟨k, v, xs, G, hk, rfl, HL2⟩ := hrel
    by_cases hlt : k < rs.length
    · have d1 : (k : Int) < (rs.length : Int) := by omega
      have d0 : (0 : Int) ≤ (k : Int) := by omega
      have hsz := HL2.out.sz
      have hpl : ∀ W, Below wr.heap.size wr W → rs[k].pl W lo vs[k] := fun W hW => Va.pl_same (Nat.le_refl _) (Nat.le_trans (by omega) hW.size) (fun i _ hi => (hW.block i (by omega)).trans (HL2.out.low.block i hi)) _ _ (Va.pls_at rs vs k hlt (by omega) HP.out.2.1)
      have hcl : wr.cell? ⟨b, k, none⟩ = some vs[k] := by
        have := rangeAt_of_block HP.out.1 (HL2.out.low.block b HP.out.2.2) k vs[k] (List.getElem?_eq_getElem (by omega))
        simpa using this
      have HPL := Lib.hid hpl
      have HQ := Lib.hid (show Box5 (w.heap.size + 1) v wr.drew from ⟨HL2.out.cell⟩)
      have hform := Va.pl_form (hpl wr (Below.refl _ _))
      obtain ⟨vk, hvk⟩ : ∃ vk, vk = vs[k] := ⟨_, rfl⟩
      rw [← hvk] at HPL hcl
      clear hpl hvk hform
      go_wp2_with fail
      refine start_ (n := 8) (S := Box5 (w.heap.size + 1) v) (ds := [7]) #[false, false, false, false, false, false, false, false] (by kernel_rfl) rfl rfl HQ.out (fun hHeld => ?_)
      have HB1 := Lib.hid (show Below wr.heap.size wr wr.drew from (Below.refl _ wr).drew)
      have HL2 := Lib.hid HL2.out.drew
      have hsz : w.heap.size + 2 ≤ wr.drew.heap.size := hsz
      generalize wr.drew = wd at *
      refine pure_ (i := 0) (N := some 61) (v := ?_) (a' := ?_) #[true, false, false, false, false, false, false, false] rfl rfl (by kernel_rfl) (fun _ _ _ h => h) (Or.inl ⟨by rfl, ?_⟩) ?_ ?_
      rotate_left
      · intro w'
        go_simp
        with_reducible rfl
      rotate_left
      · simp only [Act.put, List.setIfInBounds_toArray, List.set_cons_zero, List.set_cons_succ, i64_w, i32_w]
        rfl
      refine pure_ (i := 2) (N := some 63) (v := ?_) (a' := ?_) #[true, false, true, false, false, false, false, false] rfl rfl (by kernel_rfl) (fun _ _ _ h => h) (Or.inl ⟨by rfl, ?_⟩) ?_ ?_
      rotate_left
      · intro w'
        go_simp
        with_reducible rfl
      rotate_left
      · simp only [Act.put, List.setIfInBounds_toArray, List.set_cons_zero, List.set_cons_succ, i64_w, i32_w]
        rfl
      refine take_ (i := 1) (N := some 62) (v := ?_) (a' := ?_) #[true, true, true, false, false, false, false, false] rfl rfl (by kernel_rfl) (fun _ _ _ h => h) (Or.inl ⟨by rfl, ?_⟩) hHeld ?_ ?_
      rotate_left
      · rintro w' ⟨s0⟩
        go_simp
        with_reducible rfl
      rotate_left
      · simp only [Act.put, List.setIfInBounds_toArray, List.set_cons_zero, List.set_cons_succ, i64_w, i32_w]
        rfl
      refine one_ (i := 3) (N := some 64) #[true, true, true, true, false, false, false, false] rfl rfl (by kernel_rfl) (by decide) (fun K hK => ?_)
      refine goes_ Try.func61 (by kernel_rfl) (by kernel_rfl) #[vk] (by rfl) rfl rfl (by (try simp only [List.map_toArray, List.map_cons, List.map_nil]); first | done | rfl) ?_
      refine (IH.out k hlt vk _ (HPL.out _ HB1.out)).mono ?_
      rintro e w3 ⟨v0, v1, v2, v3, v4, v5, G1, rfl, hown1, hap1, hso1, hb1⟩
      obtain ⟨kd', n', x', y', s', _, a', len', cap', _, hv0⟩ := vcells hown1
      simp only [List.cons.injEq, and_true] at hv0
      obtain ⟨rfl, rfl, rfl, rfl, rfl, rfl⟩ := hv0
      have HL3 := Lib.hid (HL2.out.below hb1)
      have hFl := Tr.ownL_lt _ _ _ HL2.out.kids.own
      have hvl2 := fun g hg => (HL2.out.kids.block g hg).2
      have hHeld2 : Box5 (w.heap.size + 1) v w3 := ⟨HL3.out.cell⟩
      have hsz3 := hb1.size
      have HS3 := Lib.hid (And.intro hFl (And.intro hvl2 (And.intro hown1 (And.intro hap1 hso1))))
      clear hFl hvl2 hown1 hap1 hso1 hb1 hHeld
      refine ⟨_, rfl, ?_⟩
      refine hK.out _ _ hHeld2 (fun hHeld => ?_)
      clear hK K hHeld2
      refine norm_ (a' := ?_) ?_ ?_
      rotate_left
      · show Act.put _ (some 64) _ = _
        simp only [Act.put, List.setIfInBounds_toArray, List.set_cons_zero, List.set_cons_succ, i64_w, i32_w]
        rfl
      refine one_ (i := 4) (N := some 65) #[true, true, true, true, true, false, false, false] rfl rfl (by kernel_rfl) (by decide) (fun K hK => ?_)
      refine value_ (w1 := w3.alloc (.cells [.int .u8 kd', .int .i64 n', .float .f64 x', .float .f64 y', .string s', .slice a' len' cap'].toArray 25)) (v := .slice (some ⟨w3.heap.size, 0, none⟩) 1 1) (by rfl) rfl ?_ ?_
      · go_simp
      refine hK.out _ _ ⟨(cell_new w3 _ _ (by show w.heap.size + 1 < w3.heap.size; omega)).trans hHeld.c5⟩ (fun hHeld => ?_)
      clear hK K
      refine norm_ (a' := ?_) ?_ ?_
      rotate_left
      · show Act.put _ (some 65) _ = _
        simp only [Act.put, List.setIfInBounds_toArray, List.set_cons_zero, List.set_cons_succ, i64_w, i32_w]
        rfl
      refine one_ (i := 5) (N := some 66) #[true, true, true, true, true, true, false, false] rfl rfl (by kernel_rfl) (by decide) (fun K hK => ?_)
      refine step_push2 (w1 := w3) (by rfl) _ _ _ (by rfl) (w.heap.size + 2) wd.heap.size 25 i0 _ 6 72 Try.underlying23 hi0 hz0 hz1 hz2 rfl (by omega) _ _ xs G (by rfl) HL3.out.kids HS3.out.1 HS3.out.2.1 hsz hsz3 rs[k].tr [.int .u8 kd', .int .i64 n', .float .f64 x', .float .f64 y', .string s', .slice a' len' cap'] G1 HS3.out.2.2.1 HS3.out.2.2.2.1 HS3.out.2.2.2.2 (by rfl) (by rw [Va.trs_len, List.length_take]; have := HL.out; omega) (by omega) ?_
      intro g3 cap3 w4 hk4 hg4 hbg hlt4
      have hq : ∀ i, i < w.heap.size + 2 → w4.heap[i]? = w3.heap[i]? := fun i hi => hg4.block i (by omega) fun e => by have := (HL3.out.kids.block i e.symm).1; omega
      have q6 : w4.cell? ⟨w.heap.size + 1, 5, none⟩ = some v := (World.cell?_of_block (w := w3) (hq _ (by show w.heap.size + 1 < w.heap.size + 2; omega))).trans HL3.out.cell
      have z6 : w4.frozen? ⟨w.heap.size + 1, 5, none⟩ = false := (World.frozen?_of_block (w := w3) (hq _ (by show w.heap.size + 1 < w.heap.size + 2; omega))).trans HL3.out.frozen
      have hHeld2 : Box5 (w.heap.size + 1) v w4 := ⟨q6⟩
      have HS4 := Lib.hid (And.intro hk4 hg4)
      clear hk4 hg4 hHeld hq
      refine hK.out _ _ hHeld2 (fun hHeld => ?_)
      clear hK K hHeld2
      refine norm_ (a' := ?_) ?_ ?_
      rotate_left
      · show Act.put _ (some 66) _ = _
        simp only [Act.put, List.setIfInBounds_toArray, List.set_cons_zero, List.set_cons_succ, i64_w, i32_w]
        rfl
      refine pure_ (i := 6) (N := some 67) (v := ?_) (a' := ?_) #[true, true, true, true, true, true, true, false] rfl rfl (by kernel_rfl) (fun _ _ _ h => h) (Or.inl ⟨by rfl, ?_⟩) ?_ ?_
      rotate_left
      · intro w'
        go_simp
        with_reducible rfl
      rotate_left
      · simp only [Act.put, List.setIfInBounds_toArray, List.set_cons_zero, List.set_cons_succ, i64_w, i32_w]
        rfl
      refine last_ (i := 7) (N := none) #[true, true, true, true, true, true, true, true] rfl rfl (by kernel_rfl) (by decide) (fun K hK => ?_)
      refine skip_ (w1 := w4.setCell ⟨w.heap.size + 1, 5, none⟩ (.slice (some ⟨g3, 0, none⟩) ((Va.trs (rs.take k)).length + 1) cap3)) (by rfl) rfl ?_ ?_
      · go_simp
      refine hK.out _ _ ?_
      clear hK K
      refine done_ (by kernel_rfl) ?_
      go_wp2_with fail
      go_roundw
      case rel =>
        exact ⟨k + 1, _, _, _, by omega, by go_num, Lib.hid (HL3.out.next hlt HS4.out.2 HS4.out.1)⟩
      case measure => simp [intOf]; omega
    · obtain rfl : k = rs.length := by omega
      have d1 : ¬ (rs.length : Int) < (rs.length : Int) := by omega
      obtain ⟨A, cap2, hv⟩ := HL2.out.kids.slice
      rw [Va.trs_len, List.length_take, Nat.min_self] at hv
      subst hv
      go_wp2_with (first | (refine wpList_load_row (by rfl) 25 _ (by rfl) (w.heap.size + 1) (by rfl) 25 _ (0, 0) _ HL2.out.box Try.underlying25 rfl (by kernel_rfl) ?_) | (refine wpList_store_rowTo (by rfl) 25 _ _ (by rfl) (by rfl) w.heap.size #[.int .u8 7, .int .i64 0, .float .f64 0, .float .f64 0, .string ⟨#[]⟩, .slice A rs.length cap2] (by rfl) (by rfl) 25 zero6 HL2.out.res (by kernel_rfl) (by kernel_rfl) (all_oneCell_toArray (cs := [.int .u8 7, .int .i64 0, .float .f64 0, .float .f64 0, .string ⟨#[]⟩, .slice A rs.length cap2]) (by simp [Value.oneCell'])) ?_))
      refine bodyPost_ret (v := .agg #[.int .u8 7, .int .i64 0, .float .f64 0, .float .f64 0, .string ⟨#[]⟩, .slice A rs.length cap2]) (results_cell_row rfl _ _ w.heap.size 25 _ (0, 0) _ rfl (setRow_heap _ _ _ _ _ _ HL2.out.res) Try.underlying25 rfl (by kernel_rfl)) rfl ?_
      exact HL2.out.fin
theorem empty_of {s : ByteArray} (h : s.size = 0) : s = ⟨#[]⟩ := by
  cases s with
  | mk d => cases d with
    | mk l => cases l with
      | nil => rfl
      | cons a l => simp [ByteArray.size] at h
theorem held_N (N : Nat) : ∀ (r : Va) (_ : r.size ≤ N) (_ : r.all) (_ : r.sm) (lo : Nat) (v : Value) (w : World), r.pl w lo v → Calls Try.prog 61 #[v] w (GivesR r w) := by
  induction N with
  | zero => intro r hN; have := r.size_pos; omega
  | succ N ih =>
  intro r hN hall hsm lo v w hp
  obtain ⟨kd, n, x, y, s, rs⟩ := r
  unfold Va.all at hall
  unfold Va.sm at hsm
  unfold Va.size at hN
  obtain ⟨hok, hall⟩ := hall
  unfold Va.pl at hp
  have nolist : rs.length = 0 → rs = [] := List.eq_nil_of_length_eq_zero
  rcases hp with ⟨h, rfl⟩ | ⟨rfl, rfl⟩ | ⟨rfl, rfl⟩ | ⟨rfl, rfl⟩ | ⟨rfl, rfl⟩ | ⟨rfl, rfl⟩ | ⟨rfl, b, cap, rfl, h2, h3, h4, h5⟩ | ⟨rfl, b, cap, vs, rfl, h2, h3, h4, h5, h6⟩
  · unfold okB at hok
    by_cases h0 : kd = 0
    · subst h0
      simp only [if_true, decide_eq_true_eq] at hok
      obtain ⟨rfl, rfl, rfl, hs, hl⟩ := hok
      rw [empty_of hs, nolist hl]
      exact held_0 w
    · rw [if_neg h0, if_neg (by omega), if_neg (by omega), if_neg (by omega), if_neg (by omega), if_neg (by omega), if_neg (by omega)] at hok
      cases hok
  · simp only [okB, show ¬ (1 : Int) = 0 by decide, if_false, if_true, decide_eq_true_eq] at hok
    obtain ⟨hn, rfl, rfl, hs, hl⟩ := hok
    rw [empty_of hs, nolist hl]
    have := held_1 w (n == 1)
    rcases hn with rfl | rfl
    · exact this
    · exact this
  · simp [okB] at hok
    obtain ⟨rfl, rfl, hs, hl⟩ := hok
    rw [show s = ⟨#[]⟩ from hs, hl]
    exact held_2 w n
  · simp [okB] at hok
    obtain ⟨rfl, rfl, hs, hl⟩ := hok
    rw [show s = ⟨#[]⟩ from hs, hl]
    exact held_3 w x
  · simp [okB] at hok
    obtain ⟨rfl, hs, hl⟩ := hok
    rw [show s = ⟨#[]⟩ from hs, hl]
    exact held_4 w x y
  · simp [okB] at hok
    obtain ⟨rfl, rfl, rfl, hs, hl⟩ := hok
    rw [hl]
    exact held_5 w s
  · simp [okB] at hok
    obtain ⟨rfl, rfl, rfl, hs, hl⟩ := hok
    rw [hl]
    exact held_6 w s b cap h5 h4
  · simp [okB] at hok
    obtain ⟨rfl, rfl, rfl, hs⟩ := hok
    rw [show s = ⟨#[]⟩ from hs]
    exact held_7 rs vs lo b cap w hsm.2.1 h4 h5 h6 (fun k hk v W h => ih rs[k] (by have := Va.sizes_at rs k hk; omega) (Va.alls_at rs k hk hall) (Va.sms_at rs k hk hsm.2.2) lo v W h)
end Go.Proofs.Ytaglklcjolcgeaa
namespace Go.Proofs.Ytaglklcjolcgeaa
open Go Go.RowKit Go.Proofs.YtaglklcjolcgeaaW.PrintWords Go.Proofs.YtaglklcjolcgeaaW.PrintLast
set_option linter.unusedVariables false
set_option linter.unusedSimpArgs false
attribute [local go_sem] run_store_float
/-- Bytes as cells. -/
def cellsB (l : Bs) : List Value := l.map fun b => Value.int .u8 b.toNat
theorem cellsB_len (l : Bs) : (cellsB l).length = l.length := by simp [cellsB]
theorem cellsB_one (l : Bs) : ∀ u ∈ cellsB l, u.oneCell' = true := by
  intro u hu
  simp only [cellsB, List.mem_map] at hu
  obtain ⟨b, _, rfl⟩ := hu
  rfl
/-- A variable that holds a row of bytes. -/
structure AtB (B : Nat) (l : Bs) (v : Value) (W : World) : Prop where
  cell : W.cell? ⟨B, 0, none⟩ = some v
  fz : W.frozen? ⟨B, 0, none⟩ = false
  row : W.ownsRow 0 5 1 v l.length (cellsB l)
  far : v.ownBlock ≠ some B
theorem AtB.lt {B : Nat} {l : Bs} {v : Value} {W : World} (h : AtB B l v W) : B < W.heap.size := World.block_lt_of_cell? W ⟨B, 0, none⟩ h.cell
/-- What may have turned meanwhile: the variable, its row, new memory. -/
structure StB (B : Nat) (v v' : Value) (W W' : World) : Prop where
  wr : Wr (fun j => j = B ∨ v.ownBlock = some j) W W'
  own : ∀ g, v'.ownBlock = some g → v.ownBlock = some g ∨ W.heap.size ≤ g
theorem StB.refl (B : Nat) (v : Value) (W : World) : StB B v v W W := ⟨Wr.refl _ _, fun g h => .inl h⟩
theorem StB.trans {B : Nat} {v v' v'' : Value} {W W' W'' : World} (h : StB B v v' W W') (k : StB B v' v'' W' W'') : StB B v v'' W W'' := by
  refine ⟨h.wr.andThen k.wr fun i hi ht => ?_, fun g hg => ?_⟩
  · rcases ht with ht | ht
    · exact .inl ht
    · rcases h.own i ht with h1 | h1
      · exact .inr h1
      · omega
  · rcases k.own g hg with h1 | h1
    · exact h.own g h1
    · exact .inr (Nat.le_trans h.wr.size h1)
theorem AtB.drew {B : Nat} {l : Bs} {v : Value} {W : World} (h : AtB B l v W) : AtB B l v W.drew := ⟨h.cell, h.fz, h.row.drew, h.far⟩
theorem StB.drew {B : Nat} {v v' : Value} {W W' : World} (h : StB B v v' W W') : StB B v v' W W'.drew := ⟨h.wr.drew, h.own⟩
/-- Behind an append and the store. -/
theorem AtB.next {B : Nat} {l l' : Bs} {v v' : Value} {W W1 W2 : World} (h : AtB B l v W) (hb : Below W.heap.size W W1) (hg : W1.grownBy W2 v.ownBlock) (hr : W2.ownsRow 0 5 1 v' l'.length (cellsB l')) (hat : v'.ownBlock = v.ownBlock ∨ ∃ g, v'.ownBlock = some g ∧ W.heap.size ≤ g) :
    AtB B l' v' (W2.setCell ⟨B, 0, none⟩ v') ∧ StB B v v' W (W2.setCell ⟨B, 0, none⟩ v') := by
  have hlt := h.lt
  have hs1 := hb.size
  have hs2 := hg.size
  have hB : W2.heap[B]? = W.heap[B]? := (hg.block B (by omega) fun e => h.far e.symm).trans (hb.block B hlt)
  have hfar : v'.ownBlock ≠ some B := by
    rcases hat with e | ⟨g, e, hge⟩
    · rw [e]; exact h.far
    · rw [e]; intro e2; injection e2 with e2; omega
  refine ⟨⟨World.cell?_setCell_same _ _ _ (by rw [World.cell?_of_block (w := W) hB, h.cell]), (World.frozen?_setCell ..).trans ((World.frozen?_of_block (w := W) hB).trans h.fz), ?_, hfar⟩, ?_, fun g hg' => ?_⟩
  · exact hr.kept (row := some B) ⟨rfl, rfl, rfl, by simp [World.setCell], fun k hk hne => Below.heap_setCell _ _ _ _ (by show k ≠ B; intro e; exact hne (by rw [e]))⟩ (.inr hfar)
  · refine Wr.setCell (p := ⟨B, 0, none⟩) ⟨hg.os.trans hb.os, hg.tape.trans hb.tape, hg.output.trans hb.output, by omega, fun i hi hs => ?_⟩ (.inl (.inl rfl)) _
    exact (hg.block i (by omega) fun e => hs (.inr e.symm)).trans (hb.block i hi)
  · rcases hat with e | ⟨g', e, hge⟩
    · rw [e] at hg'; exact .inl hg'
    · rw [e] at hg'; injection hg' with hg'; exact .inr (by omega)
theorem eb_step (k n j : Nat) (hj : j < k) : (eb k n).take (j + 1) = (eb k n).take j ++ [UInt8.ofNat (n / 256 ^ (k - 1 - j))] := by
  have hl := eb_len k n
  rw [List.take_succ_eq_append_getElem (by omega), eb_get k n j (by omega) hj]
theorem byte_of (m : Nat) : (((UInt8.ofNat m).toNat : Nat) : Int) = (m : Int) % 256 := by
  rw [UInt8.toNat_ofNat']
  omega
theorem cellsB_snoc (l : Bs) (b : UInt8) : cellsB (l ++ [b]) = cellsB l ++ [.int .u8 b.toNat] := by simp [cellsB]
/-- A variable's slice. -/
structure Box0 (B : Nat) (v : Value) (W : World) : Prop where
  c0 : W.cell? ⟨B, 0, none⟩ = some v
theorem shr_256 (n i : Nat) : (n : Int) / 2 ^ (8 * (i : Int)).toNat = ((n / 256 ^ i : Nat) : Int) := by
  rw [show (8 * (i : Int)).toNat = 8 * i by omega, show (2 : Int) ^ (8 * i) = (((2 ^ 8) ^ i : Nat) : Int) by rw [← Nat.pow_mul]; simp [Int.natCast_pow]]
  rfl
theorem laidA_next {B : Nat} {l A : Bs} {v v' : Value} {n k j i m g3 cap3 : Nat} {w wr W1 w4 : World} (hA : A = l ++ (eb k n).take j) (h : AtB B A v' wr ∧ StB B v v' w wr) (hlt : j < k) (hi : i = k - 1 - j) (hm : m = n / 256 ^ i) (hb : Below wr.heap.size wr W1)
    (hs : w4.ownsRow 0 5 1 (.slice (some ⟨g3, 0, none⟩) (A.length + 1) cap3) (A.length + 1) (cellsB A ++ [.int .u8 ((m : Int) % 256)]) ∧ W1.grownBy w4 v'.ownBlock ∧ (v'.ownBlock = some g3 ∨ wr.heap.size ≤ g3)) :
    AtB B (l ++ (eb k n).take (j + 1)) (.slice (some ⟨g3, 0, none⟩) (A.length + 1) cap3) (w4.setCell ⟨B, 0, none⟩ (.slice (some ⟨g3, 0, none⟩) (A.length + 1) cap3)) ∧
      StB B v (.slice (some ⟨g3, 0, none⟩) (A.length + 1) cap3) w (w4.setCell ⟨B, 0, none⟩ (.slice (some ⟨g3, 0, none⟩) (A.length + 1) cap3)) := by
  have e : l ++ (eb k n).take (j + 1) = A ++ [UInt8.ofNat m] := by rw [eb_step k n j hlt, hm, hi, hA, List.append_assoc]
  rw [e]
  obtain ⟨h1, h2, h3⟩ := hs
  have e2 : (A ++ [UInt8.ofNat m]).length = A.length + 1 := by simp
  have := h.1.next (l' := A ++ [UInt8.ofNat m]) hb h2 (v' := .slice (some ⟨g3, 0, none⟩) (A.length + 1) cap3) (by
    rw [cellsB_snoc, byte_of, e2]
    exact h1) (by
    rcases h3 with h3 | h3
    · exact .inl (by rw [h3]; rfl)
    · exact .inr ⟨g3, rfl, h3⟩)
  exact ⟨this.1, h.2.trans this.2⟩
set_option maxRecDepth 100000 in
set_option maxHeartbeats 4000000 in
theorem laidA_any (B : Nat) (l : Bs) (v : Value) (n k : Nat) (w : World) (h : AtB B l v w) (hk : k ≤ 8) (hl : l.length + k ≤ 1099511627776) (hn : n < 18446744073709551616) :
    Calls Try.prog 59 #[.int .u64 n, .int .i64 k, .pointer (some ⟨B, 0, none⟩)] w fun e w' => e = .returned (.tuple #[]) ∧ ∃ v', AtB B (l ++ eb k n) v' w' ∧ StB B v v' w w' := by
  have hel := eb_len k n
  have HH := Lib.hid h
  obtain ⟨i0, hi0, hz0, hz1, hz2⟩ := info_parts info_u8
  clear h
  go_enter Try.func59, Try.ntmps59
  go_wp2_with fail
  go_loopw [5] (fun u5 wr => ∃ (j : Nat) (v' : Value), j ≤ k ∧ u5 = .int .i64 ((k : Int) - 1 - (j : Int)) ∧ Hid (AtB B (l ++ (eb k n).take j) v' wr ∧ StB B v v' w wr)) (fun u5 _ => (intOf u5 + 1).toNat)
  case atStart => exact ⟨0, v, by omega, by simp, Lib.hid ⟨by simpa using HH.out, StB.refl _ _ _⟩⟩
  case round =>
    clear HH
    obtain ⟨j, v', hj, rfl, HR⟩ := hrel
    by_cases hlt : j < k
    · obtain ⟨i, hi⟩ : ∃ i : Nat, i = k - 1 - j := ⟨_, rfl⟩
      have hii : (k : Int) - 1 - (j : Int) = (i : Int) := by omega
      rw [hii]
      have HW64 := Lib.hid (show wrap64 (8 * (i : Int)) = 8 * (i : Int) by simp only [wrap64]; omega)
      have HQ := Lib.hid (show Box0 B v' wr.drew from ⟨HR.out.1.cell⟩)
      have d1 : (0 : Int) ≤ (i : Int) := by omega
      have HI := Lib.hid hi
      have hi8 : i < 8 := by omega
      clear hii hi
      have hAl : (l ++ (eb k n).take j).length ≤ l.length + k := by rw [List.length_append, List.length_take]; omega
      obtain ⟨A, hA⟩ : ∃ A, A = l ++ (eb k n).take j := ⟨_, rfl⟩
      rw [← hA] at HR hAl
      have HA := Lib.hid hA
      clear hA
      have HSH := Lib.hid (shr_256 n i)
      obtain ⟨m, hm⟩ : ∃ m : Nat, m = n / 256 ^ i := ⟨_, rfl⟩
      rw [← hm] at HSH
      have HM := Lib.hid hm
      clear hm
      go_wp2_with fail
      refine start_ (n := 9) (S := Box0 B v') (ds := [8]) #[false, false, false, false, false, false, false, false, false] (by kernel_rfl) rfl rfl HQ.out (fun hHeld => ?_)
      have HR := Lib.hid (And.intro HR.out.1.drew HR.out.2.drew)
      generalize wr.drew = wd at *
      have HB1 := Lib.hid (bnew (Below.refl wd.heap.size wd) (.cells #[.int .u8 ((m : Int) % 256)] 5))
      refine take_ (i := 0) (N := some 12) (v := ?_) (a' := ?_) #[true, false, false, false, false, false, false, false, false] rfl rfl (by kernel_rfl) (fun _ _ _ h => h) (Or.inl ⟨by rfl, ?_⟩) hHeld ?_ ?_
      rotate_left
      · rintro w' ⟨s0⟩
        go_simp
        with_reducible rfl
      rotate_left
      · simp only [Act.put, List.setIfInBounds_toArray, List.set_cons_zero, List.set_cons_succ, i64_w, i32_w]
        rfl
      refine pure_ (i := 1) (N := some 13) (v := ?_) (a' := ?_) #[true, true, false, false, false, false, false, false, false] rfl rfl (by kernel_rfl) (fun _ _ _ h => h) (Or.inl ⟨by rfl, ?_⟩) ?_ ?_
      rotate_left
      · intro w'
        go_simp
        with_reducible rfl
      rotate_left
      · simp only [Act.put, List.setIfInBounds_toArray, List.set_cons_zero, List.set_cons_succ, i64_w, i32_w]
        rfl
      refine pure_ (i := 2) (N := some 14) (v := ?_) (a' := ?_) #[true, true, true, false, false, false, false, false, false] rfl rfl (by kernel_rfl) (fun _ _ _ h => h) (Or.inl ⟨by rfl, ?_⟩) ?_ ?_
      rotate_left
      · intro w'
        go_simp
        with_reducible rfl
      rotate_left
      · simp only [Act.put, List.setIfInBounds_toArray, List.set_cons_zero, List.set_cons_succ, i64_w, i32_w]
        rfl
      refine pure_ (i := 3) (N := some 15) (v := ?_) (a' := ?_) #[true, true, true, true, false, false, false, false, false] rfl rfl (by kernel_rfl) (fun _ _ _ h => h) (Or.inl ⟨by rfl, ?_⟩) ?_ ?_
      rotate_left
      · intro w'
        go_simp
        with_reducible rfl
      rotate_left
      · simp only [Act.put, List.setIfInBounds_toArray, List.set_cons_zero, List.set_cons_succ, i64_w, i32_w]
        rfl
      have hwr2 : wrap64 (8 * (i : Int)) = 8 * (i : Int) := HW64.out
      rw [hwr2]
      clear hwr2
      refine pure_ (i := 4) (N := some 16) (v := ?_) (a' := ?_) #[true, true, true, true, true, false, false, false, false] rfl rfl (by kernel_rfl) (fun _ _ _ h => h) (Or.inl ⟨by rfl, ?_⟩) ?_ ?_
      rotate_left
      · intro w'
        go_simp
        with_reducible rfl
      rotate_left
      · simp only [Act.put, List.setIfInBounds_toArray, List.set_cons_zero, List.set_cons_succ, i64_w, i32_w]
        rfl
      have hwr2 := HSH.out
      rw [hwr2]
      clear hwr2
      refine pure_ (i := 5) (N := some 17) (v := ?_) (a' := ?_) #[true, true, true, true, true, true, false, false, false] rfl rfl (by kernel_rfl) (fun _ _ _ h => h) (Or.inl ⟨by rfl, ?_⟩) ?_ ?_
      rotate_left
      · intro w'
        go_simp
        with_reducible rfl
      rotate_left
      · simp only [Act.put, List.setIfInBounds_toArray, List.set_cons_zero, List.set_cons_succ, i64_w, i32_w]
        rfl
      have hwr2 : IntKind.u8.wrap (m : Int) = (m : Int) % 256 := IntKind.wrap_u8 m
      rw [hwr2]
      clear hwr2
      refine one_ (i := 6) (N := some 18) #[true, true, true, true, true, true, true, false, false] rfl rfl (by kernel_rfl) (by decide) (fun K hK => ?_)
      refine value_ (w1 := wd.alloc (.cells #[.int .u8 ((m : Int) % 256)] 5)) (v := .slice (some ⟨wd.heap.size, 0, none⟩) 1 1) (by rfl) rfl ?_ ?_
      · go_simp
      refine hK.out _ _ ⟨(cell_new wd _ _ (by show B < wd.heap.size; exact HR.out.1.lt)).trans hHeld.c0⟩ (fun hHeld => ?_)
      clear hK K
      refine norm_ (a' := ?_) ?_ ?_
      rotate_left
      · show Act.put _ (some 18) _ = _
        simp only [Act.put, List.setIfInBounds_toArray, List.set_cons_zero, List.set_cons_succ, i64_w, i32_w]
        rfl
      refine one_ (i := 7) (N := some 19) #[true, true, true, true, true, true, true, true, false] rfl rfl (by kernel_rfl) (by decide) (fun K hK => ?_)
      refine step_append_lies (w := wd.alloc (.cells #[.int .u8 ((m : Int) % 256)] 5)) (by rfl) _ _ 68 (by rfl) 0 5 i0 _ 1 1 Try.underlying68 hi0 hz0 hz1 hz2 rfl (by omega) v' A.length (cellsB A) (by rfl) (HR.out.1.row.alloc _) ⟨wd.heap.size, 0, none⟩ 1 1 [.int .u8 ((m : Int) % 256)] (by rfl) rfl (World.news_of_block (cs := #[.int .u8 ((m : Int) % 256)]) (t := 5) (fr := (0, 0)) (heap_alloc_new wd _)) (by simp [Value.oneCell']) (by omega) (by simp only [maxLen]; omega) (by omega) (by omega) (wd.heap.size + 1) (by simp) ?_
      intro g3 cap3 w4 hk4 hg4 hat4 hlt4
      have hHeld2 : Box0 B v' w4 := ⟨(hg4.cell_far ⟨B, 0, none⟩ (by have := HR.out.1.lt; simp; omega) (fun e => HR.out.1.far e.symm)).trans hHeld.c0⟩
      have q6 : w4.cell? ⟨B, 0, none⟩ = some v' := hHeld2.c0
      have z6 : w4.frozen? ⟨B, 0, none⟩ = false := ((hg4.frozen_far ⟨B, 0, none⟩ (by have := HR.out.1.lt; simp; omega) (fun e => HR.out.1.far e.symm)).trans (frozen_new wd _ _ (by show B < wd.heap.size; exact HR.out.1.lt))).trans HR.out.1.fz
      have HS4 := Lib.hid (And.intro hk4 (And.intro hg4 (show v'.ownBlock = some g3 ∨ wd.heap.size ≤ g3 by rcases hat4 with e | e; exact .inl e; exact .inr (by omega))))
      clear hk4 hg4 hHeld hat4
      refine hK.out _ _ hHeld2 (fun hHeld => ?_)
      clear hK K hHeld2
      refine norm_ (a' := ?_) ?_ ?_
      rotate_left
      · show Act.put _ (some 19) _ = _
        simp only [Act.put, List.setIfInBounds_toArray, List.set_cons_zero, List.set_cons_succ, i64_w, i32_w]
        rfl
      refine last_ (i := 8) (N := none) #[true, true, true, true, true, true, true, true, true] rfl rfl (by kernel_rfl) (by decide) (fun K hK => ?_)
      refine skip_ (w1 := w4.setCell ⟨B, 0, none⟩ (.slice (some ⟨g3, 0, none⟩) (A.length + 1) cap3)) (by rfl) rfl ?_ ?_
      · go_simp
      refine hK.out _ _ ?_
      clear hK K
      refine done_ (by kernel_rfl) ?_
      go_wp2_with fail
      go_roundw
      case rel =>
        have hii := HI.out
        exact ⟨j + 1, _, by omega, by go_num, Lib.hid (laidA_next HA.out HR.out hlt HI.out HM.out HB1.out HS4.out)⟩
      case measure => have := HI.out; simp only [intOf]; simp; try omega
    · obtain rfl : j = k := by omega
      have d1 : ¬ (0 : Int) ≤ (j : Int) - 1 - (j : Int) := by omega
      have e1 : (j : Int) - 1 - (j : Int) = -1 := by omega
      rw [e1]
      clear e1 d1
      go_wp2_with fail
      have hend := HR.out
      rw [List.take_of_length_le (by omega)] at hend
      simp only [bodyPost]
      exact ⟨trivial, .tuple #[], by simp [results, Try.results59], rfl, v', hend⟩
end Go.Proofs.Ytaglklcjolcgeaa
namespace Go.Proofs.Ytaglklcjolcgeaa
open Go Go.RowKit
set_option linter.unusedVariables false
set_option linter.unusedSimpArgs false
attribute [local go_sem] run_store_float
set_option maxRecDepth 100000 in
set_option maxHeartbeats 2000000 in
theorem laidB_any (B C : Nat) (l : Bs) (v : Value) (x : Nat) (w : World) (h : AtB B l v w) (hx : x < 18446744073709551616) (hl : l.length + 8 ≤ 1099511627776) (hC : w.cell? ⟨C, 0, none⟩ = some (.func (.func 59) #[] #[.pointer (some ⟨B, 0, none⟩)])) :
    Calls Try.prog 60 #[.float .f64 x, .pointer (some ⟨C, 0, none⟩)] w fun e w' => e = .returned (.tuple #[]) ∧ ∃ v', AtB B (l ++ eb 8 (fbits x)) v' w' ∧ StB B v v' w w' := by
  have kb := run_bits_e
  unfold fbits
  have hs : FloatKind.f64.format.order x x = if nanB x then none else some .eq := fo_self x
  cases hn : nanB x
  · rw [hn] at hs
    have hs : FloatKind.f64.format.order x x = some .eq := hs
    have ht : (FloatKind.f64.format.order x x != some .eq) = false := by rw [hs]; rfl
    have HC := laidA_any B l v x 8 w.drew h.drew (by omega) hl hx
    rw [if_neg (by simp)]
    generalize eb 8 x = z at HC ⊢
    have HC := Lib.hid (show Calls Try.prog 59 #[.int .u64 x, .int .i64 8, .pointer (some ⟨B, 0, none⟩)] w.drew (fun e w' => e = .returned (.tuple #[]) ∧ ∃ v', AtB B (l ++ z) v' w' ∧ StB B v v' w.drew w') from HC)
    go_enter Try.func60, Try.ntmps60
    go_wp2_with fail
    go_still_tail 3, (by kernel_rfl)
    change wpList _ _ _ _ _ w.drew
    go_wp2_with fail
    refine HC.out.mono ?_
    rintro e w1 ⟨rfl, v', h1, h2⟩
    have HN := Lib.hid (And.intro h1 h2)
    clear h1 h2
    go_wp2_with fail
    simp only [bodyPost]
    exact ⟨trivial, .tuple #[], by simp [results, Try.results60], rfl, v', HN.out.1, ⟨⟨HN.out.2.wr.os, HN.out.2.wr.tape, HN.out.2.wr.output, HN.out.2.wr.size, HN.out.2.wr.block⟩, HN.out.2.own⟩⟩
  · rw [hn] at hs
    have hs : FloatKind.f64.format.order x x = none := hs
    have ht : (FloatKind.f64.format.order x x != some .eq) = true := by rw [hs]; rfl
    have HC := laidA_any B l v 9221120237041090560 8 w h (by omega) hl (by omega)
    rw [if_pos rfl]
    generalize eb 8 9221120237041090560 = z at HC ⊢
    have HC := Lib.hid (show Calls Try.prog 59 #[.int .u64 9221120237041090560, .int .i64 8, .pointer (some ⟨B, 0, none⟩)] w (fun e w' => e = .returned (.tuple #[]) ∧ ∃ v', AtB B (l ++ z) v' w' ∧ StB B v v' w w') from HC)
    go_enter Try.func60, Try.ntmps60
    go_wp2_with fail
    refine HC.out.mono ?_
    rintro e w1 ⟨rfl, v', h1, h2⟩
    have HN := Lib.hid (And.intro h1 h2)
    clear h1 h2
    go_wp2_with fail
    refine bodyPost_ret (v := .tuple #[]) (by simp [results, Try.results60]) rfl ?_
    exact ⟨rfl, v', HN.out⟩
end Go.Proofs.Ytaglklcjolcgeaa
