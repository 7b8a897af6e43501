/- The walk of slices.CompareFunc over two lists of values, what it compares by given. The walk of 'value.counts': which fields of a kind count. The walk of '(*value.census).may'. -/
import Derived.Test.YtaglklcjolcgeaaRCnt
import Derived.Test.YtaglklcjolcgeaaRTop
import Derived.Great.BuildSlice
namespace Go.Proofs.Ytaglklcjolcgeaa
open Go.RowKit
set_option linter.unusedVariables false
set_option linter.unusedSimpArgs false
attribute [local go_sem] run_store_float
def OrdI (v : Int) (w : World) (e : Ending) (w' : World) : Prop := e = .returned (.int .i64 v) ∧ Below w.heap.size w w'
theorem pordL_zero (rs rs2 : List Va) (k : Nat) (hk : k < rs.length) (hk2 : k < rs2.length) (h : pordV rs[k] rs2[k] = 0) : pordL (rs.drop k) (rs2.drop k) = pordL (rs.drop (k + 1)) (rs2.drop (k + 1)) := by
  rw [List.drop_eq_getElem_cons hk, List.drop_eq_getElem_cons hk2]
  conv => lhs; unfold pordL
  rw [if_neg (by omega)]
theorem pordL_some (rs rs2 : List Va) (k : Nat) (hk : k < rs.length) (hk2 : k < rs2.length) (h : ¬ pordV rs[k] rs2[k] = 0) : pordL (rs.drop k) (rs2.drop k) = pordV rs[k] rs2[k] := by
  rw [List.drop_eq_getElem_cons hk, List.drop_eq_getElem_cons hk2]
  unfold pordL
  rw [if_pos h]
theorem pordL_more (rs rs2 : List Va) (k : Nat) (hk : k < rs.length) (hk2 : rs2.length ≤ k) : pordL (rs.drop k) (rs2.drop k) = 1 := by
  rw [List.drop_eq_getElem_cons hk, List.drop_eq_nil_of_le hk2]
  simp [pordL]
theorem pordL_end (rs rs2 : List Va) (hk : rs.length ≤ rs2.length) : pordL (rs.drop rs.length) (rs2.drop rs.length) = if rs.length < rs2.length then -1 else 0 := by
  rw [List.drop_length]
  split
  · rw [List.drop_eq_getElem_cons (by assumption)]
    simp [pordL]
  · rw [List.drop_eq_nil_of_le (by omega)]
    simp [pordL]
set_option maxRecDepth 100000 in
set_option maxHeartbeats 2000000 in
theorem cmpFunc_any (rs rs2 : List Va) (a a2 : Option Addr) (cap cap2 : Nat) (w : World) (hcap : rs.length ≤ cap) (hcap' : cap ≤ 9223372036854775807) (hcap2 : rs2.length ≤ cap2) (hcap2' : cap2 ≤ 9223372036854775807)
    (hc : rs.length = 0 ∨ ∃ b o cs F', a = some ⟨b, o, none⟩ ∧ w.rangeAt b o cs ∧ Tr.ownL 6 w (Va.trs rs) cs F') (hc2 : rs2.length = 0 ∨ ∃ b o cs F', a2 = some ⟨b, o, none⟩ ∧ w.rangeAt b o cs ∧ Tr.ownL 6 w (Va.trs rs2) cs F')
    (hO : ∀ (k : Nat) (h1 : k < rs.length) (h2 : k < rs2.length) (c c2 : List Value) (F F2 : List Nat) (W : World), rs[k].tr.own 6 W c F → rs2[k].tr.own 6 W c2 F2 → Calls Try.prog 34 #[.agg c.toArray, .agg c2.toArray] W (OrdI (pordV rs[k] rs2[k]) W)) :
    Calls Try.prog 55 #[.slice a rs.length cap, .slice a2 rs2.length cap2, .func (.func 34) #[] #[]] w (OrdI (pordL rs rs2) w) := by
  have HO := Lib.hid hO
  clear hO
  go_enter Try.func55, Try.ntmps55
  go_wp2_with fail
  go_loopw [13] (fun u13 wr => ∃ (k : Nat), k ≤ rs.length ∧ k ≤ rs2.length ∧ u13 = .int .i64 k ∧ Hid (pordL (rs.drop k) (rs2.drop k) = pordL rs rs2) ∧ Below w.heap.size w wr) (fun u13 _ => rs.length - (intOf u13).toNat)
  case atStart => exact ⟨0, by omega, by omega, rfl, rfl, Below.refl _ _⟩
  case round =>
    obtain ⟨k, hk, hk2, rfl, hf, hb⟩ := hrel
    by_cases hlt : k < rs.length
    · rcases hc with h0' | ⟨b, o, cs, F', rfl, hra, hkl⟩
      · omega
      have hbl : b < w.heap.size := rangeAt_lt hra (by rw [Tr.ownL_len hkl, Va.trs_len]; omega)
      have hkl' := Tr.ownL_same _ _ _ (fun i hi => hb.block i (Tr.ownL_lt _ _ _ hkl i hi)) hkl
      obtain ⟨kkd, kn, kx, ky, ks, krs, ka, kcap, Fa, F1, Fb, hF1, _he1, hkid1, c0, c1, c2, c3, c4, c5⟩ := Va.kidO k hlt hkl' (rangeAt_of_block hra (hb.block b hbl))
      have hri : (0:Int) ≤ (k:Int) := by omega
      have hri2 : (k:Int) < (rs.length:Int) := by omega
      clear hra hkl hkl' hF1 _he1
      by_cases hlt2 : k < rs2.length
      · rcases hc2 with h0' | ⟨b2, o2, cs2, F2', rfl, hra2, hkl2⟩
        · omega
        have hbl2 : b2 < w.heap.size := rangeAt_lt hra2 (by rw [Tr.ownL_len hkl2, Va.trs_len]; omega)
        have hkl2' := Tr.ownL_same _ _ _ (fun i hi => hb.block i (Tr.ownL_lt _ _ _ hkl2 i hi)) hkl2
        obtain ⟨jkd, jn, jx, jy, js, jrs, ja, jcap, Fc, F3, Fd, hF2, _he2, hkid2, d0, d1, d2, d3, d4, d5⟩ := Va.kidO k hlt2 hkl2' (rangeAt_of_block hra2 (hb.block b2 hbl2))
        have hri3 : (k:Int) < (rs2.length:Int) := by omega
        have hge : decide ((rs2.length : Int) ≤ (k : Int)) = false := decide_eq_false (by omega)
        clear hra2 hkl2 hkl2' hF2 _he2
        have e0 := fun ob => (cell_new wr ob ⟨b2, o2 + k * 6, none⟩ (World.block_lt_of_cell? wr _ d0)).trans d0
        have e1 := fun ob => (cell_new wr ob ⟨b2, o2 + k * 6 + 1, none⟩ (World.block_lt_of_cell? wr _ d1)).trans d1
        have e2 := fun ob => (cell_new wr ob ⟨b2, o2 + k * 6 + 2, none⟩ (World.block_lt_of_cell? wr _ d2)).trans d2
        have e3 := fun ob => (cell_new wr ob ⟨b2, o2 + k * 6 + 3, none⟩ (World.block_lt_of_cell? wr _ d3)).trans d3
        have e4 := fun ob => (cell_new wr ob ⟨b2, o2 + k * 6 + 4, none⟩ (World.block_lt_of_cell? wr _ d4)).trans d4
        have e5 := fun ob => (cell_new wr ob ⟨b2, o2 + k * 6 + 5, none⟩ (World.block_lt_of_cell? wr _ d5)).trans d5
        have HK := Lib.hid (fun A B => And.intro (Tr.own_below hkid1 (bb2 wr A B)) (Tr.own_below hkid2 (bb2 wr A B)))
        clear hkid1 hkid2
        by_cases hz0 : pordV rs[k] rs2[k] = 0
        · have HZ0 := Lib.hid hz0
          clear hz0
          go_wp2_with (go_at_call 34; refine (HO.out k hlt hlt2 [.int .u8 kkd, .int .i64 kn, .float .f64 kx, .float .f64 ky, .string ks, .slice ka krs.length kcap] [.int .u8 jkd, .int .i64 jn, .float .f64 jx, .float .f64 jy, .string js, .slice ja jrs.length jcap] F1 F3 _ (HK.out _ _).1 (HK.out _ _).2).mono ?_; rintro e w' ⟨rfl, hb'⟩; rw [HZ0.out])
          go_roundw
          case rel => exact ⟨k + 1, by omega, by omega, by go_num, (pordL_zero rs rs2 k hlt hlt2 HZ0.out).symm.trans hf, bthen (bthen hb (bb2 wr _ _)) hb'⟩
          case measure => simp [intOf]; omega
        · have HZ0 := Lib.hid hz0
          have hz1 : (pordV rs[k] rs2[k] != 0) = true := bne_iff_ne.2 hz0
          clear hz0
          go_wp2_with (go_at_call 34; refine (HO.out k hlt hlt2 [.int .u8 kkd, .int .i64 kn, .float .f64 kx, .float .f64 ky, .string ks, .slice ka krs.length kcap] [.int .u8 jkd, .int .i64 jn, .float .f64 jx, .float .f64 jy, .string js, .slice ja jrs.length jcap] F1 F3 _ (HK.out _ _).1 (HK.out _ _).2).mono ?_; rintro e w' ⟨rfl, hb'⟩)
          go_ret
          refine ⟨ri ?_, bthen (bthen hb (bb2 wr _ _)) hb'⟩
          rw [← hf.out, pordL_some rs rs2 k hlt hlt2 HZ0.out]
      · have hge : decide ((rs2.length : Int) ≤ (k : Int)) = true := decide_eq_true (by omega)
        go_wp2_with fail
        go_ret
        refine ⟨ri ?_, bnew hb _⟩
        rw [← hf.out, pordL_more rs rs2 k hlt (by omega)]
    · have hk' : k = rs.length := by omega
      subst hk'
      by_cases hl2 : rs.length < rs2.length
      all_goals
        go_wp2_with fail
        go_ret
        refine ⟨ri ?_, hb⟩
        rw [← hf.out, pordL_end rs rs2 hk2]
        simp [hl2]
end Go.Proofs.Ytaglklcjolcgeaa
namespace Go.Proofs.Ytaglklcjolcgeaa
open Go.RowKit
set_option linter.unusedVariables false
set_option linter.unusedSimpArgs false
attribute [local go_sem] run_store_float
def cells40 : List Value := [.bool false, .bool false, .bool false, .bool false, .bool false, .bool true, .bool false, .bool false, .bool false, .bool false, .bool true, .bool false, .bool false, .bool false, .bool false, .bool false, .bool true, .bool false, .bool false, .bool false, .bool false, .bool true, .bool true, .bool false, .bool false, .bool false, .bool false, .bool false, .bool true, .bool false, .bool false, .bool false, .bool false, .bool true, .bool false, .bool false, .bool false, .bool false, .bool false, .bool true]
theorem results_cell_tmp {P : Program} {fn : Func} {p q : Tmp} {ty : TypeId} (h : fn.results = #[.cell p ty, .tmp q]) (tmps : Array Value) (w : World) (g : Nat) (t : TypeId) (cs : Array Value) (fr : Nat × Nat) (d : TypeDesc) (v : Value)
    (hp : tmps.getD p undef = .pointer (some ⟨g, 0, none⟩)) (hq : tmps.getD q undef = v) (hg : w.heap[g]? = some (.cells cs t fr))
    (hu : P.underlying ty = some d) (hd : (match d with | .struct _ | .array _ _ => true | _ => false) = true) (hi : (P.info? ty).map (·.size) = some cs.size) :
    (results fn tmps).run P w = .ok (.tuple #[.agg cs, v]) w := by
  have hp' : tmps[p]?.getD undef = .pointer (some ⟨g, 0, none⟩) := by simpa using hp
  have hq' : tmps[q]?.getD undef = v := by simpa using hq
  simp [results, h, hp', hq', asAddr, run_loadVar_row w g t ty cs fr d hg hu hd hi]
/-- What the world is behind the table's store. -/
structure Tab (w W : World) : Prop where
  b0 : W.heap[w.heap.size]? = some (.cells #[.bool false, .bool false, .bool false, .bool false, .bool false] 73 (0, 0))
  b1 : W.heap[w.heap.size + 1]? = some (.cells cells40.toArray 95 (0, 0))
  low : Below w.heap.size w W
theorem tab_of (w : World) (old : Array Value) : Tab w (((w.alloc (.cells #[.bool false, .bool false, .bool false, .bool false, .bool false] 73)).alloc (.cells old 95)).setRow (w.heap.size + 1) cells40.toArray) := by
  have h1 : ((w.alloc (.cells #[.bool false, .bool false, .bool false, .bool false, .bool false] 73)).alloc (.cells old 95)).heap[w.heap.size + 1]? = some (.cells old 95 (0, 0)) := two2 w _ _
  refine ⟨?_, setRow_heap _ _ _ _ _ _ h1, ?_⟩
  · rw [setRow_other _ _ _ _ (by omega)]
    exact two1 w _ _
  · exact (bb2 w _ _).trans ⟨rfl, rfl, rfl, by simp, fun i hi => setRow_other _ _ _ _ (by omega)⟩
theorem Tab.cell {w W : World} (h : Tab w W) (j : Nat) (v : Value) (hv : cells40[j]? = some v) : W.cell? ⟨w.heap.size + 1, j, none⟩ = some v := by
  unfold World.cell?
  rw [h.b1]
  simpa using hv
theorem tab_low {w W : World} (h : Tab w W) (cs : Array Value) : Below w.heap.size w (W.setRow w.heap.size cs) := h.low.trans ⟨rfl, rfl, rfl, by simp, fun i hi => setRow_other _ _ _ _ (by omega)⟩
theorem tab_row {w W : World} (h : Tab w W) (cs : Array Value) : (W.setRow w.heap.size cs).heap[w.heap.size]? = some (.cells cs 73 (0, 0)) := setRow_heap _ _ _ _ _ _ h.b0
theorem zeros40 : List.replicate 40 (Value.bool false) = [.bool false, .bool false, .bool false, .bool false, .bool false, .bool false, .bool false, .bool false, .bool false, .bool false, .bool false, .bool false, .bool false, .bool false, .bool false, .bool false, .bool false, .bool false, .bool false, .bool false, .bool false, .bool false, .bool false, .bool false, .bool false, .bool false, .bool false, .bool false, .bool false, .bool false, .bool false, .bool false, .bool false, .bool false, .bool false, .bool false, .bool false, .bool false, .bool false, .bool false] := rfl
def CountsIs (cs : List Value) (b : Bool) (w : World) (e : Ending) (w' : World) : Prop := e = .returned (.tuple #[.agg cs.toArray, .bool b]) ∧ Below w.heap.size w w'
set_option maxRecDepth 100000 in
set_option maxHeartbeats 1000000 in
theorem counts_0 (w : World) : Calls Try.prog 44 #[.int .u8 0] w (CountsIs [.bool false, .bool false, .bool false, .bool false, .bool false] true w) := by
  go_enter Try.func44, Try.ntmps44
  go_wp2_with (first | (refine wpList_buildTo (by rfl) 95 _ (by rfl) _ (by rfl) cells40.toArray (by kernel_rfl) ?_) | (refine wpList_store_rowTo (by rfl) 95 _ _ (by rfl) (by rfl) (w.heap.size + 1) cells40.toArray (by rfl) (by rfl) 95 _ (two2 w _ _) (by kernel_rfl) (by kernel_rfl) (by kernel_rfl) ?_; have HT := Lib.hid (tab_of w #[.bool false, .bool false, .bool false, .bool false, .bool false, .bool false, .bool false, .bool false, .bool false, .bool false, .bool false, .bool false, .bool false, .bool false, .bool false, .bool false, .bool false, .bool false, .bool false, .bool false, .bool false, .bool false, .bool false, .bool false, .bool false, .bool false, .bool false, .bool false, .bool false, .bool false, .bool false, .bool false, .bool false, .bool false, .bool false, .bool false, .bool false, .bool false, .bool false, .bool false]); generalize World.setRow _ _ _ = W at HT ⊢; have e0 := HT.out.cell 0 (.bool false) rfl; have e1 := HT.out.cell 1 (.bool false) rfl; have e2 := HT.out.cell 2 (.bool false) rfl; have e3 := HT.out.cell 3 (.bool false) rfl; have e4 := HT.out.cell 4 (.bool false) rfl; skip) | (refine wpList_store_rowTo (by rfl) 73 _ _ (by rfl) (by rfl) w.heap.size #[.bool false, .bool false, .bool false, .bool false, .bool false] (by rfl) (by rfl) 73 _ HT.out.b0 (by kernel_rfl) (by kernel_rfl) (by kernel_rfl) ?_))
  refine bodyPost_ret (v := .tuple #[.agg #[.bool false, .bool false, .bool false, .bool false, .bool false], .bool true]) (results_cell_tmp rfl _ _ w.heap.size 73 _ (0, 0) _ _ rfl rfl (tab_row HT.out _) Try.underlying73 rfl (by kernel_rfl)) rfl ?_
  exact ⟨rfl, tab_low HT.out _⟩
set_option maxRecDepth 100000 in
set_option maxHeartbeats 1000000 in
theorem counts_1 (w : World) : Calls Try.prog 44 #[.int .u8 1] w (CountsIs [.bool true, .bool false, .bool false, .bool false, .bool false] true w) := by
  go_enter Try.func44, Try.ntmps44
  go_wp2_with (first | (refine wpList_buildTo (by rfl) 95 _ (by rfl) _ (by rfl) cells40.toArray (by kernel_rfl) ?_) | (refine wpList_store_rowTo (by rfl) 95 _ _ (by rfl) (by rfl) (w.heap.size + 1) cells40.toArray (by rfl) (by rfl) 95 _ (two2 w _ _) (by kernel_rfl) (by kernel_rfl) (by kernel_rfl) ?_; have HT := Lib.hid (tab_of w #[.bool false, .bool false, .bool false, .bool false, .bool false, .bool false, .bool false, .bool false, .bool false, .bool false, .bool false, .bool false, .bool false, .bool false, .bool false, .bool false, .bool false, .bool false, .bool false, .bool false, .bool false, .bool false, .bool false, .bool false, .bool false, .bool false, .bool false, .bool false, .bool false, .bool false, .bool false, .bool false, .bool false, .bool false, .bool false, .bool false, .bool false, .bool false, .bool false, .bool false]); generalize World.setRow _ _ _ = W at HT ⊢; have e0 := HT.out.cell 5 (.bool true) rfl; have e1 := HT.out.cell 6 (.bool false) rfl; have e2 := HT.out.cell 7 (.bool false) rfl; have e3 := HT.out.cell 8 (.bool false) rfl; have e4 := HT.out.cell 9 (.bool false) rfl; skip) | (refine wpList_store_rowTo (by rfl) 73 _ _ (by rfl) (by rfl) w.heap.size #[.bool true, .bool false, .bool false, .bool false, .bool false] (by rfl) (by rfl) 73 _ HT.out.b0 (by kernel_rfl) (by kernel_rfl) (by kernel_rfl) ?_))
  refine bodyPost_ret (v := .tuple #[.agg #[.bool true, .bool false, .bool false, .bool false, .bool false], .bool true]) (results_cell_tmp rfl _ _ w.heap.size 73 _ (0, 0) _ _ rfl rfl (tab_row HT.out _) Try.underlying73 rfl (by kernel_rfl)) rfl ?_
  exact ⟨rfl, tab_low HT.out _⟩
set_option maxRecDepth 100000 in
set_option maxHeartbeats 1000000 in
theorem counts_2 (w : World) : Calls Try.prog 44 #[.int .u8 2] w (CountsIs [.bool true, .bool false, .bool false, .bool false, .bool false] true w) := by
  go_enter Try.func44, Try.ntmps44
  go_wp2_with (first | (refine wpList_buildTo (by rfl) 95 _ (by rfl) _ (by rfl) cells40.toArray (by kernel_rfl) ?_) | (refine wpList_store_rowTo (by rfl) 95 _ _ (by rfl) (by rfl) (w.heap.size + 1) cells40.toArray (by rfl) (by rfl) 95 _ (two2 w _ _) (by kernel_rfl) (by kernel_rfl) (by kernel_rfl) ?_; have HT := Lib.hid (tab_of w #[.bool false, .bool false, .bool false, .bool false, .bool false, .bool false, .bool false, .bool false, .bool false, .bool false, .bool false, .bool false, .bool false, .bool false, .bool false, .bool false, .bool false, .bool false, .bool false, .bool false, .bool false, .bool false, .bool false, .bool false, .bool false, .bool false, .bool false, .bool false, .bool false, .bool false, .bool false, .bool false, .bool false, .bool false, .bool false, .bool false, .bool false, .bool false, .bool false, .bool false]); generalize World.setRow _ _ _ = W at HT ⊢; have e0 := HT.out.cell 10 (.bool true) rfl; have e1 := HT.out.cell 11 (.bool false) rfl; have e2 := HT.out.cell 12 (.bool false) rfl; have e3 := HT.out.cell 13 (.bool false) rfl; have e4 := HT.out.cell 14 (.bool false) rfl; skip) | (refine wpList_store_rowTo (by rfl) 73 _ _ (by rfl) (by rfl) w.heap.size #[.bool true, .bool false, .bool false, .bool false, .bool false] (by rfl) (by rfl) 73 _ HT.out.b0 (by kernel_rfl) (by kernel_rfl) (by kernel_rfl) ?_))
  refine bodyPost_ret (v := .tuple #[.agg #[.bool true, .bool false, .bool false, .bool false, .bool false], .bool true]) (results_cell_tmp rfl _ _ w.heap.size 73 _ (0, 0) _ _ rfl rfl (tab_row HT.out _) Try.underlying73 rfl (by kernel_rfl)) rfl ?_
  exact ⟨rfl, tab_low HT.out _⟩
set_option maxRecDepth 100000 in
set_option maxHeartbeats 1000000 in
theorem counts_3 (w : World) : Calls Try.prog 44 #[.int .u8 3] w (CountsIs [.bool false, .bool true, .bool false, .bool false, .bool false] true w) := by
  go_enter Try.func44, Try.ntmps44
  go_wp2_with (first | (refine wpList_buildTo (by rfl) 95 _ (by rfl) _ (by rfl) cells40.toArray (by kernel_rfl) ?_) | (refine wpList_store_rowTo (by rfl) 95 _ _ (by rfl) (by rfl) (w.heap.size + 1) cells40.toArray (by rfl) (by rfl) 95 _ (two2 w _ _) (by kernel_rfl) (by kernel_rfl) (by kernel_rfl) ?_; have HT := Lib.hid (tab_of w #[.bool false, .bool false, .bool false, .bool false, .bool false, .bool false, .bool false, .bool false, .bool false, .bool false, .bool false, .bool false, .bool false, .bool false, .bool false, .bool false, .bool false, .bool false, .bool false, .bool false, .bool false, .bool false, .bool false, .bool false, .bool false, .bool false, .bool false, .bool false, .bool false, .bool false, .bool false, .bool false, .bool false, .bool false, .bool false, .bool false, .bool false, .bool false, .bool false, .bool false]); generalize World.setRow _ _ _ = W at HT ⊢; have e0 := HT.out.cell 15 (.bool false) rfl; have e1 := HT.out.cell 16 (.bool true) rfl; have e2 := HT.out.cell 17 (.bool false) rfl; have e3 := HT.out.cell 18 (.bool false) rfl; have e4 := HT.out.cell 19 (.bool false) rfl; skip) | (refine wpList_store_rowTo (by rfl) 73 _ _ (by rfl) (by rfl) w.heap.size #[.bool false, .bool true, .bool false, .bool false, .bool false] (by rfl) (by rfl) 73 _ HT.out.b0 (by kernel_rfl) (by kernel_rfl) (by kernel_rfl) ?_))
  refine bodyPost_ret (v := .tuple #[.agg #[.bool false, .bool true, .bool false, .bool false, .bool false], .bool true]) (results_cell_tmp rfl _ _ w.heap.size 73 _ (0, 0) _ _ rfl rfl (tab_row HT.out _) Try.underlying73 rfl (by kernel_rfl)) rfl ?_
  exact ⟨rfl, tab_low HT.out _⟩
set_option maxRecDepth 100000 in
set_option maxHeartbeats 1000000 in
theorem counts_4 (w : World) : Calls Try.prog 44 #[.int .u8 4] w (CountsIs [.bool false, .bool true, .bool true, .bool false, .bool false] true w) := by
  go_enter Try.func44, Try.ntmps44
  go_wp2_with (first | (refine wpList_buildTo (by rfl) 95 _ (by rfl) _ (by rfl) cells40.toArray (by kernel_rfl) ?_) | (refine wpList_store_rowTo (by rfl) 95 _ _ (by rfl) (by rfl) (w.heap.size + 1) cells40.toArray (by rfl) (by rfl) 95 _ (two2 w _ _) (by kernel_rfl) (by kernel_rfl) (by kernel_rfl) ?_; have HT := Lib.hid (tab_of w #[.bool false, .bool false, .bool false, .bool false, .bool false, .bool false, .bool false, .bool false, .bool false, .bool false, .bool false, .bool false, .bool false, .bool false, .bool false, .bool false, .bool false, .bool false, .bool false, .bool false, .bool false, .bool false, .bool false, .bool false, .bool false, .bool false, .bool false, .bool false, .bool false, .bool false, .bool false, .bool false, .bool false, .bool false, .bool false, .bool false, .bool false, .bool false, .bool false, .bool false]); generalize World.setRow _ _ _ = W at HT ⊢; have e0 := HT.out.cell 20 (.bool false) rfl; have e1 := HT.out.cell 21 (.bool true) rfl; have e2 := HT.out.cell 22 (.bool true) rfl; have e3 := HT.out.cell 23 (.bool false) rfl; have e4 := HT.out.cell 24 (.bool false) rfl; skip) | (refine wpList_store_rowTo (by rfl) 73 _ _ (by rfl) (by rfl) w.heap.size #[.bool false, .bool true, .bool true, .bool false, .bool false] (by rfl) (by rfl) 73 _ HT.out.b0 (by kernel_rfl) (by kernel_rfl) (by kernel_rfl) ?_))
  refine bodyPost_ret (v := .tuple #[.agg #[.bool false, .bool true, .bool true, .bool false, .bool false], .bool true]) (results_cell_tmp rfl _ _ w.heap.size 73 _ (0, 0) _ _ rfl rfl (tab_row HT.out _) Try.underlying73 rfl (by kernel_rfl)) rfl ?_
  exact ⟨rfl, tab_low HT.out _⟩
set_option maxRecDepth 100000 in
set_option maxHeartbeats 1000000 in
theorem counts_5 (w : World) : Calls Try.prog 44 #[.int .u8 5] w (CountsIs [.bool false, .bool false, .bool false, .bool true, .bool false] true w) := by
  go_enter Try.func44, Try.ntmps44
  go_wp2_with (first | (refine wpList_buildTo (by rfl) 95 _ (by rfl) _ (by rfl) cells40.toArray (by kernel_rfl) ?_) | (refine wpList_store_rowTo (by rfl) 95 _ _ (by rfl) (by rfl) (w.heap.size + 1) cells40.toArray (by rfl) (by rfl) 95 _ (two2 w _ _) (by kernel_rfl) (by kernel_rfl) (by kernel_rfl) ?_; have HT := Lib.hid (tab_of w #[.bool false, .bool false, .bool false, .bool false, .bool false, .bool false, .bool false, .bool false, .bool false, .bool false, .bool false, .bool false, .bool false, .bool false, .bool false, .bool false, .bool false, .bool false, .bool false, .bool false, .bool false, .bool false, .bool false, .bool false, .bool false, .bool false, .bool false, .bool false, .bool false, .bool false, .bool false, .bool false, .bool false, .bool false, .bool false, .bool false, .bool false, .bool false, .bool false, .bool false]); generalize World.setRow _ _ _ = W at HT ⊢; have e0 := HT.out.cell 25 (.bool false) rfl; have e1 := HT.out.cell 26 (.bool false) rfl; have e2 := HT.out.cell 27 (.bool false) rfl; have e3 := HT.out.cell 28 (.bool true) rfl; have e4 := HT.out.cell 29 (.bool false) rfl; skip) | (refine wpList_store_rowTo (by rfl) 73 _ _ (by rfl) (by rfl) w.heap.size #[.bool false, .bool false, .bool false, .bool true, .bool false] (by rfl) (by rfl) 73 _ HT.out.b0 (by kernel_rfl) (by kernel_rfl) (by kernel_rfl) ?_))
  refine bodyPost_ret (v := .tuple #[.agg #[.bool false, .bool false, .bool false, .bool true, .bool false], .bool true]) (results_cell_tmp rfl _ _ w.heap.size 73 _ (0, 0) _ _ rfl rfl (tab_row HT.out _) Try.underlying73 rfl (by kernel_rfl)) rfl ?_
  exact ⟨rfl, tab_low HT.out _⟩
set_option maxRecDepth 100000 in
set_option maxHeartbeats 1000000 in
theorem counts_6 (w : World) : Calls Try.prog 44 #[.int .u8 6] w (CountsIs [.bool false, .bool false, .bool false, .bool true, .bool false] true w) := by
  go_enter Try.func44, Try.ntmps44
  go_wp2_with (first | (refine wpList_buildTo (by rfl) 95 _ (by rfl) _ (by rfl) cells40.toArray (by kernel_rfl) ?_) | (refine wpList_store_rowTo (by rfl) 95 _ _ (by rfl) (by rfl) (w.heap.size + 1) cells40.toArray (by rfl) (by rfl) 95 _ (two2 w _ _) (by kernel_rfl) (by kernel_rfl) (by kernel_rfl) ?_; have HT := Lib.hid (tab_of w #[.bool false, .bool false, .bool false, .bool false, .bool false, .bool false, .bool false, .bool false, .bool false, .bool false, .bool false, .bool false, .bool false, .bool false, .bool false, .bool false, .bool false, .bool false, .bool false, .bool false, .bool false, .bool false, .bool false, .bool false, .bool false, .bool false, .bool false, .bool false, .bool false, .bool false, .bool false, .bool false, .bool false, .bool false, .bool false, .bool false, .bool false, .bool false, .bool false, .bool false]); generalize World.setRow _ _ _ = W at HT ⊢; have e0 := HT.out.cell 30 (.bool false) rfl; have e1 := HT.out.cell 31 (.bool false) rfl; have e2 := HT.out.cell 32 (.bool false) rfl; have e3 := HT.out.cell 33 (.bool true) rfl; have e4 := HT.out.cell 34 (.bool false) rfl; skip) | (refine wpList_store_rowTo (by rfl) 73 _ _ (by rfl) (by rfl) w.heap.size #[.bool false, .bool false, .bool false, .bool true, .bool false] (by rfl) (by rfl) 73 _ HT.out.b0 (by kernel_rfl) (by kernel_rfl) (by kernel_rfl) ?_))
  refine bodyPost_ret (v := .tuple #[.agg #[.bool false, .bool false, .bool false, .bool true, .bool false], .bool true]) (results_cell_tmp rfl _ _ w.heap.size 73 _ (0, 0) _ _ rfl rfl (tab_row HT.out _) Try.underlying73 rfl (by kernel_rfl)) rfl ?_
  exact ⟨rfl, tab_low HT.out _⟩
set_option maxRecDepth 100000 in
set_option maxHeartbeats 1000000 in
theorem counts_7 (w : World) : Calls Try.prog 44 #[.int .u8 7] w (CountsIs [.bool false, .bool false, .bool false, .bool false, .bool true] true w) := by
  go_enter Try.func44, Try.ntmps44
  go_wp2_with (first | (refine wpList_buildTo (by rfl) 95 _ (by rfl) _ (by rfl) cells40.toArray (by kernel_rfl) ?_) | (refine wpList_store_rowTo (by rfl) 95 _ _ (by rfl) (by rfl) (w.heap.size + 1) cells40.toArray (by rfl) (by rfl) 95 _ (two2 w _ _) (by kernel_rfl) (by kernel_rfl) (by kernel_rfl) ?_; have HT := Lib.hid (tab_of w #[.bool false, .bool false, .bool false, .bool false, .bool false, .bool false, .bool false, .bool false, .bool false, .bool false, .bool false, .bool false, .bool false, .bool false, .bool false, .bool false, .bool false, .bool false, .bool false, .bool false, .bool false, .bool false, .bool false, .bool false, .bool false, .bool false, .bool false, .bool false, .bool false, .bool false, .bool false, .bool false, .bool false, .bool false, .bool false, .bool false, .bool false, .bool false, .bool false, .bool false]); generalize World.setRow _ _ _ = W at HT ⊢; have e0 := HT.out.cell 35 (.bool false) rfl; have e1 := HT.out.cell 36 (.bool false) rfl; have e2 := HT.out.cell 37 (.bool false) rfl; have e3 := HT.out.cell 38 (.bool false) rfl; have e4 := HT.out.cell 39 (.bool true) rfl; skip) | (refine wpList_store_rowTo (by rfl) 73 _ _ (by rfl) (by rfl) w.heap.size #[.bool false, .bool false, .bool false, .bool false, .bool true] (by rfl) (by rfl) 73 _ HT.out.b0 (by kernel_rfl) (by kernel_rfl) (by kernel_rfl) ?_))
  refine bodyPost_ret (v := .tuple #[.agg #[.bool false, .bool false, .bool false, .bool false, .bool true], .bool true]) (results_cell_tmp rfl _ _ w.heap.size 73 _ (0, 0) _ _ rfl rfl (tab_row HT.out _) Try.underlying73 rfl (by kernel_rfl)) rfl ?_
  exact ⟨rfl, tab_low HT.out _⟩
set_option maxRecDepth 100000 in
set_option maxHeartbeats 1000000 in
theorem counts_big (k : Int) (h : 8 ≤ k) (hk : k ≤ 255) (w : World) : Calls Try.prog 44 #[.int .u8 k] w (CountsIs [.bool false, .bool false, .bool false, .bool false, .bool false] false w) := by
  go_enter Try.func44, Try.ntmps44
  go_wp2_with (first | (refine wpList_buildTo (by rfl) 95 _ (by rfl) _ (by rfl) cells40.toArray (by kernel_rfl) ?_) | (refine wpList_store_rowTo (by rfl) 95 _ _ (by rfl) (by rfl) (w.heap.size + 1) cells40.toArray (by rfl) (by rfl) 95 _ (two2 w _ _) (by kernel_rfl) (by kernel_rfl) (by kernel_rfl) ?_; have HT := Lib.hid (tab_of w #[.bool false, .bool false, .bool false, .bool false, .bool false, .bool false, .bool false, .bool false, .bool false, .bool false, .bool false, .bool false, .bool false, .bool false, .bool false, .bool false, .bool false, .bool false, .bool false, .bool false, .bool false, .bool false, .bool false, .bool false, .bool false, .bool false, .bool false, .bool false, .bool false, .bool false, .bool false, .bool false, .bool false, .bool false, .bool false, .bool false, .bool false, .bool false, .bool false, .bool false]); generalize World.setRow _ _ _ = W at HT ⊢; skip) | (refine wpList_store_rowTo (by rfl) 73 _ _ (by rfl) (by rfl) w.heap.size #[.bool false, .bool false, .bool false, .bool false, .bool false] (by rfl) (by rfl) 73 _ HT.out.b0 (by kernel_rfl) (by kernel_rfl) (by kernel_rfl) ?_))
  refine bodyPost_ret (v := .tuple #[.agg #[.bool false, .bool false, .bool false, .bool false, .bool false], .bool false]) (results_cell_tmp rfl _ _ w.heap.size 73 _ (0, 0) _ _ rfl rfl (tab_row HT.out _) Try.underlying73 rfl (by kernel_rfl)) rfl ?_
  exact ⟨rfl, tab_low HT.out _⟩
end Go.Proofs.Ytaglklcjolcgeaa
namespace Go.Proofs.Ytaglklcjolcgeaa
open Go.RowKit
set_option linter.unusedVariables false
set_option linter.unusedSimpArgs false
attribute [local go_sem] run_store_float
theorem may_box {w : World} {p : Addr} {cs : Array Value} {v : Value} (hp : p.block < w.heap.size) : ((w.alloc (.cells cs 25)).setCell p v).heap[w.heap.size]? = some (.cells cs 25 (0, 0)) :=
  (Below.heap_setCell _ _ _ _ (by omega)).trans (heap_alloc_new w _)
theorem may_cell {w : World} {p : Addr} {cs : Array Value} {v u : Value} (hp : w.cell? p = some u) : ((w.alloc (.cells cs 25)).setCell p v).cell? p = some v := by
  have h1 : (w.alloc (.cells cs 25)).cell? p = some u := (cell_new w _ p (World.block_lt_of_cell? w p hp)).trans hp
  exact World.cell?_setCell_same _ _ _ (by rw [h1])
theorem box_all {W : World} {B : Nat} {cs : Array Value} {t : TypeId} (h : W.heap[B]? = some (.cells cs t (0, 0))) : ∀ j, W.cell? ⟨B, j, none⟩ = cs[j]? := fun j => by
  unfold World.cell?
  rw [h]
  rfl
/-- What 'may' answers: whether it may be, and how many are left if it may. -/
def MayIs (r : Va) (nest left : Int) (p : Addr) (w : World) (e : Ending) (w' : World) : Prop :=
  ∃ l' : Int, e = .returned (.bool (decide (0 ≤ r.cnt nest left))) ∧ (0 ≤ r.cnt nest left → l' = r.cnt nest left) ∧ w'.cell? p = some (.int .i64 l') ∧ w'.frozen? p = false ∧ Wr (fun k => k = p.block) w w'
/-- ... of one that may not be. -/
def MayNot (left : Int) (p : Addr) (w : World) (e : Ending) (w' : World) : Prop :=
  e = .returned (.bool false) ∧ w'.cell? p = some (.int .i64 (left - 1)) ∧ w'.frozen? p = false ∧ Wr (fun k => k = p.block) w w'
theorem MayNot.is {r : Va} {nest left : Int} {p : Addr} {w : World} {e : Ending} {w' : World} (h : MayNot left p w e w') (hr : r.cnt nest left < 0) : MayIs r nest left p w e w' :=
  ⟨left - 1, by rw [decide_eq_false (by omega)]; exact h.1, fun h => by omega, h.2⟩
/-- The census's cell, and what was written, behind a call and two new blocks. -/
theorem may_end {w w1 : World} {p : Addr} {cs : Array Value} {v u : Value} (hp : w.cell? p = some u) (hz : w.frozen? p = false) (hb : Below ((w.alloc (.cells cs 25)).setCell p v).heap.size ((w.alloc (.cells cs 25)).setCell p v) w1) :
    w1.cell? p = some v ∧ w1.frozen? p = false ∧ Wr (fun k => k = p.block) w w1 := by
  have hpb := World.block_lt_of_cell? w p hp
  have hs : w.heap.size ≤ ((w.alloc (.cells cs 25)).setCell p v).heap.size := by simp [World.setCell]
  refine ⟨(hb.cell (by omega)).trans (may_cell hp), (hb.frozen (by omega)).trans ?_, ?_⟩
  · rw [World.frozen?_setCell]
    exact (frozen_new w _ p hpb).trans hz
  · exact (((Wr.refl (fun k => k = p.block) w).alloc _).setCell (.inl rfl) v).andThen (Wr.of_below hb (fun k => k = p.block)) fun _ _ h => h
theorem end_alloc {w w1 : World} {p : Addr} {v : Value} (h : w1.cell? p = some v ∧ w1.frozen? p = false ∧ Wr (fun k => k = p.block) w w1) (ob : Obj) : (w1.alloc ob).cell? p = some v ∧ (w1.alloc ob).frozen? p = false ∧ Wr (fun k => k = p.block) w (w1.alloc ob) := by
  have hpb := World.block_lt_of_cell? w1 p h.1
  exact ⟨(cell_new w1 _ p hpb).trans h.1, (frozen_new w1 _ p hpb).trans h.2.1, h.2.2.alloc _⟩
/-- ... of one that may be and is no list. -/
def MayYes (left : Int) (p : Addr) (w : World) (e : Ending) (w' : World) : Prop :=
  e = .returned (.bool true) ∧ w'.cell? p = some (.int .i64 (left - 1)) ∧ w'.frozen? p = false ∧ Wr (fun k => k = p.block) w w'
theorem MayYes.is {r : Va} {nest left : Int} {p : Addr} {w : World} {e : Ending} {w' : World} (h : MayYes left p w e w') (hr : r.cnt nest left = left - 1) (h0 : 0 ≤ left - 1) : MayIs r nest left p w e w' :=
  ⟨left - 1, by rw [decide_eq_true (by omega)]; exact h.1, fun _ => hr.symm, h.2⟩
end Go.Proofs.Ytaglklcjolcgeaa
