/- The walk of 'rule.flat': Ops of one class. -/
import Derived.Test.YtlejmlkojohnbaaFlatL
import Derived.Test.YtlejmlkojohnbaaProg
import Derived.WalkLawsBesides
import Derived.WalkSpells
import Derived.Lib.Hide
import Derived.Laws.Rows
import Derived.Laws.Tables
namespace Go.Proofs.Ytlejmlkojohnbaa
open Go.RowKit
attribute [local go_sem] run_store_float
set_option linter.unusedSimpArgs false
set_option linter.unusedVariables false
set_option maxRecDepth 100000 in
set_option maxHeartbeats 16000000 in
theorem flat_18 (N : Nat) (IH : Hid (∀ r : Rl, r.size ≤ N → r.size ≤ 3000 → r.ar → ∀ (c : List Value) (F : List Nat) (w : World), r.tr.own 7 w c F → Calls Try.prog 13 #[.agg c.toArray] w (GivesR r.flt w)))
    (n m : Int) (x y : Nat) (s : ByteArray) (rs : List Rl) (hN : 1 + Rl.sizes rs ≤ N + 1) (h3 : 1 + Rl.sizes rs ≤ 3000) (har : (Rl.mk 18 n m x y s rs).ar) (c : List Value) (F : List Nat) (w : World) (hr : (Rl.mk 18 n m x y s rs).tr.own 7 w c F) :
    Calls Try.prog 13 #[.agg c.toArray] w (GivesR (Rl.mk 18 n m x y s rs).flt w) := by
  obtain ⟨a, cap, rfl, hcap, hcap', hc⟩ := Rl.open hr
  clear hr
  have hlen := Rl.sizes_len rs
  obtain ⟨i0, hi0, hz0, hz1, hz2⟩ := info_parts infoF_tR
  have HAR := Lib.hid har
  clear har
  go_enter Try.func13, Try.ntmps13
  go_wp2_with fail
  go_loopw [3, 9] (fun u3 u9 wr => ∃ (k : Nat) (A : Option Addr) (ln rcap : Nat) (xs : List Value) (G : List Nat), k ≤ rs.length ∧ u9 = .int .i64 k ∧ u3 = .slice A ln rcap ∧ Hid (ln = (Rl.flts 18 (rs.take k)).length) ∧
      Kids 7 29 (w.heap.size + 2) wr (.slice A ln rcap) (Rl.trs (Rl.flts 18 (rs.take k))) xs G ∧ Below w.heap.size w wr ∧ w.heap.size + 2 ≤ wr.heap.size ∧
      wr.heap[w.heap.size]? = some (.cells #[.int .u8 18, .int .i64 n, .int .i64 m, .float .f64 x, .float .f64 y, .string s, .slice a rs.length cap] 29 (0, 0)) ∧ wr.heap[w.heap.size + 1]? = some (.cells #[.int .u8 0, .int .i64 0, .int .i64 0, .float .f64 0, .float .f64 0, .string ⟨#[]⟩, .slice none 0 0] 29 (0, 0))) (fun _ u9 _ => rs.length - (intOf u9).toNat)
  case atStart =>
    refine ⟨0, none, 0, 0, [], [], by omega, rfl, rfl, by simp [Hid, Rl.flts], by simpa [Rl.flts, Rl.trs] using Kids.nil 7 29 _ _, bnew (bnew (Below.refl _ _) _) _, by simp, ?_, ?_⟩
    · exact (heap_alloc_old _ _ (by simp)).trans (heap_alloc_new w _)
    · exact heap_alloc2_new w _ _
  case round =>
    obtain ⟨k, A, ln, rcap, xs, G, hk, rfl, rfl, hln, hkids, hb, hz, hB0, hB1⟩ := hrel
    have hlnb : ln ≤ 2999 := by
      have h1 := Rl.sizes_len (Rl.flts 18 (rs.take k))
      have h2 := Rl.flts_sizes 18 (rs.take k)
      have h3' := Rl.sizes_take rs k
      rw [← hln.out] at h1
      omega
    by_cases hlt : k < rs.length
    · rcases hc with ⟨h0', _⟩ | ⟨_, b, o, cs, F', rfl, rfl, hra, hkl⟩
      · omega
      have hbl : b < w.heap.size := rangeAt_lt hra (by rw [Tr.ownL_len hkl, Rl.trs_len]; omega)
      have hra' := rangeAt_of_block hra (hb.block b hbl)
      have hkl' := Tr.ownL_same _ _ _ (fun i hi => hb.block i (Tr.ownL_lt _ _ _ hkl i hi)) hkl
      obtain ⟨kop, kn, km, kx, ky, ks, krs, ka, kcap, Fa, F1, Fb, hF, hke, hkid, c0, c1, c2, c3, c4, c5, c6⟩ := Rl.kidO k hlt hkl' hra'
      have HZ := Rl.sizes_at rs k hlt
      have HKA := Lib.hid (Rl.ars_at rs k hlt (Rl.ar_args HAR.out))
      have HK := Lib.hid hkids
      have HB0 := Lib.hid hB0
      have HB1 := Lib.hid hB1
      have r3 := Lib.hid (fun ob => Tr.own_below hkid (bnew (Below.refl _ wr) ob))
      have hfs := Rl.flt_size rs[k]
      obtain ⟨aop, an, am, ax, ay, as_, aas, hfe⟩ := Rl.form rs[k].flt
      have hfs2 := Rl.sizes_len aas
      have hfs3 := Rl.size_mk aop an am ax ay as_ aas
      rw [hfe] at hfs
      have hcall : ∀ (c : List Value) (F : List Nat) (W : World), rs[k].tr.own 7 W c F → Calls Try.prog 13 #[.agg c.toArray] W (GivesR (Rl.mk aop an am ax ay as_ aas) W) := fun c F W h => by
        rw [← hfe]
        exact IH.out rs[k] (by omega) (by omega) HKA.out c F W h
      have HC := Lib.hid hcall
      have HFE := Lib.hid hfe
      have haas : aas.length ≤ 2999 := by omega
      clear hra hkl hra' hkl' hF hke hkids hB0 hB1 hkid hcall hfe hfs hfs2 hfs3
      go_wp2_with (first | (go_at_call 13; refine ((HC.out [.int .u8 kop, .int .i64 kn, .int .i64 km, .float .f64 kx, .float .f64 ky, .string ks, .slice ka krs.length kcap] F1 _ (r3.out _)).mono fun _ _ h => GivesR.told h).mono ?_; rintro e w1 ⟨aA, acap, G1, rfl, hown1, hap1, hso1, hb1⟩; obtain ⟨W2, hW2, HV, hvc, hb2, hown2, hap2, hso2⟩ := var_store hb1 hown1 hap1 hso1; have HW2 := Lib.hid hW2; clear hW2; have HV2 := Lib.hid HV; clear HV; have HO2 := Lib.hid hown2; have hbx := fun j => cell_of_row W2 w.heap.size j _ _ _ ((hb2.block _ (by omega)).trans HB0.out)) | (refine wpList_store_row (by rfl) 29 _ _ (by rfl) wr.heap.size #[.int .u8 aop, .int .i64 an, .int .i64 am, .float .f64 ax, .float .f64 ay, .string as_, .slice aA aas.length acap] (by rfl) (by rfl) 29 _ HV2.out (by kernel_rfl) rfl (all_oneCell_toArray (cs := [.int .u8 aop, .int .i64 an, .int .i64 am, .float .f64 ax, .float .f64 ay, .string as_, .slice aA aas.length acap]) (Tr.own_one hown1)) ?_; rw [← HW2.out]) | (refine wpList_push (wr := wr) (w1 := W2) (by rfl) _ _ _ (by rfl) (w.heap.size + 2) 29 i0 _ 7 80 Try.underlying27 hi0 hz0 hz1 hz2 rfl (by omega) (.slice A ln rcap) _ xs G (by rfl) HK.out hz hb2 (Rl.mk aop an am ax ay as_ aas).tr [.int .u8 aop, .int .i64 an, .int .i64 am, .float .f64 ax, .float .f64 ay, .string as_, .slice aA aas.length acap] G1 HO2.out (hap2.mono (by omega)) hso2 (by rfl) (by rw [Rl.trs_len, ← hln.out]; omega) (by omega) ?_; intro g3 cap3 w3 hk3 hg3 hbg hlt3))
      go_roundw
      case rel =>
        have hkeep : Rl.keep 18 rs[k].flt = [Rl.mk aop an am ax ay as_ aas] := by rw [HFE.out]; rfl
        have hblk := fun i (h1 : i < w.heap.size + 2) => (far_block hg3 HK.out.block i h1 (by have := hb2.size; omega)).trans (hb2.block i (by omega))
        exact ⟨k + 1, _, _, cap3, _, _, by omega, by go_num, rfl, by rw [Rl.flts_take _ rs k hlt, hkeep, List.length_append, Rl.trs_len]; rfl, by rw [Rl.flts_take _ rs k hlt, hkeep, Rl.trs_app]; exact hk3, (hb.trans (hb2.mono (by omega))).grown hg3 (by have := hb2.size; omega) (fun i hi => by have := (HK.out.block i hi).1; omega), by have := hb2.size; have := hg3.size; omega, (hblk _ (by omega)).trans HB0.out, (hblk _ (by omega)).trans HB1.out⟩
      case measure => simp [intOf]; omega
    · obtain rfl : k = rs.length := by omega
      rw [List.take_length] at hkids hln
      obtain ⟨T, hT, hTB, hT1, hTo⟩ : ∃ T : World, T = wr.setRow w.heap.size #[.int .u8 18, .int .i64 n, .int .i64 m, .float .f64 x, .float .f64 y, .string s, .slice A ln rcap] ∧ (∀ j, T.cell? ⟨w.heap.size, j, none⟩ = (#[.int .u8 18, .int .i64 n, .int .i64 m, .float .f64 x, .float .f64 y, .string s, .slice A ln rcap] : Array Value)[j]?) ∧ T.heap[w.heap.size + 1]? = some (.cells #[.int .u8 0, .int .i64 0, .int .i64 0, .float .f64 0, .float .f64 0, .string ⟨#[]⟩, .slice none 0 0] 29 (0, 0)) ∧ ∀ i, i ≠ w.heap.size → T.heap[i]? = wr.heap[i]? :=
        ⟨_, rfl, fun j => cell_of_row _ _ _ _ _ _ (setRow_heap wr _ _ _ _ _ hB0), (setRow_other _ _ _ _ (by omega)).trans hB1, fun i hi => setRow_other _ _ _ _ hi⟩
      have HT := Lib.hid hT
      have HB0 := Lib.hid hB0
      have HT1 := Lib.hid hT1
      have HTO := Lib.hid hTo
      clear hT hB0 hB1 hT1 hTo
      obtain ⟨NF, hnode, hnap, hnso⟩ := hkids.node [.int .u8 18, .int .i64 n, .int .i64 m, .float .f64 x, .float .f64 y, .string s] rfl (by simp [Value.oneCell'])
      have HN : Hid ((Rl.mk 18 n m x y s (Rl.flts 18 rs)).tr.own 7 wr [.int .u8 18, .int .i64 n, .int .i64 m, .float .f64 x, .float .f64 y, .string s, .slice A ln rcap] NF) := by unfold Rl.tr; exact hnode
      have HAPN := Lib.hid hnap
      have HSON := Lib.hid hnso
      clear hnode hnap hnso
      obtain ⟨a0, hfl⟩ : ∃ a0 : Rl, Rl.flts 18 rs = [a0] := by
        have h1 := HAR.out
        unfold Rl.ar at h1
        have h2 := h1.1 (by omega)
        match rs, h2 with
        | [r0], _ => exact ⟨r0.flt, by simp [Rl.flts, Rl.keep]⟩
      have hl0 : ln = 1 := by rw [hln.out, hfl]; rfl
      subst hl0
      rw [hfl] at hkids
      obtain ⟨g, gcap, hA, hg1, hg2⟩ := hkids.row.form (by simp [Rl.trs])
      obtain rfl : A = some ⟨g, 0, none⟩ := by injection hA
      have hrng : wr.rangeAt g 0 xs := own_range (n := 1) (cap := rcap) (by simpa [Rl.trs] using hkids.row)
      obtain ⟨aop, an, am, ax, ay, as_, aas, aA, acap, Fa0, F10, Fb0, hF0, hke0, hkid0, d00, d10, d20, d30, d40, d50, d60⟩ := kid_cells (T := T) 0 (by simp) hkids.own hrng (HTO.out g (by omega))
      simp only [Nat.zero_mul, Nat.one_mul, Nat.add_zero, Nat.zero_add, Nat.reduceMul, Nat.reduceAdd] at d00 d10 d20 d30 d40 d50 d60
      simp only [List.getElem_cons_zero, List.getElem_cons_succ] at hke0 hkid0
      have HAP0 := Lib.hid (hkids.apart.sub hF0)
      have HSO0 := Lib.hid (hkids.soft.sub hF0)
      have HKID0 := Lib.hid hkid0
      clear hF0 hkid0
      subst hke0
      have HFL := Lib.hid hfl
      clear hfl hkids hln hA hrng hcap hcap' hc
      by_cases h18 : aop = 18
      · subst h18
        go_wp2_with (first | (refine wpList_store_cell (by rfl) 27 _ _ (by rfl) w.heap.size 6 (by rfl) (.slice (some ⟨g, 0, none⟩) 1 rcap) (by rfl) (by rfl) 29 _ HB0.out (by show 6 < 7; omega) (by kernel_rfl) #[.int .u8 18, .int .i64 n, .int .i64 m, .float .f64 x, .float .f64 y, .string s, .slice (some ⟨g, 0, none⟩) 1 rcap] (by rfl) ?_; rw [← HT.out]) | (refine wpList_store_row (by rfl) 29 _ _ (by rfl) (w.heap.size + 1) #[.int .u8 18, .int .i64 an, .int .i64 am, .float .f64 ax, .float .f64 ay, .string as_, .slice aA aas.length acap] (by rfl) (by rfl) 29 _ HT1.out (by kernel_rfl) rfl (all_oneCell_toArray (cs := [.int .u8 18, .int .i64 an, .int .i64 am, .float .f64 ax, .float .f64 ay, .string as_, .slice aA aas.length acap]) ?_) ?_; (intro v hv; simp at hv; rcases hv with rfl | rfl | rfl | rfl | rfl | rfl | rfl <;> rfl)))
        refine bodyPost_ret (v := .agg #[.int .u8 18, .int .i64 an, .int .i64 am, .float .f64 ax, .float .f64 ay, .string as_, .slice aA aas.length acap]) (results_cell_row rfl _ _ (w.heap.size + 1) 29 _ (0, 0) _ rfl (setRow_heap _ _ _ _ _ _ HT1.out) Try.underlying29 rfl (by kernel_rfl)) rfl ?_
        rw [HT.out, show (Rl.mk 18 n m x y s rs).flt = _ from (show _ = Rl.mk 18 an am ax ay as_ aas by unfold Rl.flt; rw [HFL.out]; rfl)]
        exact gives_fin hb HKID0.out HAP0.out HSO0.out
      have e18 : (aop == 18) = false := by simpa using h18
      have H18 := Lib.hid h18
      clear h18
      by_cases h1 : aop = 1
      · subst h1
        go_wp2_with (first | (refine wpList_store_cell (by rfl) 27 _ _ (by rfl) w.heap.size 6 (by rfl) (.slice (some ⟨g, 0, none⟩) 1 rcap) (by rfl) (by rfl) 29 _ HB0.out (by show 6 < 7; omega) (by kernel_rfl) #[.int .u8 18, .int .i64 n, .int .i64 m, .float .f64 x, .float .f64 y, .string s, .slice (some ⟨g, 0, none⟩) 1 rcap] (by rfl) ?_; rw [← HT.out]) | (refine wpList_store_row (by rfl) 29 _ _ (by rfl) (w.heap.size + 1) #[.int .u8 1, .int .i64 an, .int .i64 am, .float .f64 ax, .float .f64 ay, .string as_, .slice aA aas.length acap] (by rfl) (by rfl) 29 _ HT1.out (by kernel_rfl) rfl (all_oneCell_toArray (cs := [.int .u8 1, .int .i64 an, .int .i64 am, .float .f64 ax, .float .f64 ay, .string as_, .slice aA aas.length acap]) ?_) ?_; (intro v hv; simp at hv; rcases hv with rfl | rfl | rfl | rfl | rfl | rfl | rfl <;> rfl)))
        refine bodyPost_ret (v := .agg #[.int .u8 1, .int .i64 an, .int .i64 am, .float .f64 ax, .float .f64 ay, .string as_, .slice aA aas.length acap]) (results_cell_row rfl _ _ (w.heap.size + 1) 29 _ (0, 0) _ rfl (setRow_heap _ _ _ _ _ _ HT1.out) Try.underlying29 rfl (by kernel_rfl)) rfl ?_
        rw [HT.out, show (Rl.mk 18 n m x y s rs).flt = _ from (show _ = Rl.mk 1 an am ax ay as_ aas by unfold Rl.flt; rw [HFL.out]; rfl)]
        exact gives_fin hb HKID0.out HAP0.out HSO0.out
      have e1 : (aop == 1) = false := by simpa using h1
      have H1 := Lib.hid h1
      clear h1
      by_cases h2 : aop = 2
      · subst h2
        go_wp2_with (first | (refine wpList_store_cell (by rfl) 27 _ _ (by rfl) w.heap.size 6 (by rfl) (.slice (some ⟨g, 0, none⟩) 1 rcap) (by rfl) (by rfl) 29 _ HB0.out (by show 6 < 7; omega) (by kernel_rfl) #[.int .u8 18, .int .i64 n, .int .i64 m, .float .f64 x, .float .f64 y, .string s, .slice (some ⟨g, 0, none⟩) 1 rcap] (by rfl) ?_; rw [← HT.out]) | (refine wpList_store_row (by rfl) 29 _ _ (by rfl) (w.heap.size + 1) #[.int .u8 2, .int .i64 an, .int .i64 am, .float .f64 ax, .float .f64 ay, .string as_, .slice aA aas.length acap] (by rfl) (by rfl) 29 _ HT1.out (by kernel_rfl) rfl (all_oneCell_toArray (cs := [.int .u8 2, .int .i64 an, .int .i64 am, .float .f64 ax, .float .f64 ay, .string as_, .slice aA aas.length acap]) ?_) ?_; (intro v hv; simp at hv; rcases hv with rfl | rfl | rfl | rfl | rfl | rfl | rfl <;> rfl)))
        refine bodyPost_ret (v := .agg #[.int .u8 2, .int .i64 an, .int .i64 am, .float .f64 ax, .float .f64 ay, .string as_, .slice aA aas.length acap]) (results_cell_row rfl _ _ (w.heap.size + 1) 29 _ (0, 0) _ rfl (setRow_heap _ _ _ _ _ _ HT1.out) Try.underlying29 rfl (by kernel_rfl)) rfl ?_
        rw [HT.out, show (Rl.mk 18 n m x y s rs).flt = _ from (show _ = Rl.mk 2 an am ax ay as_ aas by unfold Rl.flt; rw [HFL.out]; rfl)]
        exact gives_fin hb HKID0.out HAP0.out HSO0.out
      have e2 : (aop == 2) = false := by simpa using h2
      have H2 := Lib.hid h2
      clear h2
      go_wp2_with (first | (refine wpList_store_cell (by rfl) 27 _ _ (by rfl) w.heap.size 6 (by rfl) (.slice (some ⟨g, 0, none⟩) 1 rcap) (by rfl) (by rfl) 29 _ HB0.out (by show 6 < 7; omega) (by kernel_rfl) #[.int .u8 18, .int .i64 n, .int .i64 m, .float .f64 x, .float .f64 y, .string s, .slice (some ⟨g, 0, none⟩) 1 rcap] (by rfl) ?_; rw [← HT.out]) | (refine wpList_store_row (by rfl) 29 _ _ (by rfl) (w.heap.size + 1) #[.int .u8 18, .int .i64 n, .int .i64 m, .float .f64 x, .float .f64 y, .string s, .slice (some ⟨g, 0, none⟩) 1 rcap] (by rfl) (by rfl) 29 _ HT1.out (by kernel_rfl) rfl (all_oneCell_toArray (cs := [.int .u8 18, .int .i64 n, .int .i64 m, .float .f64 x, .float .f64 y, .string s, .slice (some ⟨g, 0, none⟩) 1 rcap]) ?_) ?_; (intro v hv; simp at hv; rcases hv with rfl | rfl | rfl | rfl | rfl | rfl | rfl <;> rfl)))
      refine bodyPost_ret (v := .agg #[.int .u8 18, .int .i64 n, .int .i64 m, .float .f64 x, .float .f64 y, .string s, .slice (some ⟨g, 0, none⟩) 1 rcap]) (results_cell_row rfl _ _ (w.heap.size + 1) 29 _ (0, 0) _ rfl (setRow_heap _ _ _ _ _ _ HT1.out) Try.underlying29 rfl (by kernel_rfl)) rfl ?_
      rw [HT.out, show (Rl.mk 18 n m x y s rs).flt = _ from (show _ = Rl.mk 18 n m x y s (Rl.flts 18 rs) by unfold Rl.flt; rw [HFL.out]; exact if_neg (not_or.2 ⟨H18.out, not_or.2 ⟨H1.out, H2.out⟩⟩))]
      exact gives_fin hb HN.out HAPN.out HSON.out
end Go.Proofs.Ytlejmlkojohnbaa
