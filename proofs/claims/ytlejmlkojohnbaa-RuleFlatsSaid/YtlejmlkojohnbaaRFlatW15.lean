/- The walk of 'errataref22.Flat': Ops of one class. -/
import Derived.Test.YtlejmlkojohnbaaFlatM
import Derived.Test.YtlejmlkojohnbaaProg
import Derived.WalkLawsBesides
import Derived.WalkSpells
import Derived.Lib.Hide
import Derived.Laws.Rows
import Derived.Laws.Tables
import Derived.StillTailTactics
namespace Go.Proofs.Ytlejmlkojohnbaa
open Go.RowKit
attribute [local go_sem] run_store_float
set_option linter.unusedSimpArgs false
set_option linter.unusedVariables false
set_option maxRecDepth 100000 in
set_option maxHeartbeats 16000000 in
theorem rFlat_15 (N : Nat) (IH : Hid (∀ r : Rl, r.size ≤ N → r.size ≤ 3000 → r.ar → ∀ (c : List Value) (F : List Nat) (w : World), r.tr.own 7 w c F → Calls Try.prog 10 #[.agg c.toArray] w (GivesR r.flt w)))
    (n m : Int) (x y : Nat) (s : ByteArray) (rs : List Rl) (hN : 1 + Rl.sizes rs ≤ N + 1) (h3 : 1 + Rl.sizes rs ≤ 3000) (har : (Rl.mk 15 n m x y s rs).ar) (c : List Value) (F : List Nat) (w : World) (hr : (Rl.mk 15 n m x y s rs).tr.own 7 w c F) :
    Calls Try.prog 10 #[.agg c.toArray] w (GivesR (Rl.mk 15 n m x y s rs).flt w) := by
  obtain ⟨a, cap, rfl, hcap, hcap', hc⟩ := Rl.open hr
  clear hr
  have hlen := Rl.sizes_len rs
  obtain ⟨i0, hi0, hz0, hz1, hz2⟩ := info_parts infoF_tD
  have HAR := Lib.hid har
  clear har
  go_enter Try.func10, Try.ntmps10
  go_wp2_with fail
  go_loopw [4] (fun u4 wr => ∃ (k : Nat) (A : Option Addr) (ln rcap : Nat) (xs : List Value) (G : List Nat), k ≤ rs.length ∧ u4 = .int .i64 k ∧ Hid (ln = (Rl.flts 15 (rs.take k)).length) ∧
      Kids 7 25 (w.heap.size + 3) wr (.slice A ln rcap) (Rl.trs (Rl.flts 15 (rs.take k))) xs G ∧ Below w.heap.size w wr ∧ w.heap.size + 3 ≤ wr.heap.size ∧
      wr.heap[w.heap.size]? = some (.cells #[.int .u8 15, .int .i64 n, .int .i64 m, .float .f64 x, .float .f64 y, .string s, .slice a rs.length cap] 25 (0, 0)) ∧ wr.heap[w.heap.size + 1]? = some (.cells #[.int .u8 0, .int .i64 0, .int .i64 0, .float .f64 0, .float .f64 0, .string ⟨#[]⟩, .slice none 0 0] 25 (0, 0)) ∧ wr.heap[w.heap.size + 1 + 1]? = some (.cells #[.int .u8 15, .int .i64 n, .int .i64 m, .float .f64 x, .float .f64 y, .string s, .slice A ln rcap] 25 (0, 0))) (fun u4 _ => rs.length - (intOf u4).toNat)
  case atStart =>
    refine ⟨0, none, 0, 0, [], [], by omega, rfl, by simp [Hid, Rl.flts], by simpa [Rl.flts, Rl.trs] using Kids.nil 7 25 _ _, bnew (bnew (bnew (Below.refl _ _) _) _) _, by simp, ?_, ?_, ?_⟩
    · exact (heap_alloc_old _ _ (by simp; omega)).trans ((heap_alloc_old _ _ (by simp)).trans (heap_alloc_new w _))
    · exact heap_alloc_mid w _ _ _
    · exact heap_alloc_top w _ _ _
  case round =>
    obtain ⟨k, A, ln, rcap, xs, G, hk, rfl, hln, hkids, hb, hz, hB0, hB1, hB2⟩ := hrel
    have hlnb : ln ≤ 2999 := by
      have h1 := Rl.sizes_len (Rl.flts 15 (rs.take k))
      have h2 := Rl.flts_sizes 15 (rs.take k)
      have h3' := Rl.sizes_take rs k
      rw [← hln.out] at h1
      omega
    by_cases hlt : k < rs.length
    · rcases hc with ⟨h0', _⟩ | ⟨_, b, o, cs, F', rfl, rfl, hra, hkl⟩
      · omega
      have hbl : b < w.heap.size := rangeAt_lt hra (by rw [Tr.ownL_len hkl, Rl.trs_len]; omega)
      have hra' := rangeAt_of_block hra (hb.block b hbl)
      have hkl' := Tr.ownL_same _ _ _ (fun i hi => hb.block i (Tr.ownL_lt _ _ _ hkl i hi)) hkl
      obtain ⟨kop, kn, km, kx, ky, ks, krs, ka, kcap, Fa, F1, Fb, hF, hke, hkid, c0, c1, c2, c3, c4, c5, c6⟩ := Rl.kidO k hlt hkl' hra'
      have HZ := Rl.sizes_at rs k hlt
      have HKA := Lib.hid (Rl.ars_at rs k hlt (Rl.ar_args HAR.out))
      have HK := Lib.hid hkids
      have hbx0 := fun j => cell_of_row wr w.heap.size j _ _ _ hB0
      have hbx2 := fun j => cell_of_row wr (w.heap.size + 1 + 1) j _ _ _ hB2
      have HB0 := Lib.hid hB0
      have HB1 := Lib.hid hB1
      have HB2 := Lib.hid hB2
      have r3 := Lib.hid hkid
      have hfs := Rl.flt_size rs[k]
      obtain ⟨aop, an, am, ax, ay, as_, aas, hfe⟩ := Rl.form rs[k].flt
      have hfs2 := Rl.sizes_len aas
      have hfs3 := Rl.size_mk aop an am ax ay as_ aas
      rw [hfe] at hfs
      have hcall : ∀ (c : List Value) (F : List Nat) (W : World), rs[k].tr.own 7 W c F → Calls Try.prog 10 #[.agg c.toArray] W (GivesR (Rl.mk aop an am ax ay as_ aas) W) := fun c F W h => by
        rw [← hfe]
        exact IH.out rs[k] (by omega) (by omega) HKA.out c F W h
      have HC := Lib.hid hcall
      have HFE := Lib.hid hfe
      have haas : aas.length ≤ 2999 := by omega
      clear hra hkl hra' hkl' hF hke hkids hB0 hB1 hB2 hkid hcall hfe hfs hfs2 hfs3
      by_cases hA : aop = 15
      · subst hA
        go_wp2_with (first | (go_at_call 10; refine ((HC.out [.int .u8 kop, .int .i64 kn, .int .i64 km, .float .f64 kx, .float .f64 ky, .string ks, .slice ka krs.length kcap] F1 _ r3.out).mono fun _ _ h => GivesR.told h).mono ?_; rintro e w1 ⟨aA, acap, G1, rfl, hown1, hap1, hso1, hb1⟩; obtain ⟨hb2, hown2, hso2, hbx, hv6⟩ := var_new (C := #[.int .u8 15, .int .i64 an, .int .i64 am, .float .f64 ax, .float .f64 ay, .string as_, .slice aA aas.length acap]) (e := 25) hb1 hown1 hso1 (B := w.heap.size) (by omega) HB0.out HB2.out; have HO2 := Lib.hid hown2; obtain ⟨acs, aG, hacs, haA, haG, hasft⟩ := kids_of HO2.out hap1 hso2) | (refine wpList_pushes (wr := wr) (w1 := w1.alloc (.cells #[.int .u8 15, .int .i64 an, .int .i64 am, .float .f64 ax, .float .f64 ay, .string as_, .slice aA aas.length acap] 25)) (by rfl) _ _ _ (by rfl) (w.heap.size + 3) 25 i0 _ 7 80 Try.underlying23 hi0 hz0 hz1 hz2 rfl (by omega) (.slice A ln rcap) _ xs G (by rfl) HK.out hz hb2 (Rl.trs aas) aA aas.length acap acs aG (Rl.trs_len aas).symm hacs haA haG hasft (by rfl) (by rw [Rl.trs_len, ← hln.out]; omega) (by omega) ?_; intro A3 cap3 w3 hk3 hg3; have HV3 : Hid (w3.heap[w.heap.size + 1 + 1]? = _) := (far_block hg3 HK.out.block _ (by omega) (by have := hb2.size; omega)).trans ((hb2.block _ (by omega)).trans HB2.out)) | (refine wpList_store_cell (by rfl) 23 _ _ (by rfl) (w.heap.size + 1 + 1) 6 (by rfl) (.slice A3 ((Rl.trs (Rl.flts 15 (rs.take k))).length + aas.length) cap3) (by rfl) (by rfl) 25 _ HV3.out (by show 6 < 7; omega) (by kernel_rfl) #[.int .u8 15, .int .i64 n, .int .i64 m, .float .f64 x, .float .f64 y, .string s, .slice A3 ((Rl.trs (Rl.flts 15 (rs.take k))).length + aas.length) cap3] (by rfl) ?_))
        go_roundw
        case rel =>
          have hkeep : Rl.keep 15 rs[k].flt = aas := by rw [HFE.out]; unfold Rl.keep; rw [if_pos ⟨.inl rfl, rfl⟩]; rfl
          have hblk := fun i (h1 : i < w.heap.size + 3) => (far_block hg3 HK.out.block i h1 (by have := hb2.size; omega)).trans (hb2.block i (by omega))
          have hbw := (hb.trans (hb2.mono (by omega))).grown hg3 (by have := hb2.size; omega) (fun i hi => by have := (HK.out.block i hi).1; omega)
          have hsz3 := hg3.size
          have hsz2 := hb2.size
          exact ⟨k + 1, _, _, cap3, _, _, by omega, by go_num, by rw [Rl.flts_take _ rs k hlt, hkeep, List.length_append, Rl.trs_len]; rfl, by rw [Rl.flts_take _ rs k hlt, hkeep, Rl.trs_app]; exact hk3.setRow _ (by omega) _, hbw.trans ⟨rfl, rfl, rfl, by simp, fun i hi => setRow_other _ _ _ _ (by omega)⟩, by simp only [setRow_size]; omega, (setRow_other _ _ _ _ (by omega)).trans ((hblk _ (by omega)).trans HB0.out), (setRow_other _ _ _ _ (by omega)).trans ((hblk _ (by omega)).trans HB1.out), setRow_heap _ _ _ _ _ _ HV3.out⟩
        case measure => simp [intOf]; omega
      by_cases hS : aop = 1
      · subst hS
        go_wp2_with (go_at_call 10; refine ((HC.out [.int .u8 kop, .int .i64 kn, .int .i64 km, .float .f64 kx, .float .f64 ky, .string ks, .slice ka krs.length kcap] F1 _ r3.out).mono fun _ _ h => GivesR.told h).mono ?_; rintro e w1 ⟨aA, acap, G1, rfl, hown1, hap1, hso1, hb1⟩; obtain ⟨hb2, hown2, hso2, hbx, hv6⟩ := var_new (C := #[.int .u8 1, .int .i64 an, .int .i64 am, .float .f64 ax, .float .f64 ay, .string as_, .slice aA aas.length acap]) (e := 25) hb1 hown1 hso1 (B := w.heap.size) (by omega) HB0.out HB2.out; have HO2 := Lib.hid hown2)
        go_roundw
        case rel =>
          have hkeep : Rl.keep 15 rs[k].flt = [] := by rw [HFE.out]; unfold Rl.keep; rw [if_neg (fun h => by have h2 := h.2; simp [Rl.op] at h2), if_pos (.inl ⟨rfl, rfl⟩)]
          exact ⟨k + 1, A, ln, rcap, xs, G, by omega, by go_num, by rw [Rl.flts_take _ rs k hlt, hkeep]; simpa [Hid] using hln.out, by rw [Rl.flts_take _ rs k hlt, hkeep]; simpa using HK.out.below hb2, hb.trans (hb2.mono (by omega)), by have := hb2.size; omega, (hb2.block _ (by omega)).trans HB0.out, (hb2.block _ (by omega)).trans HB1.out, (hb2.block _ (by omega)).trans HB2.out⟩
        case measure => simp [intOf]; omega
      have eA : (aop == 15) = false := by simpa using hA
      have eS : (aop == 1) = false := by simpa using hS
      have HAS := Lib.hid (And.intro hA hS)
      clear hA hS
      go_wp2_with (first | (go_at_call 10; refine ((HC.out [.int .u8 kop, .int .i64 kn, .int .i64 km, .float .f64 kx, .float .f64 ky, .string ks, .slice ka krs.length kcap] F1 _ r3.out).mono fun _ _ h => GivesR.told h).mono ?_; rintro e w1 ⟨aA, acap, G1, rfl, hown1, hap1, hso1, hb1⟩; obtain ⟨hb2, hown2, hso2, hbx, hv6⟩ := var_new (C := #[.int .u8 aop, .int .i64 an, .int .i64 am, .float .f64 ax, .float .f64 ay, .string as_, .slice aA aas.length acap]) (e := 25) hb1 hown1 hso1 (B := w.heap.size) (by omega) HB0.out HB2.out; have HO2 := Lib.hid hown2) | (refine wpList_pushH (wr := wr) (w1 := w1.alloc (.cells #[.int .u8 aop, .int .i64 an, .int .i64 am, .float .f64 ax, .float .f64 ay, .string as_, .slice aA aas.length acap] 25)) (w1.heap.size + 1) (by simp) (by rfl) _ _ _ (by rfl) (w.heap.size + 3) 25 i0 _ 7 80 Try.underlying23 hi0 hz0 hz1 hz2 rfl (by omega) (.slice A ln rcap) _ xs G (by rfl) HK.out hz hb2 (Rl.mk aop an am ax ay as_ aas).tr [.int .u8 aop, .int .i64 an, .int .i64 am, .float .f64 ax, .float .f64 ay, .string as_, .slice aA aas.length acap] G1 HO2.out hap1 hso2 (by rfl) (by rw [Rl.trs_len, ← hln.out]; omega) (by omega) ?_; intro g3 cap3 w3 hk3 hg3 hbg hlt3; have HV3 : Hid (w3.heap[w.heap.size + 1 + 1]? = _) := (far_block hg3 HK.out.block _ (by omega) (by have := hb2.size; omega)).trans ((hb2.block _ (by omega)).trans HB2.out)) | (refine wpList_store_cell (by rfl) 23 _ _ (by rfl) (w.heap.size + 1 + 1) 6 (by rfl) (.slice (some ⟨g3, 0, none⟩) ((Rl.trs (Rl.flts 15 (rs.take k))).length + 1) cap3) (by rfl) (by rfl) 25 _ HV3.out (by show 6 < 7; omega) (by kernel_rfl) #[.int .u8 15, .int .i64 n, .int .i64 m, .float .f64 x, .float .f64 y, .string s, .slice (some ⟨g3, 0, none⟩) ((Rl.trs (Rl.flts 15 (rs.take k))).length + 1) cap3] (by rfl) ?_))
      go_roundw
      case rel =>
        have hkeep : Rl.keep 15 rs[k].flt = [Rl.mk aop an am ax ay as_ aas] := by rw [HFE.out]; unfold Rl.keep; rw [if_neg (fun h => HAS.out.1 h.2), if_neg (fun h => by rcases h with h | h <;> first | exact HAS.out.2 h.2 | (have h1 := h.1; omega))]
        have hblk := fun i (h1 : i < w.heap.size + 3) => (far_block hg3 HK.out.block i h1 (by have := hb2.size; omega)).trans (hb2.block i (by omega))
        have hbw := (hb.trans (hb2.mono (by omega))).grown hg3 (by have := hb2.size; omega) (fun i hi => by have := (HK.out.block i hi).1; omega)
        have hsz3 := hg3.size
        have hsz2 := hb2.size
        exact ⟨k + 1, _, _, cap3, _, _, by omega, by go_num, by rw [Rl.flts_take _ rs k hlt, hkeep, List.length_append, Rl.trs_len]; rfl, by rw [Rl.flts_take _ rs k hlt, hkeep, Rl.trs_app]; exact hk3.setRow _ (by omega) _, hbw.trans ⟨rfl, rfl, rfl, by simp, fun i hi => setRow_other _ _ _ _ (by omega)⟩, by simp only [setRow_size]; omega, (setRow_other _ _ _ _ (by omega)).trans ((hblk _ (by omega)).trans HB0.out), (setRow_other _ _ _ _ (by omega)).trans ((hblk _ (by omega)).trans HB1.out), setRow_heap _ _ _ _ _ _ HV3.out⟩
      case measure => simp [intOf]; omega
    · obtain rfl : k = rs.length := by omega
      rw [List.take_length] at hkids hln
      have hTB0 := fun j => cell_of_row wr w.heap.size j _ _ _ hB0
      have hTB2 := fun j => cell_of_row wr (w.heap.size + 1 + 1) j _ _ _ hB2
      have HTN := Lib.hid (fun o => (heap_alloc_old wr o (by omega : w.heap.size + 1 < wr.heap.size)).trans hB1)
      have HT1 := Lib.hid hB1
      have HTO : Hid (∀ i : Nat, i ≠ w.heap.size → wr.heap[i]? = wr.heap[i]?) := fun _ _ => rfl
      clear hB0 hB1 hB2
      obtain ⟨NF, hnode, hnap, hnso⟩ := hkids.node [.int .u8 15, .int .i64 n, .int .i64 m, .float .f64 x, .float .f64 y, .string s] rfl (by simp [Value.oneCell'])
      have HN : Hid ((Rl.mk 15 n m x y s (Rl.flts 15 rs)).tr.own 7 wr [.int .u8 15, .int .i64 n, .int .i64 m, .float .f64 x, .float .f64 y, .string s, .slice A ln rcap] NF) := by unfold Rl.tr; exact hnode
      have HAPN := Lib.hid hnap
      have HSON := Lib.hid hnso
      clear hnode hnap hnso
      have HLN := Lib.hid hln
      rcases list3 (Rl.flts 15 rs) with hfl | ⟨a0, hfl⟩ | ⟨a0, a1, tl, hfl⟩
      · have hl0 : ln = 0 := by rw [HLN.out.out, hfl]; rfl
        subst hl0
        have HFL := Lib.hid hfl
        clear hfl hkids hln hcap hcap' hc
        go_wp2_with (refine wpList_store_row (by rfl) 25 _ _ (by rfl) (w.heap.size + 1) #[.int .u8 1, .int .i64 0, .int .i64 0, .float .f64 0, .float .f64 0, .string ⟨#[]⟩, .slice none 0 0] (by rfl) (by rfl) 25 _ (HT1.out) (by kernel_rfl) rfl (all_oneCell_toArray (cs := [.int .u8 1, .int .i64 0, .int .i64 0, .float .f64 0, .float .f64 0, .string ⟨#[]⟩, .slice none 0 0]) ?_) ?_; (intro v hv; simp at hv; rcases hv with rfl | rfl | rfl | rfl | rfl | rfl | rfl <;> rfl))
        refine bodyPost_ret (v := .agg #[.int .u8 1, .int .i64 0, .int .i64 0, .float .f64 0, .float .f64 0, .string ⟨#[]⟩, .slice none 0 0]) (results_cell_row rfl _ _ (w.heap.size + 1) 25 _ (0, 0) _ rfl (setRow_heap _ _ _ _ _ _ (HT1.out)) Try.underlying25 rfl (by kernel_rfl)) rfl ?_
        rw [show (Rl.mk 15 n m x y s rs).flt = _ from (show _ = Rl.lit 1 by unfold Rl.flt; rw [HFL.out]; rfl)]
        exact gives_litN hb
      · have hl0 : ln = 1 := by rw [HLN.out.out, hfl]; rfl
        subst hl0
        rw [hfl] at hkids
        obtain ⟨g, gcap, hA, hg1, hg2⟩ := hkids.row.form (by simp [Rl.trs])
        obtain rfl : A = some ⟨g, 0, none⟩ := by injection hA
        have hrng : wr.rangeAt g 0 xs := own_range (n := 1) (cap := rcap) (by simpa [Rl.trs] using hkids.row)
        obtain ⟨aop, an, am, ax, ay, as_, aas, aA, acap, Fa0, F10, Fb0, hF0, hke0, hkid0, d00, d10, d20, d30, d40, d50, d60⟩ := kid_cells (T := wr) 0 (by simp) hkids.own hrng (HTO.out g (by omega))
        simp only [Nat.zero_mul, Nat.one_mul, Nat.add_zero, Nat.zero_add, Nat.reduceMul, Nat.reduceAdd] at d00 d10 d20 d30 d40 d50 d60
        simp only [List.getElem_cons_zero, List.getElem_cons_succ] at hke0 hkid0
        have HAP0 := Lib.hid (hkids.apart.sub hF0)
        have HSO0 := Lib.hid (hkids.soft.sub hF0)
        have HKID0 := Lib.hid hkid0
        clear hF0 hkid0
        subst hke0
        have HFL := Lib.hid hfl
        clear hfl hkids hln hA hrng hcap hcap' hc
        go_wp2_with (refine wpList_store_row (by rfl) 25 _ _ (by rfl) (w.heap.size + 1) #[.int .u8 aop, .int .i64 an, .int .i64 am, .float .f64 ax, .float .f64 ay, .string as_, .slice aA aas.length acap] (by rfl) (by rfl) 25 _ (HT1.out) (by kernel_rfl) rfl (all_oneCell_toArray (cs := [.int .u8 aop, .int .i64 an, .int .i64 am, .float .f64 ax, .float .f64 ay, .string as_, .slice aA aas.length acap]) ?_) ?_; (intro v hv; simp at hv; rcases hv with rfl | rfl | rfl | rfl | rfl | rfl | rfl <;> rfl))
        refine bodyPost_ret (v := .agg #[.int .u8 aop, .int .i64 an, .int .i64 am, .float .f64 ax, .float .f64 ay, .string as_, .slice aA aas.length acap]) (results_cell_row rfl _ _ (w.heap.size + 1) 25 _ (0, 0) _ rfl (setRow_heap _ _ _ _ _ _ (HT1.out)) Try.underlying25 rfl (by kernel_rfl)) rfl ?_
        rw [show (Rl.mk 15 n m x y s rs).flt = _ from (show _ = Rl.mk aop an am ax ay as_ aas by unfold Rl.flt; rw [HFL.out]; rfl)]
        exact gives_finN hb HKID0.out HAP0.out HSO0.out
      · have hl2 : 2 ≤ ln := by rw [HLN.out.out, hfl]; simp
        have el0 : ((ln : Int) == 0) = false := by simp; omega
        have el1 : ((ln : Int) == 1) = false := by simp; omega
        have HFL := Lib.hid hfl
        clear hfl hkids hln hcap hcap' hc
        go_wp2_with (refine wpList_store_row (by rfl) 25 _ _ (by rfl) (w.heap.size + 1) #[.int .u8 15, .int .i64 n, .int .i64 m, .float .f64 x, .float .f64 y, .string s, .slice A ln rcap] (by rfl) (by rfl) 25 _ (HT1.out) (by kernel_rfl) rfl (all_oneCell_toArray (cs := [.int .u8 15, .int .i64 n, .int .i64 m, .float .f64 x, .float .f64 y, .string s, .slice A ln rcap]) ?_) ?_; (intro v hv; simp at hv; rcases hv with rfl | rfl | rfl | rfl | rfl | rfl | rfl <;> rfl))
        refine bodyPost_ret (v := .agg #[.int .u8 15, .int .i64 n, .int .i64 m, .float .f64 x, .float .f64 y, .string s, .slice A ln rcap]) (results_cell_row rfl _ _ (w.heap.size + 1) 25 _ (0, 0) _ rfl (setRow_heap _ _ _ _ _ _ (HT1.out)) Try.underlying25 rfl (by kernel_rfl)) rfl ?_
        rw [show (Rl.mk 15 n m x y s rs).flt = _ from (show _ = Rl.mk 15 n m x y s (Rl.flts 15 rs) by unfold Rl.flt; rw [HFL.out]; rfl)]
        exact gives_finN hb HN.out HAPN.out HSON.out
end Go.Proofs.Ytlejmlkojohnbaa
