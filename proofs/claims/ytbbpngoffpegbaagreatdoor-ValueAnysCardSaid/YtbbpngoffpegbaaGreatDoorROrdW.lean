/- The walk of the reference's 'order'. -/
import Derived.Test.YtbbpngoffpegbaaGreatDoorROrd
import Derived.Test.YtbbpngoffpegbaaGreatDoorRCnt
namespace Go.Proofs.YtbbpngoffpegbaaGreatDoor
open Go.RowKit
set_option linter.unusedVariables false
set_option linter.unusedSimpArgs false
attribute [local go_sem] run_store_float
def OrdIs (v : Int) (w : World) (e : Ending) (w' : World) : Prop := e = .returned (.int .i8 v) ∧ Below w.heap.size w w'
set_option maxRecDepth 100000 in
set_option maxHeartbeats 1000000 in
theorem ord_1 (n n2 : Int) (x x2 y y2 : Nat) (s s2 : ByteArray) (a a2 : Option Addr) (len len2 cap cap2 : Nat) (w : World) (hx : x < 18446744073709551616) (hx2 : x2 < 18446744073709551616) (hy : y < 18446744073709551616) (hy2 : y2 < 18446744073709551616) :
    Calls Tryz.prog 76 #[.agg #[.int .u8 1, .int .i64 n, .float .f64 x, .float .f64 y, .string s, .slice a len cap], .agg #[.int .u8 1, .int .i64 n2, .float .f64 x2, .float .f64 y2, .string s2, .slice a2 len2 cap2]] w (OrdIs (numb (decide (n < n2)) (decide (n2 < n))) w) := by
  go_enter Tryz.func76, Tryz.ntmps76
  go_wp2_with (go_at_call 102; (with_reducible refine (number_any _ _ _).mono ?_); rintro e w' ⟨rfl, rfl⟩)
  all_goals
    go_ret
    refine ⟨ri ?_, bnew (bnew (Below.refl _ _) _) _⟩
    first | rfl | simp [*] | simp_all
set_option maxRecDepth 100000 in
set_option maxHeartbeats 1000000 in
theorem ord_2 (n n2 : Int) (x x2 y y2 : Nat) (s s2 : ByteArray) (a a2 : Option Addr) (len len2 cap cap2 : Nat) (w : World) (hx : x < 18446744073709551616) (hx2 : x2 < 18446744073709551616) (hy : y < 18446744073709551616) (hy2 : y2 < 18446744073709551616) :
    Calls Tryz.prog 76 #[.agg #[.int .u8 2, .int .i64 n, .float .f64 x, .float .f64 y, .string s, .slice a len cap], .agg #[.int .u8 2, .int .i64 n2, .float .f64 x2, .float .f64 y2, .string s2, .slice a2 len2 cap2]] w (OrdIs (numb (decide (n < n2)) (decide (n2 < n))) w) := by
  go_enter Tryz.func76, Tryz.ntmps76
  go_wp2_with (go_at_call 102; (with_reducible refine (number_any _ _ _).mono ?_); rintro e w' ⟨rfl, rfl⟩)
  all_goals
    go_ret
    refine ⟨ri ?_, bnew (bnew (Below.refl _ _) _) _⟩
    first | rfl | simp [*] | simp_all
set_option maxRecDepth 100000 in
set_option maxHeartbeats 1000000 in
theorem ord_3 (n n2 : Int) (x x2 y y2 : Nat) (s s2 : ByteArray) (a a2 : Option Addr) (len len2 cap cap2 : Nat) (w : World) (hx : x < 18446744073709551616) (hx2 : x2 < 18446744073709551616) (hy : y < 18446744073709551616) (hy2 : y2 < 18446744073709551616) :
    Calls Tryz.prog 76 #[.agg #[.int .u8 3, .int .i64 n, .float .f64 x, .float .f64 y, .string s, .slice a len cap], .agg #[.int .u8 3, .int .i64 n2, .float .f64 x2, .float .f64 y2, .string s2, .slice a2 len2 cap2]] w (OrdIs (ordF x x2) w) := by
  go_enter Tryz.func76, Tryz.ntmps76
  go_wp2_with (go_at_call 103; (with_reducible refine (rfloats_any x x2 hx hx2 _).mono ?_); rintro e w' ⟨rfl, rfl⟩)
  all_goals
    go_ret
    refine ⟨ri ?_, bnew (bnew (Below.refl _ _) _) _⟩
    first | rfl | simp [*] | simp_all
set_option maxRecDepth 100000 in
set_option maxHeartbeats 1000000 in
theorem ord_4 (n n2 : Int) (x x2 y y2 : Nat) (s s2 : ByteArray) (a a2 : Option Addr) (len len2 cap cap2 : Nat) (w : World) (hx : x < 18446744073709551616) (hx2 : x2 < 18446744073709551616) (hy : y < 18446744073709551616) (hy2 : y2 < 18446744073709551616) :
    Calls Tryz.prog 76 #[.agg #[.int .u8 4, .int .i64 n, .float .f64 x, .float .f64 y, .string s, .slice a len cap], .agg #[.int .u8 4, .int .i64 n2, .float .f64 x2, .float .f64 y2, .string s2, .slice a2 len2 cap2]] w (OrdIs (if ordF x x2 ≠ 0 then ordF x x2 else ordF y y2) w) := by
  cases hc : (ordF x x2 != 0)
  all_goals
    go_enter Tryz.func76, Tryz.ntmps76
    go_wp2_with (first | (go_at_call 103; (with_reducible refine (rfloats_any x x2 hx hx2 _).mono ?_); rintro e w' ⟨rfl, rfl⟩) | (go_at_call 103; (with_reducible refine (rfloats_any y y2 hy hy2 _).mono ?_); rintro e w' ⟨rfl, rfl⟩))
    all_goals
      go_ret
      refine ⟨ri ?_, bnew (bnew (Below.refl _ _) _) _⟩
      first | rfl | simp [*] | simp_all
set_option maxRecDepth 100000 in
set_option maxHeartbeats 1000000 in
theorem ord_5 (n n2 : Int) (x x2 y y2 : Nat) (s s2 : ByteArray) (a a2 : Option Addr) (len len2 cap cap2 : Nat) (w : World) (hx : x < 18446744073709551616) (hx2 : x2 < 18446744073709551616) (hy : y < 18446744073709551616) (hy2 : y2 < 18446744073709551616) :
    Calls Tryz.prog 76 #[.agg #[.int .u8 5, .int .i64 n, .float .f64 x, .float .f64 y, .string s, .slice a len cap], .agg #[.int .u8 5, .int .i64 n2, .float .f64 x2, .float .f64 y2, .string s2, .slice a2 len2 cap2]] w (OrdIs (ordS s s2) w) := by
  go_enter Tryz.func76, Tryz.ntmps76
  go_wp2_with (go_at_call 104; (with_reducible refine (rtexts_any _ _ _).mono ?_); rintro e w' ⟨rfl, rfl⟩)
  all_goals
    go_ret
    refine ⟨ri ?_, bnew (bnew (Below.refl _ _) _) _⟩
    first | rfl | simp [*] | simp_all
set_option maxRecDepth 100000 in
set_option maxHeartbeats 1000000 in
theorem ord_6 (n n2 : Int) (x x2 y y2 : Nat) (s s2 : ByteArray) (a a2 : Option Addr) (len len2 cap cap2 : Nat) (w : World) (hx : x < 18446744073709551616) (hx2 : x2 < 18446744073709551616) (hy : y < 18446744073709551616) (hy2 : y2 < 18446744073709551616) :
    Calls Tryz.prog 76 #[.agg #[.int .u8 6, .int .i64 n, .float .f64 x, .float .f64 y, .string s, .slice a len cap], .agg #[.int .u8 6, .int .i64 n2, .float .f64 x2, .float .f64 y2, .string s2, .slice a2 len2 cap2]] w (OrdIs (ordS s s2) w) := by
  go_enter Tryz.func76, Tryz.ntmps76
  go_wp2_with (go_at_call 104; (with_reducible refine (rtexts_any _ _ _).mono ?_); rintro e w' ⟨rfl, rfl⟩)
  all_goals
    go_ret
    refine ⟨ri ?_, bnew (bnew (Below.refl _ _) _) _⟩
    first | rfl | simp [*] | simp_all
set_option maxRecDepth 100000 in
set_option maxHeartbeats 1000000 in
theorem ord_none (kd : Int) (n n2 : Int) (x x2 y y2 : Nat) (s s2 : ByteArray) (a a2 : Option Addr) (len len2 cap cap2 : Nat) (w : World) (h1 : (kd == 1) = false) (h2 : (kd == 2) = false) (h3 : (kd == 3) = false) (h4 : (kd == 4) = false) (h5 : (kd == 5) = false) (h6 : (kd == 6) = false) (h7 : (kd == 7) = false) :
    Calls Tryz.prog 76 #[.agg #[.int .u8 kd, .int .i64 n, .float .f64 x, .float .f64 y, .string s, .slice a len cap], .agg #[.int .u8 kd, .int .i64 n2, .float .f64 x2, .float .f64 y2, .string s2, .slice a2 len2 cap2]] w (OrdIs 0 w) := by
  go_enter Tryz.func76, Tryz.ntmps76
  go_wp2_with fail
  go_ret
  exact ⟨rfl, bnew (bnew (Below.refl _ _) _) _⟩
set_option maxRecDepth 100000 in
set_option maxHeartbeats 1000000 in
theorem ord_ne (kd kd2 : Int) (n n2 : Int) (x x2 y y2 : Nat) (s s2 : ByteArray) (a a2 : Option Addr) (len len2 cap cap2 : Nat) (w : World) (hne : (kd != kd2) = true) :
    Calls Tryz.prog 76 #[.agg #[.int .u8 kd, .int .i64 n, .float .f64 x, .float .f64 y, .string s, .slice a len cap], .agg #[.int .u8 kd2, .int .i64 n2, .float .f64 x2, .float .f64 y2, .string s2, .slice a2 len2 cap2]] w (OrdIs (numb (decide (kd < kd2)) true) w) := by
  go_enter Tryz.func76, Tryz.ntmps76
  go_wp2_with (go_at_call 102; (with_reducible refine (number_any _ _ _).mono ?_); rintro e w' ⟨rfl, rfl⟩)
  go_ret
  exact ⟨rfl, bnew (bnew (Below.refl _ _) _) _⟩
theorem ordL_zero (rs rs2 : List Va) (k : Nat) (hk : k < rs.length) (hk2 : k < rs2.length) (h : ordV rs[k] rs2[k] = 0) : ordL (rs.drop k) (rs2.drop k) = ordL (rs.drop (k + 1)) (rs2.drop (k + 1)) := by
  rw [List.drop_eq_getElem_cons hk, List.drop_eq_getElem_cons hk2]
  conv => lhs; unfold ordL
  rw [if_neg (by omega)]
theorem ordL_some (rs rs2 : List Va) (k : Nat) (hk : k < rs.length) (hk2 : k < rs2.length) (h : ¬ ordV rs[k] rs2[k] = 0) : ordL (rs.drop k) (rs2.drop k) = ordV rs[k] rs2[k] := by
  rw [List.drop_eq_getElem_cons hk, List.drop_eq_getElem_cons hk2]
  unfold ordL
  rw [if_pos h]
theorem ordL_end (rs rs2 : List Va) (k : Nat) (hk : k ≤ rs.length) (hk2 : k ≤ rs2.length) (h : k = rs.length ∨ k = rs2.length) : ordL (rs.drop k) (rs2.drop k) = numb (decide (rs.length < rs2.length)) (decide (rs2.length < rs.length)) := by
  by_cases h1 : k = rs.length
  · rw [List.drop_eq_nil_of_le (by omega : rs.length ≤ k)]
    by_cases h2 : k = rs2.length
    · rw [List.drop_eq_nil_of_le (by omega : rs2.length ≤ k)]
      have e : rs.length = rs2.length := by omega
      simp [ordL, numb, e]
    · rw [List.drop_eq_getElem_cons (by omega : k < rs2.length)]
      have e : rs.length < rs2.length := by omega
      simp [ordL, numb, e]
  · rw [List.drop_eq_getElem_cons (by omega : k < rs.length), List.drop_eq_nil_of_le (by omega : rs2.length ≤ k)]
    have e : rs2.length < rs.length := by omega
    have e2 : ¬ rs.length < rs2.length := by omega
    simp [ordL, numb, e, e2]
set_option maxRecDepth 100000 in
set_option maxHeartbeats 2000000 in
theorem rorder_N (N : Nat) : ∀ (r r2 : Va) (_ : r.size ≤ N) (_ : r.wf) (_ : r2.wf) (c c2 : List Value) (F F2 : List Nat) (w : World) (_ : r.tr.own 6 w c F) (_ : r2.tr.own 6 w c2 F2),
    Calls Tryz.prog 76 #[.agg c.toArray, .agg c2.toArray] w (OrdIs (ordV r r2) w) := by
  induction N with
  | zero => intro r r2 hN; have := r.size_pos; omega
  | succ N ih =>
  intro r r2 hN hwf hwf2 c c2 F F2 w hr hr2
  obtain ⟨kd, n, x, y, s, rs⟩ := r
  obtain ⟨kd2, n2, x2, y2, s2, rs2⟩ := r2
  obtain ⟨a, cap, rfl, hcap, hcap', hc⟩ := Va.open hr
  obtain ⟨a2, cap2, rfl, hcap2, hcap2', hc2⟩ := Va.open hr2
  clear hr hr2
  unfold Va.wf at hwf hwf2
  obtain ⟨_, _, _, _, hx, hy, hws⟩ := hwf
  obtain ⟨_, _, _, _, hx2, hy2, hws2⟩ := hwf2
  by_cases hk : ¬ kd = kd2
  · unfold ordV
    rw [if_pos hk]
    exact ord_ne kd kd2 n n2 x x2 y y2 s s2 a a2 rs.length rs2.length cap cap2 w (bne_iff_ne.2 hk)
  have hk := Classical.not_not.1 hk
  subst hk
  by_cases h7 : ¬ kd = 7
  · unfold ordV
    rw [if_neg (by simp)]
    by_cases h1 : kd = 1
    · subst h1; exact ord_1 n n2 x x2 y y2 s s2 a a2 rs.length rs2.length cap cap2 w hx hx2 hy hy2
    by_cases h2 : kd = 2
    · subst h2; exact ord_2 n n2 x x2 y y2 s s2 a a2 rs.length rs2.length cap cap2 w hx hx2 hy hy2
    rw [if_neg (by omega)]
    by_cases h3 : kd = 3
    · subst h3; exact ord_3 n n2 x x2 y y2 s s2 a a2 rs.length rs2.length cap cap2 w hx hx2 hy hy2
    rw [if_neg h3]
    by_cases h4 : kd = 4
    · subst h4; exact ord_4 n n2 x x2 y y2 s s2 a a2 rs.length rs2.length cap cap2 w hx hx2 hy hy2
    rw [if_neg h4]
    by_cases h5 : kd = 5
    · subst h5; exact ord_5 n n2 x x2 y y2 s s2 a a2 rs.length rs2.length cap cap2 w hx hx2 hy hy2
    by_cases h6 : kd = 6
    · subst h6; exact ord_6 n n2 x x2 y y2 s s2 a a2 rs.length rs2.length cap cap2 w hx hx2 hy hy2
    rw [if_neg (by omega), if_neg h7]
    exact ord_none kd n n2 x x2 y y2 s s2 a a2 rs.length rs2.length cap cap2 w (beq_eq_false_iff_ne.2 h1) (beq_eq_false_iff_ne.2 h2) (beq_eq_false_iff_ne.2 h3) (beq_eq_false_iff_ne.2 h4) (beq_eq_false_iff_ne.2 h5) (beq_eq_false_iff_ne.2 h6) (beq_eq_false_iff_ne.2 h7)
  have h7 := Classical.not_not.1 h7
  subst h7
  unfold Va.size at hN
  have IH := Lib.hid ih
  have HW := Lib.hid (And.intro hws hws2)
  clear ih hws hws2
  have HV : Hid (ordV (.mk 7 n x y s rs) (.mk 7 n2 x2 y2 s2 rs2) = ordL rs rs2) := by show ordV _ _ = _; unfold ordV; simp
  go_enter Tryz.func76, Tryz.ntmps76
  go_wp2_with fail
  go_loopw [6] (fun u6 wr => ∃ (k : Nat), k ≤ rs.length ∧ k ≤ rs2.length ∧ u6 = .int .i64 k ∧ Hid (ordL (rs.drop k) (rs2.drop k) = ordL rs rs2) ∧ Below w.heap.size w wr ∧ w.heap.size + 2 ≤ wr.heap.size ∧
    wr.cell? ⟨w.heap.size, 5, none⟩ = some (.slice a rs.length cap) ∧ wr.cell? ⟨w.heap.size + 1, 5, none⟩ = some (.slice a2 rs2.length cap2)) (fun u6 _ => rs.length - (intOf u6).toNat)
  case atStart => exact ⟨0, by omega, by omega, rfl, rfl, bnew (bnew (Below.refl _ _) _) _, by simp, by simp [go_sem], by simp [go_sem]⟩
  case round =>
    obtain ⟨k, hk, hk2, rfl, hf, hb, hz, hcell, hcell2⟩ := hrel
    by_cases hlt : k < rs.length
    · by_cases hlt2 : k < rs2.length
      · rcases hc with ⟨h0', _⟩ | ⟨_, b, o, cs, F', rfl, rfl, hra, hkl⟩
        · omega
        rcases hc2 with ⟨h0', _⟩ | ⟨_, b2, o2, cs2, F2', rfl, rfl, hra2, hkl2⟩
        · omega
        have hbl : b < w.heap.size := rangeAt_lt hra (by rw [Tr.ownL_len hkl, Va.trs_len]; omega)
        have hbl2 : b2 < w.heap.size := rangeAt_lt hra2 (by rw [Tr.ownL_len hkl2, Va.trs_len]; omega)
        have hkl' := Tr.ownL_same _ _ _ (fun i hi => hb.block i (Tr.ownL_lt _ _ _ hkl i hi)) hkl
        have hkl2' := Tr.ownL_same _ _ _ (fun i hi => hb.block i (Tr.ownL_lt _ _ _ hkl2 i hi)) hkl2
        obtain ⟨v0, v1, v2, v3, v4, v5, Fa, F1, Fb, hF1, hkid1, c0, c1, c2, c3, c4, c5⟩ := Va.kid k hlt hkl' (rangeAt_of_block hra (hb.block b hbl))
        obtain ⟨x0, x1, x2', x3, x4, x5, Fc, F3, Fd, hF2, hkid2, d0, d1, d2, d3, d4, d5⟩ := Va.kid k hlt2 hkl2' (rangeAt_of_block hra2 (hb.block b2 hbl2))
        have HZ := Va.sizes_at rs k hlt
        have HF := Lib.hid (And.intro hF1 hF2)
        have hri : (0:Int) ≤ (k:Int) := by omega
        have hri2 : (k:Int) < (rs.length:Int) := by omega
        have hri3 : (k:Int) < (rs2.length:Int) := by omega
        clear hra hkl hkl' hF1 hra2 hkl2 hkl2' hF2
        by_cases hz0 : ordV rs[k] rs2[k] = 0
        · have HZ0 := Lib.hid hz0
          clear hz0
          go_wp2_with fail
          go_still_tail 10, (by kernel_rfl)
          change wpList _ _ _ _ _ wr.drew
          go_wp2_with (go_at_call 76; refine (IH.out rs[k] rs2[k] (by omega) (Va.wfs_at rs k hlt HW.out.1) (Va.wfs_at rs2 k hlt2 HW.out.2) [v0, v1, v2, v3, v4, v5] [x0, x1, x2', x3, x4, x5] F1 F3 _ (Tr.own_drew hkid1) (Tr.own_drew hkid2)).mono ?_; rintro e w' ⟨rfl, hb'⟩; rw [HZ0.out])
          go_roundw
          case rel =>
            have hb2 := below_of_drew (w := wr) hb'
            have hs2 := hb2.size
            exact ⟨k + 1, by omega, by omega, by go_num, (ordL_zero rs rs2 k hlt hlt2 HZ0.out).symm.trans hf, bthen hb hb2, by omega, (hb2.cell (p := ⟨w.heap.size, 5, none⟩) (by show w.heap.size < _; omega)).trans hcell, (hb2.cell (p := ⟨w.heap.size + 1, 5, none⟩) (by show w.heap.size + 1 < _; omega)).trans hcell2⟩
          case measure => simp [intOf]; omega
        · have HZ0 := Lib.hid hz0
          have hz1 : (ordV rs[k] rs2[k] != 0) = true := bne_iff_ne.2 hz0
          clear hz0
          go_wp2_with fail
          go_still_tail 10, (by kernel_rfl)
          change wpList _ _ _ _ _ wr.drew
          go_wp2_with (go_at_call 76; refine (IH.out rs[k] rs2[k] (by omega) (Va.wfs_at rs k hlt HW.out.1) (Va.wfs_at rs2 k hlt2 HW.out.2) [v0, v1, v2, v3, v4, v5] [x0, x1, x2', x3, x4, x5] F1 F3 _ (Tr.own_drew hkid1) (Tr.own_drew hkid2)).mono ?_; rintro e w' ⟨rfl, hb'⟩)
          go_ret
          refine ⟨ri ?_, bthen hb (below_of_drew (w := wr) hb')⟩
          rw [HV.out, ← hf.out, ordL_some rs rs2 k hlt hlt2 HZ0.out]
      · have hd : decide ((k : Int) < (rs2.length : Int)) = false := decide_eq_false (by omega)
        go_wp2_with (go_at_call 102; (with_reducible refine (number_any _ _ _).mono ?_); rintro e w' ⟨rfl, rfl⟩)
        go_ret
        refine ⟨ri ?_, hb⟩
        rw [HV.out, ← hf.out, ordL_end rs rs2 k hk hk2 (by omega)]
        try simp
    · have hd : decide ((k : Int) < (rs.length : Int)) = false := decide_eq_false (by omega)
      go_wp2_with (go_at_call 102; (with_reducible refine (number_any _ _ _).mono ?_); rintro e w' ⟨rfl, rfl⟩)
      go_ret
      refine ⟨ri ?_, hb⟩
      rw [HV.out, ← hf.out, ordL_end rs rs2 k hk hk2 (by omega)]
      try simp
end Go.Proofs.YtbbpngoffpegbaaGreatDoor
