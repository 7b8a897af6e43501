/- The walk of the reference's bytes: every value. The walk of the reference's Encode. The walk of the reference's reader.value: all kinds together; the reference's Decode. The walk of the program's source.bytes: lists. (Printed by genpval7.py.) -/
import Derived.Test.YtaglklcjolcgeaaEncL
import Derived.Test.YtaglklcjolcgeaaGrow
import Derived.Test.YtaglklcjolcgeaaPVal
import Derived.Test.YtaglklcjolcgeaaWLast
import Derived.Test.YtaglklcjolcgeaaWWords
namespace Go.Proofs.Ytaglklcjolcgeaa
open Go.RowKit
set_option linter.unusedVariables false
set_option linter.unusedSimpArgs false
attribute [local go_sem] run_store_float
theorem app_bytes (a b : Bs) : (⟨a.toArray⟩ : ByteArray) ++ (⟨b.toArray⟩ : ByteArray) = ⟨(a ++ b).toArray⟩ := by
  apply ByteArray.ext
  apply Array.ext'
  simp
set_option maxRecDepth 100000 in
set_option maxHeartbeats 2000000 in
theorem rbytes_7 (rs : List Va) (n : Int) (x y : Nat) (s : ByteArray) (a : Option Addr) (cap : Nat) (nest : Int) (w : World) (hs : Va.sizes rs ≤ 1023) (hcap : rs.length ≤ cap) (hcap2 : cap ≤ 9223372036854775807) (hall : Va.allns rs nest)
    (hc : rs.length = 0 ∨ ∃ b o cs F', a = some ⟨b, o, none⟩ ∧ w.rangeAt b o cs ∧ Tr.ownL 6 w (Va.trs rs) cs F')
    (IH : ∀ (k : Nat) (hk : k < rs.length) (c : List Value) (F : List Nat) (W : World), rs[k].tr.own 6 W c F → Calls Try.prog 38 #[.agg c.toArray] W (EncIs (encV rs[k]) W)) :
    Calls Try.prog 38 #[.agg #[.int .u8 7, .int .i64 n, .float .f64 x, .float .f64 y, .string s, .slice a rs.length cap]] w (EncIs (7 :: (eb 2 rs.length ++ encL rs)) w) := by
  have hcv := fun o z => conv1 w o z
  have hl := eb_len 2 rs.length
  have hlen := Va.sizes_len rs
  have HL := Lib.hid (encL_len rs nest hall)
  have HI := Lib.hid IH
  have hz1 : (strOfNums [7]).size = 1 := rfl
  clear IH hall
  go_enter Try.func38, Try.ntmps38
  go_wp2_with (go_at_call 58; (with_reducible refine (rshort_any rs.length (by omega) _).mono ?_); rintro e w1 ⟨rfl, hb⟩; have k0 : w1.cell? ⟨w.heap.size, 5, none⟩ = some (.slice a rs.length cap) := (hb.cell (p := ⟨w.heap.size, 5, none⟩) (by simp <;> omega)).trans (by simp [go_sem]))
  have hb2 := bthen (bb2 w (.cells #[.int .u8 7, .int .i64 n, .float .f64 x, .float .f64 y, .string s, .slice a rs.length cap] 25) (.cells #[.int .u8 7] 5)) hb
  have hsz : w.heap.size < w1.heap.size := by have := hb.size; simp at this; omega
  clear hb hcv
  go_loopw [3, 4] (fun u3 u4 wr => ∃ (k : Nat) (l : Bs), k ≤ rs.length ∧ u4 = .int .i64 k ∧ u3 = .string ⟨l.toArray⟩ ∧ Hid (l = 7 :: (eb 2 rs.length ++ encL (rs.take k))) ∧ Hid (l.length + (encL (rs.drop k)).length = 3 + (encL rs).length) ∧ Below w.heap.size w wr ∧ w.heap.size < wr.heap.size ∧
    wr.cell? ⟨w.heap.size, 5, none⟩ = some (.slice a rs.length cap)) (fun _ u4 _ => rs.length - (intOf u4).toNat)
  case atStart =>
    refine ⟨0, 7 :: eb 2 rs.length, by omega, rfl, congrArg Value.string (put_one 7 _), ?_, ?_, hb2, hsz, k0⟩
    · show _ = _
      simp [encL]
    · show _ = _
      simp [hl]
  case round =>
    obtain ⟨k, l, hk, rfl, rfl, he, hq, hb, hz, hcell⟩ := hrel
    by_cases hlt : k < rs.length
    · rcases hc with h0' | ⟨b, o, cs, F', rfl, hra, hkl⟩
      · omega
      have hbl : b < w.heap.size := rangeAt_lt hra (by rw [Tr.ownL_len hkl, Va.trs_len]; omega)
      have hra' := rangeAt_of_block hra (hb.block b hbl)
      have hkl' := Tr.ownL_same _ _ _ (fun i hi => hb.block i (Tr.ownL_lt _ _ _ hkl i hi)) hkl
      obtain ⟨v0, v1, v2, v3, v4, v5, Fa, F1, Fb, hF, hkid, c0, c1, c2, c3, c4, c5⟩ := Va.kid k hlt hkl' hra'
      have hd : (encL (rs.drop k)).length = (encV rs[k]).length + (encL (rs.drop (k + 1))).length := by
        rw [List.drop_eq_getElem_cons hlt, encL, List.length_append]
      have hLL := HL.out
      have hqq := hq.out
      have hsum : l.length + (encV rs[k]).length ≤ 5120003 := by omega
      have hQ := Lib.hid (show (l ++ encV rs[k]).length + (encL (rs.drop (k + 1))).length = 3 + (encL rs).length by rw [List.length_append]; omega)
      have hE := Lib.hid (show l ++ encV rs[k] = 7 :: (eb 2 rs.length ++ encL (rs.take (k + 1))) by rw [encL_take rs k hlt, he.out]; simp)
      have HK := Lib.hid (HI.out k hlt [v0, v1, v2, v3, v4, v5] F1 _ hkid)
      have hnb : ¬ 9223372036854775807 < l.length + (encV rs[k]).length := by omega
      clear hra hkl hra' hkl' hF hd hLL hqq
      go_wp2_with (go_at_call 38; (with_reducible refine HK.out.mono ?_); rintro e w' ⟨rfl, hb'⟩)
      go_roundw
      case rel => exact ⟨k + 1, l ++ encV rs[k], by omega, by go_num, congrArg Value.string (app_bytes _ _), hE, hQ, bthen hb hb', by have := hb'.size; omega, by rw [hb'.cell (p := ⟨w.heap.size, 5, none⟩) (by simpa using hz)]; exact hcell⟩
      case measure => simp [intOf]; omega
    · have hk' : k = rs.length := by omega
      have hE := he.out
      rw [hk', List.take_length] at hE
      have hE := Lib.hid hE
      go_wp2_with fail
      go_ret
      refine ⟨?_, hb⟩
      rw [← hE.out]
      rfl
theorem rbytes_N (N : Nat) : ∀ (v : Va) (_ : v.size ≤ N) (_ : v.size ≤ 1024) (nest : Int) (_ : v.alln nest) (_ : v.wf) (c : List Value) (F : List Nat) (w : World), v.tr.own 6 w c F → Calls Try.prog 38 #[.agg c.toArray] w (EncIs (encV v) w) := by
  induction N with
  | zero => intro v h; have := v.size_pos; omega
  | succ N ih =>
    intro v hN hsz nest hal hwf c F w hown
    obtain ⟨kd, n, x, y, s, rs⟩ := v
    obtain ⟨a, cap, rfl, hcap, hcap2, hc⟩ := Va.open hown
    unfold Va.alln at hal
    unfold Va.wf at hwf
    unfold Va.size at hN hsz
    obtain ⟨hk0, hk1, hn1, hn2, hx, hy, hw⟩ := hwf
    unfold encV
    by_cases h1 : kd = 1
    · subst h1
      have ho := hal.1
      unfold okB at ho
      simp at ho
      rw [if_pos rfl]
      exact rbytes_1 n x y s _ w ho.1
    · rw [if_neg h1]
      by_cases h2 : kd = 2
      · subst h2
        rw [if_pos rfl]
        exact rbytes_2 n x y s _ w hn1 hn2
      · rw [if_neg h2]
        by_cases h3 : kd = 3
        · subst h3
          rw [if_pos rfl]
          exact rbytes_3 n x y s _ w hx
        · rw [if_neg h3]
          by_cases h4 : kd = 4
          · subst h4
            rw [if_pos rfl]
            exact rbytes_4 n x y s _ w hx hy
          · rw [if_neg h4]
            by_cases h5 : kd = 5 ∨ kd = 6
            · rw [if_pos h5]
              have hs := okB_str h5 hal.1
              rcases h5 with rfl | rfl
              · exact rbytes_5 n x y s _ w hs
              · exact rbytes_6 n x y s _ w hs
            · rw [if_neg h5]
              by_cases h7 : kd = 7
              · subst h7
                rw [if_pos rfl]
                refine rbytes_7 rs n x y s a cap (nest + 1) w (by omega) hcap hcap2 hal.2 (hc.elim (fun h => .inl h.1) fun h => .inr ?_) fun k hk c F W ho => ?_
                · obtain ⟨_, b, o, cs, F', h1, _, h3, h4⟩ := h
                  exact ⟨b, o, cs, F', h1, h3, h4⟩
                · have hs := Va.sizes_at rs k hk
                  exact ih rs[k] (by omega) (by omega) (nest + 1) (Va.allns_at rs k hk _ hal.2) (Va.wfs_at rs k hk hw) c F W ho
              · rw [if_neg h7]
                obtain ⟨m, rfl⟩ : ∃ m : Nat, kd = (m : Int) := ⟨kd.toNat, by omega⟩
                exact rbytes_0 m n x y s _ w h1 h2 h3 h4 (fun q => h5 (.inl q)) (fun q => h5 (.inr q)) h7
end Go.Proofs.Ytaglklcjolcgeaa
namespace Go.Proofs.Ytaglklcjolcgeaa
open Go.RowKit
set_option linter.unusedVariables false
set_option linter.unusedSimpArgs false
attribute [local go_sem] run_store_float
def rEnc (v : Va) : Bs := if v.okV = true then encV v else []
theorem rEncode_any (r : Va) (c : List Value) (F : List Nat) (w : World) (hr : r.tr.own 6 w c F) (hwf : r.wf) :
    Calls Try.prog 22 #[.agg c.toArray] w fun e w' => e = .returned (.tuple #[.string ⟨(rEnc r).toArray⟩, .int .i64 (if r.okV = true then 0 else 20)]) ∧ Below w.heap.size w w' := by
  obtain ⟨v0, v1, v2, v3, v4, v5, rfl⟩ := Va.shape hr
  have HR : Hid (∀ W, Below w.heap.size w W → r.tr.own 6 W [v0, v1, v2, v3, v4, v5] F) := fun W hW => Tr.own_below hr hW
  have HW := Lib.hid hwf
  have HB := Lib.hid (bnew (Below.refl w.heap.size w) (.cells #[v0, v1, v2, v3, v4, v5] 25))
  unfold rEnc
  clear hr hwf
  cases ho : r.okV
  · have HO := Lib.hid ho
    go_enter Try.func22, Try.ntmps22
    go_wp2_with (go_at_call 14; (with_reducible refine (rCheck_any r [v0, v1, v2, v3, v4, v5] F _ (HR.out _ HB.out)).mono ?_); rintro e w1 ⟨rfl, hb1⟩; rw [HO.out])
    refine bodyPost_ret (results_tmp2 rfl _ _ _) rfl ?_
    exact ⟨rfl, bthen HB.out hb1⟩
  · have HO := Lib.hid ho
    have HA := Lib.hid (okV_alln ho)
    have HS := Lib.hid (Va.ok_size ho)
    go_enter Try.func22, Try.ntmps22
    go_wp2_with (first | (go_at_call 14; (with_reducible refine (rCheck_any r [v0, v1, v2, v3, v4, v5] F _ (HR.out _ HB.out)).mono ?_); rintro e w1 ⟨rfl, hb1⟩; rw [HO.out]; have HT := Lib.hid (box1_below ⟨box1_all (heap_alloc_new w (.cells #[v0, v1, v2, v3, v4, v5] 25)), by simp⟩ hb1); have HB1 := Lib.hid (bthen HB.out hb1); have q0 := HT.out.1 0; have q1 := HT.out.1 1; have q2 := HT.out.1 2; have q3 := HT.out.1 3; have q4 := HT.out.1 4; have q5 := HT.out.1 5) | (go_at_call 38; (with_reducible refine (rbytes_N 1024 r HS.out HS.out 0 HA.out HW.out [v0, v1, v2, v3, v4, v5] F _ (HR.out _ HB1.out)).mono ?_); rintro e w2 ⟨rfl, hb2⟩))
    refine bodyPost_ret (results_tmp2 rfl _ _ _) rfl ?_
    exact ⟨rfl, bthen HB1.out hb2⟩
end Go.Proofs.Ytaglklcjolcgeaa
namespace Go.Proofs.Ytaglklcjolcgeaa
open Go.RowKit
set_option linter.unusedVariables false
set_option linter.unusedSimpArgs false
attribute [local go_sem] run_store_float
set_option maxRecDepth 100000 in
set_option maxHeartbeats 4000000 in
theorem rvalue_7n (s : ByteArray) (l l2 l3 : Bs × Bool) (x : Nat) (b : Nat) (w : World) (h : RdL w b s l) (hb : b < w.heap.size) (hs : s.size ≤ 9223372036854775807)
    (HC : ∀ W, RdL W b s l → Calls Try.prog 35 #[.pointer (some ⟨b, 0, none⟩), .int .i64 1] W fun e w' => e = .returned (.int .u64 7) ∧ RdL w' b s l2 ∧ Wr (fun j => j = b) W w')
    (HD : ∀ W, RdL W b s l2 → Calls Try.prog 35 #[.pointer (some ⟨b, 0, none⟩), .int .i64 2] W fun e w' => e = .returned (.int .u64 x) ∧ RdL w' b s l3 ∧ Wr (fun j => j = b) W w') (hx : x < 65536) :
    Calls Try.prog 21 #[.pointer (some ⟨b, 0, none⟩), .int .i64 17] w (ValIs (mkI 7 0) b s l3 w) := by
  have HC := Lib.hid HC
  have HD := Lib.hid HD
  have HR := Lib.hid (fun o => h.keep (bnew (Below.refl w.heap.size w) o) hb)
  have HBW := Lib.hid hb
  clear h
  go_enter Try.func21, Try.ntmps21
  go_wp2_with (go_at_call 35; (with_reducible refine (HC.out _ (HR.out _)).mono ?_); rintro e w1 ⟨rfl, HR1, HW1⟩; have hv := Lib.hid (VS.start (A := #[.int .u8 7, .int .i64 0, .float .f64 0, .float .f64 0, .string ⟨#[]⟩, .slice none 0 0]) HBW.out HR1 HW1); clear HR1 HW1)
  refine (HD.out _ hv.out.rd).mono ?_
  rintro e w2 ⟨rfl, HR3, HW3⟩
  have hv2 := Lib.hid (hv.out.call HR3 HW3)
  clear HR3 HW3 hv HC HD HR
  obtain ⟨B, hB⟩ : ∃ B, B = w1.heap.size := ⟨_, rfl⟩
  rw [← hB] at hv2 ⊢
  clear hB
  go_wp2_with fail
  go_loopw [8] (fun u8 wr => u8 = .int .i64 0 ∧ Hid (VS w B b s l3 #[.int .u8 7, .int .i64 0, .float .f64 0, .float .f64 0, .string ⟨#[]⟩, .slice none 0 0] wr)) (fun _ _ => 0)
  case atStart => exact ⟨rfl, hv2⟩
  case round =>
    clear hv2
    obtain ⟨rfl, HN⟩ := hrel
    have hcb : wr.cell? ⟨b, 2, none⟩ = some (.bool l3.2) := by
      obtain ⟨i, _, _, hr⟩ := HN.out.rd
      exact hr.c2
    cases hl : l3.2 with
    | true =>
      rw [hl] at hcb
      by_cases hlt : 0 < x
      · have d1 : (0 : Int) < (x : Int) := by omega
        go_wp2_with (first | (refine wpList_load_row (by rfl) 25 _ (by rfl) B (by rfl) 25 _ (0, 0) _ HN.out.box Try.underlying25 rfl (by kernel_rfl) ?_) | (refine wpList_store_rowTo (by rfl) 25 _ _ (by rfl) (by rfl) w.heap.size #[.int .u8 7, .int .i64 0, .float .f64 0, .float .f64 0, .string ⟨#[]⟩, .slice none 0 0] (by rfl) (by rfl) 25 zero6 HN.out.res (by kernel_rfl) (by kernel_rfl) (all_oneCell_toArray (cs := [.int .u8 7, .int .i64 0, .float .f64 0, .float .f64 0, .string ⟨#[]⟩, .slice none 0 0]) (by simp [Value.oneCell'])) ?_))
        refine bodyPost_ret (v := .agg #[.int .u8 7, .int .i64 0, .float .f64 0, .float .f64 0, .string ⟨#[]⟩, .slice none 0 0]) (results_cell_row rfl _ _ w.heap.size 25 _ (0, 0) _ rfl (setRow_heap _ _ _ _ _ _ HN.out.res) Try.underlying25 rfl (by kernel_rfl)) rfl ?_
        obtain ⟨r1, r2⟩ := HN.out.fin _
        refine ⟨_, _, _, _, _, _, [], rfl, ?_, Apart.nil _, Soft.nil _, r1, r2⟩
        unfold mkI Va.tr Tr.own
        exact ⟨none, 0, 0, by simp, rfl, by simp [Value.oneCell'], ⟨rfl, Nat.le_refl _⟩, Nat.le_refl _, by omega, .inl ⟨rfl, rfl⟩⟩
      · have d1 : ¬ (0 : Int) < (x : Int) := by omega
        go_wp2_with (first | (refine wpList_load_row (by rfl) 25 _ (by rfl) B (by rfl) 25 _ (0, 0) _ HN.out.box Try.underlying25 rfl (by kernel_rfl) ?_) | (refine wpList_store_rowTo (by rfl) 25 _ _ (by rfl) (by rfl) w.heap.size #[.int .u8 7, .int .i64 0, .float .f64 0, .float .f64 0, .string ⟨#[]⟩, .slice none 0 0] (by rfl) (by rfl) 25 zero6 HN.out.res (by kernel_rfl) (by kernel_rfl) (all_oneCell_toArray (cs := [.int .u8 7, .int .i64 0, .float .f64 0, .float .f64 0, .string ⟨#[]⟩, .slice none 0 0]) (by simp [Value.oneCell'])) ?_))
        refine bodyPost_ret (v := .agg #[.int .u8 7, .int .i64 0, .float .f64 0, .float .f64 0, .string ⟨#[]⟩, .slice none 0 0]) (results_cell_row rfl _ _ w.heap.size 25 _ (0, 0) _ rfl (setRow_heap _ _ _ _ _ _ HN.out.res) Try.underlying25 rfl (by kernel_rfl)) rfl ?_
        obtain ⟨r1, r2⟩ := HN.out.fin _
        refine ⟨_, _, _, _, _, _, [], rfl, ?_, Apart.nil _, Soft.nil _, r1, r2⟩
        unfold mkI Va.tr Tr.own
        exact ⟨none, 0, 0, by simp, rfl, by simp [Value.oneCell'], ⟨rfl, Nat.le_refl _⟩, Nat.le_refl _, by omega, .inl ⟨rfl, rfl⟩⟩
    | false =>
      rw [hl] at hcb
      by_cases hlt : 0 < x
      · have d1 : (0 : Int) < (x : Int) := by omega
        go_wp2_with (first | (refine wpList_load_row (by rfl) 25 _ (by rfl) B (by rfl) 25 _ (0, 0) _ HN.out.box Try.underlying25 rfl (by kernel_rfl) ?_) | (refine wpList_store_rowTo (by rfl) 25 _ _ (by rfl) (by rfl) w.heap.size #[.int .u8 7, .int .i64 0, .float .f64 0, .float .f64 0, .string ⟨#[]⟩, .slice none 0 0] (by rfl) (by rfl) 25 zero6 HN.out.res (by kernel_rfl) (by kernel_rfl) (all_oneCell_toArray (cs := [.int .u8 7, .int .i64 0, .float .f64 0, .float .f64 0, .string ⟨#[]⟩, .slice none 0 0]) (by simp [Value.oneCell'])) ?_))
        refine bodyPost_ret (v := .agg #[.int .u8 7, .int .i64 0, .float .f64 0, .float .f64 0, .string ⟨#[]⟩, .slice none 0 0]) (results_cell_row rfl _ _ w.heap.size 25 _ (0, 0) _ rfl (setRow_heap _ _ _ _ _ _ HN.out.res) Try.underlying25 rfl (by kernel_rfl)) rfl ?_
        obtain ⟨r1, r2⟩ := HN.out.fin _
        refine ⟨_, _, _, _, _, _, [], rfl, ?_, Apart.nil _, Soft.nil _, r1, r2⟩
        unfold mkI Va.tr Tr.own
        exact ⟨none, 0, 0, by simp, rfl, by simp [Value.oneCell'], ⟨rfl, Nat.le_refl _⟩, Nat.le_refl _, by omega, .inl ⟨rfl, rfl⟩⟩
      · have d1 : ¬ (0 : Int) < (x : Int) := by omega
        go_wp2_with (first | (refine wpList_load_row (by rfl) 25 _ (by rfl) B (by rfl) 25 _ (0, 0) _ HN.out.box Try.underlying25 rfl (by kernel_rfl) ?_) | (refine wpList_store_rowTo (by rfl) 25 _ _ (by rfl) (by rfl) w.heap.size #[.int .u8 7, .int .i64 0, .float .f64 0, .float .f64 0, .string ⟨#[]⟩, .slice none 0 0] (by rfl) (by rfl) 25 zero6 HN.out.res (by kernel_rfl) (by kernel_rfl) (all_oneCell_toArray (cs := [.int .u8 7, .int .i64 0, .float .f64 0, .float .f64 0, .string ⟨#[]⟩, .slice none 0 0]) (by simp [Value.oneCell'])) ?_))
        refine bodyPost_ret (v := .agg #[.int .u8 7, .int .i64 0, .float .f64 0, .float .f64 0, .string ⟨#[]⟩, .slice none 0 0]) (results_cell_row rfl _ _ w.heap.size 25 _ (0, 0) _ rfl (setRow_heap _ _ _ _ _ _ HN.out.res) Try.underlying25 rfl (by kernel_rfl)) rfl ?_
        obtain ⟨r1, r2⟩ := HN.out.fin _
        refine ⟨_, _, _, _, _, _, [], rfl, ?_, Apart.nil _, Soft.nil _, r1, r2⟩
        unfold mkI Va.tr Tr.own
        exact ⟨none, 0, 0, by simp, rfl, by simp [Value.oneCell'], ⟨rfl, Nat.le_refl _⟩, Nat.le_refl _, by omega, .inl ⟨rfl, rfl⟩⟩
theorem be_le2 (a : Bs) (h : a.length ≤ 2) : be a < 65536 := by
  have h1 := be_lt a
  have h2 := Nat.pow_le_pow_right (n := 256) (by omega) h
  simp only [Nat.reducePow] at h2
  omega
/-- The kinds that are no lists. -/
theorem rvalue_leaf (k : Nat) (nest : Int) (s : ByteArray) (l : Bs × Bool) (b : Nat) (w : World) (h : RdL w b s l) (hb : b < w.heap.size) (hs : s.size ≤ 9223372036854775807) (h7 : ¬ be (takeR 1 l).1 = 7) :
    Calls Try.prog 21 #[.pointer (some ⟨b, 0, none⟩), .int .i64 nest] w (ValIs (refV k l).1 b s (refV k l).2 w) := by
  have h8 : be (takeR 1 l).1 < 256 := be_lt1 _ (takeR_le 1 l)
  have HC := fun W (h : RdL W b s l) => rnum_any s l 1 b W h (by omega) hs
  have HD := fun (l : Bs × Bool) k (hk : k ≤ 8) W (h : RdL W b s l) => rnum_any s l k b W h hk hs
  have HT := fun (l : Bs × Bool) k (hk : k ≤ 9223372036854775807) W (h : RdL W b s l) => rtake_any s l k b W h hk hs
  rw [refV.eq_def]
  simp only []
  obtain ⟨m, hm⟩ : ∃ m, m = be (takeR 1 l).1 := ⟨_, rfl⟩
  rw [← hm] at h7 h8 HC ⊢
  by_cases h1 : m = 1
  · subst h1
    rw [if_pos rfl]
    exact rvalue_1 s l _ _ _ nest b w h hb hs HC (HD _ 1 (by omega)) (be_lt1 _ (takeR_le 1 _))
  rw [if_neg h1]
  by_cases h2 : m = 2
  · subst h2
    rw [if_pos rfl]
    exact rvalue_2 s l _ _ _ nest b w h hb hs HC (HD _ 8 (by omega)) (be_lt8 _ (takeR_le 8 _))
  rw [if_neg h2]
  by_cases h3 : m = 3
  · subst h3
    rw [if_pos rfl]
    exact rvalue_3 s l _ _ _ nest b w h hb hs HC (HD _ 8 (by omega))
  rw [if_neg h3]
  by_cases h4 : m = 4
  · subst h4
    rw [if_pos rfl]
    exact rvalue_4 s l _ _ _ _ _ nest b w h hb hs HC (HD _ 8 (by omega)) (HD _ 8 (by omega))
  rw [if_neg h4]
  by_cases h56 : m = 5 ∨ m = 6
  · rw [if_pos h56]
    have hx := be_le2 _ (takeR_le 2 (takeR 1 l).2)
    have hw := wrap_small _ hx
    have HE := HT (takeR 2 (takeR 1 l).2).2 (be (takeR 2 (takeR 1 l).2).1) (by omega)
    rcases h56 with rfl | rfl
    · exact rvalue_5 s l _ _ _ _ _ nest b w h hb hs HC (HD _ 2 (by omega)) (by rw [hw]; exact HE)
    · exact rvalue_6 s l _ _ _ _ _ nest b w h hb hs HC (HD _ 2 (by omega)) (by rw [hw]; exact HE)
  rw [if_neg h56, if_neg h7]
  exact rvalue_0 s l nest b w h hb hs m hm.symm h8 h1 h2 h3 h4 (fun e => h56 (.inl e)) (fun e => h56 (.inr e)) h7
theorem rvalue_N (k : Nat) : ∀ (nest : Int) (_ : nest + k = 17) (s : ByteArray) (l : Bs × Bool) (b : Nat) (w : World), 0 ≤ nest → RdL w b s l → b < w.heap.size → s.size ≤ 9223372036854775807 →
    Calls Try.prog 21 #[.pointer (some ⟨b, 0, none⟩), .int .i64 nest] w (ValIs (refV k l).1 b s (refV k l).2 w) := by
  induction k with
  | zero =>
    intro nest hk s l b w h0 h hb hs
    by_cases h7 : be (takeR 1 l).1 = 7
    · obtain rfl : nest = 17 := by omega
      have HC := fun W (h : RdL W b s l) => rnum_any s l 1 b W h (by omega) hs
      rw [h7] at HC
      rw [refV.eq_def]
      simp only [h7]
      exact rvalue_7n s l _ _ _ b w h hb hs HC (fun W h => rnum_any s _ 2 b W h (by omega) hs) (be_le2 _ (takeR_le 2 _))
    · exact rvalue_leaf 0 nest s l b w h hb hs h7
  | succ k ih =>
    intro nest hk s l b w h0 h hb hs
    by_cases h7 : be (takeR 1 l).1 = 7
    · have HC := fun W (h : RdL W b s l) => rnum_any s l 1 b W h (by omega) hs
      rw [h7] at HC
      rw [refV.eq_def]
      simp only [h7]
      exact rvalue_7 (refV k) s l _ _ _ nest b w h hb hs HC (fun W h => rnum_any s _ 2 b W h (by omega) hs) (be_le2 _ (takeR_le 2 _)) h0 (by omega) (fun l W h hb => ih (nest + 1) (by omega) s l b W (by omega) h hb hs)
    · exact rvalue_leaf (k + 1) nest s l b w h hb hs h7
end Go.Proofs.Ytaglklcjolcgeaa
namespace Go.Proofs.Ytaglklcjolcgeaa
open Go Go.RowKit Go.Proofs.YtaglklcjolcgeaaW.PrintWords Go.Proofs.YtaglklcjolcgeaaW.PrintLast
set_option linter.unusedVariables false
set_option linter.unusedSimpArgs false
attribute [local go_sem] run_store_float
section
variable {P : Program} {ops : Array Oper} {Q : Exit → Act → World → Prop}
/-- A call of a Go function that may panic, in a region that draws. -/
theorem goesP_ {oi : Oper} {N : Option Tmp} {a : Act} {w : World} {K : Act → World → Prop} {f : FuncId} {fn : Func} {aa : Array Operand} {ts : Array TypeId} (hf : P.funcs[f]? = some fn) (hname : (fn.name == "runtime.NumGoroutine") = false) (hb : fn.body.isSome = true) (args : Array Value)
    (hw : Region.wanted oi (yielded ops a.tmps) = true) (hN : oi.dst = N) (hop : oi.op = .call { callee := .value (.func f), args := aa, argTypes := ts }) (hargs : aa.map a.eval = args)
    (h : Calls P f args w fun e w' => (∃ v, e = .returned v ∧ K (a.put N v) w') ∨ (∃ c, e = .panicked c ∧ Q (.panic c) a w')) : if Region.wanted oi (yielded ops a.tmps) = true then Oper.wp P oi a w K Q else K (a.put N undef) w := by
  rw [if_pos hw]
  subst hN
  unfold Oper.wp
  have he := enters_ hf hname hb args w
  have hrun : (execOp a.eval oi).run P w = .ok (.enter f args) w := by
    unfold execOp
    simp [hop, resolve, Deferred.ofValue, invoke, Act.eval, hargs, he]
  rw [hrun, Oper.upon_enter]
  refine h.mono fun e w'' hh => ?_
  rcases hh with ⟨v, rfl, hk⟩ | ⟨c, rfl, hq⟩
  · exact hk
  · exact hq
end
theorem VP.grown {w : World} {B : Nat} {p : Addr} {l : Bs} {A : Array Value} {W W2 : World} {row : Option Nat} (h : VP w B p l A W) (hg : W.grownBy W2 row) (hr : ∀ g, row = some g → B < g) : VP w B p l A W2 := by
  have h1 : w.heap.size < W.heap.size := (Array.getElem?_eq_some_iff.1 h.res).1
  have h2 : B < W.heap.size := (Array.getElem?_eq_some_iff.1 h.box).1
  have h3 := h.lo
  have h4 := h.hi
  obtain ⟨r1, r2, r3⟩ := h.rd
  have hb : W2.heap[p.block]? = W.heap[p.block]? := hg.block p.block (by omega) fun e => by have := hr _ e.symm; omega
  exact ⟨h.lo, h.hi, (hg.block _ h1 fun e => by have := hr _ e.symm; omega).trans h.res, (hg.block _ h2 fun e => by have := hr _ e.symm; omega).trans h.box, ⟨(World.cell?_of_block (w := W) hb).trans r1, (World.frozen?_of_block (w := W) hb).trans r2, r3⟩, h.wr.grown hg fun g e => .inr (by have := hr g e; omega)⟩
theorem VP.drew {w : World} {B : Nat} {p : Addr} {l : Bs} {A : Array Value} {W : World} (h : VP w B p l A W) : VP w B p l A W.drew := ⟨h.lo, h.hi, h.res, h.box, h.rd, h.wr.drew⟩
theorem rep_go {f : Bs → Option (Va × Bs)} {n : Nat} {l : Bs} {v : Va} {l2 : Bs} (hn : 0 < n) (hf : f l = some (v, l2)) : rep f n l = (rep f (n - 1) l2).map fun g => (v :: g.1, g.2) := by
  obtain ⟨m, rfl⟩ : ∃ m, n = m + 1 := ⟨n - 1, by omega⟩
  rw [rep.eq_def]
  simp only [hf, Nat.add_sub_cancel]
  cases rep f m l2 with
  | none => rfl
  | some g => obtain ⟨a, b⟩ := g; rfl
theorem rep_stop {f : Bs → Option (Va × Bs)} {n : Nat} {l : Bs} (hn : 0 < n) (hf : f l = none) : rep f n l = none := by
  obtain ⟨m, rfl⟩ : ∃ m, n = m + 1 := ⟨n - 1, by omega⟩
  rw [rep.eq_def]
  simp only [hf]
/-- What stands ahead of a round. -/
structure Lq (f : Bs → Option (Va × Bs)) (x : Nat) (l3 : Bs) (w : World) (B : Nat) (p : Addr) (j : Nat) (vs : List Va) (lj : Bs) (v : Value) (xs : List Value) (G : List Nat) (W : World) : Prop where
  st : VP w B p lj #[.int .u8 7, .int .i64 0, .float .f64 0, .float .f64 0, .string ⟨#[]⟩, v] W
  kids : Kids 6 25 (B + 1) W v (Va.trs vs) xs G
  rows : Tr.ownRL W (Va.trs vs) xs G
  nil : vs.length = 0 → v = .slice none 0 0
  len : vs.length = j
  hj : j ≤ x
  eq : rep f x l3 = (rep f (x - j) lj).map fun g => (vs ++ g.1, g.2)
theorem Lq.drew {f : Bs → Option (Va × Bs)} {x : Nat} {l3 : Bs} {w : World} {B : Nat} {p : Addr} {j : Nat} {vs : List Va} {lj : Bs} {v : Value} {xs : List Value} {G : List Nat} {W : World} (h : Lq f x l3 w B p j vs lj v xs G W) : Lq f x l3 w B p j vs lj v xs G W.drew := ⟨h.st.drew, h.kids.drew, Tr.ownRL_same (w := W) (w' := W.drew) _ _ _ (fun _ _ => rfl) h.rows, h.nil, h.len, h.hj, h.eq⟩
theorem Lq.next {f : Bs → Option (Va × Bs)} {x : Nat} {l3 : Bs} {w : World} {B : Nat} {p : Addr} {j : Nat} {vs : List Va} {lj l2 : Bs} {v v' : Value} {vn : Va} {xs xs' : List Value} {G G' : List Nat} {W W3 : World}
    (h : Lq f x l3 w B p j vs lj v xs G W) (hlt : j < x) (hf : f lj = some (vn, l2)) (hst : VP w B p l2 #[.int .u8 7, .int .i64 0, .float .f64 0, .float .f64 0, .string ⟨#[]⟩, v] W3) (hk : Kids 6 25 (B + 1) W3 v' (Va.trs vs ++ [vn.tr]) xs' G') (hr : Tr.ownRL W3 (Va.trs vs ++ [vn.tr]) xs' G') :
    Lq f x l3 w B p (j + 1) (vs ++ [vn]) l2 v' xs' G' (W3.setCell ⟨B, 5, none⟩ v') := by
  refine ⟨hst.put 5 v', ?_, ?_, by simp, by simp [h.len], by omega, ?_⟩
  · rw [Va.trs_snoc]
    exact hk.setCell _ (by show B < B + 1; omega) _
  · rw [Va.trs_snoc]
    exact Tr.ownRL_same _ _ _ (fun i hi => Below.heap_setCell _ _ _ _ (by have := hk.apart.2 i hi; show i ≠ B; omega)) hr
  · rw [h.eq, rep_go (by omega) hf]
    cases he : rep f (x - j - 1) l2 with
    | none => rfl
    | some g => simp
/-- The rows behind an append. -/
theorem lq_rows {f : Bs → Option (Va × Bs)} {x : Nat} {l3 : Bs} {w : World} {B : Nat} {p : Addr} {j : Nat} {vs : List Va} {lj : Bs} {v : Value} {xs : List Value} {G : List Nat} {W W3 W4 : World} {vn : Va} {c : List Value} {G1 : List Nat}
    (h : Lq f x l3 w B p j vs lj v xs G W) (hw : Wr (fun j => j = p.block) W W3) (hk : Kids 6 25 (B + 1) W3 v (Va.trs vs) xs G) (ho : vn.tr.own 6 W3 c G1) (hR : vn.tr.ownR W3 c G1) (hap : Apart W.heap.size G1) (hg : W3.grownBy W4 v.ownBlock) : Tr.ownRL W4 (Va.trs vs ++ [vn.tr]) (xs ++ c) (G ++ G1) := by
  have hlt := Tr.ownL_lt _ _ _ h.kids.own
  have hlt1 := Tr.own_lt _ _ _ ho
  have hs := hw.size
  refine Tr.ownRL_app (Tr.ownRL_same _ _ _ (fun i hi => ?_) h.rows) (Tr.ownRL_single (Tr.ownR_same _ _ _ (fun i hi => ?_) hR))
  · have h1 := hlt i hi
    have h2 := h.kids.apart.2 i hi
    have h3 := h.st.lo
    have h4 := h.st.hi
    exact (hg.block i (by omega) fun e => h.kids.far i e.symm hi).trans (hw.block i h1 (by show ¬ i = p.block; omega))
  · have h1 := hap.2 i hi
    exact hg.block i (hlt1 i hi) fun e => by have := (h.kids.block i e.symm).2; omega
theorem lq_none {f : Bs → Option (Va × Bs)} {x : Nat} {l3 : Bs} {w : World} {B : Nat} {p : Addr} {j : Nat} {vs : List Va} {lj : Bs} {v : Value} {xs : List Value} {G : List Nat} {W W3 : World} {e : Ending}
    (h : Lq f x l3 w B p j vs lj v xs G W) (hlt : j < x) (hf : f lj = none) (he : ShortIs p W e W3) : PV ((rep f x l3).map fun g => (.mk 7 0 0 0 ⟨#[]⟩ g.1, g.2)) p w e W3 := by
  rw [h.eq, rep_stop (by omega) hf]
  exact ⟨he.1, h.st.wr.andThen he.2 fun _ _ h => h⟩
theorem lq_end {f : Bs → Option (Va × Bs)} {x : Nat} {l3 : Bs} {w : World} {B : Nat} {p : Addr} {vs : List Va} {lj : Bs} {A : Option Addr} {cap : Nat} {xs : List Value} {G : List Nat} {W : World}
    (h : Lq f x l3 w B p x vs lj (.slice A vs.length cap) xs G W) :
    PV ((rep f x l3).map fun g => (.mk 7 0 0 0 ⟨#[]⟩ g.1, g.2)) p w (.returned (.agg #[.int .u8 7, .int .i64 0, .float .f64 0, .float .f64 0, .string ⟨#[]⟩, .slice A vs.length cap])) (W.setRow w.heap.size #[.int .u8 7, .int .i64 0, .float .f64 0, .float .f64 0, .string ⟨#[]⟩, .slice A vs.length cap]) := by
  have hhi := h.st.hi
  have hkids := h.kids
  have hl := Va.trs_len vs
  rw [← hl] at hkids
  obtain ⟨GF, hnode, hap, hsoft⟩ := hkids.nodeR h.rows (fun e => by
    have := h.nil (by omega)
    injection this with q1 _ q3
    exact ⟨q1, q3⟩) [.int .u8 7, .int .i64 0, .float .f64 0, .float .f64 0, .string ⟨#[]⟩] rfl (by simp [Value.oneCell'])
  rw [hl] at hnode
  have heq := h.eq
  rw [Nat.sub_self] at heq
  rw [heq]
  obtain ⟨r1, r2⟩ := h.st.fin #[.int .u8 7, .int .i64 0, .float .f64 0, .float .f64 0, .string ⟨#[]⟩, .slice A vs.length cap]
  have hs : ∀ i ∈ GF, (W.setRow w.heap.size #[.int .u8 7, .int .i64 0, .float .f64 0, .float .f64 0, .string ⟨#[]⟩, .slice A vs.length cap]).heap[i]? = W.heap[i]? := fun i hi => setRow_other _ _ _ _ (by have := hap.2 i hi; omega)
  refine ⟨_, _, _, _, _, _, GF, rfl, ?_, hap.mono (by omega), hsoft.same hs, r1, r2⟩
  simp only [List.append_nil]
  unfold Va.tr
  exact Tr.ownR_same _ _ _ hs hnode
/-- The box's list. -/
structure Box5 (B : Nat) (v : Value) (W : World) : Prop where
  c5 : W.cell? ⟨B, 5, none⟩ = some v
set_option maxRecDepth 100000 in
set_option maxHeartbeats 4000000 in
theorem pv_7 (f : Bs → Option (Va × Bs)) (l l2 l3 : Bs) (x : Nat) (nest : Int) (p : Addr) (w : World) (h : RdP w p l) (hb : p.block < w.heap.size)
    (HC : ∀ W, RdP W p l → Calls Try.prog 39 #[.pointer (some p), .int .i64 1] W fun e w' => e = .returned (.int .u64 7) ∧ RdP w' p l2 ∧ Wr (fun j => j = p.block) W w')
    (HD : ∀ W, RdP W p l2 → Calls Try.prog 39 #[.pointer (some p), .int .i64 2] W fun e w' => e = .returned (.int .u64 x) ∧ RdP w' p l3 ∧ Wr (fun j => j = p.block) W w') (hx : x < 65536) (hn0 : 0 ≤ nest) (hn : nest < 16)
    (IH : ∀ (l : Bs) (W : World), RdP W p l → p.block < W.heap.size → Calls Try.prog 24 #[.pointer (some p), .int .i64 (nest + 1)] W (PV (f l) p W)) :
    Calls Try.prog 24 #[.pointer (some p), .int .i64 nest] w (PV ((rep f x l3).map fun g => (.mk 7 0 0 0 ⟨#[]⟩ g.1, g.2)) p w) := by
  have HC := Lib.hid HC
  have HD := Lib.hid HD
  have IH := Lib.hid IH
  have HR := Lib.hid (fun o => h.keep (bnew (Below.refl w.heap.size w) o) hb)
  have HBW := Lib.hid hb
  have HX := Lib.hid hx
  have HW64 := Lib.hid (show wrap64 (nest + 1) = nest + 1 by simp only [wrap64]; omega)
  obtain ⟨i0, hi0, hz0, hz1, hz2⟩ := info_parts info_tV
  clear h
  go_enter Try.func24, Try.ntmps24
  go_wp2_with (go_at_call 39; (with_reducible refine (HC.out _ (HR.out _)).mono ?_); rintro e w1 ⟨rfl, HR1, HW1⟩; have hv := Lib.hid (VP.start (A := #[.int .u8 7, .int .i64 0, .float .f64 0, .float .f64 0, .string ⟨#[]⟩, .slice none 0 0]) HBW.out HR1 HW1); clear HR1 HW1)
  refine (HD.out _ hv.out.rd).mono ?_
  rintro e w2 ⟨rfl, HR3, HW3⟩
  have hv2 := Lib.hid (hv.out.call HR3 HW3)
  clear HR3 HW3 hv HC HD HR
  obtain ⟨B, hB⟩ : ∃ B, B = w1.heap.size := ⟨_, rfl⟩
  rw [← hB] at hv2 ⊢
  clear hB
  go_wp2_with fail
  go_loopw [54] (fun u54 wr => ∃ (j : Nat) (vs : List Va) (lj : Bs) (v : Value) (xs : List Value) (G : List Nat), u54 = .int .u64 j ∧ Hid (Lq f x l3 w B p j vs lj v xs G wr)) (fun u54 _ => x - (intOf u54).toNat)
  case atStart =>
    exact ⟨0, [], l3, .slice none 0 0, [], [], rfl, Lib.hid ⟨hv2.out, by simpa [Va.trs] using Kids.nil 6 25 _ _, by simp [Va.trs, Tr.ownRL], fun _ => rfl, rfl, by omega, by simp⟩⟩
  case round =>
    clear hv2
    obtain ⟨j, vs, lj, v, xs, G, rfl, HL⟩ := hrel
    have hjx := HL.out.hj
    by_cases hlt : j < x
    · have d1 : (j : Int) < (x : Int) := by omega
      have hbs : p.block < wr.heap.size := by have := HL.out.st.lo; have := (Array.getElem?_eq_some_iff.1 HL.out.st.res).1; omega
      have hlen := HL.out.len
      have hBw : B + 1 ≤ wr.heap.size := (Array.getElem?_eq_some_iff.1 HL.out.st.box).1
      have HQ := Lib.hid (show Box5 B v wr.drew from ⟨HL.out.st.cell 5⟩)
      clear hjx
      go_wp2_with fail
      refine start_ (n := 10) (S := Box5 B v) (ds := [9]) #[false, false, false, false, false, false, false, false, false, false] (by kernel_rfl) rfl rfl HQ.out (fun hHeld => ?_)
      have HL := Lib.hid HL.out.drew
      have hbs : p.block < wr.drew.heap.size := hbs
      have hBw : B + 1 ≤ wr.drew.heap.size := hBw
      generalize wr.drew = wd at *
      refine pure_ (i := 0) (N := some 56) (v := ?_) (a' := ?_) #[true, false, false, false, false, false, false, false, false, false] rfl rfl (by kernel_rfl) (fun _ _ _ h => h) (Or.inl ⟨by rfl, ?_⟩) ?_ ?_
      rotate_left
      · intro w'
        go_simp
        with_reducible rfl
      rotate_left
      · simp only [Act.put, List.setIfInBounds_toArray, List.set_cons_zero, List.set_cons_succ, i64_w, i32_w]
        rfl
      refine pure_ (i := 2) (N := some 58) (v := ?_) (a' := ?_) #[true, false, true, false, false, false, false, false, false, false] rfl rfl (by kernel_rfl) (fun _ _ _ h => h) (Or.inl ⟨by rfl, ?_⟩) ?_ ?_
      rotate_left
      · intro w'
        go_simp
        with_reducible rfl
      rotate_left
      · simp only [Act.put, List.setIfInBounds_toArray, List.set_cons_zero, List.set_cons_succ, i64_w, i32_w]
        rfl
      refine pure_ (i := 3) (N := some 59) (v := ?_) (a' := ?_) #[true, false, true, true, false, false, false, false, false, false] rfl rfl (by kernel_rfl) (fun _ _ _ h => h) (Or.inl ⟨by rfl, ?_⟩) ?_ ?_
      rotate_left
      · intro w'
        go_simp
        with_reducible rfl
      rotate_left
      · simp only [Act.put, List.setIfInBounds_toArray, List.set_cons_zero, List.set_cons_succ, i64_w, i32_w]
        rfl
      refine pure_ (i := 4) (N := some 60) (v := ?_) (a' := ?_) #[true, false, true, true, true, false, false, false, false, false] rfl rfl (by kernel_rfl) (fun _ _ _ h => h) (Or.inl ⟨by rfl, ?_⟩) ?_ ?_
      rotate_left
      · intro w'
        go_simp
        with_reducible rfl
      rotate_left
      · simp only [Act.put, List.setIfInBounds_toArray, List.set_cons_zero, List.set_cons_succ, i64_w, i32_w]
        rfl
      have hwr2 : wrap64 (nest + 1) = nest + 1 := HW64.out
      rw [hwr2]
      clear hwr2
      refine take_ (i := 1) (N := some 57) (v := ?_) (a' := ?_) #[true, true, true, true, true, false, false, false, false, false] rfl rfl (by kernel_rfl) (fun _ _ _ h => h) (Or.inl ⟨by rfl, ?_⟩) hHeld ?_ ?_
      rotate_left
      · rintro w' ⟨s0⟩
        go_simp
        with_reducible rfl
      rotate_left
      · simp only [Act.put, List.setIfInBounds_toArray, List.set_cons_zero, List.set_cons_succ, i64_w, i32_w]
        rfl
      refine one_ (i := 5) (N := some 61) #[true, true, true, true, true, true, false, false, false, false] rfl rfl (by kernel_rfl) (by decide) (fun K hK => ?_)
      refine goesP_ Try.func24 (by kernel_rfl) (by kernel_rfl) #[.pointer (some p), .int .i64 (nest + 1)] (by rfl) rfl rfl (by (try simp only [List.map_toArray, List.map_cons, List.map_nil]); first | done | rfl) ?_
      refine (IH.out lj _ HL.out.st.rd hbs).mono ?_
      rintro e w3 he
      cases hf : f lj with
      | none =>
        rw [hf] at he
        refine .inr ⟨_, he.1, ?_⟩
        show bodyPost Try.prog Try.f24 (PV ((rep f x l3).map fun g => (.mk 7 0 0 0 ⟨#[]⟩ g.1, g.2)) p w) (Exit.panic _) _ _
        simp only [bodyPost]
        exact ⟨trivial, lq_none HL.out hlt hf ⟨rfl, he.2⟩⟩
      | some vl =>
      obtain ⟨vn, ln⟩ := vl
      rw [hf] at he
      have hf := Lib.hid hf
      obtain ⟨v0, v1, v2, v3, v4, v5, G1, rfl, hown1, hap1, hso1, hrd1, hwr1⟩ := he
      have hown1R := hown1
      have hown1 := Tr.ownR_own _ _ _ hown1R
      obtain ⟨kd', n', x', y', s', _, a', len', cap', _, hv0⟩ := vcells hown1
      simp only [List.cons.injEq, and_true] at hv0
      obtain ⟨rfl, rfl, rfl, rfl, rfl, rfl⟩ := hv0
      have hst3 := HL.out.st.call hrd1 hwr1
      have hk3 := HL.out.kids.wr hwr1 (fun k hk => by have := HL.out.st.lo; have := HL.out.st.hi; omega)
      have hFl := Tr.ownL_lt _ _ _ HL.out.kids.own
      have hvl := fun g hg => (HL.out.kids.block g hg).2
      have hHeld2 : Box5 B v w3 := ⟨hst3.cell 5⟩
      have hsz3 := hwr1.size
      have HWR1 := Lib.hid hwr1
      have HS3 := Lib.hid (And.intro hst3 (And.intro hk3 (And.intro hFl (And.intro hvl (And.intro hown1 (And.intro hap1 (And.intro hso1 hown1R)))))))
      clear hst3 hk3 hFl hvl hown1R hown1 hap1 hso1 hrd1 hwr1 hHeld
      refine .inl ⟨_, rfl, ?_⟩
      refine hK.out _ _ hHeld2 (fun hHeld => ?_)
      clear hK K hHeld2
      refine norm_ (a' := ?_) ?_ ?_
      rotate_left
      · show Act.put _ (some 61) _ = _
        simp only [Act.put, List.setIfInBounds_toArray, List.set_cons_zero, List.set_cons_succ, i64_w, i32_w]
        rfl
      refine one_ (i := 6) (N := some 62) #[true, true, true, true, true, true, true, false, false, false] rfl rfl (by kernel_rfl) (by decide) (fun K hK => ?_)
      refine value_ (w1 := w3.alloc (.cells [.int .u8 kd', .int .i64 n', .float .f64 x', .float .f64 y', .string s', .slice a' len' cap'].toArray 25)) (v := .slice (some ⟨w3.heap.size, 0, none⟩) 1 1) (by rfl) rfl ?_ ?_
      · go_simp
      refine hK.out _ _ ⟨(cell_new w3 _ _ (by show B < w3.heap.size; omega)).trans hHeld.c5⟩ (fun hHeld => ?_)
      clear hK K
      refine norm_ (a' := ?_) ?_ ?_
      rotate_left
      · show Act.put _ (some 62) _ = _
        simp only [Act.put, List.setIfInBounds_toArray, List.set_cons_zero, List.set_cons_succ, i64_w, i32_w]
        rfl
      refine one_ (i := 7) (N := some 63) #[true, true, true, true, true, true, true, true, false, false] rfl rfl (by kernel_rfl) (by decide) (fun K hK => ?_)
      refine step_push2 (w1 := w3) (by rfl) _ _ _ (by rfl) (B + 1) wd.heap.size 25 i0 _ 6 72 Try.underlying23 hi0 hz0 hz1 hz2 rfl (by omega) _ _ xs G (by rfl) HS3.out.2.1 HS3.out.2.2.1 HS3.out.2.2.2.1 hBw hsz3 vn.tr [.int .u8 kd', .int .i64 n', .float .f64 x', .float .f64 y', .string s', .slice a' len' cap'] G1 HS3.out.2.2.2.2.1 HS3.out.2.2.2.2.2.1 HS3.out.2.2.2.2.2.2.1 (by rfl) (by rw [Va.trs_len]; omega) (by omega) ?_
      intro g3 cap3 w4 hk4 hg4 hbg hlt4
      have hst4 := HS3.out.1.grown hg4 (fun g hg => (HS3.out.2.1.block g hg).1)
      have hHeld2 : Box5 B v w4 := ⟨hst4.cell 5⟩
      have q6 : w4.cell? ⟨B, 5, none⟩ = some v := hst4.cell 5
      have z6 := hst4.frozen 5
      have HS4 := Lib.hid (And.intro hst4 (And.intro hk4 (lq_rows HL.out HWR1.out HS3.out.2.1 HS3.out.2.2.2.2.1 HS3.out.2.2.2.2.2.2.2 HS3.out.2.2.2.2.2.1 hg4)))
      clear hst4 hk4 hg4 hHeld
      refine hK.out _ _ hHeld2 (fun hHeld => ?_)
      clear hK K hHeld2
      refine norm_ (a' := ?_) ?_ ?_
      rotate_left
      · show Act.put _ (some 63) _ = _
        simp only [Act.put, List.setIfInBounds_toArray, List.set_cons_zero, List.set_cons_succ, i64_w, i32_w]
        rfl
      refine pure_ (i := 8) (N := some 64) (v := ?_) (a' := ?_) #[true, true, true, true, true, true, true, true, true, false] rfl rfl (by kernel_rfl) (fun _ _ _ h => h) (Or.inl ⟨by rfl, ?_⟩) ?_ ?_
      rotate_left
      · intro w'
        go_simp
        with_reducible rfl
      rotate_left
      · simp only [Act.put, List.setIfInBounds_toArray, List.set_cons_zero, List.set_cons_succ, i64_w, i32_w]
        rfl
      refine last_ (i := 9) (N := none) #[true, true, true, true, true, true, true, true, true, true] rfl rfl (by kernel_rfl) (by decide) (fun K hK => ?_)
      refine skip_ (w1 := w4.setCell ⟨B, 5, none⟩ (.slice (some ⟨g3, 0, none⟩) ((Va.trs vs).length + 1) cap3)) (by rfl) rfl ?_ ?_
      · go_simp
      refine hK.out _ _ ?_
      clear hK K
      refine done_ (by kernel_rfl) ?_
      go_wp2_with fail
      go_roundw
      case rel =>
        exact ⟨j + 1, vs ++ [vn], ln, _, _, _, by go_num, Lib.hid (HL.out.next hlt hf.out HS4.out.1 HS4.out.2.1 HS4.out.2.2)⟩
      case measure => simp [intOf]; omega
    · have hjx2 : j = x := by omega
      subst hjx2
      have d1 : ¬ (j : Int) < (j : Int) := by omega
      obtain ⟨A, cap2, hv⟩ := HL.out.kids.slice
      rw [Va.trs_len] at hv
      subst hv
      go_wp2_with (first | (refine wpList_load_row (by rfl) 25 _ (by rfl) B (by rfl) 25 _ (0, 0) _ HL.out.st.box Try.underlying25 rfl (by kernel_rfl) ?_) | (refine wpList_store_rowTo (by rfl) 25 _ _ (by rfl) (by rfl) w.heap.size #[.int .u8 7, .int .i64 0, .float .f64 0, .float .f64 0, .string ⟨#[]⟩, .slice A vs.length cap2] (by rfl) (by rfl) 25 zero6 HL.out.st.res (by kernel_rfl) (by kernel_rfl) (all_oneCell_toArray (cs := [.int .u8 7, .int .i64 0, .float .f64 0, .float .f64 0, .string ⟨#[]⟩, .slice A vs.length cap2]) (by simp [Value.oneCell'])) ?_))
      refine bodyPost_ret (v := .agg #[.int .u8 7, .int .i64 0, .float .f64 0, .float .f64 0, .string ⟨#[]⟩, .slice A vs.length cap2]) (results_cell_row rfl _ _ w.heap.size 25 _ (0, 0) _ rfl (setRow_heap _ _ _ _ _ _ HL.out.st.res) Try.underlying25 rfl (by kernel_rfl)) rfl ?_
      exact lq_end HL.out
end Go.Proofs.Ytaglklcjolcgeaa
