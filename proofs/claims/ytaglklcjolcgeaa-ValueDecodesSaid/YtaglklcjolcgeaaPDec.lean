/- The walks of the program's laid, all kinds together, and of Encode. The walk of the reference's Decode. The walk of the program's Decode. -/
import Derived.Test.YtaglklcjolcgeaaLaidL
import Derived.Test.YtaglklcjolcgeaaPVal7
import Derived.Test.YtaglklcjolcgeaaMay
import Derived.Test.YtaglklcjolcgeaaCmpd
namespace Go.Proofs.Ytaglklcjolcgeaa
open Go Go.RowKit
set_option linter.unusedVariables false
set_option linter.unusedSimpArgs false
attribute [local go_sem] run_store_float
theorem enc_kd (kd n : Int) (x y : Nat) (s : ByteArray) (rs : List Va) : 1 ≤ (encV (.mk kd n x y s rs)).length := by unfold encV; simp
theorem encL_app : ∀ (p q : List Va), encL (p ++ q) = encL p ++ encL q
  | [], q => by rw [encL]; rfl
  | r :: p, q => by rw [List.cons_append, encL, encL, encL_app p q, List.append_assoc]
theorem laid_N (N : Nat) : ∀ (r : Va) (_ : r.size ≤ N) (_ : r.all) (_ : r.sm) (_ : r.wf) (lo : Nat) (x : Value) (wx : World) (_ : r.pl wx lo x) (w : World) (a : Option Addr) (m c : Nat) (l : Bs) (_ : Below wx.heap.size wx w) (_ : w.ownsRow 0 5 1 (.slice a m c) l.length (cellsB l))
    (_ : ∀ g, (Value.slice a m c).ownBlock = some g → wx.heap.size ≤ g) (_ : l.length + (encV r).length ≤ 1000000000000), Calls Try.prog 42 #[.slice a m c, x] w (LaidIs (.slice a m c) (l ++ encV r) w) := by
  induction N with
  | zero => intro r hN; have := r.size_pos; omega
  | succ N ih =>
  intro r hN hall hsm hwf lo x wx hp w a m c l hb hr hv hl
  obtain ⟨kd, n, fx, fy, s, rs⟩ := r
  have hp0 := hp
  have hall0 := hall
  have hsm0 := hsm
  have hwf0 := hwf
  unfold Va.all at hall
  unfold Va.sm at hsm
  unfold Va.wf at hwf
  unfold Va.size at hN
  obtain ⟨hok, hall⟩ := hall
  unfold Va.pl at hp
  have hH : ∀ (l2 : Bs) (v' : Value) (W : World), LS w (.slice a m c) l2 v' W → Calls Try.prog 61 #[x] W fun e w' => ∃ n', n' = n ∧ ∃ (x' y' : Nat) (s' : ByteArray) (a' : Option Addr) (len' cap' : Nat), e = .returned (.agg #[.int .u8 kd, .int .i64 n', .float .f64 x', .float .f64 y', .string s', .slice a' len' cap']) ∧ Below W.heap.size W w' := fun l2 v' W h => held_asked hall0 hsm0 hp0 hb hv W h
  have hll : l.length ≤ 1000000000000 := by omega
  rcases hp with ⟨h, rfl⟩ | ⟨rfl, rfl⟩ | ⟨rfl, rfl⟩ | ⟨rfl, rfl⟩ | ⟨rfl, rfl⟩ | ⟨rfl, rfl⟩ | ⟨rfl, b, cap, rfl, h2, h3, h4, h5⟩ | ⟨rfl, b, cap, vs, rfl, h2, h3, h4, h5, h6⟩
  · unfold okB at hok
    by_cases h0 : kd = 0
    · subst h0
      simp only [if_true, decide_eq_true_eq] at hok
      obtain ⟨rfl, rfl, rfl, hs, _⟩ := hok
      have := laid_0 w a m c l hr hll hH
      unfold encV
      simpa using this
    · rw [if_neg h0, if_neg (by omega), if_neg (by omega), if_neg (by omega), if_neg (by omega), if_neg (by omega), if_neg (by omega)] at hok
      cases hok
  · simp only [okB, show ¬ (1 : Int) = 0 by decide, if_false, if_true, decide_eq_true_eq] at hok
    obtain ⟨hn, _⟩ := hok
    unfold encV
    rcases hn with rfl | rfl
    · exact laid_1f w a m c l hr hll hH
    · exact laid_1t w a m c l hr hll hH
  · have := laid_2 w a m c l n hr hll hH
    unfold encV
    simpa using this
  · simp [okB] at hok
    obtain ⟨rfl, _⟩ := hok
    have := laid_3 w a m c l fx hr hll hwf.2.2.2.2.1 hH
    unfold encV
    simpa using this
  · simp [okB] at hok
    obtain ⟨rfl, _⟩ := hok
    have := laid_4 w a m c l fx fy hr hll hwf.2.2.2.2.1 hwf.2.2.2.2.2.1 hH
    unfold encV
    simpa using this
  · simp [okB] at hok
    obtain ⟨rfl, rfl, rfl, hs, _⟩ := hok
    have := laid_5 w a m c l s hr hll hs hH
    unfold encV
    simpa using this
  · simp [okB] at hok
    obtain ⟨rfl, rfl, rfl, hs, _⟩ := hok
    have := laid_6 w a m c l s b cap hr hll hs (fun l2 v' W h => rangeAt_of_block h5 ((h.low hb hv).block b h4)) hH
    unfold encV
    simpa using this
  · simp [okB] at hok
    obtain ⟨rfl, rfl, rfl, hs⟩ := hok
    have hvl := Va.pls_len h6
    have hle : l.length + (3 + (encL rs).length) ≤ 1000000000000 := by
      have e : (encV (.mk 7 0 0 0 s rs)).length = 3 + (encL rs).length := by unfold encV; simp [eb_len]; omega
      omega
    have := laid_7 w a m c l rs vs b cap hr hll hsm.2.1 hvl (fun k hk => by
        have h1 : (encL rs).length = (encL (rs.take (k + 1))).length + (encL (rs.drop (k + 1))).length := by
          rw [← List.length_append, ← encL_app, List.take_append_drop]
        rw [encL_take rs k hk, List.length_append] at h1
        omega)
      (fun l2 v' W h k hk => by
        have := rangeAt_of_block h5 ((h.low hb hv).block b h4) k (vs[k]'(by omega)) (List.getElem?_eq_getElem (by omega))
        simpa using this)
      (fun k hk l2 a' m' c' W h hl2 => ih rs[k] (by have := Va.sizes_at rs k hk; omega) (Va.alls_at rs k hk hall) (Va.sms_at rs k hk hsm.2.2) (Va.wfs_at rs k hk hwf.2.2.2.2.2.2) lo (vs[k]'(by omega)) wx (Va.pls_at rs vs k hk (by omega) h6) W a' m' c' l2 (h.low hb hv) h.at.row (fun g hg => by
        rcases h.own g hg with h1 | h1
        · exact hv g h1
        · have := hb.size; omega) hl2) hH
    unfold encV
    simpa using this
theorem conv_row (W : World) (v : Value) (l : Bs) (h : W.ownsRow 0 5 1 v l.length (cellsB l)) : Sem.run Try.prog (convert 68 9 v) W = .ok (.string ⟨l.toArray⟩) W := by
  rcases h.2 with ⟨rfl, h0⟩ | ⟨g, cap, cur, rfl, _⟩
  · rw [List.eq_nil_of_length_eq_zero h0]
    exact run_convert_bytes_nil (P := Try.prog) W 68 5 Try.underlying68 Try.underlying5 0 0 9 Try.underlying9
  · have hr := own_range h
    exact conv_bytes W g cap ⟨l.toArray⟩ hr
/-- What both Encodes give. -/
def EncsIs (r : Va) (w : World) (e : Ending) (w' : World) : Prop := e = .returned (.tuple #[.string ⟨(rEnc r).toArray⟩, .int .i64 (if r.okV = true then 0 else 20)]) ∧ Below w.heap.size w w'
set_option maxRecDepth 100000 in
set_option maxHeartbeats 2000000 in
theorem Encode_any (r : Va) (c : List Value) (F : List Nat) (w : World) (hr : r.tr.own 6 w c F) (hwf : r.wf) : Calls Try.prog 25 #[.agg c.toArray] w (EncsIs r w) := by
  obtain ⟨v0, v1, v2, v3, v4, v5, rfl⟩ := Va.shape hr
  have HR : Hid (∀ W, Below w.heap.size w W → r.tr.own 6 W [v0, v1, v2, v3, v4, v5] F) := fun W hW => Tr.own_below hr hW
  have HW := Lib.hid hwf
  have HB := Lib.hid (bnew (Below.refl w.heap.size w) (.cells #[v0, v1, v2, v3, v4, v5] 25))
  unfold EncsIs rEnc
  clear hr hwf
  cases ho : r.okV
  · have HO := Lib.hid ho
    go_enter Try.func25, Try.ntmps25
    go_wp2_with (go_at_call 16; (with_reducible refine (Check_any r [v0, v1, v2, v3, v4, v5] F _ (HR.out _ HB.out) HW.out).mono ?_); rintro e w1 ⟨rfl, hb1⟩; rw [HO.out])
    refine bodyPost_ret (results_tmp2 rfl _ _ _) rfl ?_
    exact ⟨rfl, bthen HB.out hb1⟩
  · have HO := Lib.hid ho
    have HA := Lib.hid (okV_alln ho)
    have HS := Lib.hid (Va.ok_size ho)
    have HSM := Lib.hid (Va.ok_sm ho)
    have HAL := Lib.hid (Va.ok_all ho)
    have HEL := Lib.hid (encV_len r 0 (okV_alln ho))
    go_enter Try.func25, Try.ntmps25
    go_wp2_with (go_at_call 16; (with_reducible refine (Check_any r [v0, v1, v2, v3, v4, v5] F _ (HR.out _ HB.out) HW.out).mono ?_); rintro e w1 ⟨rfl, hb1⟩; rw [HO.out]; have HT := Lib.hid (box1_below ⟨box1_all (heap_alloc_new w (.cells #[v0, v1, v2, v3, v4, v5] 25)), by simp⟩ hb1); have HB1 := Lib.hid (bthen HB.out hb1); have q0 := HT.out.1 0; have q1 := HT.out.1 1; have q2 := HT.out.1 2; have q3 := HT.out.1 3; have q4 := HT.out.1 4; have q5 := HT.out.1 5)
    refine (plain_N r.size r (Nat.le_refl _) HSM.out [v0, v1, v2, v3, v4, v5] F _ (HR.out _ HB1.out)).mono ?_
    rintro e w2 ⟨x, rfl, hpl, hb2⟩
    have HP := Lib.hid (And.intro hpl hb2)
    clear hpl hb2 q0 q1 q2 q3 q4 q5
    go_wp2_with fail
    refine (laid_N r.size r (Nat.le_refl _) HAL.out HSM.out HW.out _ x w2 HP.out.1 w2 none 0 0 [] (Below.refl _ _) (World.ownsRow_nil _ _ _ _) (fun g hg => by simp [Value.ownBlock] at hg) (by have := HEL.out; have := HS.out; simp only [List.length_nil]; omega)).mono ?_
    rintro e w3 ⟨v', rfl, hr3, hw3, ho3⟩
    obtain ⟨a3, m3, c3, rfl⟩ := slc_of hr3
    have hcv := conv_row w3 _ _ hr3
    rw [List.nil_append] at hcv
    obtain ⟨z, hz⟩ : ∃ z, z = encV r := ⟨_, rfl⟩
    rw [← hz] at hcv
    have HZ := Lib.hid hz
    clear hz
    have HN := Lib.hid (show Below w.heap.size w w3 from (bthen HB1.out HP.out.2).trans (hw3.below (by have := (bthen HB1.out HP.out.2).size; omega) (fun k hk => by simp [Value.ownBlock] at hk)))
    clear hr3 hw3 ho3
    go_wp2_with fail
    refine bodyPost_ret (results_tmp2 rfl _ _ _) rfl ?_
    rw [← HZ.out]
    exact ⟨rfl, HN.out⟩
end Go.Proofs.Ytaglklcjolcgeaa
namespace Go.Proofs.Ytaglklcjolcgeaa
open Go.RowKit
set_option linter.unusedVariables false
set_option linter.unusedSimpArgs false
attribute [local go_sem] run_store_float
/-- What a Decode gives. -/
def DecIs (d : Va × Int) (w : World) (e : Ending) (w' : World) : Prop :=
  ∃ v0 v1 v2 v3 v4 v5 F, e = .returned (.tuple #[.agg #[v0, v1, v2, v3, v4, v5], .int .i64 d.2]) ∧ d.1.tr.own 6 w' [v0, v1, v2, v3, v4, v5] F ∧ Apart w.heap.size F ∧ Soft w' F ∧ Below w.heap.size w w'
theorem rd_start (w : World) (o : Obj) (s : ByteArray) : RdL ((w.alloc o).alloc (.cells #[.string s, .int .i64 0, .bool false] 44)) (w.heap.size + 1) s (s.data.toList, false) := by
  have h := box_all (two2 w o (.cells #[.string s, .int .i64 0, .bool false] 44))
  refine ⟨0, by omega, rfl, (h 0).trans rfl, (h 1).trans rfl, (h 2).trans rfl, fun j => ?_⟩
  have h2 := two2 w o (.cells #[.string s, .int .i64 0, .bool false] 44)
  simp only [World.frozen?, h2]
  simp
theorem dec_low {w W : World} {cs : Array Value} (h : Below w.heap.size w W) : Below w.heap.size w (W.setRow w.heap.size cs) := h.trans ⟨rfl, rfl, rfl, by simp, fun i hi => setRow_other _ _ _ _ (by omega)⟩
theorem dec_zero {w W : World} (h : Below w.heap.size w W) : DecIs (zeroV, 4) w (.returned (.tuple #[.agg zero6, .int .i64 4])) (W.setRow w.heap.size zero6) := by
  refine ⟨_, _, _, _, _, _, [], rfl, ?_, Apart.nil _, Soft.nil _, dec_low h⟩
  unfold zeroV Va.tr Tr.own
  exact ⟨none, 0, 0, by simp, rfl, by simp [Value.oneCell'], ⟨rfl, Nat.le_refl _⟩, Nat.le_refl _, by omega, .inl ⟨rfl, rfl⟩⟩
theorem dec_some {w W : World} {v : Va} {v0 v1 v2 v3 v4 v5 : Value} {F : List Nat} (h : v.tr.own 6 W [v0, v1, v2, v3, v4, v5] F) (hap : Apart (w.heap.size + 2) F) (hso : Soft W F) (hb : Below w.heap.size w W) :
    DecIs (v, 0) w (.returned (.tuple #[.agg #[v0, v1, v2, v3, v4, v5], .int .i64 0])) (W.setRow w.heap.size #[v0, v1, v2, v3, v4, v5]) := by
  have hs : ∀ i ∈ F, (W.setRow w.heap.size #[v0, v1, v2, v3, v4, v5]).heap[i]? = W.heap[i]? := fun i hi => setRow_other _ _ _ _ (by have := hap.2 i hi; omega)
  exact ⟨_, _, _, _, _, _, F, rfl, Tr.own_same _ _ _ hs h, hap.mono (by omega), hso.same hs, dec_low hb⟩
theorem strof_eq (l : Bs) (s : ByteArray) : (⟨l.toArray⟩ : ByteArray) = s ↔ l = s.data.toList := by
  constructor
  · rintro rfl
    rfl
  · rintro rfl
    rfl
theorem str_ne {a b : ByteArray} (h : ¬ a = b) : (a.toList == b.toList) = false := by
  rw [← Bool.not_eq_true, beq_iff_eq]
  intro e
  rw [ByteArray.toList_eq, ByteArray.toList_eq] at e
  exact h (ByteArray.ext (Array.toList_inj.1 e))
set_option maxRecDepth 100000 in
set_option maxHeartbeats 2000000 in
theorem rDecode_any (s : ByteArray) (w : World) (hs : s.size ≤ 9223372036854775807) :
    Calls Try.prog 10 #[.string s] w (DecIs (refD s.data.toList) w) := by
  have HC := rvalue_N 17 0 (by omega) s (s.data.toList, false) (w.heap.size + 1) _ (by omega) (rd_start w (.cells zero6 25) s) (by simp) hs
  have hwf := refV_wf 17 (s.data.toList, false)
  unfold refD
  obtain ⟨d, hd⟩ : ∃ d, d = refV 17 (s.data.toList, false) := ⟨_, rfl⟩
  rw [← hd] at HC hwf ⊢
  obtain ⟨v, q⟩ := d
  simp only [] at HC hwf ⊢
  have HC := Lib.hid HC
  have HWF := Lib.hid hwf
  clear hd hwf
  have HB0 := Lib.hid (bb2 w (.cells zero6 25) (.cells #[.string s, .int .i64 0, .bool false] 44))
  have HZ := Lib.hid (two1 w (.cells zero6 25) (.cells #[.string s, .int .i64 0, .bool false] 44))
  have HSZ := Lib.hid (show ((w.alloc (.cells zero6 25)).alloc (.cells #[.string s, .int .i64 0, .bool false] 44)).heap.size = w.heap.size + 2 by simp)
  go_enter Try.func10, Try.ntmps10
  go_wp2_with fail
  refine HC.out.mono ?_
  rintro e w1 ⟨v0, v1, v2, v3, v4, v5, F, rfl, hown, hap, hso, hrd, hwr⟩
  obtain ⟨kd', n', x', y', s', _, a', len', cap', _, hv0⟩ := vcells hown
  simp only [List.cons.injEq, and_true] at hv0
  obtain ⟨rfl, rfl, rfl, rfl, rfl, rfl⟩ := hv0
  have hB1 := HB0.out.trans (hwr.below (B := w.heap.size) (by rw [HSZ.out]; omega) (fun k hk => by omega))
  have hZ1 := (hwr.block w.heap.size (by rw [HSZ.out]; omega) (by show ¬ _ = _; omega)).trans HZ.out
  have hs1 : w.heap.size < w1.heap.size := (Array.getElem?_eq_some_iff.1 hZ1).1
  rw [HSZ.out] at hap
  have hA := bnew (Below.refl w1.heap.size w1) (.cells #[.int .u8 kd', .int .i64 n', .float .f64 x', .float .f64 y', .string s', .slice a' len' cap'] 25)
  have HN := Lib.hid (And.intro (Tr.own_below hown hA) (And.intro hap (And.intro (hso.same fun i hi => hA.block i (Tr.own_lt _ _ _ hown i hi)) (And.intro (bnew hB1 (.cells #[.int .u8 kd', .int .i64 n', .float .f64 x', .float .f64 y', .string s', .slice a' len' cap'] 25)) ((hA.block _ hs1).trans hZ1)))))
  have HX := Lib.hid (heap_alloc_new w1 (.cells #[.int .u8 kd', .int .i64 n', .float .f64 x', .float .f64 y', .string s', .slice a' len' cap'] 25))
  clear hown hap hso hrd hwr hB1 hZ1 hA HC
  go_wp2_with fail
  refine (rEncode_any v _ F _ HN.out.1 HWF.out).mono ?_
  rintro e w2 ⟨rfl, hb2⟩
  have hlt := Tr.own_lt _ _ _ HN.out.1
  have HM := Lib.hid (And.intro (Tr.own_below HN.out.1 hb2) (And.intro HN.out.2.1 (And.intro (HN.out.2.2.1.same fun i hi => hb2.block i (hlt i hi)) (And.intro (bthen HN.out.2.2.2.1 hb2) (And.intro ((hb2.block _ (by simp; omega)).trans HN.out.2.2.2.2) ((hb2.block w1.heap.size (by simp)).trans HX.out))))))
  clear hb2 hlt HN HX HB0 HZ HSZ HWF hs1
  obtain ⟨str, hstr⟩ : ∃ str, str = (⟨(rEnc v).toArray⟩ : ByteArray) := ⟨_, rfl⟩
  rw [← hstr]
  cases ho : v.okV with
  | false =>
    have HK := Lib.hid (show kept v s.data.toList = (zeroV, 4) by unfold kept; simp [ho])
    simp only [Bool.false_eq_true, if_false]
    go_wp2_with (refine wpList_store_rowTo (by rfl) 25 _ _ (by rfl) (by rfl) w.heap.size zero6 (by rfl) (by rfl) 25 zero6 HM.out.2.2.2.2.1 (by kernel_rfl) (by kernel_rfl) (by kernel_rfl) ?_)
    refine bodyPost_ret (v := .tuple #[.agg zero6, .int .i64 4]) (results_cell_tmp rfl _ _ w.heap.size 25 _ (0, 0) _ _ rfl rfl (setRow_heap _ _ _ _ _ _ HM.out.2.2.2.2.1) Try.underlying25 rfl (by kernel_rfl)) rfl ?_
    rw [HK.out]; exact dec_zero HM.out.2.2.2.1
  | true =>
    have hre : rEnc v = encV v := by unfold rEnc; rw [if_pos ho]
    rw [hre] at hstr
    simp only [if_true]
    by_cases he : encV v = s.data.toList
    · have HK := Lib.hid (show kept v s.data.toList = (v, 0) by unfold kept; simp [ho, he])
      obtain rfl : str = s := hstr.trans ((strof_eq _ _).2 he)
      clear he hstr hre
      go_wp2_with (first | (refine wpList_load_row (by rfl) 25 _ (by rfl) w1.heap.size (by rfl) 25 _ (0, 0) _ HM.out.2.2.2.2.2 Try.underlying25 rfl (by kernel_rfl) ?_) | (refine wpList_store_rowTo (by rfl) 25 _ _ (by rfl) (by rfl) w.heap.size #[.int .u8 kd', .int .i64 n', .float .f64 x', .float .f64 y', .string s', .slice a' len' cap'] (by rfl) (by rfl) 25 zero6 HM.out.2.2.2.2.1 (by kernel_rfl) (by kernel_rfl) (all_oneCell_toArray (cs := [.int .u8 kd', .int .i64 n', .float .f64 x', .float .f64 y', .string s', .slice a' len' cap']) (by simp [Value.oneCell'])) ?_))
      refine bodyPost_ret (v := .tuple #[.agg #[.int .u8 kd', .int .i64 n', .float .f64 x', .float .f64 y', .string s', .slice a' len' cap'], .int .i64 0]) (results_cell_tmp rfl _ _ w.heap.size 25 _ (0, 0) _ _ rfl rfl (setRow_heap _ _ _ _ _ _ HM.out.2.2.2.2.1) Try.underlying25 rfl (by kernel_rfl)) rfl ?_
      rw [HK.out]; exact dec_some HM.out.1 HM.out.2.1 HM.out.2.2.1 HM.out.2.2.2.1
    · have HK := Lib.hid (show kept v s.data.toList = (zeroV, 4) by unfold kept; simp [ho, he])
      have hne : (str.toList == s.toList) = false := str_ne fun e => he ((strof_eq _ _).1 (hstr.symm.trans e))
      clear hstr he hre
      go_wp2_with (refine wpList_store_rowTo (by rfl) 25 _ _ (by rfl) (by rfl) w.heap.size zero6 (by rfl) (by rfl) 25 zero6 HM.out.2.2.2.2.1 (by kernel_rfl) (by kernel_rfl) (by kernel_rfl) ?_)
      refine bodyPost_ret (v := .tuple #[.agg zero6, .int .i64 4]) (results_cell_tmp rfl _ _ w.heap.size 25 _ (0, 0) _ _ rfl rfl (setRow_heap _ _ _ _ _ _ HM.out.2.2.2.2.1) Try.underlying25 rfl (by kernel_rfl)) rfl ?_
      rw [HK.out]; exact dec_zero HM.out.2.2.2.1
end Go.Proofs.Ytaglklcjolcgeaa
namespace Go.Proofs.Ytaglklcjolcgeaa
open Go Go.RowKit
set_option linter.unusedVariables false
set_option linter.unusedSimpArgs false
attribute [local go_sem] run_store_float
theorem ta_short (w : World) : Sem.run Try.prog (Instr.typeAssert (.iface 48 (.agg #[])) 20 48 true) w = .ok (.tuple #[.agg #[], .bool true]) w := by kernel_rfl
theorem dcatch_idle (p q : Addr) (w : World) :
    CallsD Try.prog 23 #[.pointer (some p), .pointer (some q)] .returning w fun e u' w' => e = .returned (.tuple #[]) ∧ u' = .returning ∧ w' = w := by
  refine callsD_of_wpS Try.func23 rfl fun c₀ cs hu => ?_
  apply wpS_seq
  apply wpS_region
  simp [wpOpsS, go_sem, recoverD, hu, Try.ntmps23, Exit.thenS]
  refine wpS_of_wp ?_
  show Code.wp _ _ _ { tmps := #[.pointer (some p), .pointer (some q), undef, undef, undef, .nilIface, undef, undef, undef, undef, undef, undef], defers := [] } w
  go_wp2_with fail
  cases c₀
  simp_all [bodyPostS, results, Try.results23]
set_option maxRecDepth 100000 in
set_option maxHeartbeats 2000000 in
theorem dcatch_short (b c : Nat) (older : List PanicEntry) (w : World) (hp : w.heap[b]? = some (.cells zero6 25 (0, 0))) (hc : w.heap[c]? = some (.cells #[.int .i64 0] 30 (0, 0))) (hbc : c ≠ b) :
    CallsD Try.prog 23 #[.pointer (some ⟨b, 0, none⟩), .pointer (some ⟨c, 0, none⟩)] (.panicking ({ v := .iface 48 (.agg #[]), recovered := false } :: older)) w fun e u' w' =>
      e = .returned (.tuple #[]) ∧ u' = .panicking ({ v := .iface 48 (.agg #[]), recovered := true } :: older) ∧ w' = ((w.alloc (.cells #[] 48)).setRow b zero6).setCell ⟨c, 0, none⟩ (.int .i64 4) := by
  have hts := ta_short
  have hbl : b < w.heap.size := (Array.getElem?_eq_some_iff.1 hp).1
  have hcl : c < w.heap.size := (Array.getElem?_eq_some_iff.1 hc).1
  have HP := Lib.hid ((Below.heap_alloc w (.cells #[] 48) b hbl).trans hp)
  have hc2 : ((w.alloc (.cells #[] 48)).setRow b zero6).heap[c]? = some (.cells #[.int .i64 0] 30 (0, 0)) := (setRow_other _ _ _ _ hbc).trans ((Below.heap_alloc w (.cells #[] 48) c hcl).trans hc)
  have q1 : ((w.alloc (.cells #[] 48)).setRow b zero6).cell? ⟨c, 0, none⟩ = some (.int .i64 0) := (box_all hc2 0).trans rfl
  have z1 : ((w.alloc (.cells #[] 48)).setRow b zero6).frozen? ⟨c, 0, none⟩ = false := by simp [World.frozen?, hc2]
  clear hp hc hc2
  refine callsD_of_wpS Try.func23 rfl fun c₀ cs hu => ?_
  apply wpS_seq
  apply wpS_region
  simp [wpOpsS, go_sem, recoverD, hu, Try.ntmps23, Exit.thenS]
  refine wpS_of_wp ?_
  show Code.wp _ _ _ { tmps := #[.pointer (some ⟨b, 0, none⟩), .pointer (some ⟨c, 0, none⟩), undef, undef, undef, .iface 48 (.agg #[]), undef, undef, undef, undef, undef, undef], defers := [] } w
  go_wp2_with (refine wpList_store_rowTo (by rfl) 25 _ _ (by rfl) (by rfl) b zero6 (by rfl) (by rfl) 25 zero6 HP.out (by kernel_rfl) (by kernel_rfl) (by kernel_rfl) ?_)
  clear hts q1 z1 HP
  simp_all [bodyPostS, results, Try.results23]
/-- What the program's Decode gives, its rows with their room. -/
def DecRs (d : Va × Int) (w : World) (e : Ending) (w' : World) : Prop :=
  ∃ v0 v1 v2 v3 v4 v5 F, e = .returned (.tuple #[.agg #[v0, v1, v2, v3, v4, v5], .int .i64 d.2]) ∧ d.1.tr.ownR w' [v0, v1, v2, v3, v4, v5] F ∧ Apart w.heap.size F ∧ Soft w' F ∧ Below w.heap.size w w'
/-- Results in two cells: a row, and a number. -/
theorem results_cells {fn : Func} {p q : Tmp} (h : fn.results = #[.cell p 25, .cell q 30]) (tmps : Array Value) (w : World) (b c : Nat) (cs : Array Value) (n : Int)
    (hp : tmps.getD p undef = .pointer (some ⟨b, 0, none⟩)) (hq : tmps.getD q undef = .pointer (some ⟨c, 0, none⟩)) (hb : w.heap[b]? = some (.cells cs 25 (0, 0))) (hc : w.cell? ⟨c, 0, none⟩ = some (.int .i64 n)) (hs : cs.size = 6) :
    (results fn tmps).run Try.prog w = .ok (.tuple #[.agg cs, .int .i64 n]) w := by
  have hp' : tmps[p]?.getD undef = .pointer (some ⟨b, 0, none⟩) := by simpa using hp
  have hq' : tmps[q]?.getD undef = .pointer (some ⟨c, 0, none⟩) := by simpa using hq
  have hi : (Try.prog.info? 25).map (·.size) = some cs.size := by rw [hs]; kernel_rfl
  have h1 := run_loadVar_row (P := Try.prog) w b 25 25 cs (0, 0) _ hb Try.underlying25 rfl hi
  have h2 : (loadVar 30 ⟨c, 0, none⟩).run Try.prog w = .ok (.int .i64 n) w := by simp [go_sem, hc]
  simp [results, h, hp', hq', asAddr, h1, h2]
/-- Where Decode stands: the results' cells, the source. -/
structure DS (w : World) (s : ByteArray) (W : World) : Prop where
  res : W.heap[w.heap.size]? = some (.cells zero6 25 (0, 0))
  err : W.heap[w.heap.size + 1]? = some (.cells #[.int .i64 0] 30 (0, 0))
  low : Below w.heap.size w W
  sz : w.heap.size + 1 + 1 < W.heap.size
theorem ds_start (w : World) (s : ByteArray) : DS w s (((w.alloc (.cells zero6 25)).alloc (.cells #[.int .i64 0] 30)).alloc (.cells #[.string s] 50)) ∧ (s.size ≤ 9223372036854775807 → RdP (((w.alloc (.cells zero6 25)).alloc (.cells #[.int .i64 0] 30)).alloc (.cells #[.string s] 50)) ⟨w.heap.size + 1 + 1, 0, none⟩ s.data.toList) := by
  have h3 := heap_alloc_top w (.cells zero6 25) (.cells #[.int .i64 0] 30) (.cells #[.string s] 50)
  refine ⟨⟨?_, heap_alloc_mid w _ _ _, bnew (bb2 w _ _) _, by simp⟩, fun hs => ⟨(box_all h3 0).trans rfl, by simp only [World.frozen?, h3]; simp, by simpa using hs⟩⟩
  rw [heap_alloc_old _ _ (by simp; omega)]
  exact two1 w _ _
theorem DS.call {w : World} {s : ByteArray} {W W2 : World} (h : DS w s W) (hw : Wr (fun j => j = w.heap.size + 1 + 1) W W2) : DS w s W2 := by
  have hs := h.sz
  exact ⟨(hw.block _ (by omega) (by show ¬ _ = _; omega)).trans h.res, (hw.block _ (by omega) (by show ¬ _ = _; omega)).trans h.err, h.low.trans (hw.below (by omega) fun k hk => by omega), Nat.lt_of_lt_of_le hs hw.size⟩
/-- The end: what the results' cells hold. -/
theorem DS.fin {w : World} {s : ByteArray} {W : World} (h : DS w s W) (cs : Array Value) (o : Obj) (n : Int) :
    ((((W.alloc o).setRow w.heap.size cs).setCell ⟨w.heap.size + 1, 0, none⟩ (.int .i64 n)).heap[w.heap.size]? = some (.cells cs 25 (0, 0))) ∧ (((W.alloc o).setRow w.heap.size cs).setCell ⟨w.heap.size + 1, 0, none⟩ (.int .i64 n)).cell? ⟨w.heap.size + 1, 0, none⟩ = some (.int .i64 n) ∧ Below w.heap.size w (((W.alloc o).setRow w.heap.size cs).setCell ⟨w.heap.size + 1, 0, none⟩ (.int .i64 n)) := by
  have hs := h.sz
  have h1 : (W.alloc o).heap[w.heap.size]? = some (.cells zero6 25 (0, 0)) := (Below.heap_alloc W o _ (by omega)).trans h.res
  have h2 : ((W.alloc o).setRow w.heap.size cs).heap[w.heap.size + 1]? = some (.cells #[.int .i64 0] 30 (0, 0)) := (setRow_other _ _ _ _ (by omega)).trans ((Below.heap_alloc W o _ (by omega)).trans h.err)
  refine ⟨(Below.heap_setCell _ _ _ _ (by show w.heap.size ≠ w.heap.size + 1; omega)).trans (setRow_heap _ _ _ _ _ _ h1), World.cell?_setCell_same _ _ _ (by rw [box_all h2 0]; rfl), ?_⟩
  exact (dec_low (bnew h.low o)).setCell (p := ⟨w.heap.size + 1, 0, none⟩) (by show w.heap.size ≤ w.heap.size + 1; omega) _
set_option maxRecDepth 100000 in
set_option maxHeartbeats 2000000 in
theorem Decode_none (s : ByteArray) (w : World) (hs : s.size ≤ 9223372036854775807) (hn : progV 16 s.data.toList = none) : Calls Try.prog 11 #[.string s] w (DecRs (zeroV, 4) w) := by
  have hmf : ∀ (fn : Fn) (first cap : Array Value) (w : World), (Instr.makeFunc fn first cap).run Try.prog w = .ok (.func fn first cap) w := fun _ _ _ _ => rfl
  have hS := ds_start w s
  have HB := bytes_N 16 0 (by omega) s.data.toList ⟨w.heap.size + 1 + 1, 0, none⟩ _ (by omega) (hS.2 hs) (by simp)
  rw [hn] at HB
  have HB := Lib.hid HB
  have HS := Lib.hid hS.1
  clear hn hS
  go_enter_defers Try.func11, Try.ntmps11
  go_wp2_with fail
  refine HB.out.mono ?_
  rintro e w1 ⟨rfl, hw1⟩
  have HS1 := Lib.hid (HS.out.call hw1)
  clear hw1 HB HS
  simp only [bodyPostD]
  refine leaves_cons (f := 23) (args := #[.pointer (some ⟨w.heap.size, 0, none⟩), .pointer (some ⟨w.heap.size + 1, 0, none⟩)]) (by simp) (by simp [go_sem]) ?_
  refine (dcatch_short w.heap.size (w.heap.size + 1) [] w1 HS1.out.res HS1.out.err (by omega)).mono ?_
  rintro e u' w'' ⟨rfl, rfl, rfl⟩
  obtain ⟨h1, h2, h3⟩ := HS1.out.fin zero6 (.cells #[] 48) 4
  refine ⟨_, results_cells rfl _ _ w.heap.size (w.heap.size + 1) zero6 4 rfl rfl h1 h2 rfl, ?_⟩
  exact ⟨_, _, _, _, _, _, [], rfl, leafR, Apart.nil _, Soft.nil _, h3⟩
/-- The same, the value stored. -/
structure DR (w : World) (cs : Array Value) (W : World) : Prop where
  res : W.heap[w.heap.size]? = some (.cells cs 25 (0, 0))
  err : W.heap[w.heap.size + 1]? = some (.cells #[.int .i64 0] 30 (0, 0))
  low : Below w.heap.size w W
  sz : w.heap.size + 1 + 1 ≤ W.heap.size
theorem DS.row {w : World} {s : ByteArray} {W : World} (h : DS w s W) (cs : Array Value) : DR w cs (W.setRow w.heap.size cs) := by
  have hs := h.sz
  exact ⟨setRow_heap _ _ _ _ _ _ h.res, (setRow_other _ _ _ _ (by omega)).trans h.err, dec_low h.low, by simp; omega⟩
theorem DR.below {w : World} {cs : Array Value} {W W2 : World} (h : DR w cs W) (hb : Below W.heap.size W W2) : DR w cs W2 := by
  have hs := h.sz
  exact ⟨(hb.block _ (by omega)).trans h.res, (hb.block _ (by omega)).trans h.err, h.low.trans (hb.mono (by omega)), Nat.le_trans hs hb.size⟩
theorem DR.cell {w : World} {cs : Array Value} {W : World} (h : DR w cs W) (c2 : Array Value) : (W.setRow w.heap.size c2).cell? ⟨w.heap.size + 1, 0, none⟩ = some (.int .i64 0) ∧ (W.setRow w.heap.size c2).frozen? ⟨w.heap.size + 1, 0, none⟩ = false := by
  have h2 : (W.setRow w.heap.size c2).heap[w.heap.size + 1]? = some (.cells #[.int .i64 0] 30 (0, 0)) := (setRow_other _ _ _ _ (by omega)).trans h.err
  refine ⟨(box_all h2 0).trans rfl, ?_⟩
  simp only [World.frozen?, h2]
  simp
theorem DR.fin {w : World} {cs : Array Value} {W : World} (h : DR w cs W) (c2 : Array Value) (n : Int) :
    ((W.setRow w.heap.size c2).setCell ⟨w.heap.size + 1, 0, none⟩ (.int .i64 n)).heap[w.heap.size]? = some (.cells c2 25 (0, 0)) ∧ ((W.setRow w.heap.size c2).setCell ⟨w.heap.size + 1, 0, none⟩ (.int .i64 n)).cell? ⟨w.heap.size + 1, 0, none⟩ = some (.int .i64 n) ∧ Below w.heap.size w ((W.setRow w.heap.size c2).setCell ⟨w.heap.size + 1, 0, none⟩ (.int .i64 n)) :=
  ⟨(Below.heap_setCell _ _ _ _ (by show w.heap.size ≠ w.heap.size + 1; omega)).trans (setRow_heap _ _ _ _ _ _ h.res), World.cell?_setCell_same _ _ _ (by rw [(h.cell c2).1]), (dec_low h.low).setCell (p := ⟨w.heap.size + 1, 0, none⟩) (by show w.heap.size ≤ w.heap.size + 1; omega) _⟩
set_option maxRecDepth 100000 in
set_option maxHeartbeats 2000000 in
theorem Decode_some (s : ByteArray) (w : World) (hs : s.size ≤ 9223372036854775807) (v : Va) (l2 : Bs) (hn : progV 16 s.data.toList = some (v, l2)) : Calls Try.prog 11 #[.string s] w (DecRs (kept v s.data.toList) w) := by
  have hmf : ∀ (fn : Fn) (first cap : Array Value) (w : World), (Instr.makeFunc fn first cap).run Try.prog w = .ok (.func fn first cap) w := fun _ _ _ _ => rfl
  have hS := ds_start w s
  have HWF := Lib.hid (progV_wf hn)
  have HB := bytes_N 16 0 (by omega) s.data.toList ⟨w.heap.size + 1 + 1, 0, none⟩ _ (by omega) (hS.2 hs) (by simp)
  rw [hn] at HB
  have HB := Lib.hid HB
  have HS := Lib.hid hS.1
  clear hn hS
  go_enter_defers Try.func11, Try.ntmps11
  go_wp2_with fail
  refine HB.out.mono ?_
  rintro e w1 ⟨v0, v1, v2, v3, v4, v5, F, rfl, hownR, hap, hso, hrd, hwr⟩
  have hown := Tr.ownR_own _ _ _ hownR
  obtain ⟨kd', n', x', y', s', _, a', len', cap', _, hv0⟩ := vcells hown
  simp only [List.cons.injEq, and_true] at hv0
  obtain ⟨rfl, rfl, rfl, rfl, rfl, rfl⟩ := hv0
  have hS1 := HS.out.call hwr
  have hFs : ∀ i ∈ F, (w1.setRow w.heap.size #[.int .u8 kd', .int .i64 n', .float .f64 x', .float .f64 y', .string s', .slice a' len' cap']).heap[i]? = w1.heap[i]? := fun i hi => setRow_other _ _ _ _ (by have := hap.2 i hi; simp at this; omega)
  have HS1 := Lib.hid hS1.res
  have hown2 := Tr.ownR_same _ _ _ hFs hownR
  have HR := Lib.hid (hS1.row #[.int .u8 kd', .int .i64 n', .float .f64 x', .float .f64 y', .string s', .slice a' len' cap'])
  have HN := Lib.hid (And.intro hown2 (And.intro (show Apart (w.heap.size + 2) F from hap.mono (by simp)) (hso.same hFs)))
  clear hown hownR hap hso hrd hwr hFs hS1 HB HS hown2
  go_wp2_with (first | (refine wpList_store_rowTo (by rfl) 25 _ _ (by rfl) (by rfl) w.heap.size #[.int .u8 kd', .int .i64 n', .float .f64 x', .float .f64 y', .string s', .slice a' len' cap'] (by rfl) (by rfl) 25 zero6 HS1.out (by kernel_rfl) (by kernel_rfl) (all_oneCell_toArray (cs := [.int .u8 kd', .int .i64 n', .float .f64 x', .float .f64 y', .string s', .slice a' len' cap']) (by simp [Value.oneCell'])) ?_; generalize hW : World.setRow w1 _ _ = W1 at HN HR ⊢; clear hW) | (refine wpList_load_row (by rfl) 25 _ (by rfl) w.heap.size (by rfl) 25 _ (0, 0) _ HR.out.res Try.underlying25 rfl (by kernel_rfl) ?_))
  refine (Encode_any v _ F _ (Tr.ownR_own _ _ _ HN.out.1) HWF.out).mono ?_
  rintro e w2 ⟨rfl, hb2⟩
  have hlt := Tr.ownR_lt _ _ _ HN.out.1
  have HR2 := Lib.hid (HR.out.below hb2)
  have HM := Lib.hid (And.intro (Tr.ownR_below HN.out.1 hb2) (And.intro HN.out.2.1 (HN.out.2.2.same fun i hi => hb2.block i (hlt i hi))))
  clear hb2 hlt HN HR HS1 HWF
  obtain ⟨str, hstr⟩ : ∃ str, str = (⟨(rEnc v).toArray⟩ : ByteArray) := ⟨_, rfl⟩
  rw [← hstr]
  cases ho : v.okV with
  | false =>
    have HK := Lib.hid (show kept v s.data.toList = (zeroV, 4) by unfold kept; simp [ho])
    clear hstr ho
    simp only [Bool.false_eq_true, if_false]
    have hc := HR2.out.cell zero6
    have q1 := hc.1
    have z1 := hc.2
    clear hc
    go_wp2_with (refine wpList_store_rowTo (by rfl) 25 _ _ (by rfl) (by rfl) w.heap.size zero6 (by rfl) (by rfl) 25 _ HR2.out.res (by kernel_rfl) (by kernel_rfl) (by kernel_rfl) ?_)
    simp only [bodyPostD]
    refine leaves_cons (f := 23) (args := #[.pointer (some ⟨w.heap.size, 0, none⟩), .pointer (some ⟨w.heap.size + 1, 0, none⟩)]) (by simp) (by simp [go_sem]) ?_
    refine (dcatch_idle ⟨w.heap.size, 0, none⟩ ⟨w.heap.size + 1, 0, none⟩ _).mono ?_
    rintro e u' w'' ⟨rfl, rfl, rfl⟩
    obtain ⟨h1, h2, h3⟩ := HR2.out.fin zero6 4
    refine ⟨_, results_cells rfl _ _ w.heap.size (w.heap.size + 1) zero6 4 rfl rfl h1 h2 rfl, ?_⟩
    rw [HK.out]
    exact ⟨_, _, _, _, _, _, [], rfl, leafR, Apart.nil _, Soft.nil _, h3⟩
  | true =>
    have hre : rEnc v = encV v := by unfold rEnc; rw [if_pos ho]
    rw [hre] at hstr
    simp only [if_true]
    by_cases he : encV v = s.data.toList
    · have HK := Lib.hid (show kept v s.data.toList = (v, 0) by unfold kept; simp [ho, he])
      obtain rfl : str = s := hstr.trans ((strof_eq _ _).2 he)
      clear he hstr hre ho
      have hc := HR2.out.cell #[.int .u8 kd', .int .i64 n', .float .f64 x', .float .f64 y', .string s', .slice a' len' cap']
      have q1 := hc.1
      have z1 := hc.2
      clear hc
      go_wp2_with (first | (refine wpList_load_row (by rfl) 25 _ (by rfl) w.heap.size (by rfl) 25 _ (0, 0) _ HR2.out.res Try.underlying25 rfl (by kernel_rfl) ?_) | (refine wpList_store_rowTo (by rfl) 25 _ _ (by rfl) (by rfl) w.heap.size #[.int .u8 kd', .int .i64 n', .float .f64 x', .float .f64 y', .string s', .slice a' len' cap'] (by rfl) (by rfl) 25 _ HR2.out.res (by kernel_rfl) (by kernel_rfl) (all_oneCell_toArray (cs := [.int .u8 kd', .int .i64 n', .float .f64 x', .float .f64 y', .string s', .slice a' len' cap']) (by simp [Value.oneCell'])) ?_))
      simp only [bodyPostD]
      refine leaves_cons (f := 23) (args := #[.pointer (some ⟨w.heap.size, 0, none⟩), .pointer (some ⟨w.heap.size + 1, 0, none⟩)]) (by simp) (by simp [go_sem]) ?_
      refine (dcatch_idle ⟨w.heap.size, 0, none⟩ ⟨w.heap.size + 1, 0, none⟩ _).mono ?_
      rintro e u' w'' ⟨rfl, rfl, rfl⟩
      obtain ⟨h1, h2, h3⟩ := HR2.out.fin #[.int .u8 kd', .int .i64 n', .float .f64 x', .float .f64 y', .string s', .slice a' len' cap'] 0
      refine ⟨_, results_cells rfl _ _ w.heap.size (w.heap.size + 1) #[.int .u8 kd', .int .i64 n', .float .f64 x', .float .f64 y', .string s', .slice a' len' cap'] 0 rfl rfl h1 h2 rfl, ?_⟩
      rw [HK.out]
      have hs : ∀ i ∈ F, ((w2.setRow w.heap.size #[.int .u8 kd', .int .i64 n', .float .f64 x', .float .f64 y', .string s', .slice a' len' cap']).setCell ⟨w.heap.size + 1, 0, none⟩ (.int .i64 0)).heap[i]? = w2.heap[i]? := fun i hi => by
        have := HM.out.2.1.2 i hi
        exact (Below.heap_setCell _ _ _ _ (by show i ≠ w.heap.size + 1; omega)).trans (setRow_other _ _ _ _ (by omega))
      exact ⟨_, _, _, _, _, _, F, rfl, Tr.ownR_same _ _ _ hs HM.out.1, HM.out.2.1.mono (by omega), HM.out.2.2.same hs, h3⟩
    · have HK := Lib.hid (show kept v s.data.toList = (zeroV, 4) by unfold kept; simp [ho, he])
      have hne : (str.toList == s.toList) = false := str_ne fun e => he ((strof_eq _ _).1 (hstr.symm.trans e))
      clear hstr he hre ho
      have hc := HR2.out.cell zero6
      have q1 := hc.1
      have z1 := hc.2
      clear hc
      go_wp2_with (refine wpList_store_rowTo (by rfl) 25 _ _ (by rfl) (by rfl) w.heap.size zero6 (by rfl) (by rfl) 25 _ HR2.out.res (by kernel_rfl) (by kernel_rfl) (by kernel_rfl) ?_)
      simp only [bodyPostD]
      refine leaves_cons (f := 23) (args := #[.pointer (some ⟨w.heap.size, 0, none⟩), .pointer (some ⟨w.heap.size + 1, 0, none⟩)]) (by simp) (by simp [go_sem]) ?_
      refine (dcatch_idle ⟨w.heap.size, 0, none⟩ ⟨w.heap.size + 1, 0, none⟩ _).mono ?_
      rintro e u' w'' ⟨rfl, rfl, rfl⟩
      obtain ⟨h1, h2, h3⟩ := HR2.out.fin zero6 4
      refine ⟨_, results_cells rfl _ _ w.heap.size (w.heap.size + 1) zero6 4 rfl rfl h1 h2 rfl, ?_⟩
      rw [HK.out]
      exact ⟨_, _, _, _, _, _, [], rfl, leafR, Apart.nil _, Soft.nil _, h3⟩
theorem Decode_any (s : ByteArray) (w : World) (hs : s.size ≤ 9223372036854775807) : Calls Try.prog 11 #[.string s] w (DecRs (progD s.data.toList) w) := by
  unfold progD
  cases hn : progV 16 s.data.toList with
  | none => exact Decode_none s w hs hn
  | some h =>
    obtain ⟨v, l2⟩ := h
    exact Decode_some s w hs v l2 hn
end Go.Proofs.Ytaglklcjolcgeaa
