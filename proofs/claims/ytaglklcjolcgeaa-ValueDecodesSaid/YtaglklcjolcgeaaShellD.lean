/- The walk of 'ValueDecodes'. THE ROW OF 'erratalaw02.ValueDecodes', PROVED: whatever bytes come in, the call returns true. No condition. -/
import Derived.Test.YtaglklcjolcgeaaApartW
import Derived.Test.YtaglklcjolcgeaaPDec
import Derived.Test.YtaglklcjolcgeaaRows
import Derived.WalkKit
import Derived.ProofKit
import Derived.OpenShut
import Derived.ShutString
import Derived.ChangeOld
import Derived.ChangeMaps5
import Derived.Below
namespace Go.Proofs.Ytaglklcjolcgeaa
open Go Go.RowKit
set_option linter.unusedVariables false
set_option linter.unusedSimpArgs false
attribute [local go_sem] run_store_float
theorem zero_ok : zeroV.okV = true := by
  unfold zeroV Va.okV Va.cnt Va.cnts
  simp [okB]
  rw [if_pos (show (⟨#[]⟩ : ByteArray) = ByteArray.empty from rfl)]
  omega
theorem kept_ok (v : Va) (l : Bs) : (kept v l).1.okV = true := by
  unfold kept
  split
  · rename_i h; exact h.1
  · exact zero_ok
theorem kept_wf (v : Va) (l : Bs) (h : v.wf) : (kept v l).1.wf := by
  unfold kept
  split
  · exact h
  · unfold zeroV Va.wf Va.wfs
    exact ⟨by omega, by omega, by omega, by omega, by omega, by omega, trivial⟩
/-- The law's three answers, each in a box. -/
structure L3 (w : World) (r : Va) (B3 B1 B2 : Nat) (c3 c1 c2 : List Value) (F3 F1 F2 : List Nat) (W : World) : Prop where
  want : r.tr.own 6 W c3 F3
  one : r.tr.ownR W c1 F1
  two : r.tr.own 6 W c2 F2
  b3 : W.heap[B3]? = some (.cells c3.toArray 25 (0, 0))
  b1 : W.heap[B1]? = some (.cells c1.toArray 25 (0, 0))
  b2 : W.heap[B2]? = some (.cells c2.toArray 25 (0, 0))
  low : Below w.heap.size w W
  nd : F1.Nodup
  so : Soft W F1
  far : ∀ i ∈ F1, w.heap.size ≤ i ∧ i ∉ F2 ∧ i ∉ F3
theorem L3.below {w : World} {r : Va} {B3 B1 B2 : Nat} {c3 c1 c2 : List Value} {F3 F1 F2 : List Nat} {W W2 : World} (h : L3 w r B3 B1 B2 c3 c1 c2 F3 F1 F2 W) (hb : Below W.heap.size W W2) : L3 w r B3 B1 B2 c3 c1 c2 F3 F1 F2 W2 := by
  have k3 := (Array.getElem?_eq_some_iff.1 h.b3).1
  have k1 := (Array.getElem?_eq_some_iff.1 h.b1).1
  have k2 := (Array.getElem?_eq_some_iff.1 h.b2).1
  exact ⟨Tr.own_below h.want hb, Tr.ownR_below h.one hb, Tr.own_below h.two hb, (hb.block _ k3).trans h.b3, (hb.block _ k1).trans h.b1, (hb.block _ k2).trans h.b2, bthen h.low hb, h.nd, h.so.same fun i hi => hb.block i (Tr.ownR_lt _ _ _ h.one i hi), h.far⟩
set_option maxRecDepth 100000 in
set_option maxHeartbeats 4000000 in
theorem lawD_any (s : ByteArray) (w : World) (hs : s.size ≤ 9223372036854775807) : Calls Try.prog 4 #[.string s] w fun e w' => e = .returned (.bool true) ∧ Below w.heap.size w w' := by
  have hR := fun W => rDecode_any s W hs
  have hP := fun W => Decode_any s W hs
  rw [decode_same] at hP
  have hok : (refD s.data.toList).1.okV = true := kept_ok _ _
  have hwf : (refD s.data.toList).1.wf := kept_wf _ _ (refV_wf 17 _)
  obtain ⟨d, hd⟩ : ∃ d, d = refD s.data.toList := ⟨_, rfl⟩
  rw [← hd] at hR hP hok hwf
  obtain ⟨r, z⟩ := d
  clear hd
  have hok : r.okV = true := hok
  have hwf : r.wf := hwf
  have HR := Lib.hid hR
  have HP := Lib.hid hP
  have HO := Lib.hid (And.intro hok hwf)
  clear hR hP hok hwf
  go_enter Try.func4, Try.ntmps4
  go_wp2_with fail
  refine (HR.out _).mono ?_
  rintro e w1 ⟨v0, v1, v2, v3, v4, v5, F3, rfl, hown3, hap3, hso3, hb1⟩
  obtain ⟨kd', n', x', y', s', _, a', len', cap', _, hv0⟩ := vcells hown3
  simp only [List.cons.injEq, and_true] at hv0
  obtain ⟨rfl, rfl, rfl, rfl, rfl, rfl⟩ := hv0
  have hA := bnew (Below.refl w1.heap.size w1) (.cells #[.int .u8 kd', .int .i64 n', .float .f64 x', .float .f64 y', .string s', .slice a' len' cap'] 25)
  have H1 := Lib.hid (And.intro (Tr.own_below hown3 hA) (And.intro (heap_alloc_new w1 (.cells #[.int .u8 kd', .int .i64 n', .float .f64 x', .float .f64 y', .string s', .slice a' len' cap'] 25)) (bnew hb1 (.cells #[.int .u8 kd', .int .i64 n', .float .f64 x', .float .f64 y', .string s', .slice a' len' cap'] 25))))
  clear hown3 hap3 hso3 hb1 hA
  go_wp2_with fail
  refine (HP.out _).mono ?_
  rintro e w2 ⟨x0, x1, x2, x3, x4, x5, F1, rfl, hownR, hap1, hso1, hb2⟩
  obtain ⟨kd1, n1, fx1, fy1, s1, _, a1, len1, cap1, _, hv1⟩ := vcells (Tr.ownR_own _ _ _ hownR)
  simp only [List.cons.injEq, and_true] at hv1
  obtain ⟨rfl, rfl, rfl, rfl, rfl, rfl⟩ := hv1
  have hA := bnew (Below.refl w2.heap.size w2) (.cells #[.int .u8 kd1, .int .i64 n1, .float .f64 fx1, .float .f64 fy1, .string s1, .slice a1 len1 cap1] 25)
  have hlt1 := (Array.getElem?_eq_some_iff.1 H1.out.2.1).1
  have hbA := hb2.trans (hA.mono hb2.size)
  have hF3 := Tr.own_lt _ _ _ H1.out.1
  have H2 := Lib.hid (And.intro (Tr.own_below H1.out.1 hbA) (And.intro ((hbA.block _ hlt1).trans H1.out.2.1) (And.intro (bthen H1.out.2.2 hbA) (And.intro (Tr.ownR_below hownR hA) (And.intro (heap_alloc_new w2 (.cells #[.int .u8 kd1, .int .i64 n1, .float .f64 fx1, .float .f64 fy1, .string s1, .slice a1 len1 cap1] 25)) (And.intro hap1.1 (And.intro (hso1.same fun i hi => hA.block i (Tr.ownR_lt _ _ _ hownR i hi)) (fun i hi => And.intro (show w.heap.size ≤ i by have := hap1.2 i hi; have := H1.out.2.2.size; omega) (show i ∉ F3 from fun hm => by have := hap1.2 i hi; have := hF3 i hm; omega)))))))))
  clear hownR hap1 hso1 hb2 hA hlt1 hbA hF3 H1
  go_wp2_with fail
  refine (HP.out _).mono ?_
  rintro e w3 ⟨z0, z1, z2, z3, z4, z5, F2, rfl, hownR, hap2, hso2, hb3⟩
  have hown2 := Tr.ownR_own _ _ _ hownR
  obtain ⟨kd2, n2, fx2, fy2, s2, _, a2, len2, cap2, _, hv2⟩ := vcells hown2
  simp only [List.cons.injEq, and_true] at hv2
  obtain ⟨rfl, rfl, rfl, rfl, rfl, rfl⟩ := hv2
  have hA := bnew (Below.refl w3.heap.size w3) (.cells #[.int .u8 kd2, .int .i64 n2, .float .f64 fx2, .float .f64 fy2, .string s2, .slice a2 len2 cap2] 25)
  have hbA := hb3.trans (hA.mono hb3.size)
  obtain ⟨k1, k2, k3, k4, k5, k6, k7, k8⟩ := H2.out
  have HL := Lib.hid (show L3 w r w1.heap.size w2.heap.size w3.heap.size _ _ _ F3 F1 F2 (w3.alloc (.cells #[.int .u8 kd2, .int .i64 n2, .float .f64 fx2, .float .f64 fy2, .string s2, .slice a2 len2 cap2] 25)) from ⟨Tr.own_below k1 hbA, Tr.ownR_below k4 hbA, Tr.own_below hown2 hA, (hbA.block _ (Array.getElem?_eq_some_iff.1 k2).1).trans k2, (hbA.block _ (Array.getElem?_eq_some_iff.1 k5).1).trans k5, heap_alloc_new w3 _, bthen k3 hbA, k6, k7.same fun i hi => hbA.block i (Tr.ownR_lt _ _ _ k4 i hi), fun i hi => ⟨(k8 i hi).1, fun hm => by have := hap2.2 i hm; have := Tr.ownR_lt _ _ _ k4 i hi; omega, (k8 i hi).2⟩⟩)
  clear hownR hown2 hap2 hso2 hb3 hA hbA k1 k2 k3 k4 k5 k6 k7 k8 H2
  obtain ⟨W3, hW3⟩ : ∃ W3, W3 = w3.alloc (.cells #[.int .u8 kd2, .int .i64 n2, .float .f64 fx2, .float .f64 fy2, .string s2, .slice a2 len2 cap2] 25) := ⟨_, rfl⟩
  have HL0 := Lib.hid HL.out
  rw [← hW3] at HL0
  have b30 : W3.cell? ⟨w1.heap.size, 0, none⟩ = some (.int .u8 kd') := box_all HL0.out.b3 0
  have b31 : W3.cell? ⟨w1.heap.size, 1, none⟩ = some (.int .i64 n') := box_all HL0.out.b3 1
  have b32 : W3.cell? ⟨w1.heap.size, 2, none⟩ = some (.float .f64 x') := box_all HL0.out.b3 2
  have b33 : W3.cell? ⟨w1.heap.size, 3, none⟩ = some (.float .f64 y') := box_all HL0.out.b3 3
  have b34 : W3.cell? ⟨w1.heap.size, 4, none⟩ = some (.string s') := box_all HL0.out.b3 4
  have b35 : W3.cell? ⟨w1.heap.size, 5, none⟩ = some (.slice a' len' cap') := box_all HL0.out.b3 5
  have b10 : W3.cell? ⟨w2.heap.size, 0, none⟩ = some (.int .u8 kd1) := box_all HL0.out.b1 0
  have b11 : W3.cell? ⟨w2.heap.size, 1, none⟩ = some (.int .i64 n1) := box_all HL0.out.b1 1
  have b12 : W3.cell? ⟨w2.heap.size, 2, none⟩ = some (.float .f64 fx1) := box_all HL0.out.b1 2
  have b13 : W3.cell? ⟨w2.heap.size, 3, none⟩ = some (.float .f64 fy1) := box_all HL0.out.b1 3
  have b14 : W3.cell? ⟨w2.heap.size, 4, none⟩ = some (.string s1) := box_all HL0.out.b1 4
  have b15 : W3.cell? ⟨w2.heap.size, 5, none⟩ = some (.slice a1 len1 cap1) := box_all HL0.out.b1 5
  have b20 : W3.cell? ⟨w3.heap.size, 0, none⟩ = some (.int .u8 kd2) := box_all HL0.out.b2 0
  have b21 : W3.cell? ⟨w3.heap.size, 1, none⟩ = some (.int .i64 n2) := box_all HL0.out.b2 1
  have b22 : W3.cell? ⟨w3.heap.size, 2, none⟩ = some (.float .f64 fx2) := box_all HL0.out.b2 2
  have b23 : W3.cell? ⟨w3.heap.size, 3, none⟩ = some (.float .f64 fy2) := box_all HL0.out.b2 3
  have b24 : W3.cell? ⟨w3.heap.size, 4, none⟩ = some (.string s2) := box_all HL0.out.b2 4
  have b25 : W3.cell? ⟨w3.heap.size, 5, none⟩ = some (.slice a2 len2 cap2) := box_all HL0.out.b2 5
  rw [hW3] at b30 b31 b32 b33 b34 b35 b10 b11 b12 b13 b14 b15 b20 b21 b22 b23 b24 b25 HL0
  clear hW3
  go_wp2_with fail
  refine (like_any r r HO.out.1 HO.out.1 _ _ F1 F3 _ (Tr.ownR_own _ _ _ HL.out.one) HL.out.want HO.out.2 HO.out.2).mono ?_
  rintro e w5 ⟨rfl, hb5⟩
  rw [likeB_self]
  have HL5 := Lib.hid (HL.out.below hb5)
  clear hb5 HL HL0 b30 b31 b32 b33 b34 b35 b10 b11 b12 b13 b14 b15 b20 b21 b22 b23 b24 b25
  have b30 : w5.cell? ⟨w1.heap.size, 0, none⟩ = some (.int .u8 kd') := box_all HL5.out.b3 0
  have b31 : w5.cell? ⟨w1.heap.size, 1, none⟩ = some (.int .i64 n') := box_all HL5.out.b3 1
  have b32 : w5.cell? ⟨w1.heap.size, 2, none⟩ = some (.float .f64 x') := box_all HL5.out.b3 2
  have b33 : w5.cell? ⟨w1.heap.size, 3, none⟩ = some (.float .f64 y') := box_all HL5.out.b3 3
  have b34 : w5.cell? ⟨w1.heap.size, 4, none⟩ = some (.string s') := box_all HL5.out.b3 4
  have b35 : w5.cell? ⟨w1.heap.size, 5, none⟩ = some (.slice a' len' cap') := box_all HL5.out.b3 5
  have b10 : w5.cell? ⟨w2.heap.size, 0, none⟩ = some (.int .u8 kd1) := box_all HL5.out.b1 0
  have b11 : w5.cell? ⟨w2.heap.size, 1, none⟩ = some (.int .i64 n1) := box_all HL5.out.b1 1
  have b12 : w5.cell? ⟨w2.heap.size, 2, none⟩ = some (.float .f64 fx1) := box_all HL5.out.b1 2
  have b13 : w5.cell? ⟨w2.heap.size, 3, none⟩ = some (.float .f64 fy1) := box_all HL5.out.b1 3
  have b14 : w5.cell? ⟨w2.heap.size, 4, none⟩ = some (.string s1) := box_all HL5.out.b1 4
  have b15 : w5.cell? ⟨w2.heap.size, 5, none⟩ = some (.slice a1 len1 cap1) := box_all HL5.out.b1 5
  have b20 : w5.cell? ⟨w3.heap.size, 0, none⟩ = some (.int .u8 kd2) := box_all HL5.out.b2 0
  have b21 : w5.cell? ⟨w3.heap.size, 1, none⟩ = some (.int .i64 n2) := box_all HL5.out.b2 1
  have b22 : w5.cell? ⟨w3.heap.size, 2, none⟩ = some (.float .f64 fx2) := box_all HL5.out.b2 2
  have b23 : w5.cell? ⟨w3.heap.size, 3, none⟩ = some (.float .f64 fy2) := box_all HL5.out.b2 3
  have b24 : w5.cell? ⟨w3.heap.size, 4, none⟩ = some (.string s2) := box_all HL5.out.b2 4
  have b25 : w5.cell? ⟨w3.heap.size, 5, none⟩ = some (.slice a2 len2 cap2) := box_all HL5.out.b2 5
  go_wp2_with fail
  refine (like_any r r HO.out.1 HO.out.1 _ _ F2 F3 _ HL5.out.two HL5.out.want HO.out.2 HO.out.2).mono ?_
  rintro e w6 ⟨rfl, hb6⟩
  rw [likeB_self]
  have HL6 := Lib.hid (HL5.out.below hb6)
  clear hb6 HL5 b30 b31 b32 b33 b34 b35 b10 b11 b12 b13 b14 b15 b20 b21 b22 b23 b24 b25
  have b30 : w6.cell? ⟨w1.heap.size, 0, none⟩ = some (.int .u8 kd') := box_all HL6.out.b3 0
  have b31 : w6.cell? ⟨w1.heap.size, 1, none⟩ = some (.int .i64 n') := box_all HL6.out.b3 1
  have b32 : w6.cell? ⟨w1.heap.size, 2, none⟩ = some (.float .f64 x') := box_all HL6.out.b3 2
  have b33 : w6.cell? ⟨w1.heap.size, 3, none⟩ = some (.float .f64 y') := box_all HL6.out.b3 3
  have b34 : w6.cell? ⟨w1.heap.size, 4, none⟩ = some (.string s') := box_all HL6.out.b3 4
  have b35 : w6.cell? ⟨w1.heap.size, 5, none⟩ = some (.slice a' len' cap') := box_all HL6.out.b3 5
  have b10 : w6.cell? ⟨w2.heap.size, 0, none⟩ = some (.int .u8 kd1) := box_all HL6.out.b1 0
  have b11 : w6.cell? ⟨w2.heap.size, 1, none⟩ = some (.int .i64 n1) := box_all HL6.out.b1 1
  have b12 : w6.cell? ⟨w2.heap.size, 2, none⟩ = some (.float .f64 fx1) := box_all HL6.out.b1 2
  have b13 : w6.cell? ⟨w2.heap.size, 3, none⟩ = some (.float .f64 fy1) := box_all HL6.out.b1 3
  have b14 : w6.cell? ⟨w2.heap.size, 4, none⟩ = some (.string s1) := box_all HL6.out.b1 4
  have b15 : w6.cell? ⟨w2.heap.size, 5, none⟩ = some (.slice a1 len1 cap1) := box_all HL6.out.b1 5
  have b20 : w6.cell? ⟨w3.heap.size, 0, none⟩ = some (.int .u8 kd2) := box_all HL6.out.b2 0
  have b21 : w6.cell? ⟨w3.heap.size, 1, none⟩ = some (.int .i64 n2) := box_all HL6.out.b2 1
  have b22 : w6.cell? ⟨w3.heap.size, 2, none⟩ = some (.float .f64 fx2) := box_all HL6.out.b2 2
  have b23 : w6.cell? ⟨w3.heap.size, 3, none⟩ = some (.float .f64 fy2) := box_all HL6.out.b2 3
  have b24 : w6.cell? ⟨w3.heap.size, 4, none⟩ = some (.string s2) := box_all HL6.out.b2 4
  have b25 : w6.cell? ⟨w3.heap.size, 5, none⟩ = some (.slice a2 len2 cap2) := box_all HL6.out.b2 5
  go_wp2_with fail
  refine (apart_any r HO.out.1 HO.out.2 _ _ _ F1 F2 F3 _ HL6.out.one HL6.out.nd HL6.out.so HL6.out.two HL6.out.want (fun i hi => (HL6.out.far i hi).2)).mono ?_
  rintro e w7 ⟨rfl, hw7⟩
  have HE := Lib.hid (HL6.out.low.trans (hw7.below HL6.out.low.size (fun k hk => (HL6.out.far k hk).1)))
  clear hw7 HL6 b30 b31 b32 b33 b34 b35 b10 b11 b12 b13 b14 b15 b20 b21 b22 b23 b24 b25
  go_wp2_with fail
  go_ret
  exact ⟨rfl, HE.out⟩
end Go.Proofs.Ytaglklcjolcgeaa
namespace Go.Proofs.Ytaglklcjolcgeaa
open Go.ChangeShapes Go.WideShapes Go.ChangeAt Go.RowKit

theorem own_knobD : ownKnob Try.prog.godebug = none := by kernel_rfl
theorem laid_outD : laidOutB Try.prog = true := by kernel_rfl

set_option maxRecDepth 100000 in
theorem lawD_lifted (os : Os) (started : os.Started) (H : Type) (enc : TypeId × Value → H) :
    ReturnsInHanded {} Try.checked os 4 .any (Rows.valueDecodesSpec.pre6 enc Try.prog Try.f4 Rows.valueDecodesRow.domain false) (Rows.valueDecodesSpec.post enc Try.prog Try.f4 false true false false) := by
  refine returnsInHanded_of_change (C := Try.checked) own_knobD started (by kernel_rfl) Try.func4
    (ChangeSpec.witness6 (enc := enc) (C := Try.checked) false ⟨#[], #[.string ⟨#[]⟩], []⟩ 8 (by kernel_rfl) (by kernel_rfl) (by kernel_rfl) (by kernel_rfl)) ?_
  intro W base args ds gs before hval0 hW hcnd _
  have hval : ∀ (j : Nat) t v, Try.f4.params[j]? = some t → args[j]? = some v → Value.okWide Try.prog W .any base t v := hval0
  have hW' := hW
  obtain ⟨p, q, hA0, hV, rfl, hfz, hnd⟩ := hW
  have hA : DataW.TrodAll enc Try.prog W 0 (fun _ => true) true Try.f4.params.toList args.toList ds p := hA0
  rw [Try.params4] at hA hval
  obtain ⟨v0, vs0, d0, ds0, p0, q0, hargs, rfl, rfl, h0, r0⟩ := trodAll_cons hA
  obtain ⟨rfl, rfl, rfl⟩ := trodAll_nil r0
  obtain rfl : args = #[v0] := by cases args; simp_all
  obtain ⟨rfl, rfl⟩ := trodVars_none hV
  have k0 := h0
  have lt0 : ∀ x ∈ p0, x.block < W.heap.size := by obtain ⟨m, hm⟩ := k0; exact DataW.trod_lt m _ _ _ hm
  obtain ⟨s, rfl, hd0, hps, hm⟩ := Go.ChangeMaps.open_string Try.underlying9 (hval 0 9 v0 rfl rfl) h0
  clear hA0 hval0
  refine (lawD_any s W (by unfold maxLen at hm; exact hm)).mono fun e W' ⟨he, bel⟩ => ?_
  subst he
  exact ⟨_, rfl, _, _, _, [], _, [], hW', trodAll_mk1 (shut_bool Try.underlying4 _), (trodAll_cons_mk (Below.trod laid_outD (by kernel_rfl) (of_decide_eq_true (by kernel_rfl)) k0 bel lt0) trodAll_mk0), rfl, bel.frame _, fun h => by cases h⟩

theorem valueDecodes_proved : Rows.ValueDecodesSaid :=
  OpenClaim.holds_of_wide 4 Try.f4 rfl rfl rfl rfl rfl rfl rfl ⟨rfl, rfl, rfl, rfl, rfl⟩ rfl rfl rfl rfl rfl (by kernel_rfl) Try.func4 (by kernel_rfl)
    (of_decide_eq_true (by kernel_rfl)) (by unfold Func.isWrapper; first | (rw [if_pos (by decide +kernel)]; kernel_rfl) | (rw [if_neg (by decide +kernel)]; exact ⟨rfl, rfl⟩))
    (fun os started H enc _ => lawD_lifted os started H enc)
#print axioms valueDecodes_proved
end Go.Proofs.Ytaglklcjolcgeaa
