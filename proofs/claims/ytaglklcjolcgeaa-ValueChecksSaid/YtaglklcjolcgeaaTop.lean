/- The walk of 'value.Compare'. -/
import Derived.Test.YtaglklcjolcgeaaOrder
import Derived.Test.YtaglklcjolcgeaaMayN
namespace Go.Proofs.Ytaglklcjolcgeaa
open Go.RowKit
set_option linter.unusedVariables false
set_option linter.unusedSimpArgs false
attribute [local go_sem] run_store_float
theorem numb_bd (a b : Bool) : -1 ≤ numb a b ∧ numb a b ≤ 1 := by cases a <;> cases b <;> decide
theorem ordF_bd (x y : Nat) : -1 ≤ ordF x y ∧ ordF x y ≤ 1 := by
  unfold ordF
  split
  · exact numb_bd _ _
  · split <;> exact numb_bd _ _
theorem cmpB_bd : ∀ a b : List UInt8, -1 ≤ Lib.compareBytes a b ∧ Lib.compareBytes a b ≤ 1
  | [], [] => by decide
  | [], _ :: _ => by unfold Lib.compareBytes; omega
  | _ :: _, [] => by unfold Lib.compareBytes; omega
  | a :: u, b :: v => by
    unfold Lib.compareBytes
    have := cmpB_bd u v
    split
    · omega
    · split <;> omega
mutual
theorem ordV_bd : ∀ a b : Va, -1 ≤ ordV a b ∧ ordV a b ≤ 1
  | .mk kd n x y s rs, .mk kd2 n2 x2 y2 s2 rs2 => by
    unfold ordV
    split
    · exact numb_bd _ _
    split
    · exact numb_bd _ _
    split
    · exact ordF_bd _ _
    split
    · split <;> exact ordF_bd _ _
    split
    · exact cmpB_bd _ _
    split
    · exact ordL_bd rs rs2
    · omega
theorem ordL_bd : ∀ a b : List Va, -1 ≤ ordL a b ∧ ordL a b ≤ 1
  | [], [] => by unfold ordL; omega
  | [], _ :: _ => by unfold ordL; omega
  | _ :: _, [] => by unfold ordL; omega
  | a :: u, b :: v => by
    unfold ordL
    split
    · exact ordV_bd a b
    · exact ordL_bd u v
end
set_option maxHeartbeats 1000000 in
theorem Compare_any (r r2 : Va) (c c2 : List Value) (F F2 : List Nat) (w : World) (hr : r.tr.own 6 w c F) (hr2 : r2.tr.own 6 w c2 F2) (hwf : r.wf) (hwf2 : r2.wf) :
    Calls Try.prog 20 #[.agg c.toArray, .agg c2.toArray] w (Pair8Is (if r.okV && r2.okV then ordV r r2 else 0) (if r.okV && r2.okV then 0 else 20) w) := by
  obtain ⟨v0, v1, v2, v3, v4, v5, rfl⟩ := Va.shape hr
  obtain ⟨x0, x1, x2, x3, x4, x5, rfl⟩ := Va.shape hr2
  have HR : Hid (∀ W, Below w.heap.size w W → r.tr.own 6 W [v0, v1, v2, v3, v4, v5] F) := fun W hW => Tr.own_below hr hW
  have HR2 : Hid (∀ W, Below w.heap.size w W → r2.tr.own 6 W [x0, x1, x2, x3, x4, x5] F2) := fun W hW => Tr.own_below hr2 hW
  have HB := Lib.hid (bb2 w (.cells #[v0, v1, v2, v3, v4, v5] 25) (.cells #[x0, x1, x2, x3, x4, x5] 25))
  have HW := Lib.hid (And.intro hwf hwf2)
  clear hr hr2 hwf hwf2
  cases ho : (r.okV && r2.okV)
  · have HO : Hid ((if (r.okV && r2.okV) = true then (0 : Int) else 20) = 20) := by show _ = _; rw [ho]; rfl
    go_enter Try.func20, Try.ntmps20
    go_wp2_with (go_at_call 30; (with_reducible refine (both_any r r2 [v0, v1, v2, v3, v4, v5] [x0, x1, x2, x3, x4, x5] F F2 _ (HR.out _ HB.out) (HR2.out _ HB.out) HW.out.1 HW.out.2).mono ?_); rintro e w1 ⟨rfl, hb1⟩; rw [HO.out])
    refine bodyPost_ret (results_tmp2 rfl _ _ _) rfl ?_
    exact ⟨rfl, bthen HB.out hb1⟩
  · have HO : Hid ((if (r.okV && r2.okV) = true then (0 : Int) else 20) = 0) := by show _ = _; rw [ho]; rfl
    have h12 : r.okV = true ∧ r2.okV = true := by simpa using ho
    have HV := Lib.hid (pord_eq r r2 (Va.ok_all h12.1) (Va.ok_all h12.2))
    have hbd := ordV_bd r r2
    clear h12 ho
    obtain ⟨v, hv⟩ : ∃ v, v = ordV r r2 := ⟨_, rfl⟩
    rw [← hv] at hbd
    have HQ : Hid (pordV r r2 = v) := by show _ = _; rw [HV.out, hv]
    have HX := Lib.hid hv
    clear hv
    go_enter Try.func20, Try.ntmps20
    go_wp2_with (first | (go_at_call 30; (with_reducible refine (both_any r r2 [v0, v1, v2, v3, v4, v5] [x0, x1, x2, x3, x4, x5] F F2 _ (HR.out _ HB.out) (HR2.out _ HB.out) HW.out.1 HW.out.2).mono ?_); rintro e w1 ⟨rfl, hb1⟩; rw [HO.out]; have j1 := box_keep (two1 w _ _) hb1; have j2 := box_keep (two2 w _ _) hb1) | (go_at_call 34; (with_reducible refine (order_N _ r r2 (Nat.le_refl _) HW.out.1 HW.out.2 [v0, v1, v2, v3, v4, v5] [x0, x1, x2, x3, x4, x5] F F2 _ (HR.out _ (bthen HB.out hb1)) (HR2.out _ (bthen HB.out hb1))).mono ?_); rintro e w2 ⟨rfl, hb2⟩; rw [HQ.out]))
    refine bodyPost_ret (results_tmp2 rfl _ _ _) rfl ?_
    refine ⟨?_, bthen (bthen HB.out hb1) hb2⟩
    simp only [if_true]
    rw [← HX.out]
    simp
end Go.Proofs.Ytaglklcjolcgeaa
