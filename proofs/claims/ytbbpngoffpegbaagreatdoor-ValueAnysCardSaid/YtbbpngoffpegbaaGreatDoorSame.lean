/- The walk of 'value.Same'. (Printed by gensame.py.) -/
import Derived.Test.YtbbpngoffpegbaaGreatDoorCmpd
import Derived.Test.YtbbpngoffpegbaaGreatDoorWLast
import Derived.Test.YtbbpngoffpegbaaGreatDoorWWords
namespace Go.Proofs.YtbbpngoffpegbaaGreatDoor
open Go Go.RowKit Go.Proofs.YtbbpngoffpegbaaGreatDoorW.PrintWords Go.Proofs.YtbbpngoffpegbaaGreatDoorW.PrintLast
set_option linter.unusedVariables false
set_option linter.unusedSimpArgs false
attribute [local go_sem] run_store_float
theorem okV_kd {kd n : Int} {x y : Nat} {s : ByteArray} {rs : List Va} (h : (Va.mk kd n x y s rs).okV = true) : (kd = 0 ∨ kd = 1 ∨ kd = 2 ∨ kd = 3 ∨ kd = 4 ∨ kd = 5 ∨ kd = 6 ∨ kd = 7) ∧ (kd = 1 → n = 0 ∨ n = 1) := by
  have h1 := ((Va.ok_iff _).1 h).1
  unfold Va.alln at h1
  by_cases hk : kd = 0 ∨ kd = 1 ∨ kd = 2 ∨ kd = 3 ∨ kd = 4 ∨ kd = 5 ∨ kd = 6 ∨ kd = 7
  · refine ⟨hk, fun h => ?_⟩
    subst h
    have h2 := h1.1
    unfold okB at h2
    simp at h2
    exact h2.1
  · rw [okB_ge (by omega) (by omega) (by omega) (by omega) (by omega) (by omega) (by omega) (by omega)] at h1
    cases h1.1
/-- What the handed out value of a kind looks like. -/
theorem pl_kind {w : World} {lo : Nat} {kd n : Int} {x y : Nat} {s : ByteArray} {rs : List Va} {v : Value} (h : (Va.mk kd n x y s rs).pl w lo v) (hk : kd = 0 ∨ kd = 1 ∨ kd = 2 ∨ kd = 3 ∨ kd = 4 ∨ kd = 5 ∨ kd = 6 ∨ kd = 7) :
    (kd = 0 ∧ v = .nilIface) ∨ (kd = 1 ∧ v = .iface 4 (.bool (n == 1))) ∨ (kd = 2 ∧ v = .iface 2 (.int .i64 n)) ∨ (kd = 3 ∧ v = .iface 22 (.float .f64 x)) ∨ (kd = 4 ∧ v = .iface 48 (.complex .f64 x y)) ∨ (kd = 5 ∧ v = .iface 9 (.string s)) ∨ (kd = 6 ∧ ∃ u, v = .iface 32 u) ∨ (kd = 7 ∧ ∃ u, v = .iface 34 u) := by
  unfold Va.pl at h
  rcases h with ⟨h, hv⟩ | h | h | h | h | h | ⟨h, _, _, hv, _⟩ | ⟨h, _, _, _, hv, _⟩
  · exact .inl ⟨by omega, hv⟩
  · exact .inr (.inl h)
  · exact .inr (.inr (.inl h))
  · exact .inr (.inr (.inr (.inl h)))
  · exact .inr (.inr (.inr (.inr (.inl h))))
  · exact .inr (.inr (.inr (.inr (.inr (.inl h)))))
  · exact .inr (.inr (.inr (.inr (.inr (.inr (.inl ⟨h, _, hv⟩))))))
  · exact .inr (.inr (.inr (.inr (.inr (.inr (.inr ⟨h, _, hv⟩))))))
theorem str_beq (s t : ByteArray) : (s == t) = (s.toList == t.toList) := by
  rw [ByteArray.toList_eq, ByteArray.toList_eq, show (s == t) = (s.data == t.data) from rfl]
  apply Bool.eq_iff_iff.2
  rw [beq_iff_eq, beq_iff_eq]
  constructor
  · intro h; rw [h]
  · intro h
    exact Array.ext' h
theorem bool_beq {n m : Int} (h : n = 0 ∨ n = 1) (k : m = 0 ∨ m = 1) : ((n == 1) == (m == 1)) = (n == m) := by
  rcases h with rfl | rfl <;> rcases k with rfl | rfl <;> rfl
theorem sameV_ne {kd n kd2 n2 : Int} {x y x2 y2 : Nat} {s s2 : ByteArray} {rs rs2 : List Va} (h : kd ≠ kd2) : sameV (.mk kd n x y s rs) (.mk kd2 n2 x2 y2 s2 rs2) = 2 := by
  show (if kd ≠ kd2 then _ else _) = _
  rw [if_pos h]
set_option maxHeartbeats 2000000 in
theorem same_plain (r r2 : Va) (o1 : r.okV = true) (o2 : r2.okV = true) (v1 v2 : Value) {w w2 : World} {lo lo2 : Nat} (h1 : r.pl w lo v1) (h2 : r2.pl w2 lo2 v2) :
    (∃ b, (∀ w, (binOp .eql 20 v1 v2).run Tryz.prog w = .ok (.bool b) w) ∧ sameV r r2 = if b then 1 else 2) ∨ (∃ t pv, (∀ w, (binOp .eql 20 v1 v2).run Tryz.prog w = .halt (.panic (.iface t pv)) w) ∧ sameV r r2 = 3) := by
  obtain ⟨kd, n, x, y, s, rs⟩ := r
  obtain ⟨kd2, n2, x2, y2, s2, rs2⟩ := r2
  have k1 := okV_kd o1
  have k2 := okV_kd o2
  have p1 := pl_kind h1 k1.1
  have p2 := pl_kind h2 k2.1
  clear h1 h2 o1 o2
  by_cases hk : kd = kd2
  · subst hk
    rcases p1 with ⟨rfl, rfl⟩ | ⟨rfl, rfl⟩ | ⟨rfl, rfl⟩ | ⟨rfl, rfl⟩ | ⟨rfl, rfl⟩ | ⟨rfl, rfl⟩ | ⟨rfl, u, rfl⟩ | ⟨rfl, u, rfl⟩
    · obtain rfl : v2 = .nilIface := by rcases p2 with h | h | h | h | h | h | h | h <;> first | exact h.2 | exact absurd h.1 (by decide)
      exact .inl ⟨true, ieq_nils, rfl⟩
    · obtain rfl : v2 = .iface 4 (.bool (n2 == 1)) := by rcases p2 with h | h | h | h | h | h | h | h <;> first | exact h.2 | exact absurd h.1 (by decide)
      exact .inl ⟨_, ieq_bool _ _, by rw [bool_beq (k1.2 rfl) (k2.2 rfl)]; rfl⟩
    · obtain rfl : v2 = .iface 2 (.int .i64 n2) := by rcases p2 with h | h | h | h | h | h | h | h <;> first | exact h.2 | exact absurd h.1 (by decide)
      exact .inl ⟨_, ieq_int _ _, rfl⟩
    · obtain rfl : v2 = .iface 22 (.float .f64 x2) := by rcases p2 with h | h | h | h | h | h | h | h <;> first | exact h.2 | exact absurd h.1 (by decide)
      exact .inl ⟨_, ieq_float _ _, rfl⟩
    · obtain rfl : v2 = .iface 48 (.complex .f64 x2 y2) := by rcases p2 with h | h | h | h | h | h | h | h <;> first | exact h.2 | exact absurd h.1 (by decide)
      exact .inl ⟨_, ieq_complex _ _ _ _, rfl⟩
    · obtain rfl : v2 = .iface 9 (.string s2) := by rcases p2 with h | h | h | h | h | h | h | h <;> first | exact h.2 | exact absurd h.1 (by decide)
      exact .inl ⟨_, ieq_str _ _, by rw [str_beq]; rfl⟩
    · obtain ⟨u2, rfl⟩ : ∃ u2, v2 = .iface 32 u2 := by rcases p2 with h | h | h | h | h | h | h | h <;> first | exact h.2 | exact absurd h.1 (by decide)
      exact .inr ⟨_, _, ieq_bytes _ _, rfl⟩
    · obtain ⟨u2, rfl⟩ : ∃ u2, v2 = .iface 34 u2 := by rcases p2 with h | h | h | h | h | h | h | h <;> first | exact h.2 | exact absurd h.1 (by decide)
      exact .inr ⟨_, _, ieq_anys _ _, rfl⟩
  · refine .inl ⟨false, ?_, sameV_ne hk⟩
    rcases p1 with ⟨rfl, rfl⟩ | ⟨rfl, rfl⟩ | ⟨rfl, rfl⟩ | ⟨rfl, rfl⟩ | ⟨rfl, rfl⟩ | ⟨rfl, rfl⟩ | ⟨rfl, u, rfl⟩ | ⟨rfl, u, rfl⟩ <;> rcases p2 with ⟨rfl, rfl⟩ | ⟨rfl, rfl⟩ | ⟨rfl, rfl⟩ | ⟨rfl, rfl⟩ | ⟨rfl, rfl⟩ | ⟨rfl, rfl⟩ | ⟨rfl, u2, rfl⟩ | ⟨rfl, u2, rfl⟩ <;>
      first | exact absurd rfl hk | with_reducible exact ieq_nil1 _ _ | with_reducible exact ieq_nil2 _ _ | (with_reducible refine ieq_ne _ _ _ _ ?_; decide)
theorem same_any (r r2 : Va) (o1 : r.okV = true) (o2 : r2.okV = true) (v1 v2 : Value) {w w2 : World} {lo lo2 : Nat} (h1 : r.pl w lo v1) (h2 : r2.pl w2 lo2 v2) (W : World) : Calls Tryz.prog 27 #[v1, v2] W fun e w' => e = .returned (.int .i64 (sameV r r2)) ∧ Below W.heap.size W w' := by
  rcases same_plain r r2 o1 o2 v1 v2 h1 h2 with ⟨b, hb, hs⟩ | ⟨t, pv, hb, hs⟩
  · rw [hs]; exact compared_ok v1 v2 b (Va.pl_form h1) (Va.pl_form h2) hb W
  · rw [hs]; exact compared_panic v1 v2 t pv (Va.pl_form h1) (Va.pl_form h2) hb W
/-- Two boxes. -/
def Two (B : Nat) (A C : Array Value) (W : World) : Prop := (∀ j, W.cell? ⟨B, j, none⟩ = A[j]?) ∧ (∀ j, W.cell? ⟨B + 1, j, none⟩ = C[j]?) ∧ B + 1 < W.heap.size
theorem two_below {B : Nat} {A C : Array Value} {W W' : World} (h : Two B A C W) (hb : Below W.heap.size W W') : Two B A C W' :=
  ⟨fun j => (hb.cell (p := ⟨B, j, none⟩) (by have := h.2.2; show B < _; omega)).trans (h.1 j), fun j => (hb.cell (p := ⟨B + 1, j, none⟩) (by have := h.2.2; show B + 1 < _; omega)).trans (h.2.1 j), Nat.lt_of_lt_of_le h.2.2 hb.size⟩
theorem two_of (w : World) (A C : Array Value) : Two w.heap.size A C ((w.alloc (.cells A 25)).alloc (.cells C 25)) := ⟨box_all (two1 w _ _), box_all (two2 w _ _), by simp⟩
set_option maxRecDepth 100000 in
set_option maxHeartbeats 2000000 in
theorem Same_any (r r2 : Va) (c c2 : List Value) (F F2 : List Nat) (w : World) (hr : r.tr.own 6 w c F) (hr2 : r2.tr.own 6 w c2 F2) (hwf : r.wf) (hwf2 : r2.wf) :
    Calls Tryz.prog 8 #[.agg c.toArray, .agg c2.toArray] w (PairIs (if r.okV && r2.okV then sameV r r2 else 0) (if r.okV && r2.okV then 0 else 20) w) := by
  obtain ⟨v0, v1, v2, v3, v4, v5, rfl⟩ := Va.shape hr
  obtain ⟨x0, x1, x2, x3, x4, x5, rfl⟩ := Va.shape hr2
  have HR : Hid (∀ W, Below w.heap.size w W → r.tr.own 6 W [v0, v1, v2, v3, v4, v5] F) := fun W hW => Tr.own_below hr hW
  have HR2 : Hid (∀ W, Below w.heap.size w W → r2.tr.own 6 W [x0, x1, x2, x3, x4, x5] F2) := fun W hW => Tr.own_below hr2 hW
  have HB := Lib.hid (bb2 w (.cells #[v0, v1, v2, v3, v4, v5] 25) (.cells #[x0, x1, x2, x3, x4, x5] 25))
  have HW := Lib.hid (And.intro hwf hwf2)
  clear hr hr2 hwf hwf2
  cases ho : (r.okV && r2.okV)
  · have HO : Hid ((if (r.okV && r2.okV) = true then (0 : Int) else 20) = 20) := by show _ = _; rw [ho]; rfl
    go_enter Tryz.func8, Tryz.ntmps8
    go_wp2_with (go_at_call 26; (with_reducible refine (both_any r r2 [v0, v1, v2, v3, v4, v5] [x0, x1, x2, x3, x4, x5] F F2 _ (HR.out _ HB.out) (HR2.out _ HB.out) HW.out.1 HW.out.2).mono ?_); rintro e w1 ⟨rfl, hb1⟩; rw [HO.out])
    refine bodyPost_ret (results_tmp2 rfl _ _ _) rfl ?_
    exact ⟨rfl, bthen HB.out hb1⟩
  · have HO : Hid ((if (r.okV && r2.okV) = true then (0 : Int) else 20) = 0) := by show _ = _; rw [ho]; rfl
    have h12 : r.okV = true ∧ r2.okV = true := by simpa using ho
    have O := Lib.hid h12
    have HS := Lib.hid (And.intro (Va.ok_sm h12.1) (Va.ok_sm h12.2))
    clear h12 ho
    go_enter Tryz.func8, Tryz.ntmps8
    go_wp2_with (go_at_call 26; (with_reducible refine (both_any r r2 [v0, v1, v2, v3, v4, v5] [x0, x1, x2, x3, x4, x5] F F2 _ (HR.out _ HB.out) (HR2.out _ HB.out) HW.out.1 HW.out.2).mono ?_); rintro e w1 ⟨rfl, hb1⟩; rw [HO.out]; have HT := Lib.hid (two_below (two_of w #[v0, v1, v2, v3, v4, v5] #[x0, x1, x2, x3, x4, x5]) hb1); have HB0 := Lib.hid (bthen HB.out hb1); clear hb1)
    refine start_ (n := 7) (S := Two w.heap.size #[v0, v1, v2, v3, v4, v5] #[x0, x1, x2, x3, x4, x5]) (ds := []) #[false, false, false, false, false, false, false] (by kernel_rfl) rfl rfl (show Two _ _ _ w1.drew from HT.out) (fun hHeld => ?_)
    have HB1 := Lib.hid (show Below w.heap.size w w1.drew from HB0.out.drew)
    generalize World.drew _ = wd at hHeld HB1 ⊢
    refine take_ (i := 0) (N := some 13) (v := ?_) (a' := ?_) #[true, false, false, false, false, false, false] rfl rfl (by kernel_rfl) (fun _ _ _ h => h) (Or.inl ⟨by rfl, ?_⟩) hHeld ?_ ?_
    rotate_left
    · rintro w' ⟨s0, s1, s2⟩
      go_simp
      with_reducible rfl
    rotate_left
    · simp only [Act.put, List.setIfInBounds_toArray, List.set_cons_zero, List.set_cons_succ, i64_w, i32_w]
      rfl
    refine take_ (i := 2) (N := some 15) (v := ?_) (a' := ?_) #[true, false, true, false, false, false, false] rfl rfl (by kernel_rfl) (fun _ _ _ h => h) (Or.inl ⟨by rfl, ?_⟩) hHeld ?_ ?_
    rotate_left
    · rintro w' ⟨s0, s1, s2⟩
      go_simp
      with_reducible rfl
    rotate_left
    · simp only [Act.put, List.setIfInBounds_toArray, List.set_cons_zero, List.set_cons_succ, i64_w, i32_w]
      rfl
    refine one_ (i := 1) (N := some 14) #[true, true, true, false, false, false, false] rfl rfl (by kernel_rfl) (by decide) (fun K hK => ?_)
    refine goes_ Tryz.func25 (by kernel_rfl) (by kernel_rfl) #[.agg #[v0, v1, v2, v3, v4, v5]] (by rfl) rfl rfl (by (try simp only [List.map_toArray, List.map_cons, List.map_nil]); first | done | rfl) ?_
    refine (plain_N _ r (Nat.le_refl _) HS.out.1 [v0, v1, v2, v3, v4, v5] F _ (HR.out _ HB1.out)).mono ?_
    rintro e w2 ⟨p1, rfl, hp1, hb⟩
    have HB2 := Lib.hid (bthen HB1.out hb)
    have HP1 := Lib.hid hp1
    clear hp1
    have hHeld2 := two_below hHeld hb
    clear hb hHeld
    refine ⟨_, rfl, ?_⟩
    refine hK.out _ _ hHeld2 (fun hHeld => ?_)
    clear hK K hHeld2
    refine norm_ (a' := ?_) ?_ ?_
    rotate_left
    · show Act.put _ (some 14) _ = _
      simp only [Act.put, List.setIfInBounds_toArray, List.set_cons_zero, List.set_cons_succ, i64_w, i32_w]
      rfl
    refine one_ (i := 3) (N := some 16) #[true, true, true, true, false, false, false] rfl rfl (by kernel_rfl) (by decide) (fun K hK => ?_)
    refine goes_ Tryz.func25 (by kernel_rfl) (by kernel_rfl) #[.agg #[x0, x1, x2, x3, x4, x5]] (by rfl) rfl rfl (by (try simp only [List.map_toArray, List.map_cons, List.map_nil]); first | done | rfl) ?_
    refine (plain_N _ r2 (Nat.le_refl _) HS.out.2 [x0, x1, x2, x3, x4, x5] F2 _ (HR2.out _ HB2.out)).mono ?_
    rintro e w3 ⟨p2, rfl, hp2, hb⟩
    have HB3 := Lib.hid (bthen HB2.out hb)
    have HP2 := Lib.hid hp2
    clear hp2
    have hHeld2 := two_below hHeld hb
    clear hb hHeld
    refine ⟨_, rfl, ?_⟩
    refine hK.out _ _ hHeld2 (fun hHeld => ?_)
    clear hK K hHeld2
    refine norm_ (a' := ?_) ?_ ?_
    rotate_left
    · show Act.put _ (some 16) _ = _
      simp only [Act.put, List.setIfInBounds_toArray, List.set_cons_zero, List.set_cons_succ, i64_w, i32_w]
      rfl
    refine one_ (i := 4) (N := some 17) #[true, true, true, true, true, false, false] rfl rfl (by kernel_rfl) (by decide) (fun K hK => ?_)
    refine goes_ Tryz.func27 (by kernel_rfl) (by kernel_rfl) #[p1, p2] (by rfl) rfl rfl (by (try simp only [List.map_toArray, List.map_cons, List.map_nil]); first | done | rfl) ?_
    refine (same_any r r2 O.out.1 O.out.2 p1 p2 HP1.out HP2.out _).mono ?_
    rintro e w4 ⟨rfl, hb⟩
    have HB4 := Lib.hid (bthen HB3.out hb)
    have hHeld2 := two_below hHeld hb
    clear hb hHeld
    refine ⟨_, rfl, ?_⟩
    refine hK.out _ _ hHeld2 (fun hHeld => ?_)
    clear hK K hHeld2
    refine norm_ (a' := ?_) ?_ ?_
    rotate_left
    · show Act.put _ (some 17) _ = _
      simp only [Act.put, List.setIfInBounds_toArray, List.set_cons_zero, List.set_cons_succ, i64_w, i32_w]
      rfl
    refine pure_ (i := 5) (N := some 4) (v := ?_) (a' := ?_) #[true, true, true, true, true, true, false] rfl rfl (by kernel_rfl) (fun _ _ _ h => h) (Or.inl ⟨by rfl, ?_⟩) ?_ ?_
    rotate_left
    · intro w'
      go_simp
      with_reducible rfl
    rotate_left
    · simp only [Act.put, List.setIfInBounds_toArray, List.set_cons_zero, List.set_cons_succ, i64_w, i32_w]
      rfl
    refine pure_ (i := 6) (N := some 5) (v := ?_) (a' := ?_) #[true, true, true, true, true, true, true] rfl rfl (by kernel_rfl) (fun _ _ _ h => h) (Or.inl ⟨by rfl, ?_⟩) ?_ ?_
    rotate_left
    · intro w'
      go_simp
      with_reducible rfl
    rotate_left
    · simp only [Act.put, List.setIfInBounds_toArray, List.set_cons_zero, List.set_cons_succ, i64_w, i32_w]
      rfl
    refine done_ (by kernel_rfl) ?_
    go_wp2_with fail
    refine bodyPost_ret (results_tmp2 rfl _ _ _) rfl ?_
    exact ⟨rfl, HB4.out⟩
end Go.Proofs.YtbbpngoffpegbaaGreatDoor
