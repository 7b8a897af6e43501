/- The walk of 'value.Same'. (Printed by gensame.py.) The walks of 'mark' and 'twin'. The walk of 'lent'. -/
import Derived.Test.YtaglklcjolcgeaaCmpd
import Derived.Test.YtaglklcjolcgeaaWLast
import Derived.Test.YtaglklcjolcgeaaWWords
namespace Go.Proofs.Ytaglklcjolcgeaa
open Go Go.RowKit Go.Proofs.YtaglklcjolcgeaaW.PrintWords Go.Proofs.YtaglklcjolcgeaaW.PrintLast
set_option linter.unusedVariables false
set_option linter.unusedSimpArgs false
attribute [local go_sem] run_store_float
theorem okV_kd {kd n : Int} {x y : Nat} {s : ByteArray} {rs : List Va} (h : (Va.mk kd n x y s rs).okV = true) : (kd = 0 ∨ kd = 1 ∨ kd = 2 ∨ kd = 3 ∨ kd = 4 ∨ kd = 5 ∨ kd = 6 ∨ kd = 7) ∧ (kd = 1 → n = 0 ∨ n = 1) := by
  have h1 := ((Va.ok_iff _).1 h).1
  unfold Va.alln at h1
  by_cases hk : kd = 0 ∨ kd = 1 ∨ kd = 2 ∨ kd = 3 ∨ kd = 4 ∨ kd = 5 ∨ kd = 6 ∨ kd = 7
  · refine ⟨hk, fun h => ?_⟩
    subst h
    have h2 := h1.1
    unfold okB at h2
    simp at h2
    exact h2.1
  · rw [okB_ge (by omega) (by omega) (by omega) (by omega) (by omega) (by omega) (by omega) (by omega)] at h1
    cases h1.1
/-- What the handed out value of a kind looks like. -/
theorem pl_kind {w : World} {lo : Nat} {kd n : Int} {x y : Nat} {s : ByteArray} {rs : List Va} {v : Value} (h : (Va.mk kd n x y s rs).pl w lo v) (hk : kd = 0 ∨ kd = 1 ∨ kd = 2 ∨ kd = 3 ∨ kd = 4 ∨ kd = 5 ∨ kd = 6 ∨ kd = 7) :
    (kd = 0 ∧ v = .nilIface) ∨ (kd = 1 ∧ v = .iface 4 (.bool (n == 1))) ∨ (kd = 2 ∧ v = .iface 2 (.int .i64 n)) ∨ (kd = 3 ∧ v = .iface 22 (.float .f64 x)) ∨ (kd = 4 ∧ v = .iface 77 (.complex .f64 x y)) ∨ (kd = 5 ∧ v = .iface 9 (.string s)) ∨ (kd = 6 ∧ ∃ u, v = .iface 68 u) ∨ (kd = 7 ∧ ∃ u, v = .iface 78 u) := by
  unfold Va.pl at h
  rcases h with ⟨h, hv⟩ | h | h | h | h | h | ⟨h, _, _, hv, _⟩ | ⟨h, _, _, _, hv, _⟩
  · exact .inl ⟨by omega, hv⟩
  · exact .inr (.inl h)
  · exact .inr (.inr (.inl h))
  · exact .inr (.inr (.inr (.inl h)))
  · exact .inr (.inr (.inr (.inr (.inl h))))
  · exact .inr (.inr (.inr (.inr (.inr (.inl h)))))
  · exact .inr (.inr (.inr (.inr (.inr (.inr (.inl ⟨h, _, hv⟩))))))
  · exact .inr (.inr (.inr (.inr (.inr (.inr (.inr ⟨h, _, hv⟩))))))
theorem str_beq (s t : ByteArray) : (s == t) = (s.toList == t.toList) := by
  rw [ByteArray.toList_eq, ByteArray.toList_eq, show (s == t) = (s.data == t.data) from rfl]
  apply Bool.eq_iff_iff.2
  rw [beq_iff_eq, beq_iff_eq]
  constructor
  · intro h; rw [h]
  · intro h
    exact Array.ext' h
theorem bool_beq {n m : Int} (h : n = 0 ∨ n = 1) (k : m = 0 ∨ m = 1) : ((n == 1) == (m == 1)) = (n == m) := by
  rcases h with rfl | rfl <;> rcases k with rfl | rfl <;> rfl
theorem sameV_ne {kd n kd2 n2 : Int} {x y x2 y2 : Nat} {s s2 : ByteArray} {rs rs2 : List Va} (h : kd ≠ kd2) : sameV (.mk kd n x y s rs) (.mk kd2 n2 x2 y2 s2 rs2) = 2 := by
  show (if kd ≠ kd2 then _ else _) = _
  rw [if_pos h]
set_option maxHeartbeats 2000000 in
theorem same_plain (r r2 : Va) (o1 : r.okV = true) (o2 : r2.okV = true) (v1 v2 : Value) {w w2 : World} {lo lo2 : Nat} (h1 : r.pl w lo v1) (h2 : r2.pl w2 lo2 v2) :
    (∃ b, (∀ w, (binOp .eql 20 v1 v2).run Try.prog w = .ok (.bool b) w) ∧ sameV r r2 = if b then 1 else 2) ∨ (∃ t pv, (∀ w, (binOp .eql 20 v1 v2).run Try.prog w = .halt (.panic (.iface t pv)) w) ∧ sameV r r2 = 3) := by
  obtain ⟨kd, n, x, y, s, rs⟩ := r
  obtain ⟨kd2, n2, x2, y2, s2, rs2⟩ := r2
  have k1 := okV_kd o1
  have k2 := okV_kd o2
  have p1 := pl_kind h1 k1.1
  have p2 := pl_kind h2 k2.1
  clear h1 h2 o1 o2
  by_cases hk : kd = kd2
  · subst hk
    rcases p1 with ⟨rfl, rfl⟩ | ⟨rfl, rfl⟩ | ⟨rfl, rfl⟩ | ⟨rfl, rfl⟩ | ⟨rfl, rfl⟩ | ⟨rfl, rfl⟩ | ⟨rfl, u, rfl⟩ | ⟨rfl, u, rfl⟩
    · obtain rfl : v2 = .nilIface := by rcases p2 with h | h | h | h | h | h | h | h <;> first | exact h.2 | exact absurd h.1 (by decide)
      exact .inl ⟨true, ieq_nils, rfl⟩
    · obtain rfl : v2 = .iface 4 (.bool (n2 == 1)) := by rcases p2 with h | h | h | h | h | h | h | h <;> first | exact h.2 | exact absurd h.1 (by decide)
      exact .inl ⟨_, ieq_bool _ _, by rw [bool_beq (k1.2 rfl) (k2.2 rfl)]; rfl⟩
    · obtain rfl : v2 = .iface 2 (.int .i64 n2) := by rcases p2 with h | h | h | h | h | h | h | h <;> first | exact h.2 | exact absurd h.1 (by decide)
      exact .inl ⟨_, ieq_int _ _, rfl⟩
    · obtain rfl : v2 = .iface 22 (.float .f64 x2) := by rcases p2 with h | h | h | h | h | h | h | h <;> first | exact h.2 | exact absurd h.1 (by decide)
      exact .inl ⟨_, ieq_float _ _, rfl⟩
    · obtain rfl : v2 = .iface 77 (.complex .f64 x2 y2) := by rcases p2 with h | h | h | h | h | h | h | h <;> first | exact h.2 | exact absurd h.1 (by decide)
      exact .inl ⟨_, ieq_complex _ _ _ _, rfl⟩
    · obtain rfl : v2 = .iface 9 (.string s2) := by rcases p2 with h | h | h | h | h | h | h | h <;> first | exact h.2 | exact absurd h.1 (by decide)
      exact .inl ⟨_, ieq_str _ _, by rw [str_beq]; rfl⟩
    · obtain ⟨u2, rfl⟩ : ∃ u2, v2 = .iface 68 u2 := by rcases p2 with h | h | h | h | h | h | h | h <;> first | exact h.2 | exact absurd h.1 (by decide)
      exact .inr ⟨_, _, ieq_bytes _ _, rfl⟩
    · obtain ⟨u2, rfl⟩ : ∃ u2, v2 = .iface 78 u2 := by rcases p2 with h | h | h | h | h | h | h | h <;> first | exact h.2 | exact absurd h.1 (by decide)
      exact .inr ⟨_, _, ieq_anys _ _, rfl⟩
  · refine .inl ⟨false, ?_, sameV_ne hk⟩
    rcases p1 with ⟨rfl, rfl⟩ | ⟨rfl, rfl⟩ | ⟨rfl, rfl⟩ | ⟨rfl, rfl⟩ | ⟨rfl, rfl⟩ | ⟨rfl, rfl⟩ | ⟨rfl, u, rfl⟩ | ⟨rfl, u, rfl⟩ <;> rcases p2 with ⟨rfl, rfl⟩ | ⟨rfl, rfl⟩ | ⟨rfl, rfl⟩ | ⟨rfl, rfl⟩ | ⟨rfl, rfl⟩ | ⟨rfl, rfl⟩ | ⟨rfl, u2, rfl⟩ | ⟨rfl, u2, rfl⟩ <;>
      first | exact absurd rfl hk | with_reducible exact ieq_nil1 _ _ | with_reducible exact ieq_nil2 _ _ | (with_reducible refine ieq_ne _ _ _ _ ?_; decide)
theorem same_any (r r2 : Va) (o1 : r.okV = true) (o2 : r2.okV = true) (v1 v2 : Value) {w w2 : World} {lo lo2 : Nat} (h1 : r.pl w lo v1) (h2 : r2.pl w2 lo2 v2) (W : World) : Calls Try.prog 31 #[v1, v2] W fun e w' => e = .returned (.int .i64 (sameV r r2)) ∧ Below W.heap.size W w' := by
  rcases same_plain r r2 o1 o2 v1 v2 h1 h2 with ⟨b, hb, hs⟩ | ⟨t, pv, hb, hs⟩
  · rw [hs]; exact compared_ok v1 v2 b (Va.pl_form h1) (Va.pl_form h2) hb W
  · rw [hs]; exact compared_panic v1 v2 t pv (Va.pl_form h1) (Va.pl_form h2) hb W
/-- Two boxes. -/
def Two (B : Nat) (A C : Array Value) (W : World) : Prop := (∀ j, W.cell? ⟨B, j, none⟩ = A[j]?) ∧ (∀ j, W.cell? ⟨B + 1, j, none⟩ = C[j]?) ∧ B + 1 < W.heap.size
theorem two_below {B : Nat} {A C : Array Value} {W W' : World} (h : Two B A C W) (hb : Below W.heap.size W W') : Two B A C W' :=
  ⟨fun j => (hb.cell (p := ⟨B, j, none⟩) (by have := h.2.2; show B < _; omega)).trans (h.1 j), fun j => (hb.cell (p := ⟨B + 1, j, none⟩) (by have := h.2.2; show B + 1 < _; omega)).trans (h.2.1 j), Nat.lt_of_lt_of_le h.2.2 hb.size⟩
theorem two_of (w : World) (A C : Array Value) : Two w.heap.size A C ((w.alloc (.cells A 25)).alloc (.cells C 25)) := ⟨box_all (two1 w _ _), box_all (two2 w _ _), by simp⟩
set_option maxRecDepth 100000 in
set_option maxHeartbeats 2000000 in
theorem Same_any (r r2 : Va) (c c2 : List Value) (F F2 : List Nat) (w : World) (hr : r.tr.own 6 w c F) (hr2 : r2.tr.own 6 w c2 F2) (hwf : r.wf) (hwf2 : r2.wf) :
    Calls Try.prog 18 #[.agg c.toArray, .agg c2.toArray] w (PairIs (if r.okV && r2.okV then sameV r r2 else 0) (if r.okV && r2.okV then 0 else 20) w) := by
  obtain ⟨v0, v1, v2, v3, v4, v5, rfl⟩ := Va.shape hr
  obtain ⟨x0, x1, x2, x3, x4, x5, rfl⟩ := Va.shape hr2
  have HR : Hid (∀ W, Below w.heap.size w W → r.tr.own 6 W [v0, v1, v2, v3, v4, v5] F) := fun W hW => Tr.own_below hr hW
  have HR2 : Hid (∀ W, Below w.heap.size w W → r2.tr.own 6 W [x0, x1, x2, x3, x4, x5] F2) := fun W hW => Tr.own_below hr2 hW
  have HB := Lib.hid (bb2 w (.cells #[v0, v1, v2, v3, v4, v5] 25) (.cells #[x0, x1, x2, x3, x4, x5] 25))
  have HW := Lib.hid (And.intro hwf hwf2)
  clear hr hr2 hwf hwf2
  cases ho : (r.okV && r2.okV)
  · have HO : Hid ((if (r.okV && r2.okV) = true then (0 : Int) else 20) = 20) := by show _ = _; rw [ho]; rfl
    go_enter Try.func18, Try.ntmps18
    go_wp2_with (go_at_call 30; (with_reducible refine (both_any r r2 [v0, v1, v2, v3, v4, v5] [x0, x1, x2, x3, x4, x5] F F2 _ (HR.out _ HB.out) (HR2.out _ HB.out) HW.out.1 HW.out.2).mono ?_); rintro e w1 ⟨rfl, hb1⟩; rw [HO.out])
    refine bodyPost_ret (results_tmp2 rfl _ _ _) rfl ?_
    exact ⟨rfl, bthen HB.out hb1⟩
  · have HO : Hid ((if (r.okV && r2.okV) = true then (0 : Int) else 20) = 0) := by show _ = _; rw [ho]; rfl
    have h12 : r.okV = true ∧ r2.okV = true := by simpa using ho
    have O := Lib.hid h12
    have HS := Lib.hid (And.intro (Va.ok_sm h12.1) (Va.ok_sm h12.2))
    clear h12 ho
    go_enter Try.func18, Try.ntmps18
    go_wp2_with (go_at_call 30; (with_reducible refine (both_any r r2 [v0, v1, v2, v3, v4, v5] [x0, x1, x2, x3, x4, x5] F F2 _ (HR.out _ HB.out) (HR2.out _ HB.out) HW.out.1 HW.out.2).mono ?_); rintro e w1 ⟨rfl, hb1⟩; rw [HO.out]; have HT := Lib.hid (two_below (two_of w #[v0, v1, v2, v3, v4, v5] #[x0, x1, x2, x3, x4, x5]) hb1); have HB0 := Lib.hid (bthen HB.out hb1); clear hb1)
    refine start_ (n := 7) (S := Two w.heap.size #[v0, v1, v2, v3, v4, v5] #[x0, x1, x2, x3, x4, x5]) (ds := []) #[false, false, false, false, false, false, false] (by kernel_rfl) rfl rfl (show Two _ _ _ w1.drew from HT.out) (fun hHeld => ?_)
    have HB1 := Lib.hid (show Below w.heap.size w w1.drew from HB0.out.drew)
    generalize World.drew _ = wd at hHeld HB1 ⊢
    refine take_ (i := 0) (N := some 13) (v := ?_) (a' := ?_) #[true, false, false, false, false, false, false] rfl rfl (by kernel_rfl) (fun _ _ _ h => h) (Or.inl ⟨by rfl, ?_⟩) hHeld ?_ ?_
    rotate_left
    · rintro w' ⟨s0, s1, s2⟩
      go_simp
      with_reducible rfl
    rotate_left
    · simp only [Act.put, List.setIfInBounds_toArray, List.set_cons_zero, List.set_cons_succ, i64_w, i32_w]
      rfl
    refine take_ (i := 2) (N := some 15) (v := ?_) (a' := ?_) #[true, false, true, false, false, false, false] rfl rfl (by kernel_rfl) (fun _ _ _ h => h) (Or.inl ⟨by rfl, ?_⟩) hHeld ?_ ?_
    rotate_left
    · rintro w' ⟨s0, s1, s2⟩
      go_simp
      with_reducible rfl
    rotate_left
    · simp only [Act.put, List.setIfInBounds_toArray, List.set_cons_zero, List.set_cons_succ, i64_w, i32_w]
      rfl
    refine one_ (i := 1) (N := some 14) #[true, true, true, false, false, false, false] rfl rfl (by kernel_rfl) (by decide) (fun K hK => ?_)
    refine goes_ Try.func32 (by kernel_rfl) (by kernel_rfl) #[.agg #[v0, v1, v2, v3, v4, v5]] (by rfl) rfl rfl (by (try simp only [List.map_toArray, List.map_cons, List.map_nil]); first | done | rfl) ?_
    refine (plain_N _ r (Nat.le_refl _) HS.out.1 [v0, v1, v2, v3, v4, v5] F _ (HR.out _ HB1.out)).mono ?_
    rintro e w2 ⟨p1, rfl, hp1, hb⟩
    have HB2 := Lib.hid (bthen HB1.out hb)
    have HP1 := Lib.hid hp1
    clear hp1
    have hHeld2 := two_below hHeld hb
    clear hb hHeld
    refine ⟨_, rfl, ?_⟩
    refine hK.out _ _ hHeld2 (fun hHeld => ?_)
    clear hK K hHeld2
    refine norm_ (a' := ?_) ?_ ?_
    rotate_left
    · show Act.put _ (some 14) _ = _
      simp only [Act.put, List.setIfInBounds_toArray, List.set_cons_zero, List.set_cons_succ, i64_w, i32_w]
      rfl
    refine one_ (i := 3) (N := some 16) #[true, true, true, true, false, false, false] rfl rfl (by kernel_rfl) (by decide) (fun K hK => ?_)
    refine goes_ Try.func32 (by kernel_rfl) (by kernel_rfl) #[.agg #[x0, x1, x2, x3, x4, x5]] (by rfl) rfl rfl (by (try simp only [List.map_toArray, List.map_cons, List.map_nil]); first | done | rfl) ?_
    refine (plain_N _ r2 (Nat.le_refl _) HS.out.2 [x0, x1, x2, x3, x4, x5] F2 _ (HR2.out _ HB2.out)).mono ?_
    rintro e w3 ⟨p2, rfl, hp2, hb⟩
    have HB3 := Lib.hid (bthen HB2.out hb)
    have HP2 := Lib.hid hp2
    clear hp2
    have hHeld2 := two_below hHeld hb
    clear hb hHeld
    refine ⟨_, rfl, ?_⟩
    refine hK.out _ _ hHeld2 (fun hHeld => ?_)
    clear hK K hHeld2
    refine norm_ (a' := ?_) ?_ ?_
    rotate_left
    · show Act.put _ (some 16) _ = _
      simp only [Act.put, List.setIfInBounds_toArray, List.set_cons_zero, List.set_cons_succ, i64_w, i32_w]
      rfl
    refine one_ (i := 4) (N := some 17) #[true, true, true, true, true, false, false] rfl rfl (by kernel_rfl) (by decide) (fun K hK => ?_)
    refine goes_ Try.func31 (by kernel_rfl) (by kernel_rfl) #[p1, p2] (by rfl) rfl rfl (by (try simp only [List.map_toArray, List.map_cons, List.map_nil]); first | done | rfl) ?_
    refine (same_any r r2 O.out.1 O.out.2 p1 p2 HP1.out HP2.out _).mono ?_
    rintro e w4 ⟨rfl, hb⟩
    have HB4 := Lib.hid (bthen HB3.out hb)
    have hHeld2 := two_below hHeld hb
    clear hb hHeld
    refine ⟨_, rfl, ?_⟩
    refine hK.out _ _ hHeld2 (fun hHeld => ?_)
    clear hK K hHeld2
    refine norm_ (a' := ?_) ?_ ?_
    rotate_left
    · show Act.put _ (some 17) _ = _
      simp only [Act.put, List.setIfInBounds_toArray, List.set_cons_zero, List.set_cons_succ, i64_w, i32_w]
      rfl
    refine pure_ (i := 5) (N := some 4) (v := ?_) (a' := ?_) #[true, true, true, true, true, true, false] rfl rfl (by kernel_rfl) (fun _ _ _ h => h) (Or.inl ⟨by rfl, ?_⟩) ?_ ?_
    rotate_left
    · intro w'
      go_simp
      with_reducible rfl
    rotate_left
    · simp only [Act.put, List.setIfInBounds_toArray, List.set_cons_zero, List.set_cons_succ, i64_w, i32_w]
      rfl
    refine pure_ (i := 6) (N := some 5) (v := ?_) (a' := ?_) #[true, true, true, true, true, true, true] rfl rfl (by kernel_rfl) (fun _ _ _ h => h) (Or.inl ⟨by rfl, ?_⟩) ?_ ?_
    rotate_left
    · intro w'
      go_simp
      with_reducible rfl
    rotate_left
    · simp only [Act.put, List.setIfInBounds_toArray, List.set_cons_zero, List.set_cons_succ, i64_w, i32_w]
      rfl
    refine done_ (by kernel_rfl) ?_
    go_wp2_with fail
    refine bodyPost_ret (results_tmp2 rfl _ _ _) rfl ?_
    exact ⟨rfl, HB4.out⟩
end Go.Proofs.Ytaglklcjolcgeaa
namespace Go.Proofs.Ytaglklcjolcgeaa
open Go.RowKit
set_option linter.unusedVariables false
set_option linter.unusedSimpArgs false
attribute [local go_sem] run_store_float
theorem info_tV : (Try.prog.info? 25).map (fun i => (i.zero, i.size, i.bytes)) = some (some (.agg #[.int .u8 0, .int .i64 0, .float .f64 0, .float .f64 0, .string ⟨#[]⟩, .slice none 0 0]), 6, 72) := by kernel_rfl
def zero6 : Array Value := #[.int .u8 0, .int .i64 0, .float .f64 0, .float .f64 0, .string ⟨#[]⟩, .slice none 0 0]
theorem mark_any (k : Nat) (hk : k ≤ 1000) (w : World) : Calls Try.prog 15 #[.int .i64 k] w fun e w' => e = .returned (.agg #[.int .u8 2, .int .i64 (900 + (k : Int)), .float .f64 0, .float .f64 0, .string ⟨#[]⟩, .slice none 0 0]) ∧ Below w.heap.size w w' := by
  go_enter Try.func15, Try.ntmps15
  go_wp2_with fail
  refine bodyPost_ret (v := .agg #[.int .u8 2, .int .i64 (900 + (k : Int)), .float .f64 0, .float .f64 0, .string ⟨#[]⟩, .slice none 0 0]) (results_cell_row rfl _ _ w.heap.size 25 _ (0, 0) _ rfl (heap_alloc_new w _) Try.underlying25 rfl (by kernel_rfl)) rfl ?_
  exact ⟨rfl, bnew (Below.refl _ _) _⟩
theorem mark_own (k : Nat) (w : World) : (markV k).tr.own 6 w [.int .u8 2, .int .i64 (900 + (k : Int)), .float .f64 0, .float .f64 0, .string ⟨#[]⟩, .slice none 0 0] [] := by
  unfold markV Va.tr Tr.own
  refine ⟨none, 0, 0, rfl, rfl, by simp [Value.oneCell'], ⟨rfl, Nat.le_refl _⟩, Nat.le_refl _, by omega, .inl ⟨rfl, rfl⟩⟩
/-- What 'twin' gives. -/
def TwinIs (r : Va) (c : List Value) (w : World) (e : Ending) (w' : World) : Prop := (r.okV = false ∧ e = .returned (.agg c.toArray) ∧ Below w.heap.size w w') ∨ (r.okV = true ∧ GivesR r w e w')
/-- The end of 'twin' and 'lent': what the boxes hold. -/
theorem end_box {wr : World} {B : Nat} {hd : List Value} {v u : Value} {z : Array Value} {e : TypeId} (h0 : wr.heap[B]? = some (.cells (hd ++ [v]).toArray e (0, 0))) (h1 : wr.heap[B + 1]? = some (.cells z e (0, 0))) (m : Nat) (hm : hd.length = m) :
    (wr.setCell ⟨B, m, none⟩ u).heap[B]? = some (.cells (hd ++ [u]).toArray e (0, 0)) ∧ (wr.setCell ⟨B, m, none⟩ u).heap[B + 1]? = some (.cells z e (0, 0)) := by
  subst hm
  refine ⟨?_, (Below.heap_setCell _ _ _ _ (by show B + 1 ≠ B; omega)).trans h1⟩
  have := Joins.block_setCell (i := hd.length) h0 u
  rw [this]
  simp
theorem end_other {wr : World} {B m : Nat} {u : Value} {cs : Array Value} (i : Nat) (h1 : i ≠ B) (h2 : i ≠ B + 1) : ((wr.setCell ⟨B, m, none⟩ u).setRow (B + 1) cs).heap[i]? = wr.heap[i]? :=
  (setRow_other _ _ _ _ h2).trans (Below.heap_setCell _ _ _ _ h1)
theorem end_below {w wr : World} {m : Nat} {u : Value} {cs : Array Value} (hb : Below w.heap.size w wr) : Below w.heap.size w ((wr.setCell ⟨w.heap.size, m, none⟩ u).setRow (w.heap.size + 1) cs) :=
  ⟨hb.os, hb.tape, hb.output, by simpa [World.setCell] using hb.size, fun i hi => (end_other i (by omega) (by omega)).trans (hb.block i hi)⟩
set_option maxRecDepth 100000 in
set_option maxHeartbeats 2000000 in
theorem twin_N (N : Nat) : ∀ (r : Va) (_ : r.size ≤ N) (c : List Value) (F : List Nat) (w : World) (_ : r.tr.own 6 w c F),
    Calls Try.prog 9 #[.agg c.toArray] w (TwinIs r c w) := by
  induction N with
  | zero => intro r hN; have := r.size_pos; omega
  | succ N ih =>
  intro r hN c F w hr
  have HR := Lib.hid (fun A B => Tr.own_below hr (bb2 w A B))
  have hok := fun h => Va.ok_kid (kd := r.kd) (n := 0) (x := 0) (y := 0) (s := ⟨#[]⟩) (rs := []) h
  clear hok
  obtain ⟨kd, n, x, y, s, rs⟩ := r
  obtain ⟨a, cap, rfl, hcap, hcap', hc⟩ := Va.open hr
  clear hr
  cases ho : (Va.mk kd n x y s rs).okV
  · have HO := Lib.hid ho
    clear ho
    go_enter Try.func9, Try.ntmps9
    go_wp2_with (first | (go_at_call 14; (with_reducible refine (rCheck_any (Va.mk kd n x y s rs) [.int .u8 kd, .int .i64 n, .float .f64 x, .float .f64 y, .string s, .slice a rs.length cap] F _ (HR.out _ _)).mono ?_); rintro e w1 ⟨rfl, hb1⟩; rw [bad_ite HO.out]; have j1 := box_keep (two1 w _ _) hb1; have HB1 := Lib.hid (hb1.block (w.heap.size + 1) (by simp)); have HB2 := Lib.hid hb1; clear hb1) | (refine wpList_store_rowTo (by rfl) 25 _ _ (by rfl) (by rfl) (w.heap.size + 1) #[.int .u8 kd, .int .i64 n, .float .f64 x, .float .f64 y, .string s, .slice a rs.length cap] (by rfl) (by rfl) 25 zero6 (HB1.out.trans (two2 w _ _)) (by kernel_rfl) (by kernel_rfl) (all_oneCell_toArray (cs := [.int .u8 kd, .int .i64 n, .float .f64 x, .float .f64 y, .string s, .slice a rs.length cap]) (by simp [Value.oneCell'])) ?_))
    refine bodyPost_ret (v := .agg #[.int .u8 kd, .int .i64 n, .float .f64 x, .float .f64 y, .string s, .slice a rs.length cap]) (results_cell_row rfl _ _ (w.heap.size + 1) 25 _ (0, 0) _ rfl (setRow_heap _ _ _ _ _ _ (HB1.out.trans (two2 w _ _))) Try.underlying25 rfl (by kernel_rfl)) rfl ?_
    exact .inl ⟨HO.out, rfl, (bthen (bb2 w _ _) HB2.out).trans ⟨rfl, rfl, rfl, by simp, fun i hi => setRow_other _ _ _ _ (by omega)⟩⟩
  have HO := Lib.hid ho
  have HOK := Lib.hid (fun k hk => Va.ok_kid ho k hk)
  have hsz := Va.ok_size ho
  clear ho
  unfold Va.size at hN hsz
  have hlen := Va.sizes_len rs
  have IH := Lib.hid ih
  clear ih
  obtain ⟨i0, hi0, hz0, hz1, hz2⟩ := info_parts info_tV
  go_enter Try.func9, Try.ntmps9
  go_wp2_with (go_at_call 14; (with_reducible refine (rCheck_any (Va.mk kd n x y s rs) [.int .u8 kd, .int .i64 n, .float .f64 x, .float .f64 y, .string s, .slice a rs.length cap] F _ (HR.out _ _)).mono ?_); rintro e w1 ⟨rfl, hb1⟩; rw [ok_ite HO.out]; have HB0 := Lib.hid (hb1.block w.heap.size (by simp; omega)); have HB1 := Lib.hid (hb1.block (w.heap.size + 1) (by simp)); have HB2 := Lib.hid hb1; clear hb1)
  go_loopw [3, 4] (fun u3 u4 wr => ∃ (k : Nat) (v : Value) (xs : List Value) (G : List Nat), k ≤ rs.length ∧ u4 = .int .i64 k ∧ u3 = v ∧ Hid (Kids 6 25 (w.heap.size + 2) wr v (Va.trs (rs.take k)) xs G) ∧ Below w.heap.size w wr ∧ w.heap.size + 2 ≤ wr.heap.size ∧
      wr.cell? ⟨w.heap.size, 5, none⟩ = some (.slice a rs.length cap) ∧
      Hid (wr.heap[w.heap.size]? = some (.cells #[.int .u8 kd, .int .i64 n, .float .f64 x, .float .f64 y, .string s, .slice a rs.length cap] 25 (0, 0))) ∧ Hid (wr.heap[w.heap.size + 1]? = some (.cells zero6 25 (0, 0)))) (fun _ u4 _ => rs.length - (intOf u4).toNat)
  case atStart =>
    have hs := HB2.out.size
    have h0 := HB0.out.trans (two1 w _ _)
    exact ⟨0, .slice none 0 0, [], [], by omega, rfl, rfl, Lib.hid (by simpa [Va.trs] using Kids.nil 6 25 _ _), bthen (bb2 w _ _) HB2.out, by simp at hs; omega, (box_all h0 5).trans rfl, h0, HB1.out.trans (two2 w _ _)⟩
  case round =>
    clear HB0 HB1 HB2
    obtain ⟨k, v, xs, G, hk, rfl, rfl, HK, hb, hz, hcell, HE0, HE1⟩ := hrel
    by_cases hlt : k < rs.length
    · rcases hc with ⟨h0, _⟩ | ⟨_, b, o, cs, F', rfl, rfl, hra, hkl⟩
      · omega
      have hbl : b < w.heap.size := rangeAt_lt hra (by rw [Tr.ownL_len hkl, Va.trs_len]; omega)
      have hkl' := Tr.ownL_same _ _ _ (fun i hi => hb.block i (Tr.ownL_lt _ _ _ hkl i hi)) hkl
      obtain ⟨v0, v1, v2, v3, v4, v5, Fa, F1, Fb, hF, hkid, c0, c1, c2, c3, c4, c5⟩ := Va.kid k hlt hkl' (rangeAt_of_block hra (hb.block b hbl))
      have HKID := Lib.hid hkid
      have HS := Va.sizes_at rs k hlt
      have hri : (0:Int) ≤ (k:Int) := by omega
      have hri2 : (k:Int) < (rs.length:Int) := by omega
      clear hra hkl hkl' hF hkid
      go_wp2_with (first | (go_at_call 9; refine (IH.out rs[k] (by omega) [v0, v1, v2, v3, v4, v5] F1 _ HKID.out).mono ?_; rintro e w1 (⟨hno, _⟩ | ⟨_, x0, x1, x2, x3, x4, x5, G1, rfl, hown1, hap1, hso1, hb1⟩); (have hh := HOK.out k hlt; rw [hh] at hno; cases hno); have H1 := Lib.hid (And.intro hown1 (And.intro hap1 (And.intro hso1 hb1))); clear hown1 hap1 hso1 hb1) | (refine wpList_push (wr := wr) (w1 := w1) (by rfl) _ _ _ (by rfl) (w.heap.size + 2) 25 i0 _ 6 72 Try.underlying23 hi0 hz0 hz1 hz2 rfl (by omega) _ _ xs G (by rfl) HK.out (by simpa using hz) H1.out.2.2.2 rs[k].tr [x0, x1, x2, x3, x4, x5] G1 H1.out.1 H1.out.2.1 H1.out.2.2.1 (by rfl) (by rw [Va.trs_len, List.length_take]; omega) (by omega) ?_; intro g3 cap3 w3 hk3 hg3 hbg hlt3))
      go_roundw
      case rel =>
        have hs1 := H1.out.2.2.2.size
        have hs3 := hg3.size
        have hblk : ∀ i, i < w.heap.size + 2 → w3.heap[i]? = wr.heap[i]? := fun i hi => (far_block hg3 HK.out.block i hi (by omega)).trans (H1.out.2.2.2.block i (by omega))
        refine ⟨k + 1, _, xs ++ [x0, x1, x2, x3, x4, x5], G ++ G1, by omega, by go_num, rfl, ?_, ?_, by omega, (World.cell?_of_block (w := wr) (a := ⟨w.heap.size, 5, none⟩) (hblk w.heap.size (by omega))).trans hcell, (hblk _ (by omega)).trans HE0.out, (hblk _ (by omega)).trans HE1.out⟩
        · rw [Va.trs_take rs k hlt]
          exact hk3
        · exact hb.trans ⟨hg3.os.trans H1.out.2.2.2.os, hg3.tape.trans H1.out.2.2.2.tape, hg3.output.trans H1.out.2.2.2.output, by omega, fun i hi => hblk i (by omega)⟩
      case measure => simp [intOf]; omega
    · obtain rfl : k = rs.length := by omega
      have hkids := HK.out
      rw [List.take_length] at hkids
      obtain ⟨A, cap2, hv⟩ := hkids.slice
      rw [hv] at hkids
      obtain ⟨GF, hnode, hap, hsoft⟩ := hkids.nodeV (vis := rs.length) (by rw [Va.trs_len]; omega) [.int .u8 kd, .int .i64 n, .float .f64 x, .float .f64 y, .string s] rfl (by simp [Value.oneCell'])
      have hbox := end_box (hd := [.int .u8 kd, .int .i64 n, .float .f64 x, .float .f64 y, .string s]) (u := .slice A rs.length cap2) HE0.out HE1.out 5 rfl
      have HBX := Lib.hid hbox
      have HN := Lib.hid (And.intro hnode (And.intro hap hsoft))
      have hfz : wr.frozen? ⟨w.heap.size, 5, none⟩ = false := by simp [World.frozen?, HE0.out]
      rw [Va.trs_len] at hv
      subst hv
      clear hnode hap hsoft hkids hbox
      go_wp2_with (first | (refine wpList_load_row (by rfl) 25 _ (by rfl) w.heap.size (by rfl) 25 _ (0, 0) _ HBX.out.1 Try.underlying25 rfl (by kernel_rfl) ?_) | (refine wpList_store_rowTo (by rfl) 25 _ _ (by rfl) (by rfl) (w.heap.size + 1) #[.int .u8 kd, .int .i64 n, .float .f64 x, .float .f64 y, .string s, .slice A rs.length cap2] (by rfl) (by rfl) 25 zero6 HBX.out.2 (by kernel_rfl) (by kernel_rfl) (all_oneCell_toArray (cs := [.int .u8 kd, .int .i64 n, .float .f64 x, .float .f64 y, .string s, .slice A rs.length cap2]) (by simp [Value.oneCell'])) ?_))
      refine bodyPost_ret (v := .agg #[.int .u8 kd, .int .i64 n, .float .f64 x, .float .f64 y, .string s, .slice A rs.length cap2]) (results_cell_row rfl _ _ (w.heap.size + 1) 25 _ (0, 0) _ rfl (setRow_heap _ _ _ _ _ _ HBX.out.2) Try.underlying25 rfl (by kernel_rfl)) rfl ?_
      obtain ⟨h1, h2, h3⟩ := HN.out
      refine .inr ⟨HO.out, _, _, _, _, _, _, GF, rfl, ?_, h2.mono (by omega), h3.same fun i hi => ?_, end_below hb⟩
      · unfold Va.tr
        exact Tr.own_same _ _ _ (fun i hi => by have := h2.2 i hi; exact end_other i (by omega) (by omega)) h1
      · have := h2.2 i hi
        exact end_other i (by omega) (by omega)
end Go.Proofs.Ytaglklcjolcgeaa
namespace Go.Proofs.Ytaglklcjolcgeaa
open Go.RowKit
set_option linter.unusedVariables false
set_option linter.unusedSimpArgs false
attribute [local go_sem] run_store_float
/-- What 'lent' gives. -/
def GivesL (r : Va) (w : World) (e : Ending) (w' : World) : Prop := ∃ v0 v1 v2 v3 v4 v5 F, e = .returned (.agg #[v0, v1, v2, v3, v4, v5]) ∧ r.ltr.own 6 w' [v0, v1, v2, v3, v4, v5] F ∧ Apart w.heap.size F ∧ Soft w' F ∧ Below w.heap.size w w'
def LentIs (r : Va) (c : List Value) (w : World) (e : Ending) (w' : World) : Prop := (r.okV = false ∧ e = .returned (.agg c.toArray) ∧ Below w.heap.size w w') ∨ (r.okV = true ∧ GivesL r w e w')
theorem ltr_nil (kd n : Int) (x y : Nat) (s : ByteArray) : (Va.mk kd n x y s []).ltr = (Va.mk kd n x y s []).tr := by simp [Va.ltr, Va.tr, Va.trs]
theorem marks_take (m : Nat) : Va.trs (marks (m + 1)) = Va.trs (marks m) ++ [(markV m).tr] := by
  rw [marks_succ, Va.trs_eq, Va.trs_eq, List.map_append]
  rfl
set_option maxRecDepth 100000 in
set_option maxHeartbeats 2000000 in
theorem lent_N (N : Nat) : ∀ (r : Va) (_ : r.size ≤ N) (c : List Value) (F : List Nat) (w : World) (_ : r.tr.own 6 w c F),
    Calls Try.prog 5 #[.agg c.toArray] w (LentIs r c w) := by
  induction N with
  | zero => intro r hN; have := r.size_pos; omega
  | succ N ih =>
  intro r hN c F w hr
  have HR := Lib.hid (fun A B => Tr.own_below hr (bb2 w A B))
  have HR0 := Lib.hid hr
  have hok := fun h => Va.ok_kid (kd := r.kd) (n := 0) (x := 0) (y := 0) (s := ⟨#[]⟩) (rs := []) h
  clear hok
  obtain ⟨kd, n, x, y, s, rs⟩ := r
  obtain ⟨a, cap, rfl, hcap, hcap', hc⟩ := Va.open hr
  clear hr
  cases ho : (Va.mk kd n x y s rs).okV
  · have HO := Lib.hid ho
    clear ho
    go_enter Try.func5, Try.ntmps5
    go_wp2_with (first | (go_at_call 14; (with_reducible refine (rCheck_any (Va.mk kd n x y s rs) [.int .u8 kd, .int .i64 n, .float .f64 x, .float .f64 y, .string s, .slice a rs.length cap] F _ (HR.out _ _)).mono ?_); rintro e w1 ⟨rfl, hb1⟩; rw [bad_ite HO.out]; have j1 := box_keep (two1 w _ _) hb1; have HB1 := Lib.hid (hb1.block (w.heap.size + 1) (by simp)); have HB2 := Lib.hid hb1; clear hb1) | (refine wpList_store_rowTo (by rfl) 25 _ _ (by rfl) (by rfl) (w.heap.size + 1) #[.int .u8 kd, .int .i64 n, .float .f64 x, .float .f64 y, .string s, .slice a rs.length cap] (by rfl) (by rfl) 25 zero6 (HB1.out.trans (two2 w _ _)) (by kernel_rfl) (by kernel_rfl) (all_oneCell_toArray (cs := [.int .u8 kd, .int .i64 n, .float .f64 x, .float .f64 y, .string s, .slice a rs.length cap]) (by simp [Value.oneCell'])) ?_))
    refine bodyPost_ret (v := .agg #[.int .u8 kd, .int .i64 n, .float .f64 x, .float .f64 y, .string s, .slice a rs.length cap]) (results_cell_row rfl _ _ (w.heap.size + 1) 25 _ (0, 0) _ rfl (setRow_heap _ _ _ _ _ _ (HB1.out.trans (two2 w _ _))) Try.underlying25 rfl (by kernel_rfl)) rfl ?_
    exact .inl ⟨HO.out, rfl, (bthen (bb2 w _ _) HB2.out).trans ⟨rfl, rfl, rfl, by simp, fun i hi => setRow_other _ _ _ _ (by omega)⟩⟩
  by_cases hemp : rs.length = 0
  · have HO := Lib.hid ho
    have hi : ((rs.length : Int) == 0) = true := by rw [hemp]; rfl
    have HEM := Lib.hid hemp
    have HRR : Hid (∀ W, Below w.heap.size w W → F = [] ∧ (Va.mk kd n x y s rs).ltr.own 6 W [.int .u8 kd, .int .i64 n, .float .f64 x, .float .f64 y, .string s, .slice a rs.length cap] []) := fun W hW => by
      have h1 := Tr.own_below HR0.out hW
      obtain rfl := List.eq_nil_of_length_eq_zero HEM.out
      have h2 : F = [] := by
        rcases hc with h | h
        · exact h.2
        · have := h.1; simp at this
      rw [ltr_nil]
      rw [h2] at h1
      exact ⟨h2, h1⟩
    clear ho hemp
    go_enter Try.func5, Try.ntmps5
    go_wp2_with (first | (go_at_call 14; (with_reducible refine (rCheck_any (Va.mk kd n x y s rs) [.int .u8 kd, .int .i64 n, .float .f64 x, .float .f64 y, .string s, .slice a rs.length cap] F _ (HR.out _ _)).mono ?_); rintro e w1 ⟨rfl, hb1⟩; rw [ok_ite HO.out]; have j1 := box_keep (two1 w _ _) hb1; have HB1 := Lib.hid (hb1.block (w.heap.size + 1) (by simp)); have HB2 := Lib.hid hb1; clear hb1) | (refine wpList_store_rowTo (by rfl) 25 _ _ (by rfl) (by rfl) (w.heap.size + 1) #[.int .u8 kd, .int .i64 n, .float .f64 x, .float .f64 y, .string s, .slice a rs.length cap] (by rfl) (by rfl) 25 zero6 (HB1.out.trans (two2 w _ _)) (by kernel_rfl) (by kernel_rfl) (all_oneCell_toArray (cs := [.int .u8 kd, .int .i64 n, .float .f64 x, .float .f64 y, .string s, .slice a rs.length cap]) (by simp [Value.oneCell'])) ?_))
    refine bodyPost_ret (v := .agg #[.int .u8 kd, .int .i64 n, .float .f64 x, .float .f64 y, .string s, .slice a rs.length cap]) (results_cell_row rfl _ _ (w.heap.size + 1) 25 _ (0, 0) _ rfl (setRow_heap _ _ _ _ _ _ (HB1.out.trans (two2 w _ _))) Try.underlying25 rfl (by kernel_rfl)) rfl ?_
    have hbe : Below w.heap.size w (w1.setRow (w.heap.size + 1) #[.int .u8 kd, .int .i64 n, .float .f64 x, .float .f64 y, .string s, .slice a rs.length cap]) := (bthen (bb2 w _ _) HB2.out).trans ⟨rfl, rfl, rfl, by simp, fun i hi => setRow_other _ _ _ _ (by omega)⟩
    exact .inr ⟨HO.out, _, _, _, _, _, _, [], rfl, (HRR.out _ hbe).2, Apart.nil _, Soft.nil _, hbe⟩
  have hemi : ((rs.length : Int) == 0) = false := beq_eq_false_iff_ne.2 (by omega)
  have HO := Lib.hid ho
  have HOK := Lib.hid (fun k hk => Va.ok_kid ho k hk)
  have hsz := Va.ok_size ho
  clear ho
  unfold Va.size at hN hsz
  have hlen := Va.sizes_len rs
  have IH := Lib.hid ih
  clear ih
  obtain ⟨i0, hi0, hz0, hz1, hz2⟩ := info_parts info_tV
  go_enter Try.func5, Try.ntmps5
  go_wp2_with (go_at_call 14; (with_reducible refine (rCheck_any (Va.mk kd n x y s rs) [.int .u8 kd, .int .i64 n, .float .f64 x, .float .f64 y, .string s, .slice a rs.length cap] F _ (HR.out _ _)).mono ?_); rintro e w1 ⟨rfl, hb1⟩; rw [ok_ite HO.out]; have j5 : w1.cell? ⟨w.heap.size, 5, none⟩ = some (.slice a rs.length cap) := (box_keep (two1 w _ _) hb1 5).trans rfl; have HB0 := Lib.hid (hb1.block w.heap.size (by simp; omega)); have HB1 := Lib.hid (hb1.block (w.heap.size + 1) (by simp)); have HB2 := Lib.hid hb1; clear hb1)
  go_loopw [3, 4] (fun u3 u4 wr => ∃ (k : Nat) (v : Value) (xs : List Value) (G : List Nat), k ≤ rs.length ∧ u4 = .int .i64 k ∧ u3 = v ∧ Hid (Kids 6 25 (w.heap.size + 2) wr v (Va.ltrs (rs.take k)) xs G) ∧ Below w.heap.size w wr ∧ w.heap.size + 2 ≤ wr.heap.size ∧
      wr.cell? ⟨w.heap.size, 5, none⟩ = some (.slice a rs.length cap) ∧
      Hid (wr.heap[w.heap.size]? = some (.cells #[.int .u8 kd, .int .i64 n, .float .f64 x, .float .f64 y, .string s, .slice a rs.length cap] 25 (0, 0))) ∧ Hid (wr.heap[w.heap.size + 1]? = some (.cells zero6 25 (0, 0)))) (fun _ u4 _ => rs.length - (intOf u4).toNat)
  case atStart =>
    have hs := HB2.out.size
    have h0 := HB0.out.trans (two1 w _ _)
    exact ⟨0, .slice none 0 0, [], [], by omega, rfl, rfl, Lib.hid (by simpa [Va.ltrs] using Kids.nil 6 25 _ _), bthen (bb2 w _ _) HB2.out, by simp at hs; omega, (box_all h0 5).trans rfl, h0, HB1.out.trans (two2 w _ _)⟩
  case round =>
    clear HB0 HB1 HB2 j5
    obtain ⟨k, v, xs, G, hk, rfl, rfl, HK, hb, hz, hcell, HE0, HE1⟩ := hrel
    by_cases hlt : k < rs.length
    · rcases hc with ⟨h0, _⟩ | ⟨_, b, o, cs, F', rfl, rfl, hra, hkl⟩
      · omega
      have hbl : b < w.heap.size := rangeAt_lt hra (by rw [Tr.ownL_len hkl, Va.trs_len]; omega)
      have hkl' := Tr.ownL_same _ _ _ (fun i hi => hb.block i (Tr.ownL_lt _ _ _ hkl i hi)) hkl
      obtain ⟨v0, v1, v2, v3, v4, v5, Fa, F1, Fb, hF, hkid, c0, c1, c2, c3, c4, c5⟩ := Va.kid k hlt hkl' (rangeAt_of_block hra (hb.block b hbl))
      have HKID := Lib.hid hkid
      have HS := Va.sizes_at rs k hlt
      have hri : (0:Int) ≤ (k:Int) := by omega
      have hri2 : (k:Int) < (rs.length:Int) := by omega
      clear hra hkl hkl' hF hkid
      go_wp2_with (first | (go_at_call 5; refine (IH.out rs[k] (by omega) [v0, v1, v2, v3, v4, v5] F1 _ HKID.out).mono ?_; rintro e w1 (⟨hno, _⟩ | ⟨_, x0, x1, x2, x3, x4, x5, G1, rfl, hown1, hap1, hso1, hb1⟩); (have hh := HOK.out k hlt; rw [hh] at hno; cases hno); have H1 := Lib.hid (And.intro hown1 (And.intro hap1 (And.intro hso1 hb1))); clear hown1 hap1 hso1 hb1) | (refine wpList_push (wr := wr) (w1 := w1) (by rfl) _ _ _ (by rfl) (w.heap.size + 2) 25 i0 _ 6 72 Try.underlying23 hi0 hz0 hz1 hz2 rfl (by omega) _ _ xs G (by rfl) HK.out (by simpa using hz) H1.out.2.2.2 rs[k].ltr [x0, x1, x2, x3, x4, x5] G1 H1.out.1 H1.out.2.1 H1.out.2.2.1 (by rfl) (by rw [Va.ltrs_len, List.length_take]; omega) (by omega) ?_; intro g3 cap3 w3 hk3 hg3 hbg hlt3))
      go_roundw
      case rel =>
        have hs1 := H1.out.2.2.2.size
        have hs3 := hg3.size
        have hblk : ∀ i, i < w.heap.size + 2 → w3.heap[i]? = wr.heap[i]? := fun i hi => (far_block hg3 HK.out.block i hi (by omega)).trans (H1.out.2.2.2.block i (by omega))
        refine ⟨k + 1, _, xs ++ [x0, x1, x2, x3, x4, x5], G ++ G1, by omega, by go_num, rfl, ?_, ?_, by omega, (World.cell?_of_block (w := wr) (a := ⟨w.heap.size, 5, none⟩) (hblk w.heap.size (by omega))).trans hcell, (hblk _ (by omega)).trans HE0.out, (hblk _ (by omega)).trans HE1.out⟩
        · rw [Va.ltrs_take rs k hlt]
          exact hk3
        · exact hb.trans ⟨hg3.os.trans H1.out.2.2.2.os, hg3.tape.trans H1.out.2.2.2.tape, hg3.output.trans H1.out.2.2.2.output, by omega, fun i hi => hblk i (by omega)⟩
      case measure => simp [intOf]; omega
    · obtain rfl : k = rs.length := by omega
      go_wp2_with fail
      go_loopw [3, 5] (fun u3 u5 wq => ∃ (m : Nat) (v : Value) (xs : List Value) (G : List Nat), m ≤ 20 ∧ u5 = .int .i64 m ∧ u3 = v ∧ Hid (Kids 6 25 (w.heap.size + 2) wq v (Va.ltrs rs ++ Va.trs (marks m)) xs G) ∧ Below w.heap.size w wq ∧ w.heap.size + 2 ≤ wq.heap.size ∧
        wq.cell? ⟨w.heap.size, 5, none⟩ = some (.slice a rs.length cap) ∧
        Hid (wq.heap[w.heap.size]? = some (.cells #[.int .u8 kd, .int .i64 n, .float .f64 x, .float .f64 y, .string s, .slice a rs.length cap] 25 (0, 0))) ∧ Hid (wq.heap[w.heap.size + 1]? = some (.cells zero6 25 (0, 0)))) (fun _ u5 _ => 20 - (intOf u5).toNat)
      case atStart => exact ⟨0, _, xs, G, by omega, rfl, rfl, Lib.hid (by have := HK.out; rw [List.take_length] at this; simpa [marks, Va.trs] using this), hb, hz, hcell, HE0, HE1⟩
      case round =>
        clear HK hb hz hcell HE0 HE1
        obtain ⟨m, v, xs, G, hm, rfl, rfl, HK, hb, hz, hcell, HE0, HE1⟩ := hrel
        have hl : (Va.ltrs rs ++ Va.trs (marks m)).length = rs.length + m := by rw [List.length_append, Va.ltrs_len, Va.trs_len, marks_len]
        have HL := Lib.hid hl
        clear hl
        by_cases hlt2 : m < 20
        · go_wp2_with (first | (go_at_call 15; (with_reducible refine (mark_any m (by omega) _).mono ?_); rintro e w1 ⟨rfl, hb1⟩; have H1 := Lib.hid hb1; clear hb1) | (refine wpList_push (wr := wr) (w1 := w1) (by rfl) _ _ _ (by rfl) (w.heap.size + 2) 25 i0 _ 6 72 Try.underlying23 hi0 hz0 hz1 hz2 rfl (by omega) _ _ xs G (by rfl) HK.out (by simpa using hz) H1.out (markV m).tr [.int .u8 2, .int .i64 (900 + (m : Int)), .float .f64 0, .float .f64 0, .string ⟨#[]⟩, .slice none 0 0] [] (mark_own m w1) (Apart.nil _) (Soft.nil _) (by rfl) (by rw [HL.out]; omega) (by omega) ?_; intro g3 cap3 w3 hk3 hg3 hbg hlt3))
          go_roundw
          case rel =>
            have hs1 := H1.out.size
            have hs3 := hg3.size
            have hblk : ∀ i, i < w.heap.size + 2 → w3.heap[i]? = wr.heap[i]? := fun i hi => (far_block hg3 HK.out.block i hi (by omega)).trans (H1.out.block i (by omega))
            refine ⟨m + 1, _, xs ++ [.int .u8 2, .int .i64 (900 + (m : Int)), .float .f64 0, .float .f64 0, .string ⟨#[]⟩, .slice none 0 0], G ++ [], by omega, by go_num, rfl, ?_, ?_, by omega, (World.cell?_of_block (w := wr) (a := ⟨w.heap.size, 5, none⟩) (hblk w.heap.size (by omega))).trans hcell, (hblk _ (by omega)).trans HE0.out, (hblk _ (by omega)).trans HE1.out⟩
            · rw [marks_take, ← List.append_assoc]
              rw [List.length_append] at hk3
              exact hk3
            · exact hb.trans ⟨hg3.os.trans H1.out.os, hg3.tape.trans H1.out.tape, hg3.output.trans H1.out.output, by omega, fun i hi => hblk i (by omega)⟩
          case measure => simp [intOf]; omega
        · obtain rfl : m = 20 := by omega
          have hkids := HK.out
          obtain ⟨A, cap2, hv, hcl⟩ := hkids.form
          rw [hv] at hkids
          obtain ⟨GF, hnode, hap, hsoft⟩ := hkids.nodeV (vis := rs.length) (by rw [HL.out]; omega) [.int .u8 kd, .int .i64 n, .float .f64 x, .float .f64 y, .string s] rfl (by simp [Value.oneCell'])
          have hbox := end_box (hd := [.int .u8 kd, .int .i64 n, .float .f64 x, .float .f64 y, .string s]) (u := .slice A rs.length cap2) HE0.out HE1.out 5 rfl
          have HBX := Lib.hid hbox
          have HN := Lib.hid (And.intro hnode (And.intro hap hsoft))
          have hfz : wr.frozen? ⟨w.heap.size, 5, none⟩ = false := by simp [World.frozen?, HE0.out]
          rw [HL.out] at hv hcl
          subst hv
          clear hnode hap hsoft hkids hbox
          go_wp2_with (first | (refine wpList_load_row (by rfl) 25 _ (by rfl) w.heap.size (by rfl) 25 _ (0, 0) _ HBX.out.1 Try.underlying25 rfl (by kernel_rfl) ?_) | (refine wpList_store_rowTo (by rfl) 25 _ _ (by rfl) (by rfl) (w.heap.size + 1) #[.int .u8 kd, .int .i64 n, .float .f64 x, .float .f64 y, .string s, .slice A rs.length cap2] (by rfl) (by rfl) 25 zero6 HBX.out.2 (by kernel_rfl) (by kernel_rfl) (all_oneCell_toArray (cs := [.int .u8 kd, .int .i64 n, .float .f64 x, .float .f64 y, .string s, .slice A rs.length cap2]) (by simp [Value.oneCell'])) ?_))
          refine bodyPost_ret (v := .agg #[.int .u8 kd, .int .i64 n, .float .f64 x, .float .f64 y, .string s, .slice A rs.length cap2]) (results_cell_row rfl _ _ (w.heap.size + 1) 25 _ (0, 0) _ rfl (setRow_heap _ _ _ _ _ _ HBX.out.2) Try.underlying25 rfl (by kernel_rfl)) rfl ?_
          obtain ⟨h1, h2, h3⟩ := HN.out
          refine .inr ⟨HO.out, _, _, _, _, _, _, GF, rfl, ?_, h2.mono (by omega), h3.same fun i hi => ?_, end_below hb⟩
          · unfold Va.ltr
            rw [if_neg hemp]
            exact Tr.own_same _ _ _ (fun i hi => by have := h2.2 i hi; exact end_other i (by omega) (by omega)) h1
          · have := h2.2 i hi
            exact end_other i (by omega) (by omega)
end Go.Proofs.Ytaglklcjolcgeaa
