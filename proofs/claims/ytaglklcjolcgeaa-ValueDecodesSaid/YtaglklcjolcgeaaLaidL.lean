/- The walk of the program's laid: bools, lists, all kinds together. (Printed by genlaid.py.) -/
import Derived.Test.YtaglklcjolcgeaaLaidK
import Derived.Test.YtaglklcjolcgeaaEncL
namespace Go.Proofs.Ytaglklcjolcgeaa
open Go Go.RowKit Go.Proofs.YtaglklcjolcgeaaW.PrintWords Go.Proofs.YtaglklcjolcgeaaW.PrintLast
set_option linter.unusedVariables false
set_option linter.unusedSimpArgs false
attribute [local go_sem] run_store_float run_store_func
set_option maxRecDepth 100000 in
set_option maxHeartbeats 4000000 in
theorem laid_1f (w : World) (va : Option Addr) (vn vc : Nat) (l : Bs)  (hr : w.ownsRow 0 5 1 (.slice va vn vc) l.length (cellsB l)) (hl : l.length ≤ 1000000000000) 
    (HHELD : ∀ (l : Bs) (v' : Value) (W : World), LS w (.slice va vn vc) l v' W → Calls Try.prog 61 #[.iface 4 (.bool false)] W fun e w' => ∃ n', n' = (0 : Int) ∧ ∃ (x' y' : Nat) (s' : ByteArray) (a' : Option Addr) (len' cap' : Nat), e = .returned (.agg #[.int .u8 1, .int .i64 n', .float .f64 x', .float .f64 y', .string s', .slice a' len' cap']) ∧ Below W.heap.size W w') :
    Calls Try.prog 42 #[.slice va vn vc, .iface 4 (.bool false)] w (LaidIs (.slice va vn vc) (l ++ [1, 0]) w) := by
  have a0 := ta_bb
  have HHELD := Lib.hid HHELD
  have HS0 := Lib.hid (LS.start w (.slice va vn vc) l hr)
  have hmf : ∀ (fn : Fn) (first cap : Array Value) (w : World), (Instr.makeFunc fn first cap).run Try.prog w = .ok (.func fn first cap) w := fun _ _ _ _ => rfl
  have hf0 := run_field0
  have hf1 := run_field1
  obtain ⟨i0, hi0, hz0, hz1, hz2⟩ := info_parts info_u8
  clear hr
  go_enter Try.func42, Try.ntmps42
  go_wp2_with fail
  refine start_ (n := 7) (S := Box0 w.heap.size (.slice va vn vc)) (ds := [6]) #[false, false, false, false, false, false, false] (by kernel_rfl) rfl rfl ⟨HS0.out.drew.at.cell⟩ (fun hHeld => ?_)
  have HS0 := Lib.hid HS0.out.drew
  generalize World.drew _ = wd at hHeld HS0 ⊢
  refine pure_ (i := 1) (N := some 19) (v := ?_) (a' := ?_) #[false, true, false, false, false, false, false] rfl rfl (by kernel_rfl) (fun _ _ _ h => h) (Or.inl ⟨by rfl, ?_⟩) ?_ ?_
  rotate_left
  · intro w'
    go_simp
    with_reducible rfl
  rotate_left
  · simp only [Act.put, List.setIfInBounds_toArray, List.set_cons_zero, List.set_cons_succ, i64_w, i32_w]
    rfl
  refine take_ (i := 0) (N := some 18) (v := ?_) (a' := ?_) #[true, true, false, false, false, false, false] rfl rfl (by kernel_rfl) (fun _ _ _ h => h) (Or.inl ⟨by rfl, ?_⟩) hHeld ?_ ?_
  rotate_left
  · rintro w' ⟨s0⟩
    go_simp
    with_reducible rfl
  rotate_left
  · simp only [Act.put, List.setIfInBounds_toArray, List.set_cons_zero, List.set_cons_succ, i64_w, i32_w]
    rfl
  refine one_ (i := 2) (N := some 20) #[true, true, true, false, false, false, false] rfl rfl (by kernel_rfl) (by decide) (fun K hK => ?_)
  refine goes_ Try.func61 (by kernel_rfl) (by kernel_rfl) #[.iface 4 (.bool false)] (by rfl) rfl rfl (by (try simp only [List.map_toArray, List.map_cons, List.map_nil]); first | done | rfl) ?_
  refine (HHELD.out _ _ _ HS0.out).mono ?_
  rintro e w3 ⟨n', hkn, x', y', s', a', len', cap', rfl, hb1⟩
  have HS1h := Lib.hid (HS0.out.below hb1)
  have hHeld2 : Box0 w.heap.size (.slice va vn vc) w3 := ⟨HS1h.out.at.cell⟩
  have HKN := Lib.hid hkn
  clear hb1 hHeld hkn
  refine ⟨_, rfl, ?_⟩
  refine hK.out _ _ hHeld2 (fun hHeld => ?_)
  clear hK K hHeld2
  refine norm_ (a' := ?_) ?_ ?_
  rotate_left
  · show Act.put _ (some 20) _ = _
    simp only [Act.put, List.setIfInBounds_toArray, List.set_cons_zero, List.set_cons_succ, i64_w, i32_w]
    rfl
  refine pure_ (i := 3) (N := some 21) (v := ?_) (a' := ?_) #[true, true, true, true, false, false, false] rfl rfl (by kernel_rfl) (fun _ _ _ h => h) (Or.inl ⟨by rfl, ?_⟩) ?_ ?_
  rotate_left
  · intro w'
    go_simp
    with_reducible rfl
  rotate_left
  · simp only [Act.put, List.setIfInBounds_toArray, List.set_cons_zero, List.set_cons_succ, i64_w, i32_w]
    rfl
  refine one_ (i := 4) (N := some 22) #[true, true, true, true, true, false, false] rfl rfl (by kernel_rfl) (by decide) (fun K hK => ?_)
  refine value_ (w1 := w3.alloc (.cells #[.int .u8 1] 5)) (v := .slice (some ⟨w3.heap.size, 0, none⟩) 1 1) (by rfl) rfl ?_ ?_
  · go_simp
  refine hK.out _ _ ⟨(cell_new w3 _ _ (by show w.heap.size < w3.heap.size; exact HS1h.out.at.lt)).trans hHeld.c0⟩ (fun hHeld => ?_)
  clear hK K
  refine norm_ (a' := ?_) ?_ ?_
  rotate_left
  · show Act.put _ (some 22) _ = _
    simp only [Act.put, List.setIfInBounds_toArray, List.set_cons_zero, List.set_cons_succ, i64_w, i32_w]
    rfl
  refine one_ (i := 5) (N := some 23) #[true, true, true, true, true, true, false] rfl rfl (by kernel_rfl) (by decide) (fun K hK => ?_)
  refine step_append_lies (w := w3.alloc (.cells #[.int .u8 1] 5)) (by rfl) _ _ 68 (by rfl) 0 5 i0 _ 1 1 Try.underlying68 hi0 hz0 hz1 hz2 rfl (by omega) (.slice va vn vc) (l).length (cellsB (l)) (by rfl) (HS1h.out.at.row.alloc _) ⟨w3.heap.size, 0, none⟩ 1 1 [.int .u8 1] (by rfl) rfl (World.news_of_block (cs := #[.int .u8 1]) (t := 5) (fr := (0, 0)) (heap_alloc_new w3 _)) (by simp [Value.oneCell']) (by omega) (by simp only [maxLen]; omega) (by omega) (by omega) (w3.heap.size + 1) (by simp) ?_
  intro g3 cap3 w4 hk4 hg4 hat4 hlt4
  have hHeld2 : Box0 w.heap.size (.slice va vn vc) w4 := ⟨(hg4.cell_far ⟨w.heap.size, 0, none⟩ (by have := HS1h.out.at.lt; simp; omega) (fun e => HS1h.out.at.far e.symm)).trans hHeld.c0⟩
  have q6 : w4.cell? ⟨w.heap.size, 0, none⟩ = some (.slice va vn vc) := hHeld2.c0
  have z6 : w4.frozen? ⟨w.heap.size, 0, none⟩ = false := ((hg4.frozen_far ⟨w.heap.size, 0, none⟩ (by have := HS1h.out.at.lt; simp; omega) (fun e => HS1h.out.at.far e.symm)).trans (frozen_new w3 _ _ (by show w.heap.size < w3.heap.size; exact HS1h.out.at.lt))).trans HS1h.out.at.fz
  have HS1 := Lib.hid (HS1h.out.byte (UInt8.ofNat 1) rfl hk4 hg4 hat4)
  clear hk4 hg4 hHeld hat4
  refine hK.out _ _ hHeld2 (fun hHeld => ?_)
  clear hK K hHeld2
  refine norm_ (a' := ?_) ?_ ?_
  rotate_left
  · show Act.put _ (some 23) _ = _
    simp only [Act.put, List.setIfInBounds_toArray, List.set_cons_zero, List.set_cons_succ, i64_w, i32_w]
    rfl
  refine last_ (i := 6) (N := none) #[true, true, true, true, true, true, true] rfl rfl (by kernel_rfl) (by decide) (fun K hK => ?_)
  refine skip_ (w1 := w4.setCell ⟨w.heap.size, 0, none⟩ (.slice (some ⟨g3, 0, none⟩) ((l).length + 1) cap3)) (by rfl) rfl ?_ ?_
  · go_simp
  refine hK.out _ _ ?_
  clear hK K
  refine done_ (by kernel_rfl) ?_
  generalize hW1 : World.setCell w4 _ _ = W1 at HS1 ⊢
  clear hW1 q6 z6 hHeld
  obtain ⟨n1, hn1⟩ : ∃ n1, n1 = l.length + 1 := ⟨_, rfl⟩
  rw [← hn1] at HS1 ⊢
  clear hn1
  have qc := HS1.out.at.cell
  have qf := HS1.out.fn
  have qz := HS1.out.at.fz
  obtain ⟨A, hA⟩ : ∃ A, A = l ++ [(1 : UInt8)] := ⟨_, rfl⟩
  have hAl : A.length ≤ 1000000000001 := by rw [hA]; simp; omega
  rw [show l ++ [UInt8.ofNat 1] = A from hA.symm] at HS1
  have HA := Lib.hid hA
  clear hA
  go_wp2_with fail
  refine start_ (n := 8) (S := Box0 w.heap.size (.slice (some ⟨g3, 0, none⟩) n1 cap3)) (ds := [7]) #[false, false, false, false, false, false, false, false] (by kernel_rfl) rfl rfl ⟨HS1.out.drew.at.cell⟩ (fun hHeld => ?_)
  have HS1 := Lib.hid HS1.out.drew
  generalize World.drew _ = wd at hHeld HS1 ⊢
  refine pure_ (i := 1) (N := some 29) (v := ?_) (a' := ?_) #[false, true, false, false, false, false, false, false] rfl rfl (by kernel_rfl) (fun _ _ _ h => h) (Or.inl ⟨by rfl, ?_⟩) ?_ ?_
  rotate_left
  · intro w'
    go_simp
    with_reducible rfl
  rotate_left
  · simp only [Act.put, List.setIfInBounds_toArray, List.set_cons_zero, List.set_cons_succ, i64_w, i32_w]
    rfl
  refine take_ (i := 0) (N := some 28) (v := ?_) (a' := ?_) #[true, true, false, false, false, false, false, false] rfl rfl (by kernel_rfl) (fun _ _ _ h => h) (Or.inl ⟨by rfl, ?_⟩) hHeld ?_ ?_
  rotate_left
  · rintro w' ⟨s0⟩
    go_simp
    with_reducible rfl
  rotate_left
  · simp only [Act.put, List.setIfInBounds_toArray, List.set_cons_zero, List.set_cons_succ, i64_w, i32_w]
    rfl
  refine one_ (i := 2) (N := some 30) #[true, true, true, false, false, false, false, false] rfl rfl (by kernel_rfl) (by decide) (fun K hK => ?_)
  refine goes_ Try.func61 (by kernel_rfl) (by kernel_rfl) #[.iface 4 (.bool false)] (by rfl) rfl rfl (by (try simp only [List.map_toArray, List.map_cons, List.map_nil]); first | done | rfl) ?_
  refine (HHELD.out _ _ _ HS1.out).mono ?_
  rintro e w3 ⟨n', hkn, x', y', s', a', len', cap', rfl, hb1⟩
  have HS2h := Lib.hid (HS1.out.below hb1)
  have hHeld2 : Box0 w.heap.size (.slice (some ⟨g3, 0, none⟩) n1 cap3) w3 := ⟨HS2h.out.at.cell⟩
  subst hkn
  clear hb1 hHeld
  refine ⟨_, rfl, ?_⟩
  refine hK.out _ _ hHeld2 (fun hHeld => ?_)
  clear hK K hHeld2
  refine norm_ (a' := ?_) ?_ ?_
  rotate_left
  · show Act.put _ (some 30) _ = _
    simp only [Act.put, List.setIfInBounds_toArray, List.set_cons_zero, List.set_cons_succ, i64_w, i32_w]
    rfl
  refine pure_ (i := 3) (N := some 31) (v := ?_) (a' := ?_) #[true, true, true, true, false, false, false, false] rfl rfl (by kernel_rfl) (fun _ _ _ h => h) (Or.inl ⟨by rfl, ?_⟩) ?_ ?_
  rotate_left
  · intro w'
    go_simp
    with_reducible rfl
  rotate_left
  · simp only [Act.put, List.setIfInBounds_toArray, List.set_cons_zero, List.set_cons_succ, i64_w, i32_w]
    rfl
  refine pure_ (i := 4) (N := some 32) (v := ?_) (a' := ?_) #[true, true, true, true, true, false, false, false] rfl rfl (by kernel_rfl) (fun _ _ _ h => h) (Or.inl ⟨by rfl, ?_⟩) ?_ ?_
  rotate_left
  · intro w'
    go_simp
    with_reducible rfl
  rotate_left
  · simp only [Act.put, List.setIfInBounds_toArray, List.set_cons_zero, List.set_cons_succ, i64_w, i32_w]
    rfl
  have hwr2 : IntKind.u8.wrap (0 : Int) = 0 := by decide
  rw [hwr2]
  clear hwr2
  refine one_ (i := 5) (N := some 33) #[true, true, true, true, true, true, false, false] rfl rfl (by kernel_rfl) (by decide) (fun K hK => ?_)
  refine value_ (w1 := w3.alloc (.cells #[.int .u8 0] 5)) (v := .slice (some ⟨w3.heap.size, 0, none⟩) 1 1) (by rfl) rfl ?_ ?_
  · go_simp
  refine hK.out _ _ ⟨(cell_new w3 _ _ (by show w.heap.size < w3.heap.size; exact HS2h.out.at.lt)).trans hHeld.c0⟩ (fun hHeld => ?_)
  clear hK K
  refine norm_ (a' := ?_) ?_ ?_
  rotate_left
  · show Act.put _ (some 33) _ = _
    simp only [Act.put, List.setIfInBounds_toArray, List.set_cons_zero, List.set_cons_succ, i64_w, i32_w]
    rfl
  refine one_ (i := 6) (N := some 34) #[true, true, true, true, true, true, true, false] rfl rfl (by kernel_rfl) (by decide) (fun K hK => ?_)
  refine step_append_lies (w := w3.alloc (.cells #[.int .u8 0] 5)) (by rfl) _ _ 68 (by rfl) 0 5 i0 _ 1 1 Try.underlying68 hi0 hz0 hz1 hz2 rfl (by omega) (.slice (some ⟨g3, 0, none⟩) n1 cap3) (A).length (cellsB (A)) (by rfl) (HS2h.out.at.row.alloc _) ⟨w3.heap.size, 0, none⟩ 1 1 [.int .u8 0] (by rfl) rfl (World.news_of_block (cs := #[.int .u8 0]) (t := 5) (fr := (0, 0)) (heap_alloc_new w3 _)) (by simp [Value.oneCell']) (by omega) (by simp only [maxLen]; omega) (by omega) (by omega) (w3.heap.size + 1) (by simp) ?_
  intro g5 cap5 w4 hk4 hg4 hat4 hlt4
  have hHeld2 : Box0 w.heap.size (.slice (some ⟨g3, 0, none⟩) n1 cap3) w4 := ⟨(hg4.cell_far ⟨w.heap.size, 0, none⟩ (by have := HS2h.out.at.lt; simp; omega) (fun e => HS2h.out.at.far e.symm)).trans hHeld.c0⟩
  have q6 : w4.cell? ⟨w.heap.size, 0, none⟩ = some (.slice (some ⟨g3, 0, none⟩) n1 cap3) := hHeld2.c0
  have z6 : w4.frozen? ⟨w.heap.size, 0, none⟩ = false := ((hg4.frozen_far ⟨w.heap.size, 0, none⟩ (by have := HS2h.out.at.lt; simp; omega) (fun e => HS2h.out.at.far e.symm)).trans (frozen_new w3 _ _ (by show w.heap.size < w3.heap.size; exact HS2h.out.at.lt))).trans HS2h.out.at.fz
  have HS2 := Lib.hid (HS2h.out.byte (UInt8.ofNat 0) rfl hk4 hg4 hat4)
  clear hk4 hg4 hHeld hat4
  refine hK.out _ _ hHeld2 (fun hHeld => ?_)
  clear hK K hHeld2
  refine norm_ (a' := ?_) ?_ ?_
  rotate_left
  · show Act.put _ (some 34) _ = _
    simp only [Act.put, List.setIfInBounds_toArray, List.set_cons_zero, List.set_cons_succ, i64_w, i32_w]
    rfl
  refine last_ (i := 7) (N := none) #[true, true, true, true, true, true, true, true] rfl rfl (by kernel_rfl) (by decide) (fun K hK => ?_)
  refine skip_ (w1 := w4.setCell ⟨w.heap.size, 0, none⟩ (.slice (some ⟨g5, 0, none⟩) ((A).length + 1) cap5)) (by rfl) rfl ?_ ?_
  · go_simp
  refine hK.out _ _ ?_
  clear hK K
  refine done_ (by kernel_rfl) ?_
  generalize hW2 : World.setCell w4 _ _ = W2 at HS2 ⊢
  have HF := Lib.hid HS2.out.fin
  have qc := HS2.out.at.cell
  clear hW2 q6 z6 hHeld
  rw [show A ++ [UInt8.ofNat 0] = l ++ [1, 0] by rw [HA.out, List.append_assoc]; rfl] at HF
  go_wp2_with fail
  go_ret
  exact HF.out
set_option maxRecDepth 100000 in
set_option maxHeartbeats 4000000 in
theorem laid_1t (w : World) (va : Option Addr) (vn vc : Nat) (l : Bs)  (hr : w.ownsRow 0 5 1 (.slice va vn vc) l.length (cellsB l)) (hl : l.length ≤ 1000000000000) 
    (HHELD : ∀ (l : Bs) (v' : Value) (W : World), LS w (.slice va vn vc) l v' W → Calls Try.prog 61 #[.iface 4 (.bool true)] W fun e w' => ∃ n', n' = (1 : Int) ∧ ∃ (x' y' : Nat) (s' : ByteArray) (a' : Option Addr) (len' cap' : Nat), e = .returned (.agg #[.int .u8 1, .int .i64 n', .float .f64 x', .float .f64 y', .string s', .slice a' len' cap']) ∧ Below W.heap.size W w') :
    Calls Try.prog 42 #[.slice va vn vc, .iface 4 (.bool true)] w (LaidIs (.slice va vn vc) (l ++ [1, 1]) w) := by
  have a0 := ta_bb
  have HHELD := Lib.hid HHELD
  have HS0 := Lib.hid (LS.start w (.slice va vn vc) l hr)
  have hmf : ∀ (fn : Fn) (first cap : Array Value) (w : World), (Instr.makeFunc fn first cap).run Try.prog w = .ok (.func fn first cap) w := fun _ _ _ _ => rfl
  have hf0 := run_field0
  have hf1 := run_field1
  obtain ⟨i0, hi0, hz0, hz1, hz2⟩ := info_parts info_u8
  clear hr
  go_enter Try.func42, Try.ntmps42
  go_wp2_with fail
  refine start_ (n := 7) (S := Box0 w.heap.size (.slice va vn vc)) (ds := [6]) #[false, false, false, false, false, false, false] (by kernel_rfl) rfl rfl ⟨HS0.out.drew.at.cell⟩ (fun hHeld => ?_)
  have HS0 := Lib.hid HS0.out.drew
  generalize World.drew _ = wd at hHeld HS0 ⊢
  refine pure_ (i := 1) (N := some 19) (v := ?_) (a' := ?_) #[false, true, false, false, false, false, false] rfl rfl (by kernel_rfl) (fun _ _ _ h => h) (Or.inl ⟨by rfl, ?_⟩) ?_ ?_
  rotate_left
  · intro w'
    go_simp
    with_reducible rfl
  rotate_left
  · simp only [Act.put, List.setIfInBounds_toArray, List.set_cons_zero, List.set_cons_succ, i64_w, i32_w]
    rfl
  refine take_ (i := 0) (N := some 18) (v := ?_) (a' := ?_) #[true, true, false, false, false, false, false] rfl rfl (by kernel_rfl) (fun _ _ _ h => h) (Or.inl ⟨by rfl, ?_⟩) hHeld ?_ ?_
  rotate_left
  · rintro w' ⟨s0⟩
    go_simp
    with_reducible rfl
  rotate_left
  · simp only [Act.put, List.setIfInBounds_toArray, List.set_cons_zero, List.set_cons_succ, i64_w, i32_w]
    rfl
  refine one_ (i := 2) (N := some 20) #[true, true, true, false, false, false, false] rfl rfl (by kernel_rfl) (by decide) (fun K hK => ?_)
  refine goes_ Try.func61 (by kernel_rfl) (by kernel_rfl) #[.iface 4 (.bool true)] (by rfl) rfl rfl (by (try simp only [List.map_toArray, List.map_cons, List.map_nil]); first | done | rfl) ?_
  refine (HHELD.out _ _ _ HS0.out).mono ?_
  rintro e w3 ⟨n', hkn, x', y', s', a', len', cap', rfl, hb1⟩
  have HS1h := Lib.hid (HS0.out.below hb1)
  have hHeld2 : Box0 w.heap.size (.slice va vn vc) w3 := ⟨HS1h.out.at.cell⟩
  have HKN := Lib.hid hkn
  clear hb1 hHeld hkn
  refine ⟨_, rfl, ?_⟩
  refine hK.out _ _ hHeld2 (fun hHeld => ?_)
  clear hK K hHeld2
  refine norm_ (a' := ?_) ?_ ?_
  rotate_left
  · show Act.put _ (some 20) _ = _
    simp only [Act.put, List.setIfInBounds_toArray, List.set_cons_zero, List.set_cons_succ, i64_w, i32_w]
    rfl
  refine pure_ (i := 3) (N := some 21) (v := ?_) (a' := ?_) #[true, true, true, true, false, false, false] rfl rfl (by kernel_rfl) (fun _ _ _ h => h) (Or.inl ⟨by rfl, ?_⟩) ?_ ?_
  rotate_left
  · intro w'
    go_simp
    with_reducible rfl
  rotate_left
  · simp only [Act.put, List.setIfInBounds_toArray, List.set_cons_zero, List.set_cons_succ, i64_w, i32_w]
    rfl
  refine one_ (i := 4) (N := some 22) #[true, true, true, true, true, false, false] rfl rfl (by kernel_rfl) (by decide) (fun K hK => ?_)
  refine value_ (w1 := w3.alloc (.cells #[.int .u8 1] 5)) (v := .slice (some ⟨w3.heap.size, 0, none⟩) 1 1) (by rfl) rfl ?_ ?_
  · go_simp
  refine hK.out _ _ ⟨(cell_new w3 _ _ (by show w.heap.size < w3.heap.size; exact HS1h.out.at.lt)).trans hHeld.c0⟩ (fun hHeld => ?_)
  clear hK K
  refine norm_ (a' := ?_) ?_ ?_
  rotate_left
  · show Act.put _ (some 22) _ = _
    simp only [Act.put, List.setIfInBounds_toArray, List.set_cons_zero, List.set_cons_succ, i64_w, i32_w]
    rfl
  refine one_ (i := 5) (N := some 23) #[true, true, true, true, true, true, false] rfl rfl (by kernel_rfl) (by decide) (fun K hK => ?_)
  refine step_append_lies (w := w3.alloc (.cells #[.int .u8 1] 5)) (by rfl) _ _ 68 (by rfl) 0 5 i0 _ 1 1 Try.underlying68 hi0 hz0 hz1 hz2 rfl (by omega) (.slice va vn vc) (l).length (cellsB (l)) (by rfl) (HS1h.out.at.row.alloc _) ⟨w3.heap.size, 0, none⟩ 1 1 [.int .u8 1] (by rfl) rfl (World.news_of_block (cs := #[.int .u8 1]) (t := 5) (fr := (0, 0)) (heap_alloc_new w3 _)) (by simp [Value.oneCell']) (by omega) (by simp only [maxLen]; omega) (by omega) (by omega) (w3.heap.size + 1) (by simp) ?_
  intro g3 cap3 w4 hk4 hg4 hat4 hlt4
  have hHeld2 : Box0 w.heap.size (.slice va vn vc) w4 := ⟨(hg4.cell_far ⟨w.heap.size, 0, none⟩ (by have := HS1h.out.at.lt; simp; omega) (fun e => HS1h.out.at.far e.symm)).trans hHeld.c0⟩
  have q6 : w4.cell? ⟨w.heap.size, 0, none⟩ = some (.slice va vn vc) := hHeld2.c0
  have z6 : w4.frozen? ⟨w.heap.size, 0, none⟩ = false := ((hg4.frozen_far ⟨w.heap.size, 0, none⟩ (by have := HS1h.out.at.lt; simp; omega) (fun e => HS1h.out.at.far e.symm)).trans (frozen_new w3 _ _ (by show w.heap.size < w3.heap.size; exact HS1h.out.at.lt))).trans HS1h.out.at.fz
  have HS1 := Lib.hid (HS1h.out.byte (UInt8.ofNat 1) rfl hk4 hg4 hat4)
  clear hk4 hg4 hHeld hat4
  refine hK.out _ _ hHeld2 (fun hHeld => ?_)
  clear hK K hHeld2
  refine norm_ (a' := ?_) ?_ ?_
  rotate_left
  · show Act.put _ (some 23) _ = _
    simp only [Act.put, List.setIfInBounds_toArray, List.set_cons_zero, List.set_cons_succ, i64_w, i32_w]
    rfl
  refine last_ (i := 6) (N := none) #[true, true, true, true, true, true, true] rfl rfl (by kernel_rfl) (by decide) (fun K hK => ?_)
  refine skip_ (w1 := w4.setCell ⟨w.heap.size, 0, none⟩ (.slice (some ⟨g3, 0, none⟩) ((l).length + 1) cap3)) (by rfl) rfl ?_ ?_
  · go_simp
  refine hK.out _ _ ?_
  clear hK K
  refine done_ (by kernel_rfl) ?_
  generalize hW1 : World.setCell w4 _ _ = W1 at HS1 ⊢
  clear hW1 q6 z6 hHeld
  obtain ⟨n1, hn1⟩ : ∃ n1, n1 = l.length + 1 := ⟨_, rfl⟩
  rw [← hn1] at HS1 ⊢
  clear hn1
  have qc := HS1.out.at.cell
  have qf := HS1.out.fn
  have qz := HS1.out.at.fz
  obtain ⟨A, hA⟩ : ∃ A, A = l ++ [(1 : UInt8)] := ⟨_, rfl⟩
  have hAl : A.length ≤ 1000000000001 := by rw [hA]; simp; omega
  rw [show l ++ [UInt8.ofNat 1] = A from hA.symm] at HS1
  have HA := Lib.hid hA
  clear hA
  go_wp2_with fail
  refine start_ (n := 8) (S := Box0 w.heap.size (.slice (some ⟨g3, 0, none⟩) n1 cap3)) (ds := [7]) #[false, false, false, false, false, false, false, false] (by kernel_rfl) rfl rfl ⟨HS1.out.drew.at.cell⟩ (fun hHeld => ?_)
  have HS1 := Lib.hid HS1.out.drew
  generalize World.drew _ = wd at hHeld HS1 ⊢
  refine pure_ (i := 1) (N := some 29) (v := ?_) (a' := ?_) #[false, true, false, false, false, false, false, false] rfl rfl (by kernel_rfl) (fun _ _ _ h => h) (Or.inl ⟨by rfl, ?_⟩) ?_ ?_
  rotate_left
  · intro w'
    go_simp
    with_reducible rfl
  rotate_left
  · simp only [Act.put, List.setIfInBounds_toArray, List.set_cons_zero, List.set_cons_succ, i64_w, i32_w]
    rfl
  refine take_ (i := 0) (N := some 28) (v := ?_) (a' := ?_) #[true, true, false, false, false, false, false, false] rfl rfl (by kernel_rfl) (fun _ _ _ h => h) (Or.inl ⟨by rfl, ?_⟩) hHeld ?_ ?_
  rotate_left
  · rintro w' ⟨s0⟩
    go_simp
    with_reducible rfl
  rotate_left
  · simp only [Act.put, List.setIfInBounds_toArray, List.set_cons_zero, List.set_cons_succ, i64_w, i32_w]
    rfl
  refine one_ (i := 2) (N := some 30) #[true, true, true, false, false, false, false, false] rfl rfl (by kernel_rfl) (by decide) (fun K hK => ?_)
  refine goes_ Try.func61 (by kernel_rfl) (by kernel_rfl) #[.iface 4 (.bool true)] (by rfl) rfl rfl (by (try simp only [List.map_toArray, List.map_cons, List.map_nil]); first | done | rfl) ?_
  refine (HHELD.out _ _ _ HS1.out).mono ?_
  rintro e w3 ⟨n', hkn, x', y', s', a', len', cap', rfl, hb1⟩
  have HS2h := Lib.hid (HS1.out.below hb1)
  have hHeld2 : Box0 w.heap.size (.slice (some ⟨g3, 0, none⟩) n1 cap3) w3 := ⟨HS2h.out.at.cell⟩
  subst hkn
  clear hb1 hHeld
  refine ⟨_, rfl, ?_⟩
  refine hK.out _ _ hHeld2 (fun hHeld => ?_)
  clear hK K hHeld2
  refine norm_ (a' := ?_) ?_ ?_
  rotate_left
  · show Act.put _ (some 30) _ = _
    simp only [Act.put, List.setIfInBounds_toArray, List.set_cons_zero, List.set_cons_succ, i64_w, i32_w]
    rfl
  refine pure_ (i := 3) (N := some 31) (v := ?_) (a' := ?_) #[true, true, true, true, false, false, false, false] rfl rfl (by kernel_rfl) (fun _ _ _ h => h) (Or.inl ⟨by rfl, ?_⟩) ?_ ?_
  rotate_left
  · intro w'
    go_simp
    with_reducible rfl
  rotate_left
  · simp only [Act.put, List.setIfInBounds_toArray, List.set_cons_zero, List.set_cons_succ, i64_w, i32_w]
    rfl
  refine pure_ (i := 4) (N := some 32) (v := ?_) (a' := ?_) #[true, true, true, true, true, false, false, false] rfl rfl (by kernel_rfl) (fun _ _ _ h => h) (Or.inl ⟨by rfl, ?_⟩) ?_ ?_
  rotate_left
  · intro w'
    go_simp
    with_reducible rfl
  rotate_left
  · simp only [Act.put, List.setIfInBounds_toArray, List.set_cons_zero, List.set_cons_succ, i64_w, i32_w]
    rfl
  have hwr2 : IntKind.u8.wrap (1 : Int) = 1 := by decide
  rw [hwr2]
  clear hwr2
  refine one_ (i := 5) (N := some 33) #[true, true, true, true, true, true, false, false] rfl rfl (by kernel_rfl) (by decide) (fun K hK => ?_)
  refine value_ (w1 := w3.alloc (.cells #[.int .u8 1] 5)) (v := .slice (some ⟨w3.heap.size, 0, none⟩) 1 1) (by rfl) rfl ?_ ?_
  · go_simp
  refine hK.out _ _ ⟨(cell_new w3 _ _ (by show w.heap.size < w3.heap.size; exact HS2h.out.at.lt)).trans hHeld.c0⟩ (fun hHeld => ?_)
  clear hK K
  refine norm_ (a' := ?_) ?_ ?_
  rotate_left
  · show Act.put _ (some 33) _ = _
    simp only [Act.put, List.setIfInBounds_toArray, List.set_cons_zero, List.set_cons_succ, i64_w, i32_w]
    rfl
  refine one_ (i := 6) (N := some 34) #[true, true, true, true, true, true, true, false] rfl rfl (by kernel_rfl) (by decide) (fun K hK => ?_)
  refine step_append_lies (w := w3.alloc (.cells #[.int .u8 1] 5)) (by rfl) _ _ 68 (by rfl) 0 5 i0 _ 1 1 Try.underlying68 hi0 hz0 hz1 hz2 rfl (by omega) (.slice (some ⟨g3, 0, none⟩) n1 cap3) (A).length (cellsB (A)) (by rfl) (HS2h.out.at.row.alloc _) ⟨w3.heap.size, 0, none⟩ 1 1 [.int .u8 1] (by rfl) rfl (World.news_of_block (cs := #[.int .u8 1]) (t := 5) (fr := (0, 0)) (heap_alloc_new w3 _)) (by simp [Value.oneCell']) (by omega) (by simp only [maxLen]; omega) (by omega) (by omega) (w3.heap.size + 1) (by simp) ?_
  intro g5 cap5 w4 hk4 hg4 hat4 hlt4
  have hHeld2 : Box0 w.heap.size (.slice (some ⟨g3, 0, none⟩) n1 cap3) w4 := ⟨(hg4.cell_far ⟨w.heap.size, 0, none⟩ (by have := HS2h.out.at.lt; simp; omega) (fun e => HS2h.out.at.far e.symm)).trans hHeld.c0⟩
  have q6 : w4.cell? ⟨w.heap.size, 0, none⟩ = some (.slice (some ⟨g3, 0, none⟩) n1 cap3) := hHeld2.c0
  have z6 : w4.frozen? ⟨w.heap.size, 0, none⟩ = false := ((hg4.frozen_far ⟨w.heap.size, 0, none⟩ (by have := HS2h.out.at.lt; simp; omega) (fun e => HS2h.out.at.far e.symm)).trans (frozen_new w3 _ _ (by show w.heap.size < w3.heap.size; exact HS2h.out.at.lt))).trans HS2h.out.at.fz
  have HS2 := Lib.hid (HS2h.out.byte (UInt8.ofNat 1) rfl hk4 hg4 hat4)
  clear hk4 hg4 hHeld hat4
  refine hK.out _ _ hHeld2 (fun hHeld => ?_)
  clear hK K hHeld2
  refine norm_ (a' := ?_) ?_ ?_
  rotate_left
  · show Act.put _ (some 34) _ = _
    simp only [Act.put, List.setIfInBounds_toArray, List.set_cons_zero, List.set_cons_succ, i64_w, i32_w]
    rfl
  refine last_ (i := 7) (N := none) #[true, true, true, true, true, true, true, true] rfl rfl (by kernel_rfl) (by decide) (fun K hK => ?_)
  refine skip_ (w1 := w4.setCell ⟨w.heap.size, 0, none⟩ (.slice (some ⟨g5, 0, none⟩) ((A).length + 1) cap5)) (by rfl) rfl ?_ ?_
  · go_simp
  refine hK.out _ _ ?_
  clear hK K
  refine done_ (by kernel_rfl) ?_
  generalize hW2 : World.setCell w4 _ _ = W2 at HS2 ⊢
  have HF := Lib.hid HS2.out.fin
  have qc := HS2.out.at.cell
  clear hW2 q6 z6 hHeld
  rw [show A ++ [UInt8.ofNat 1] = l ++ [1, 1] by rw [HA.out, List.append_assoc]; rfl] at HF
  go_wp2_with fail
  go_ret
  exact HF.out
/-- Behind a call of laid and the store. -/
theorem LS.laid {w : World} {v : Value} {l l2 : Bs} {v' v2 : Value} {W w4 : World} (h : LS w v l v' W) (hr : w4.ownsRow 0 5 1 v2 l2.length (cellsB l2)) (hw : Wr (fun j => v'.ownBlock = some j) W w4) (ho : ∀ g, v2.ownBlock = some g → v'.ownBlock = some g ∨ W.heap.size ≤ g) :
    LS w v l2 v2 (w4.setCell ⟨w.heap.size, 0, none⟩ v2) ∧ w4.cell? ⟨w.heap.size, 0, none⟩ = some v' ∧ w4.frozen? ⟨w.heap.size, 0, none⟩ = false := by
  have hlt := h.at.lt
  have hB : w4.heap[w.heap.size]? = W.heap[w.heap.size]? := hw.block _ hlt h.at.far
  have hfar : v2.ownBlock ≠ some w.heap.size := fun e => by
    rcases ho _ e with h1 | h1
    · exact h.at.far h1
    · omega
  have hc : w4.cell? ⟨w.heap.size, 0, none⟩ = some v' := (World.cell?_of_block (w := W) hB).trans h.at.cell
  have hz : w4.frozen? ⟨w.heap.size, 0, none⟩ = false := (World.frozen?_of_block (w := W) hB).trans h.at.fz
  refine ⟨h.step ⟨World.cell?_setCell_same _ _ _ (by rw [hc]), (World.frozen?_setCell ..).trans hz, hr.kept (row := some w.heap.size) ⟨rfl, rfl, rfl, by simp [World.setCell], fun k hk hne => Below.heap_setCell _ _ _ _ (by show k ≠ w.heap.size; intro e; exact hne (by rw [e]))⟩ (.inr hfar), hfar⟩ ⟨?_, ho⟩, hc, hz⟩
  exact Wr.setCell (p := ⟨w.heap.size, 0, none⟩) (hw.mono fun k _ hk => .inr hk) (.inl (.inl rfl)) _
set_option maxRecDepth 100000 in
set_option maxHeartbeats 4000000 in
theorem laid_7 (w : World) (va : Option Addr) (vn vc : Nat) (l : Bs) (rs : List Va) (vs : List Value) (b cap : Nat) (hr : w.ownsRow 0 5 1 (.slice va vn vc) l.length (cellsB l)) (hl : l.length ≤ 1000000000000) (hlr : rs.length ≤ 1024) (hlen : vs.length = rs.length) (ht : ∀ k (hk : k < rs.length), l.length + 3 + (encL (rs.take k)).length + (encV rs[k]).length ≤ 1000000000000)
    (hrb : ∀ (l2 : Bs) (v' : Value) (W : World), LS w (.slice va vn vc) l2 v' W → ∀ k (hk : k < rs.length), W.cell? ⟨b, k, none⟩ = some (vs[k]'(by omega)))
    (IH : ∀ k (hk : k < rs.length) (l2 : Bs) (a : Option Addr) (m c : Nat) (W : World), LS w (.slice va vn vc) l2 (.slice a m c) W → l2.length + (encV rs[k]).length ≤ 1000000000000 → Calls Try.prog 42 #[.slice a m c, vs[k]'(by omega)] W (LaidIs (.slice a m c) (l2 ++ encV rs[k]) W))
    (HHELD : ∀ (l : Bs) (v' : Value) (W : World), LS w (.slice va vn vc) l v' W → Calls Try.prog 61 #[.iface 78 (.slice (some ⟨b, 0, none⟩) rs.length cap)] W fun e w' => ∃ n', n' = (0 : Int) ∧ ∃ (x' y' : Nat) (s' : ByteArray) (a' : Option Addr) (len' cap' : Nat), e = .returned (.agg #[.int .u8 7, .int .i64 n', .float .f64 x', .float .f64 y', .string s', .slice a' len' cap']) ∧ Below W.heap.size W w') :
    Calls Try.prog 42 #[.slice va vn vc, .iface 78 (.slice (some ⟨b, 0, none⟩) rs.length cap)] w (LaidIs (.slice va vn vc) (l ++ 7 :: (eb 2 rs.length ++ encL rs)) w) := by
  have a0 := ta_ab
  have a1 := ta_ai
  have a2 := ta_af
  have a3 := ta_ac
  have a4 := ta_as
  have a5 := ta_ay
  have a6 := ta_aa
  have HHELD := Lib.hid HHELD
  have HS0 := Lib.hid (LS.start w (.slice va vn vc) l hr)
  have hmf : ∀ (fn : Fn) (first cap : Array Value) (w : World), (Instr.makeFunc fn first cap).run Try.prog w = .ok (.func fn first cap) w := fun _ _ _ _ => rfl
  have hf0 := run_field0
  have hf1 := run_field1
  obtain ⟨i0, hi0, hz0, hz1, hz2⟩ := info_parts info_u8
  clear hr
  go_enter Try.func42, Try.ntmps42
  go_wp2_with fail
  refine start_ (n := 7) (S := Box0 w.heap.size (.slice va vn vc)) (ds := [6]) #[false, false, false, false, false, false, false] (by kernel_rfl) rfl rfl ⟨HS0.out.drew.at.cell⟩ (fun hHeld => ?_)
  have HS0 := Lib.hid HS0.out.drew
  generalize World.drew _ = wd at hHeld HS0 ⊢
  refine pure_ (i := 1) (N := some 19) (v := ?_) (a' := ?_) #[false, true, false, false, false, false, false] rfl rfl (by kernel_rfl) (fun _ _ _ h => h) (Or.inl ⟨by rfl, ?_⟩) ?_ ?_
  rotate_left
  · intro w'
    go_simp
    with_reducible rfl
  rotate_left
  · simp only [Act.put, List.setIfInBounds_toArray, List.set_cons_zero, List.set_cons_succ, i64_w, i32_w]
    rfl
  refine take_ (i := 0) (N := some 18) (v := ?_) (a' := ?_) #[true, true, false, false, false, false, false] rfl rfl (by kernel_rfl) (fun _ _ _ h => h) (Or.inl ⟨by rfl, ?_⟩) hHeld ?_ ?_
  rotate_left
  · rintro w' ⟨s0⟩
    go_simp
    with_reducible rfl
  rotate_left
  · simp only [Act.put, List.setIfInBounds_toArray, List.set_cons_zero, List.set_cons_succ, i64_w, i32_w]
    rfl
  refine one_ (i := 2) (N := some 20) #[true, true, true, false, false, false, false] rfl rfl (by kernel_rfl) (by decide) (fun K hK => ?_)
  refine goes_ Try.func61 (by kernel_rfl) (by kernel_rfl) #[.iface 78 (.slice (some ⟨b, 0, none⟩) rs.length cap)] (by rfl) rfl rfl (by (try simp only [List.map_toArray, List.map_cons, List.map_nil]); first | done | rfl) ?_
  refine (HHELD.out _ _ _ HS0.out).mono ?_
  rintro e w3 ⟨n', hkn, x', y', s', a', len', cap', rfl, hb1⟩
  have HS1h := Lib.hid (HS0.out.below hb1)
  have hHeld2 : Box0 w.heap.size (.slice va vn vc) w3 := ⟨HS1h.out.at.cell⟩
  have HKN := Lib.hid hkn
  clear hb1 hHeld hkn
  refine ⟨_, rfl, ?_⟩
  refine hK.out _ _ hHeld2 (fun hHeld => ?_)
  clear hK K hHeld2
  refine norm_ (a' := ?_) ?_ ?_
  rotate_left
  · show Act.put _ (some 20) _ = _
    simp only [Act.put, List.setIfInBounds_toArray, List.set_cons_zero, List.set_cons_succ, i64_w, i32_w]
    rfl
  refine pure_ (i := 3) (N := some 21) (v := ?_) (a' := ?_) #[true, true, true, true, false, false, false] rfl rfl (by kernel_rfl) (fun _ _ _ h => h) (Or.inl ⟨by rfl, ?_⟩) ?_ ?_
  rotate_left
  · intro w'
    go_simp
    with_reducible rfl
  rotate_left
  · simp only [Act.put, List.setIfInBounds_toArray, List.set_cons_zero, List.set_cons_succ, i64_w, i32_w]
    rfl
  refine one_ (i := 4) (N := some 22) #[true, true, true, true, true, false, false] rfl rfl (by kernel_rfl) (by decide) (fun K hK => ?_)
  refine value_ (w1 := w3.alloc (.cells #[.int .u8 7] 5)) (v := .slice (some ⟨w3.heap.size, 0, none⟩) 1 1) (by rfl) rfl ?_ ?_
  · go_simp
  refine hK.out _ _ ⟨(cell_new w3 _ _ (by show w.heap.size < w3.heap.size; exact HS1h.out.at.lt)).trans hHeld.c0⟩ (fun hHeld => ?_)
  clear hK K
  refine norm_ (a' := ?_) ?_ ?_
  rotate_left
  · show Act.put _ (some 22) _ = _
    simp only [Act.put, List.setIfInBounds_toArray, List.set_cons_zero, List.set_cons_succ, i64_w, i32_w]
    rfl
  refine one_ (i := 5) (N := some 23) #[true, true, true, true, true, true, false] rfl rfl (by kernel_rfl) (by decide) (fun K hK => ?_)
  refine step_append_lies (w := w3.alloc (.cells #[.int .u8 7] 5)) (by rfl) _ _ 68 (by rfl) 0 5 i0 _ 1 1 Try.underlying68 hi0 hz0 hz1 hz2 rfl (by omega) (.slice va vn vc) (l).length (cellsB (l)) (by rfl) (HS1h.out.at.row.alloc _) ⟨w3.heap.size, 0, none⟩ 1 1 [.int .u8 7] (by rfl) rfl (World.news_of_block (cs := #[.int .u8 7]) (t := 5) (fr := (0, 0)) (heap_alloc_new w3 _)) (by simp [Value.oneCell']) (by omega) (by simp only [maxLen]; omega) (by omega) (by omega) (w3.heap.size + 1) (by simp) ?_
  intro g3 cap3 w4 hk4 hg4 hat4 hlt4
  have hHeld2 : Box0 w.heap.size (.slice va vn vc) w4 := ⟨(hg4.cell_far ⟨w.heap.size, 0, none⟩ (by have := HS1h.out.at.lt; simp; omega) (fun e => HS1h.out.at.far e.symm)).trans hHeld.c0⟩
  have q6 : w4.cell? ⟨w.heap.size, 0, none⟩ = some (.slice va vn vc) := hHeld2.c0
  have z6 : w4.frozen? ⟨w.heap.size, 0, none⟩ = false := ((hg4.frozen_far ⟨w.heap.size, 0, none⟩ (by have := HS1h.out.at.lt; simp; omega) (fun e => HS1h.out.at.far e.symm)).trans (frozen_new w3 _ _ (by show w.heap.size < w3.heap.size; exact HS1h.out.at.lt))).trans HS1h.out.at.fz
  have HS1 := Lib.hid (HS1h.out.byte (UInt8.ofNat 7) rfl hk4 hg4 hat4)
  clear hk4 hg4 hHeld hat4
  refine hK.out _ _ hHeld2 (fun hHeld => ?_)
  clear hK K hHeld2
  refine norm_ (a' := ?_) ?_ ?_
  rotate_left
  · show Act.put _ (some 23) _ = _
    simp only [Act.put, List.setIfInBounds_toArray, List.set_cons_zero, List.set_cons_succ, i64_w, i32_w]
    rfl
  refine last_ (i := 6) (N := none) #[true, true, true, true, true, true, true] rfl rfl (by kernel_rfl) (by decide) (fun K hK => ?_)
  refine skip_ (w1 := w4.setCell ⟨w.heap.size, 0, none⟩ (.slice (some ⟨g3, 0, none⟩) ((l).length + 1) cap3)) (by rfl) rfl ?_ ?_
  · go_simp
  refine hK.out _ _ ?_
  clear hK K
  refine done_ (by kernel_rfl) ?_
  generalize hW1 : World.setCell w4 _ _ = W1 at HS1 ⊢
  clear hW1 q6 z6 hHeld
  obtain ⟨n1, hn1⟩ : ∃ n1, n1 = l.length + 1 := ⟨_, rfl⟩
  rw [← hn1] at HS1 ⊢
  clear hn1
  have qc := HS1.out.at.cell
  have qf := HS1.out.fn
  have qz := HS1.out.at.fz
  have hel := eb_len 2 rs.length
  have HCON := Lib.hid (laidA_any w.heap.size (l ++ [7]) _ rs.length 2 W1 HS1.out.at (by omega) (by simp; omega) (by omega))
  have HIH := Lib.hid IH
  have HRB := Lib.hid hrb
  have HT := Lib.hid ht
  clear IH hrb ht
  go_wp2_with fail
  refine (HCON.out).mono ?_
  rintro e w6 ⟨rfl, v2, ha2, hs2⟩
  have HS2 := Lib.hid (HS1.out.step ha2 hs2)
  clear ha2 hs2 qc qf qz
  obtain ⟨a2, m2, c2, rfl⟩ := HS2.out.slc
  have qc := HS2.out.at.cell
  have qf := HS2.out.fn
  have qz := HS2.out.at.fz
  clear qc qf qz
  go_wp2_with fail
  go_loopw [91] (fun u91 wr => ∃ (k : Nat) (a : Option Addr) (m c : Nat), k ≤ rs.length ∧ u91 = .int .i64 k ∧ Hid (LS w (.slice va vn vc) (l ++ 7 :: (eb 2 rs.length ++ encL (rs.take k))) (.slice a m c) wr)) (fun u91 _ => rs.length - (intOf u91).toNat)
  case atStart =>
    refine ⟨0, a2, m2, c2, by omega, rfl, Lib.hid ?_⟩
    have := HS2.out
    simpa [encL] using this
  case round =>
    clear HS2 HS1 HCON
    obtain ⟨k, a, m, c, hk, rfl, HL⟩ := hrel
    have qc := HL.out.at.cell
    have qz := HL.out.at.fz
    by_cases hlt : k < rs.length
    · have d1 : (k : Int) < (rs.length : Int) := by omega
      have d0 : (0 : Int) ≤ (k : Int) := by omega
      have hcl := HRB.out _ _ _ HL.out k hlt
      have hvl := hlen
      obtain ⟨vk, hvk⟩ : ∃ vk, vk = vs[k]'(by omega) := ⟨_, rfl⟩
      rw [← hvk] at hcl
      have HVK := Lib.hid hvk
      clear hvk
      have hI := HIH.out k hlt (l ++ 7 :: (eb 2 rs.length ++ encL (rs.take k))) a m c wr HL.out (by have := HT.out k hlt; simp; omega)
      rw [← HVK.out] at hI
      have HI := Lib.hid hI
      clear hI
      go_wp2_with fail
      refine HI.out.mono ?_
      rintro e w5 ⟨v5, rfl, hr5, hw5, ho5⟩
      obtain ⟨a5, m5, c5, rfl⟩ := slc_of hr5
      have hx := HL.out.laid (l2 := (l ++ 7 :: (eb 2 rs.length ++ encL (rs.take k))) ++ encV rs[k]) hr5 hw5 ho5
      have q5 := hx.2.1
      have z5 := hx.2.2
      have HX := Lib.hid hx.1
      clear hx hr5 hw5 ho5 qc qz
      go_wp2_with fail
      go_roundw
      case rel =>
        refine ⟨k + 1, a5, m5, c5, by omega, by go_num, Lib.hid ?_⟩
        have := HX.out
        rw [encL_take rs k hlt]
        simpa [List.append_assoc] using this
      case measure => simp [intOf]; omega
    · obtain rfl : k = rs.length := by omega
      have d1 : ¬ (rs.length : Int) < (rs.length : Int) := by omega
      have HF := HL.out.fin
      rw [List.take_length] at HF
      have HF := Lib.hid HF
      go_wp2_with fail
      go_ret
      exact HF.out
end Go.Proofs.Ytaglklcjolcgeaa
