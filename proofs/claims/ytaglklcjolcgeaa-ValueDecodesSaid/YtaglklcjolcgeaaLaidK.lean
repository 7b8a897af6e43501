/- The walk of the program's laid: all kinds but lists. (Printed by genlaid.py.) -/
import Derived.Test.YtaglklcjolcgeaaLaidB
import Derived.Test.YtaglklcjolcgeaaApp
import Derived.Test.YtaglklcjolcgeaaEncL
namespace Go.Proofs.Ytaglklcjolcgeaa
open Go Go.RowKit Go.Proofs.YtaglklcjolcgeaaW.PrintWords Go.Proofs.YtaglklcjolcgeaaW.PrintLast
set_option linter.unusedVariables false
set_option linter.unusedSimpArgs false
theorem run_store_func (P : Program) (w : World) (a : Addr) (m : Mode) (fn : Fn) (x y : Array Value) : (store a (.func fn x y) m).run P w = stored P w a (.func fn x y) m := run_store P w a _ m rfl
attribute [local go_sem] run_store_float run_store_func
theorem run_field0 (k n : Int) (x y : Nat) (s : ByteArray) (a : Option Addr) (len cap : Nat) (w : World) : Sem.run Try.prog (Instr.field 25 (.agg #[.int .u8 k, .int .i64 n, .float .f64 x, .float .f64 y, .string s, .slice a len cap]) 0) w = .ok (.int .u8 k) w := by kernel_rfl
theorem run_field1 (k n : Int) (x y : Nat) (s : ByteArray) (a : Option Addr) (len cap : Nat) (w : World) : Sem.run Try.prog (Instr.field 25 (.agg #[.int .u8 k, .int .i64 n, .float .f64 x, .float .f64 y, .string s, .slice a len cap]) 1) w = .ok (.int .i64 n) w := by kernel_rfl
/-- Within laid: the variable that holds the bytes, the first closure's variable; w is the world at the call, v the slice that came. -/
structure LS (w : World) (v : Value) (l : Bs) (v' : Value) (W : World) : Prop where
  «at» : AtB w.heap.size l v' W
  wr : Wr (fun j => v.ownBlock = some j) w W
  own : ∀ g, v'.ownBlock = some g → v.ownBlock = some g ∨ w.heap.size + 2 ≤ g
  fn : W.cell? ⟨w.heap.size + 1, 0, none⟩ = some (.func (.func 59) #[] #[.pointer (some ⟨w.heap.size, 0, none⟩)])
  old : ∀ g, v.ownBlock = some g → g < w.heap.size
theorem LS.lt {w : World} {v : Value} {l : Bs} {v' : Value} {W : World} (h : LS w v l v' W) : w.heap.size + 1 < W.heap.size := World.block_lt_of_cell? W ⟨w.heap.size + 1, 0, none⟩ h.fn
theorem LS.step {w : World} {v : Value} {l l2 : Bs} {v' v2 : Value} {W W2 : World} (h : LS w v l v' W) (ha : AtB w.heap.size l2 v2 W2) (hs : StB w.heap.size v' v2 W W2) : LS w v l2 v2 W2 := by
  have hlt := h.lt
  refine ⟨ha, h.wr.andThen hs.wr fun i hi ht => ?_, fun g hg => ?_, ?_, h.old⟩
  · rcases ht with ht | ht
    · omega
    · rcases h.own i ht with h1 | h1
      · exact h1
      · omega
  · rcases hs.own g hg with h1 | h1
    · exact h.own g h1
    · exact .inr (by omega)
  · refine (hs.wr.cell (p := ⟨w.heap.size + 1, 0, none⟩) hlt ?_).trans h.fn
    rintro (e | e)
    · simp at e
    · rcases h.own _ e with h1 | h1
      · have := h.old _ h1; simp at this; try omega
      · simp at h1; try omega
theorem LS.below {w : World} {v : Value} {l : Bs} {v' : Value} {W W2 : World} (h : LS w v l v' W) (hb : Below W.heap.size W W2) : LS w v l v' W2 := by
  have hlt := h.lt
  have hn := h.at.lt
  refine ⟨⟨(hb.cell (p := ⟨w.heap.size, 0, none⟩) hn).trans h.at.cell, (hb.frozen (p := ⟨w.heap.size, 0, none⟩) hn).trans h.at.fz, h.at.row.kept (row := none) ⟨hb.os, hb.tape, hb.output, hb.size, fun k hk _ => hb.block k hk⟩ ?_, h.at.far⟩, h.wr.andThen (Wr.of_below hb (fun _ => False)) fun _ _ h => h.elim, h.own, (hb.cell (p := ⟨w.heap.size + 1, 0, none⟩) hlt).trans h.fn, h.old⟩
  cases v'.ownBlock with
  | none => exact .inl rfl
  | some g => exact .inr (by simp)
theorem LS.drew {w : World} {v : Value} {l : Bs} {v' : Value} {W : World} (h : LS w v l v' W) : LS w v l v' W.drew := ⟨h.at.drew, h.wr.drew, h.own, h.fn, h.old⟩
theorem LS.low {w wx : World} {v : Value} {l : Bs} {v' : Value} {W : World} (h : LS w v l v' W) (hx : Below wx.heap.size wx w) (hv : ∀ g, v.ownBlock = some g → wx.heap.size ≤ g) : Below wx.heap.size wx W :=
  hx.trans (h.wr.below hx.size hv)
/-- One byte more. -/
theorem LS.byte {w : World} {v : Value} {l : Bs} {v' : Value} {W w4 : World} {z : Int} {g3 cap3 : Nat} (h : LS w v l v' W) (b : UInt8) (hz : z = (b.toNat : Int)) (hr : w4.ownsRow 0 5 1 (.slice (some ⟨g3, 0, none⟩) (l.length + 1) cap3) (l.length + 1) (cellsB l ++ [.int .u8 z])) (hg : (W.alloc (.cells #[.int .u8 z] 5)).grownBy w4 v'.ownBlock) (hat : v'.ownBlock = some g3 ∨ g3 = W.heap.size + 1) :
    LS w v (l ++ [b]) (.slice (some ⟨g3, 0, none⟩) (l.length + 1) cap3) (w4.setCell ⟨w.heap.size, 0, none⟩ (.slice (some ⟨g3, 0, none⟩) (l.length + 1) cap3)) := by
  have e2 : (l ++ [b]).length = l.length + 1 := by simp
  have := h.at.next (l' := l ++ [b]) (bnew (Below.refl W.heap.size W) (.cells #[.int .u8 z] 5)) hg (v' := .slice (some ⟨g3, 0, none⟩) (l.length + 1) cap3) (by
    rw [cellsB_snoc, e2, ← hz]
    exact hr) (by
    rcases hat with e | e
    · exact .inl (by rw [e]; rfl)
    · exact .inr ⟨g3, rfl, by omega⟩)
  exact h.step this.1 this.2
/-- What laid gives. -/
def LaidIs (v : Value) (l : Bs) (w : World) (e : Ending) (w' : World) : Prop := ∃ v', e = .returned v' ∧ w'.ownsRow 0 5 1 v' l.length (cellsB l) ∧ Wr (fun j => v.ownBlock = some j) w w' ∧ ∀ g, v'.ownBlock = some g → v.ownBlock = some g ∨ w.heap.size ≤ g
theorem LS.fin {w : World} {v : Value} {l : Bs} {v' : Value} {W : World} (h : LS w v l v' W) : LaidIs v l w (.returned v') W := ⟨v', rfl, h.at.row, h.wr, fun g hg => by
  rcases h.own g hg with h1 | h1
  · exact .inl h1
  · exact .inr (by omega)⟩
theorem LS.start (w : World) (v : Value) (l : Bs) (hr : w.ownsRow 0 5 1 v l.length (cellsB l)) : LS w v l v ((w.alloc (.cells #[v] 68)).alloc (.cells #[.func (.func 59) #[] #[.pointer (some ⟨w.heap.size, 0, none⟩)]] 91)) := by
  have hold := fun g hg => (hr.lt g hg).2
  have h1 := two1 w (.cells #[v] 68) (.cells #[.func (.func 59) #[] #[.pointer (some ⟨w.heap.size, 0, none⟩)]] 91)
  have h2 := two2 w (.cells #[v] 68) (.cells #[.func (.func 59) #[] #[.pointer (some ⟨w.heap.size, 0, none⟩)]] 91)
  refine ⟨⟨(box_all h1 0).trans rfl, by simp [World.frozen?, h1], (hr.alloc _).alloc _, fun e => by have := hold _ e; omega⟩, Wr.of_below (bb2 w _ _) _, fun g hg => .inl hg, (box_all h2 0).trans rfl, hold⟩
/-- What held gives, as laid asks for it. -/
theorem held_asked {kd n : Int} {x0 y0 : Nat} {s0 : ByteArray} {rs0 : List Va} {lo : Nat} {x : Value} {wx : World} (hall : (Va.mk kd n x0 y0 s0 rs0).all) (hsm : (Va.mk kd n x0 y0 s0 rs0).sm) (hp : (Va.mk kd n x0 y0 s0 rs0).pl wx lo x) {w : World} {v : Value} (hx : Below wx.heap.size wx w) (hv : ∀ g, v.ownBlock = some g → wx.heap.size ≤ g) {l : Bs} {v' : Value} : ∀ W, LS w v l v' W →
    Calls Try.prog 61 #[x] W fun e w' => ∃ n', n' = n ∧ ∃ (x' y' : Nat) (s' : ByteArray) (a' : Option Addr) (len' cap' : Nat), e = .returned (.agg #[.int .u8 kd, .int .i64 n', .float .f64 x', .float .f64 y', .string s', .slice a' len' cap']) ∧ Below W.heap.size W w' := by
  intro W hW
  have hb := hW.low hx hv
  refine (held_N (Va.mk kd n x0 y0 s0 rs0).size _ (Nat.le_refl _) hall hsm lo x W (Va.pl_same (Nat.le_refl _) hb.size (fun b _ h => hb.block b h) _ _ hp)).mono ?_
  rintro e w' ⟨v0, v1, v2, v3, v4, v5, F, rfl, hown, _, _, hb2⟩
  obtain ⟨a, cap, he, _⟩ := Va.open hown
  simp only [List.cons.injEq, and_true] at he
  obtain ⟨rfl, rfl, rfl, rfl, rfl, rfl⟩ := he
  exact ⟨n, rfl, _, _, _, _, _, _, rfl, hb2⟩
/-- More bytes. -/
theorem LS.app {w : World} {v : Value} {l : Bs} {v' v2 : Value} {W w4 : World} {s : ByteArray} (h : LS w v l v' W) (ha : AppIs v' l.length (cellsB l) s W v2 w4) : LS w v (l ++ s.data.toList) v2 (w4.setCell ⟨w.heap.size, 0, none⟩ v2) := by
  obtain ⟨h1, h2, h3, _⟩ := ha
  have e2 : (l ++ s.data.toList).length = l.length + s.size := by simp
  have e3 : cellsB (l ++ s.data.toList) = cellsB l ++ Lib.strCells s := by simp [cellsB, Lib.strCells]
  have := h.at.next (l' := l ++ s.data.toList) (Below.refl W.heap.size W) h2 (v' := v2) (by rw [e2, e3]; exact h1) (by
    rcases h3 with e | e
    · exact .inl e
    · exact .inr ⟨_, e, Nat.le_refl _⟩)
  exact h.step this.1 this.2
theorem LS.q6 {w : World} {v : Value} {l : Bs} {v' v2 : Value} {W w4 : World} {s : ByteArray} (h : LS w v l v' W) (ha : AppIs v' l.length (cellsB l) s W v2 w4) : w4.cell? ⟨w.heap.size, 0, none⟩ = some v' ∧ w4.frozen? ⟨w.heap.size, 0, none⟩ = false := by
  obtain ⟨h1, h2, h3, _⟩ := ha
  exact ⟨(h2.cell_far ⟨w.heap.size, 0, none⟩ h.at.lt (fun e => h.at.far e.symm)).trans h.at.cell, (h2.frozen_far ⟨w.heap.size, 0, none⟩ h.at.lt (fun e => h.at.far e.symm)).trans h.at.fz⟩
theorem LS.slc {w : World} {v : Value} {l : Bs} {v' : Value} {W : World} (h : LS w v l v' W) : Slc v' := slc_of h.at.row
set_option maxRecDepth 100000 in
set_option maxHeartbeats 4000000 in
theorem laid_0 (w : World) (va : Option Addr) (vn vc : Nat) (l : Bs)  (hr : w.ownsRow 0 5 1 (.slice va vn vc) l.length (cellsB l)) (hl : l.length ≤ 1000000000000) 
    (HHELD : ∀ (l : Bs) (v' : Value) (W : World), LS w (.slice va vn vc) l v' W → Calls Try.prog 61 #[.nilIface] W fun e w' => ∃ n', n' = (0 : Int) ∧ ∃ (x' y' : Nat) (s' : ByteArray) (a' : Option Addr) (len' cap' : Nat), e = .returned (.agg #[.int .u8 0, .int .i64 n', .float .f64 x', .float .f64 y', .string s', .slice a' len' cap']) ∧ Below W.heap.size W w') :
    Calls Try.prog 42 #[.slice va vn vc, .nilIface] w (LaidIs (.slice va vn vc) (l ++ [0]) w) := by
  have a0 := ta_nb
  have a1 := ta_ni
  have a2 := ta_nf
  have a3 := ta_nc
  have a4 := ta_ns
  have a5 := ta_ny
  have a6 := ta_na
  have HHELD := Lib.hid HHELD
  have HS0 := Lib.hid (LS.start w (.slice va vn vc) l hr)
  have hmf : ∀ (fn : Fn) (first cap : Array Value) (w : World), (Instr.makeFunc fn first cap).run Try.prog w = .ok (.func fn first cap) w := fun _ _ _ _ => rfl
  have hf0 := run_field0
  have hf1 := run_field1
  obtain ⟨i0, hi0, hz0, hz1, hz2⟩ := info_parts info_u8
  clear hr
  go_enter Try.func42, Try.ntmps42
  go_wp2_with fail
  refine start_ (n := 7) (S := Box0 w.heap.size (.slice va vn vc)) (ds := [6]) #[false, false, false, false, false, false, false] (by kernel_rfl) rfl rfl ⟨HS0.out.drew.at.cell⟩ (fun hHeld => ?_)
  have HS0 := Lib.hid HS0.out.drew
  generalize World.drew _ = wd at hHeld HS0 ⊢
  refine pure_ (i := 1) (N := some 19) (v := ?_) (a' := ?_) #[false, true, false, false, false, false, false] rfl rfl (by kernel_rfl) (fun _ _ _ h => h) (Or.inl ⟨by rfl, ?_⟩) ?_ ?_
  rotate_left
  · intro w'
    go_simp
    with_reducible rfl
  rotate_left
  · simp only [Act.put, List.setIfInBounds_toArray, List.set_cons_zero, List.set_cons_succ, i64_w, i32_w]
    rfl
  refine take_ (i := 0) (N := some 18) (v := ?_) (a' := ?_) #[true, true, false, false, false, false, false] rfl rfl (by kernel_rfl) (fun _ _ _ h => h) (Or.inl ⟨by rfl, ?_⟩) hHeld ?_ ?_
  rotate_left
  · rintro w' ⟨s0⟩
    go_simp
    with_reducible rfl
  rotate_left
  · simp only [Act.put, List.setIfInBounds_toArray, List.set_cons_zero, List.set_cons_succ, i64_w, i32_w]
    rfl
  refine one_ (i := 2) (N := some 20) #[true, true, true, false, false, false, false] rfl rfl (by kernel_rfl) (by decide) (fun K hK => ?_)
  refine goes_ Try.func61 (by kernel_rfl) (by kernel_rfl) #[.nilIface] (by rfl) rfl rfl (by (try simp only [List.map_toArray, List.map_cons, List.map_nil]); first | done | rfl) ?_
  refine (HHELD.out _ _ _ HS0.out).mono ?_
  rintro e w3 ⟨n', hkn, x', y', s', a', len', cap', rfl, hb1⟩
  have HS1h := Lib.hid (HS0.out.below hb1)
  have hHeld2 : Box0 w.heap.size (.slice va vn vc) w3 := ⟨HS1h.out.at.cell⟩
  have HKN := Lib.hid hkn
  clear hb1 hHeld hkn
  refine ⟨_, rfl, ?_⟩
  refine hK.out _ _ hHeld2 (fun hHeld => ?_)
  clear hK K hHeld2
  refine norm_ (a' := ?_) ?_ ?_
  rotate_left
  · show Act.put _ (some 20) _ = _
    simp only [Act.put, List.setIfInBounds_toArray, List.set_cons_zero, List.set_cons_succ, i64_w, i32_w]
    rfl
  refine pure_ (i := 3) (N := some 21) (v := ?_) (a' := ?_) #[true, true, true, true, false, false, false] rfl rfl (by kernel_rfl) (fun _ _ _ h => h) (Or.inl ⟨by rfl, ?_⟩) ?_ ?_
  rotate_left
  · intro w'
    go_simp
    with_reducible rfl
  rotate_left
  · simp only [Act.put, List.setIfInBounds_toArray, List.set_cons_zero, List.set_cons_succ, i64_w, i32_w]
    rfl
  refine one_ (i := 4) (N := some 22) #[true, true, true, true, true, false, false] rfl rfl (by kernel_rfl) (by decide) (fun K hK => ?_)
  refine value_ (w1 := w3.alloc (.cells #[.int .u8 0] 5)) (v := .slice (some ⟨w3.heap.size, 0, none⟩) 1 1) (by rfl) rfl ?_ ?_
  · go_simp
  refine hK.out _ _ ⟨(cell_new w3 _ _ (by show w.heap.size < w3.heap.size; exact HS1h.out.at.lt)).trans hHeld.c0⟩ (fun hHeld => ?_)
  clear hK K
  refine norm_ (a' := ?_) ?_ ?_
  rotate_left
  · show Act.put _ (some 22) _ = _
    simp only [Act.put, List.setIfInBounds_toArray, List.set_cons_zero, List.set_cons_succ, i64_w, i32_w]
    rfl
  refine one_ (i := 5) (N := some 23) #[true, true, true, true, true, true, false] rfl rfl (by kernel_rfl) (by decide) (fun K hK => ?_)
  refine step_append_lies (w := w3.alloc (.cells #[.int .u8 0] 5)) (by rfl) _ _ 68 (by rfl) 0 5 i0 _ 1 1 Try.underlying68 hi0 hz0 hz1 hz2 rfl (by omega) (.slice va vn vc) (l).length (cellsB (l)) (by rfl) (HS1h.out.at.row.alloc _) ⟨w3.heap.size, 0, none⟩ 1 1 [.int .u8 0] (by rfl) rfl (World.news_of_block (cs := #[.int .u8 0]) (t := 5) (fr := (0, 0)) (heap_alloc_new w3 _)) (by simp [Value.oneCell']) (by omega) (by simp only [maxLen]; omega) (by omega) (by omega) (w3.heap.size + 1) (by simp) ?_
  intro g3 cap3 w4 hk4 hg4 hat4 hlt4
  have hHeld2 : Box0 w.heap.size (.slice va vn vc) w4 := ⟨(hg4.cell_far ⟨w.heap.size, 0, none⟩ (by have := HS1h.out.at.lt; simp; omega) (fun e => HS1h.out.at.far e.symm)).trans hHeld.c0⟩
  have q6 : w4.cell? ⟨w.heap.size, 0, none⟩ = some (.slice va vn vc) := hHeld2.c0
  have z6 : w4.frozen? ⟨w.heap.size, 0, none⟩ = false := ((hg4.frozen_far ⟨w.heap.size, 0, none⟩ (by have := HS1h.out.at.lt; simp; omega) (fun e => HS1h.out.at.far e.symm)).trans (frozen_new w3 _ _ (by show w.heap.size < w3.heap.size; exact HS1h.out.at.lt))).trans HS1h.out.at.fz
  have HS1 := Lib.hid (HS1h.out.byte (UInt8.ofNat 0) rfl hk4 hg4 hat4)
  clear hk4 hg4 hHeld hat4
  refine hK.out _ _ hHeld2 (fun hHeld => ?_)
  clear hK K hHeld2
  refine norm_ (a' := ?_) ?_ ?_
  rotate_left
  · show Act.put _ (some 23) _ = _
    simp only [Act.put, List.setIfInBounds_toArray, List.set_cons_zero, List.set_cons_succ, i64_w, i32_w]
    rfl
  refine last_ (i := 6) (N := none) #[true, true, true, true, true, true, true] rfl rfl (by kernel_rfl) (by decide) (fun K hK => ?_)
  refine skip_ (w1 := w4.setCell ⟨w.heap.size, 0, none⟩ (.slice (some ⟨g3, 0, none⟩) ((l).length + 1) cap3)) (by rfl) rfl ?_ ?_
  · go_simp
  refine hK.out _ _ ?_
  clear hK K
  refine done_ (by kernel_rfl) ?_
  generalize hW1 : World.setCell w4 _ _ = W1 at HS1 ⊢
  clear hW1 q6 z6 hHeld
  obtain ⟨n1, hn1⟩ : ∃ n1, n1 = l.length + 1 := ⟨_, rfl⟩
  rw [← hn1] at HS1 ⊢
  clear hn1
  have qc := HS1.out.at.cell
  have qf := HS1.out.fn
  have qz := HS1.out.at.fz
  go_wp2_with fail
  go_ret
  exact HS1.out.fin
set_option maxRecDepth 100000 in
set_option maxHeartbeats 4000000 in
theorem laid_2 (w : World) (va : Option Addr) (vn vc : Nat) (l : Bs) (n : Int) (hr : w.ownsRow 0 5 1 (.slice va vn vc) l.length (cellsB l)) (hl : l.length ≤ 1000000000000) 
    (HHELD : ∀ (l : Bs) (v' : Value) (W : World), LS w (.slice va vn vc) l v' W → Calls Try.prog 61 #[.iface 2 (.int .i64 n)] W fun e w' => ∃ n', n' = (n : Int) ∧ ∃ (x' y' : Nat) (s' : ByteArray) (a' : Option Addr) (len' cap' : Nat), e = .returned (.agg #[.int .u8 2, .int .i64 n', .float .f64 x', .float .f64 y', .string s', .slice a' len' cap']) ∧ Below W.heap.size W w') :
    Calls Try.prog 42 #[.slice va vn vc, .iface 2 (.int .i64 n)] w (LaidIs (.slice va vn vc) (l ++ 2 :: eb 8 (word n)) w) := by
  have a0 := ta_ib
  have a1 := ta_ii
  have HHELD := Lib.hid HHELD
  have HS0 := Lib.hid (LS.start w (.slice va vn vc) l hr)
  have hmf : ∀ (fn : Fn) (first cap : Array Value) (w : World), (Instr.makeFunc fn first cap).run Try.prog w = .ok (.func fn first cap) w := fun _ _ _ _ => rfl
  have hf0 := run_field0
  have hf1 := run_field1
  obtain ⟨i0, hi0, hz0, hz1, hz2⟩ := info_parts info_u8
  clear hr
  go_enter Try.func42, Try.ntmps42
  go_wp2_with fail
  refine start_ (n := 7) (S := Box0 w.heap.size (.slice va vn vc)) (ds := [6]) #[false, false, false, false, false, false, false] (by kernel_rfl) rfl rfl ⟨HS0.out.drew.at.cell⟩ (fun hHeld => ?_)
  have HS0 := Lib.hid HS0.out.drew
  generalize World.drew _ = wd at hHeld HS0 ⊢
  refine pure_ (i := 1) (N := some 19) (v := ?_) (a' := ?_) #[false, true, false, false, false, false, false] rfl rfl (by kernel_rfl) (fun _ _ _ h => h) (Or.inl ⟨by rfl, ?_⟩) ?_ ?_
  rotate_left
  · intro w'
    go_simp
    with_reducible rfl
  rotate_left
  · simp only [Act.put, List.setIfInBounds_toArray, List.set_cons_zero, List.set_cons_succ, i64_w, i32_w]
    rfl
  refine take_ (i := 0) (N := some 18) (v := ?_) (a' := ?_) #[true, true, false, false, false, false, false] rfl rfl (by kernel_rfl) (fun _ _ _ h => h) (Or.inl ⟨by rfl, ?_⟩) hHeld ?_ ?_
  rotate_left
  · rintro w' ⟨s0⟩
    go_simp
    with_reducible rfl
  rotate_left
  · simp only [Act.put, List.setIfInBounds_toArray, List.set_cons_zero, List.set_cons_succ, i64_w, i32_w]
    rfl
  refine one_ (i := 2) (N := some 20) #[true, true, true, false, false, false, false] rfl rfl (by kernel_rfl) (by decide) (fun K hK => ?_)
  refine goes_ Try.func61 (by kernel_rfl) (by kernel_rfl) #[.iface 2 (.int .i64 n)] (by rfl) rfl rfl (by (try simp only [List.map_toArray, List.map_cons, List.map_nil]); first | done | rfl) ?_
  refine (HHELD.out _ _ _ HS0.out).mono ?_
  rintro e w3 ⟨n', hkn, x', y', s', a', len', cap', rfl, hb1⟩
  have HS1h := Lib.hid (HS0.out.below hb1)
  have hHeld2 : Box0 w.heap.size (.slice va vn vc) w3 := ⟨HS1h.out.at.cell⟩
  have HKN := Lib.hid hkn
  clear hb1 hHeld hkn
  refine ⟨_, rfl, ?_⟩
  refine hK.out _ _ hHeld2 (fun hHeld => ?_)
  clear hK K hHeld2
  refine norm_ (a' := ?_) ?_ ?_
  rotate_left
  · show Act.put _ (some 20) _ = _
    simp only [Act.put, List.setIfInBounds_toArray, List.set_cons_zero, List.set_cons_succ, i64_w, i32_w]
    rfl
  refine pure_ (i := 3) (N := some 21) (v := ?_) (a' := ?_) #[true, true, true, true, false, false, false] rfl rfl (by kernel_rfl) (fun _ _ _ h => h) (Or.inl ⟨by rfl, ?_⟩) ?_ ?_
  rotate_left
  · intro w'
    go_simp
    with_reducible rfl
  rotate_left
  · simp only [Act.put, List.setIfInBounds_toArray, List.set_cons_zero, List.set_cons_succ, i64_w, i32_w]
    rfl
  refine one_ (i := 4) (N := some 22) #[true, true, true, true, true, false, false] rfl rfl (by kernel_rfl) (by decide) (fun K hK => ?_)
  refine value_ (w1 := w3.alloc (.cells #[.int .u8 2] 5)) (v := .slice (some ⟨w3.heap.size, 0, none⟩) 1 1) (by rfl) rfl ?_ ?_
  · go_simp
  refine hK.out _ _ ⟨(cell_new w3 _ _ (by show w.heap.size < w3.heap.size; exact HS1h.out.at.lt)).trans hHeld.c0⟩ (fun hHeld => ?_)
  clear hK K
  refine norm_ (a' := ?_) ?_ ?_
  rotate_left
  · show Act.put _ (some 22) _ = _
    simp only [Act.put, List.setIfInBounds_toArray, List.set_cons_zero, List.set_cons_succ, i64_w, i32_w]
    rfl
  refine one_ (i := 5) (N := some 23) #[true, true, true, true, true, true, false] rfl rfl (by kernel_rfl) (by decide) (fun K hK => ?_)
  refine step_append_lies (w := w3.alloc (.cells #[.int .u8 2] 5)) (by rfl) _ _ 68 (by rfl) 0 5 i0 _ 1 1 Try.underlying68 hi0 hz0 hz1 hz2 rfl (by omega) (.slice va vn vc) (l).length (cellsB (l)) (by rfl) (HS1h.out.at.row.alloc _) ⟨w3.heap.size, 0, none⟩ 1 1 [.int .u8 2] (by rfl) rfl (World.news_of_block (cs := #[.int .u8 2]) (t := 5) (fr := (0, 0)) (heap_alloc_new w3 _)) (by simp [Value.oneCell']) (by omega) (by simp only [maxLen]; omega) (by omega) (by omega) (w3.heap.size + 1) (by simp) ?_
  intro g3 cap3 w4 hk4 hg4 hat4 hlt4
  have hHeld2 : Box0 w.heap.size (.slice va vn vc) w4 := ⟨(hg4.cell_far ⟨w.heap.size, 0, none⟩ (by have := HS1h.out.at.lt; simp; omega) (fun e => HS1h.out.at.far e.symm)).trans hHeld.c0⟩
  have q6 : w4.cell? ⟨w.heap.size, 0, none⟩ = some (.slice va vn vc) := hHeld2.c0
  have z6 : w4.frozen? ⟨w.heap.size, 0, none⟩ = false := ((hg4.frozen_far ⟨w.heap.size, 0, none⟩ (by have := HS1h.out.at.lt; simp; omega) (fun e => HS1h.out.at.far e.symm)).trans (frozen_new w3 _ _ (by show w.heap.size < w3.heap.size; exact HS1h.out.at.lt))).trans HS1h.out.at.fz
  have HS1 := Lib.hid (HS1h.out.byte (UInt8.ofNat 2) rfl hk4 hg4 hat4)
  clear hk4 hg4 hHeld hat4
  refine hK.out _ _ hHeld2 (fun hHeld => ?_)
  clear hK K hHeld2
  refine norm_ (a' := ?_) ?_ ?_
  rotate_left
  · show Act.put _ (some 23) _ = _
    simp only [Act.put, List.setIfInBounds_toArray, List.set_cons_zero, List.set_cons_succ, i64_w, i32_w]
    rfl
  refine last_ (i := 6) (N := none) #[true, true, true, true, true, true, true] rfl rfl (by kernel_rfl) (by decide) (fun K hK => ?_)
  refine skip_ (w1 := w4.setCell ⟨w.heap.size, 0, none⟩ (.slice (some ⟨g3, 0, none⟩) ((l).length + 1) cap3)) (by rfl) rfl ?_ ?_
  · go_simp
  refine hK.out _ _ ?_
  clear hK K
  refine done_ (by kernel_rfl) ?_
  generalize hW1 : World.setCell w4 _ _ = W1 at HS1 ⊢
  clear hW1 q6 z6 hHeld
  obtain ⟨n1, hn1⟩ : ∃ n1, n1 = l.length + 1 := ⟨_, rfl⟩
  rw [← hn1] at HS1 ⊢
  clear hn1
  have qc := HS1.out.at.cell
  have qf := HS1.out.fn
  have qz := HS1.out.at.fz
  have hcon := laidA_any w.heap.size (l ++ [2]) _ (word n) 8 W1 HS1.out.at (by omega) (by simp; omega) (word_lt n)
  rw [← word_wrap] at hcon
  have HCON := Lib.hid hcon
  clear hcon
  go_wp2_with fail
  refine (HCON.out).mono ?_
  rintro e w6 ⟨rfl, v2, ha2, hs2⟩
  have HS2 := Lib.hid (HS1.out.step ha2 hs2)
  clear ha2 hs2 qc qf qz
  obtain ⟨a2, m2, c2, rfl⟩ := HS2.out.slc
  have qc := HS2.out.at.cell
  have qf := HS2.out.fn
  have qz := HS2.out.at.fz
  have HF := Lib.hid HS2.out.fin
  simp only [List.append_assoc, List.cons_append, List.nil_append] at HF
  go_wp2_with fail
  go_ret
  exact HF.out
set_option maxRecDepth 100000 in
set_option maxHeartbeats 4000000 in
theorem laid_3 (w : World) (va : Option Addr) (vn vc : Nat) (l : Bs) (x : Nat) (hr : w.ownsRow 0 5 1 (.slice va vn vc) l.length (cellsB l)) (hl : l.length ≤ 1000000000000) (hx : x < 18446744073709551616)
    (HHELD : ∀ (l : Bs) (v' : Value) (W : World), LS w (.slice va vn vc) l v' W → Calls Try.prog 61 #[.iface 22 (.float .f64 x)] W fun e w' => ∃ n', n' = (0 : Int) ∧ ∃ (x' y' : Nat) (s' : ByteArray) (a' : Option Addr) (len' cap' : Nat), e = .returned (.agg #[.int .u8 3, .int .i64 n', .float .f64 x', .float .f64 y', .string s', .slice a' len' cap']) ∧ Below W.heap.size W w') :
    Calls Try.prog 42 #[.slice va vn vc, .iface 22 (.float .f64 x)] w (LaidIs (.slice va vn vc) (l ++ 3 :: eb 8 (fbits x)) w) := by
  have a0 := ta_fb
  have a1 := ta_fi
  have a2 := ta_ff
  have HHELD := Lib.hid HHELD
  have HS0 := Lib.hid (LS.start w (.slice va vn vc) l hr)
  have hmf : ∀ (fn : Fn) (first cap : Array Value) (w : World), (Instr.makeFunc fn first cap).run Try.prog w = .ok (.func fn first cap) w := fun _ _ _ _ => rfl
  have hf0 := run_field0
  have hf1 := run_field1
  obtain ⟨i0, hi0, hz0, hz1, hz2⟩ := info_parts info_u8
  clear hr
  go_enter Try.func42, Try.ntmps42
  go_wp2_with fail
  refine start_ (n := 7) (S := Box0 w.heap.size (.slice va vn vc)) (ds := [6]) #[false, false, false, false, false, false, false] (by kernel_rfl) rfl rfl ⟨HS0.out.drew.at.cell⟩ (fun hHeld => ?_)
  have HS0 := Lib.hid HS0.out.drew
  generalize World.drew _ = wd at hHeld HS0 ⊢
  refine pure_ (i := 1) (N := some 19) (v := ?_) (a' := ?_) #[false, true, false, false, false, false, false] rfl rfl (by kernel_rfl) (fun _ _ _ h => h) (Or.inl ⟨by rfl, ?_⟩) ?_ ?_
  rotate_left
  · intro w'
    go_simp
    with_reducible rfl
  rotate_left
  · simp only [Act.put, List.setIfInBounds_toArray, List.set_cons_zero, List.set_cons_succ, i64_w, i32_w]
    rfl
  refine take_ (i := 0) (N := some 18) (v := ?_) (a' := ?_) #[true, true, false, false, false, false, false] rfl rfl (by kernel_rfl) (fun _ _ _ h => h) (Or.inl ⟨by rfl, ?_⟩) hHeld ?_ ?_
  rotate_left
  · rintro w' ⟨s0⟩
    go_simp
    with_reducible rfl
  rotate_left
  · simp only [Act.put, List.setIfInBounds_toArray, List.set_cons_zero, List.set_cons_succ, i64_w, i32_w]
    rfl
  refine one_ (i := 2) (N := some 20) #[true, true, true, false, false, false, false] rfl rfl (by kernel_rfl) (by decide) (fun K hK => ?_)
  refine goes_ Try.func61 (by kernel_rfl) (by kernel_rfl) #[.iface 22 (.float .f64 x)] (by rfl) rfl rfl (by (try simp only [List.map_toArray, List.map_cons, List.map_nil]); first | done | rfl) ?_
  refine (HHELD.out _ _ _ HS0.out).mono ?_
  rintro e w3 ⟨n', hkn, x', y', s', a', len', cap', rfl, hb1⟩
  have HS1h := Lib.hid (HS0.out.below hb1)
  have hHeld2 : Box0 w.heap.size (.slice va vn vc) w3 := ⟨HS1h.out.at.cell⟩
  have HKN := Lib.hid hkn
  clear hb1 hHeld hkn
  refine ⟨_, rfl, ?_⟩
  refine hK.out _ _ hHeld2 (fun hHeld => ?_)
  clear hK K hHeld2
  refine norm_ (a' := ?_) ?_ ?_
  rotate_left
  · show Act.put _ (some 20) _ = _
    simp only [Act.put, List.setIfInBounds_toArray, List.set_cons_zero, List.set_cons_succ, i64_w, i32_w]
    rfl
  refine pure_ (i := 3) (N := some 21) (v := ?_) (a' := ?_) #[true, true, true, true, false, false, false] rfl rfl (by kernel_rfl) (fun _ _ _ h => h) (Or.inl ⟨by rfl, ?_⟩) ?_ ?_
  rotate_left
  · intro w'
    go_simp
    with_reducible rfl
  rotate_left
  · simp only [Act.put, List.setIfInBounds_toArray, List.set_cons_zero, List.set_cons_succ, i64_w, i32_w]
    rfl
  refine one_ (i := 4) (N := some 22) #[true, true, true, true, true, false, false] rfl rfl (by kernel_rfl) (by decide) (fun K hK => ?_)
  refine value_ (w1 := w3.alloc (.cells #[.int .u8 3] 5)) (v := .slice (some ⟨w3.heap.size, 0, none⟩) 1 1) (by rfl) rfl ?_ ?_
  · go_simp
  refine hK.out _ _ ⟨(cell_new w3 _ _ (by show w.heap.size < w3.heap.size; exact HS1h.out.at.lt)).trans hHeld.c0⟩ (fun hHeld => ?_)
  clear hK K
  refine norm_ (a' := ?_) ?_ ?_
  rotate_left
  · show Act.put _ (some 22) _ = _
    simp only [Act.put, List.setIfInBounds_toArray, List.set_cons_zero, List.set_cons_succ, i64_w, i32_w]
    rfl
  refine one_ (i := 5) (N := some 23) #[true, true, true, true, true, true, false] rfl rfl (by kernel_rfl) (by decide) (fun K hK => ?_)
  refine step_append_lies (w := w3.alloc (.cells #[.int .u8 3] 5)) (by rfl) _ _ 68 (by rfl) 0 5 i0 _ 1 1 Try.underlying68 hi0 hz0 hz1 hz2 rfl (by omega) (.slice va vn vc) (l).length (cellsB (l)) (by rfl) (HS1h.out.at.row.alloc _) ⟨w3.heap.size, 0, none⟩ 1 1 [.int .u8 3] (by rfl) rfl (World.news_of_block (cs := #[.int .u8 3]) (t := 5) (fr := (0, 0)) (heap_alloc_new w3 _)) (by simp [Value.oneCell']) (by omega) (by simp only [maxLen]; omega) (by omega) (by omega) (w3.heap.size + 1) (by simp) ?_
  intro g3 cap3 w4 hk4 hg4 hat4 hlt4
  have hHeld2 : Box0 w.heap.size (.slice va vn vc) w4 := ⟨(hg4.cell_far ⟨w.heap.size, 0, none⟩ (by have := HS1h.out.at.lt; simp; omega) (fun e => HS1h.out.at.far e.symm)).trans hHeld.c0⟩
  have q6 : w4.cell? ⟨w.heap.size, 0, none⟩ = some (.slice va vn vc) := hHeld2.c0
  have z6 : w4.frozen? ⟨w.heap.size, 0, none⟩ = false := ((hg4.frozen_far ⟨w.heap.size, 0, none⟩ (by have := HS1h.out.at.lt; simp; omega) (fun e => HS1h.out.at.far e.symm)).trans (frozen_new w3 _ _ (by show w.heap.size < w3.heap.size; exact HS1h.out.at.lt))).trans HS1h.out.at.fz
  have HS1 := Lib.hid (HS1h.out.byte (UInt8.ofNat 3) rfl hk4 hg4 hat4)
  clear hk4 hg4 hHeld hat4
  refine hK.out _ _ hHeld2 (fun hHeld => ?_)
  clear hK K hHeld2
  refine norm_ (a' := ?_) ?_ ?_
  rotate_left
  · show Act.put _ (some 23) _ = _
    simp only [Act.put, List.setIfInBounds_toArray, List.set_cons_zero, List.set_cons_succ, i64_w, i32_w]
    rfl
  refine last_ (i := 6) (N := none) #[true, true, true, true, true, true, true] rfl rfl (by kernel_rfl) (by decide) (fun K hK => ?_)
  refine skip_ (w1 := w4.setCell ⟨w.heap.size, 0, none⟩ (.slice (some ⟨g3, 0, none⟩) ((l).length + 1) cap3)) (by rfl) rfl ?_ ?_
  · go_simp
  refine hK.out _ _ ?_
  clear hK K
  refine done_ (by kernel_rfl) ?_
  generalize hW1 : World.setCell w4 _ _ = W1 at HS1 ⊢
  clear hW1 q6 z6 hHeld
  obtain ⟨n1, hn1⟩ : ∃ n1, n1 = l.length + 1 := ⟨_, rfl⟩
  rw [← hn1] at HS1 ⊢
  clear hn1
  have qc := HS1.out.at.cell
  have qf := HS1.out.fn
  have qz := HS1.out.at.fz
  have HCON := Lib.hid (laidB_any w.heap.size (w.heap.size + 1) (l ++ [3]) _ x W1 HS1.out.at hx (by simp; omega) qf)
  go_wp2_with fail
  refine (HCON.out).mono ?_
  rintro e w6 ⟨rfl, v2, ha2, hs2⟩
  have HS2 := Lib.hid (HS1.out.step ha2 hs2)
  clear ha2 hs2 qc qf qz
  obtain ⟨a2, m2, c2, rfl⟩ := HS2.out.slc
  have qc := HS2.out.at.cell
  have qf := HS2.out.fn
  have qz := HS2.out.at.fz
  have HF := Lib.hid HS2.out.fin
  simp only [List.append_assoc, List.cons_append, List.nil_append] at HF
  go_wp2_with fail
  go_ret
  exact HF.out
set_option maxRecDepth 100000 in
set_option maxHeartbeats 4000000 in
theorem laid_4 (w : World) (va : Option Addr) (vn vc : Nat) (l : Bs) (x y : Nat) (hr : w.ownsRow 0 5 1 (.slice va vn vc) l.length (cellsB l)) (hl : l.length ≤ 1000000000000) (hx : x < 18446744073709551616) (hy : y < 18446744073709551616)
    (HHELD : ∀ (l : Bs) (v' : Value) (W : World), LS w (.slice va vn vc) l v' W → Calls Try.prog 61 #[.iface 77 (.complex .f64 x y)] W fun e w' => ∃ n', n' = (0 : Int) ∧ ∃ (x' y' : Nat) (s' : ByteArray) (a' : Option Addr) (len' cap' : Nat), e = .returned (.agg #[.int .u8 4, .int .i64 n', .float .f64 x', .float .f64 y', .string s', .slice a' len' cap']) ∧ Below W.heap.size W w') :
    Calls Try.prog 42 #[.slice va vn vc, .iface 77 (.complex .f64 x y)] w (LaidIs (.slice va vn vc) (l ++ 4 :: (eb 8 (fbits x) ++ eb 8 (fbits y))) w) := by
  have a0 := ta_cb
  have a1 := ta_ci
  have a2 := ta_cf
  have a3 := ta_cc
  have HHELD := Lib.hid HHELD
  have HS0 := Lib.hid (LS.start w (.slice va vn vc) l hr)
  have hmf : ∀ (fn : Fn) (first cap : Array Value) (w : World), (Instr.makeFunc fn first cap).run Try.prog w = .ok (.func fn first cap) w := fun _ _ _ _ => rfl
  have hf0 := run_field0
  have hf1 := run_field1
  obtain ⟨i0, hi0, hz0, hz1, hz2⟩ := info_parts info_u8
  clear hr
  go_enter Try.func42, Try.ntmps42
  go_wp2_with fail
  refine start_ (n := 7) (S := Box0 w.heap.size (.slice va vn vc)) (ds := [6]) #[false, false, false, false, false, false, false] (by kernel_rfl) rfl rfl ⟨HS0.out.drew.at.cell⟩ (fun hHeld => ?_)
  have HS0 := Lib.hid HS0.out.drew
  generalize World.drew _ = wd at hHeld HS0 ⊢
  refine pure_ (i := 1) (N := some 19) (v := ?_) (a' := ?_) #[false, true, false, false, false, false, false] rfl rfl (by kernel_rfl) (fun _ _ _ h => h) (Or.inl ⟨by rfl, ?_⟩) ?_ ?_
  rotate_left
  · intro w'
    go_simp
    with_reducible rfl
  rotate_left
  · simp only [Act.put, List.setIfInBounds_toArray, List.set_cons_zero, List.set_cons_succ, i64_w, i32_w]
    rfl
  refine take_ (i := 0) (N := some 18) (v := ?_) (a' := ?_) #[true, true, false, false, false, false, false] rfl rfl (by kernel_rfl) (fun _ _ _ h => h) (Or.inl ⟨by rfl, ?_⟩) hHeld ?_ ?_
  rotate_left
  · rintro w' ⟨s0⟩
    go_simp
    with_reducible rfl
  rotate_left
  · simp only [Act.put, List.setIfInBounds_toArray, List.set_cons_zero, List.set_cons_succ, i64_w, i32_w]
    rfl
  refine one_ (i := 2) (N := some 20) #[true, true, true, false, false, false, false] rfl rfl (by kernel_rfl) (by decide) (fun K hK => ?_)
  refine goes_ Try.func61 (by kernel_rfl) (by kernel_rfl) #[.iface 77 (.complex .f64 x y)] (by rfl) rfl rfl (by (try simp only [List.map_toArray, List.map_cons, List.map_nil]); first | done | rfl) ?_
  refine (HHELD.out _ _ _ HS0.out).mono ?_
  rintro e w3 ⟨n', hkn, x', y', s', a', len', cap', rfl, hb1⟩
  have HS1h := Lib.hid (HS0.out.below hb1)
  have hHeld2 : Box0 w.heap.size (.slice va vn vc) w3 := ⟨HS1h.out.at.cell⟩
  have HKN := Lib.hid hkn
  clear hb1 hHeld hkn
  refine ⟨_, rfl, ?_⟩
  refine hK.out _ _ hHeld2 (fun hHeld => ?_)
  clear hK K hHeld2
  refine norm_ (a' := ?_) ?_ ?_
  rotate_left
  · show Act.put _ (some 20) _ = _
    simp only [Act.put, List.setIfInBounds_toArray, List.set_cons_zero, List.set_cons_succ, i64_w, i32_w]
    rfl
  refine pure_ (i := 3) (N := some 21) (v := ?_) (a' := ?_) #[true, true, true, true, false, false, false] rfl rfl (by kernel_rfl) (fun _ _ _ h => h) (Or.inl ⟨by rfl, ?_⟩) ?_ ?_
  rotate_left
  · intro w'
    go_simp
    with_reducible rfl
  rotate_left
  · simp only [Act.put, List.setIfInBounds_toArray, List.set_cons_zero, List.set_cons_succ, i64_w, i32_w]
    rfl
  refine one_ (i := 4) (N := some 22) #[true, true, true, true, true, false, false] rfl rfl (by kernel_rfl) (by decide) (fun K hK => ?_)
  refine value_ (w1 := w3.alloc (.cells #[.int .u8 4] 5)) (v := .slice (some ⟨w3.heap.size, 0, none⟩) 1 1) (by rfl) rfl ?_ ?_
  · go_simp
  refine hK.out _ _ ⟨(cell_new w3 _ _ (by show w.heap.size < w3.heap.size; exact HS1h.out.at.lt)).trans hHeld.c0⟩ (fun hHeld => ?_)
  clear hK K
  refine norm_ (a' := ?_) ?_ ?_
  rotate_left
  · show Act.put _ (some 22) _ = _
    simp only [Act.put, List.setIfInBounds_toArray, List.set_cons_zero, List.set_cons_succ, i64_w, i32_w]
    rfl
  refine one_ (i := 5) (N := some 23) #[true, true, true, true, true, true, false] rfl rfl (by kernel_rfl) (by decide) (fun K hK => ?_)
  refine step_append_lies (w := w3.alloc (.cells #[.int .u8 4] 5)) (by rfl) _ _ 68 (by rfl) 0 5 i0 _ 1 1 Try.underlying68 hi0 hz0 hz1 hz2 rfl (by omega) (.slice va vn vc) (l).length (cellsB (l)) (by rfl) (HS1h.out.at.row.alloc _) ⟨w3.heap.size, 0, none⟩ 1 1 [.int .u8 4] (by rfl) rfl (World.news_of_block (cs := #[.int .u8 4]) (t := 5) (fr := (0, 0)) (heap_alloc_new w3 _)) (by simp [Value.oneCell']) (by omega) (by simp only [maxLen]; omega) (by omega) (by omega) (w3.heap.size + 1) (by simp) ?_
  intro g3 cap3 w4 hk4 hg4 hat4 hlt4
  have hHeld2 : Box0 w.heap.size (.slice va vn vc) w4 := ⟨(hg4.cell_far ⟨w.heap.size, 0, none⟩ (by have := HS1h.out.at.lt; simp; omega) (fun e => HS1h.out.at.far e.symm)).trans hHeld.c0⟩
  have q6 : w4.cell? ⟨w.heap.size, 0, none⟩ = some (.slice va vn vc) := hHeld2.c0
  have z6 : w4.frozen? ⟨w.heap.size, 0, none⟩ = false := ((hg4.frozen_far ⟨w.heap.size, 0, none⟩ (by have := HS1h.out.at.lt; simp; omega) (fun e => HS1h.out.at.far e.symm)).trans (frozen_new w3 _ _ (by show w.heap.size < w3.heap.size; exact HS1h.out.at.lt))).trans HS1h.out.at.fz
  have HS1 := Lib.hid (HS1h.out.byte (UInt8.ofNat 4) rfl hk4 hg4 hat4)
  clear hk4 hg4 hHeld hat4
  refine hK.out _ _ hHeld2 (fun hHeld => ?_)
  clear hK K hHeld2
  refine norm_ (a' := ?_) ?_ ?_
  rotate_left
  · show Act.put _ (some 23) _ = _
    simp only [Act.put, List.setIfInBounds_toArray, List.set_cons_zero, List.set_cons_succ, i64_w, i32_w]
    rfl
  refine last_ (i := 6) (N := none) #[true, true, true, true, true, true, true] rfl rfl (by kernel_rfl) (by decide) (fun K hK => ?_)
  refine skip_ (w1 := w4.setCell ⟨w.heap.size, 0, none⟩ (.slice (some ⟨g3, 0, none⟩) ((l).length + 1) cap3)) (by rfl) rfl ?_ ?_
  · go_simp
  refine hK.out _ _ ?_
  clear hK K
  refine done_ (by kernel_rfl) ?_
  generalize hW1 : World.setCell w4 _ _ = W1 at HS1 ⊢
  clear hW1 q6 z6 hHeld
  obtain ⟨n1, hn1⟩ : ∃ n1, n1 = l.length + 1 := ⟨_, rfl⟩
  rw [← hn1] at HS1 ⊢
  clear hn1
  have qc := HS1.out.at.cell
  have qf := HS1.out.fn
  have qz := HS1.out.at.fz
  have hel := eb_len 8 (fbits x)
  have HCON := Lib.hid (laidB_any w.heap.size (w.heap.size + 1) (l ++ [4]) _ x W1 HS1.out.at hx (by simp; omega) qf)
  go_wp2_with fail
  refine (HCON.out).mono ?_
  rintro e w6 ⟨rfl, v2, ha2, hs2⟩
  have HS2 := Lib.hid (HS1.out.step ha2 hs2)
  clear ha2 hs2 qc qf qz
  obtain ⟨a2, m2, c2, rfl⟩ := HS2.out.slc
  have qc := HS2.out.at.cell
  have qf := HS2.out.fn
  have qz := HS2.out.at.fz
  have HCON2 := Lib.hid (laidB_any w.heap.size (w.heap.size + 1) _ _ y _ HS2.out.at hy (by simp; omega) qf)
  go_wp2_with fail
  refine (HCON2.out).mono ?_
  rintro e w7 ⟨rfl, v3, ha3, hs3⟩
  have HS3 := Lib.hid (HS2.out.step ha3 hs3)
  clear ha3 hs3 qc qf qz
  obtain ⟨a3, m3, c3, rfl⟩ := HS3.out.slc
  have qc := HS3.out.at.cell
  have qf := HS3.out.fn
  have qz := HS3.out.at.fz
  have HF := Lib.hid HS3.out.fin
  simp only [List.append_assoc, List.cons_append, List.nil_append] at HF
  go_wp2_with fail
  go_ret
  exact HF.out
set_option maxRecDepth 100000 in
set_option maxHeartbeats 4000000 in
theorem laid_5 (w : World) (va : Option Addr) (vn vc : Nat) (l : Bs) (s : ByteArray) (hr : w.ownsRow 0 5 1 (.slice va vn vc) l.length (cellsB l)) (hl : l.length ≤ 1000000000000) (hs : s.size ≤ 4096)
    (HHELD : ∀ (l : Bs) (v' : Value) (W : World), LS w (.slice va vn vc) l v' W → Calls Try.prog 61 #[.iface 9 (.string s)] W fun e w' => ∃ n', n' = (0 : Int) ∧ ∃ (x' y' : Nat) (s' : ByteArray) (a' : Option Addr) (len' cap' : Nat), e = .returned (.agg #[.int .u8 5, .int .i64 n', .float .f64 x', .float .f64 y', .string s', .slice a' len' cap']) ∧ Below W.heap.size W w') :
    Calls Try.prog 42 #[.slice va vn vc, .iface 9 (.string s)] w (LaidIs (.slice va vn vc) (l ++ 5 :: (eb 2 s.size ++ s.data.toList)) w) := by
  have a0 := ta_sb
  have a1 := ta_si
  have a2 := ta_sf
  have a3 := ta_sc
  have a4 := ta_ss
  have HHELD := Lib.hid HHELD
  have HS0 := Lib.hid (LS.start w (.slice va vn vc) l hr)
  have hmf : ∀ (fn : Fn) (first cap : Array Value) (w : World), (Instr.makeFunc fn first cap).run Try.prog w = .ok (.func fn first cap) w := fun _ _ _ _ => rfl
  have hf0 := run_field0
  have hf1 := run_field1
  obtain ⟨i0, hi0, hz0, hz1, hz2⟩ := info_parts info_u8
  clear hr
  go_enter Try.func42, Try.ntmps42
  go_wp2_with fail
  refine start_ (n := 7) (S := Box0 w.heap.size (.slice va vn vc)) (ds := [6]) #[false, false, false, false, false, false, false] (by kernel_rfl) rfl rfl ⟨HS0.out.drew.at.cell⟩ (fun hHeld => ?_)
  have HS0 := Lib.hid HS0.out.drew
  generalize World.drew _ = wd at hHeld HS0 ⊢
  refine pure_ (i := 1) (N := some 19) (v := ?_) (a' := ?_) #[false, true, false, false, false, false, false] rfl rfl (by kernel_rfl) (fun _ _ _ h => h) (Or.inl ⟨by rfl, ?_⟩) ?_ ?_
  rotate_left
  · intro w'
    go_simp
    with_reducible rfl
  rotate_left
  · simp only [Act.put, List.setIfInBounds_toArray, List.set_cons_zero, List.set_cons_succ, i64_w, i32_w]
    rfl
  refine take_ (i := 0) (N := some 18) (v := ?_) (a' := ?_) #[true, true, false, false, false, false, false] rfl rfl (by kernel_rfl) (fun _ _ _ h => h) (Or.inl ⟨by rfl, ?_⟩) hHeld ?_ ?_
  rotate_left
  · rintro w' ⟨s0⟩
    go_simp
    with_reducible rfl
  rotate_left
  · simp only [Act.put, List.setIfInBounds_toArray, List.set_cons_zero, List.set_cons_succ, i64_w, i32_w]
    rfl
  refine one_ (i := 2) (N := some 20) #[true, true, true, false, false, false, false] rfl rfl (by kernel_rfl) (by decide) (fun K hK => ?_)
  refine goes_ Try.func61 (by kernel_rfl) (by kernel_rfl) #[.iface 9 (.string s)] (by rfl) rfl rfl (by (try simp only [List.map_toArray, List.map_cons, List.map_nil]); first | done | rfl) ?_
  refine (HHELD.out _ _ _ HS0.out).mono ?_
  rintro e w3 ⟨n', hkn, x', y', s', a', len', cap', rfl, hb1⟩
  have HS1h := Lib.hid (HS0.out.below hb1)
  have hHeld2 : Box0 w.heap.size (.slice va vn vc) w3 := ⟨HS1h.out.at.cell⟩
  have HKN := Lib.hid hkn
  clear hb1 hHeld hkn
  refine ⟨_, rfl, ?_⟩
  refine hK.out _ _ hHeld2 (fun hHeld => ?_)
  clear hK K hHeld2
  refine norm_ (a' := ?_) ?_ ?_
  rotate_left
  · show Act.put _ (some 20) _ = _
    simp only [Act.put, List.setIfInBounds_toArray, List.set_cons_zero, List.set_cons_succ, i64_w, i32_w]
    rfl
  refine pure_ (i := 3) (N := some 21) (v := ?_) (a' := ?_) #[true, true, true, true, false, false, false] rfl rfl (by kernel_rfl) (fun _ _ _ h => h) (Or.inl ⟨by rfl, ?_⟩) ?_ ?_
  rotate_left
  · intro w'
    go_simp
    with_reducible rfl
  rotate_left
  · simp only [Act.put, List.setIfInBounds_toArray, List.set_cons_zero, List.set_cons_succ, i64_w, i32_w]
    rfl
  refine one_ (i := 4) (N := some 22) #[true, true, true, true, true, false, false] rfl rfl (by kernel_rfl) (by decide) (fun K hK => ?_)
  refine value_ (w1 := w3.alloc (.cells #[.int .u8 5] 5)) (v := .slice (some ⟨w3.heap.size, 0, none⟩) 1 1) (by rfl) rfl ?_ ?_
  · go_simp
  refine hK.out _ _ ⟨(cell_new w3 _ _ (by show w.heap.size < w3.heap.size; exact HS1h.out.at.lt)).trans hHeld.c0⟩ (fun hHeld => ?_)
  clear hK K
  refine norm_ (a' := ?_) ?_ ?_
  rotate_left
  · show Act.put _ (some 22) _ = _
    simp only [Act.put, List.setIfInBounds_toArray, List.set_cons_zero, List.set_cons_succ, i64_w, i32_w]
    rfl
  refine one_ (i := 5) (N := some 23) #[true, true, true, true, true, true, false] rfl rfl (by kernel_rfl) (by decide) (fun K hK => ?_)
  refine step_append_lies (w := w3.alloc (.cells #[.int .u8 5] 5)) (by rfl) _ _ 68 (by rfl) 0 5 i0 _ 1 1 Try.underlying68 hi0 hz0 hz1 hz2 rfl (by omega) (.slice va vn vc) (l).length (cellsB (l)) (by rfl) (HS1h.out.at.row.alloc _) ⟨w3.heap.size, 0, none⟩ 1 1 [.int .u8 5] (by rfl) rfl (World.news_of_block (cs := #[.int .u8 5]) (t := 5) (fr := (0, 0)) (heap_alloc_new w3 _)) (by simp [Value.oneCell']) (by omega) (by simp only [maxLen]; omega) (by omega) (by omega) (w3.heap.size + 1) (by simp) ?_
  intro g3 cap3 w4 hk4 hg4 hat4 hlt4
  have hHeld2 : Box0 w.heap.size (.slice va vn vc) w4 := ⟨(hg4.cell_far ⟨w.heap.size, 0, none⟩ (by have := HS1h.out.at.lt; simp; omega) (fun e => HS1h.out.at.far e.symm)).trans hHeld.c0⟩
  have q6 : w4.cell? ⟨w.heap.size, 0, none⟩ = some (.slice va vn vc) := hHeld2.c0
  have z6 : w4.frozen? ⟨w.heap.size, 0, none⟩ = false := ((hg4.frozen_far ⟨w.heap.size, 0, none⟩ (by have := HS1h.out.at.lt; simp; omega) (fun e => HS1h.out.at.far e.symm)).trans (frozen_new w3 _ _ (by show w.heap.size < w3.heap.size; exact HS1h.out.at.lt))).trans HS1h.out.at.fz
  have HS1 := Lib.hid (HS1h.out.byte (UInt8.ofNat 5) rfl hk4 hg4 hat4)
  clear hk4 hg4 hHeld hat4
  refine hK.out _ _ hHeld2 (fun hHeld => ?_)
  clear hK K hHeld2
  refine norm_ (a' := ?_) ?_ ?_
  rotate_left
  · show Act.put _ (some 23) _ = _
    simp only [Act.put, List.setIfInBounds_toArray, List.set_cons_zero, List.set_cons_succ, i64_w, i32_w]
    rfl
  refine last_ (i := 6) (N := none) #[true, true, true, true, true, true, true] rfl rfl (by kernel_rfl) (by decide) (fun K hK => ?_)
  refine skip_ (w1 := w4.setCell ⟨w.heap.size, 0, none⟩ (.slice (some ⟨g3, 0, none⟩) ((l).length + 1) cap3)) (by rfl) rfl ?_ ?_
  · go_simp
  refine hK.out _ _ ?_
  clear hK K
  refine done_ (by kernel_rfl) ?_
  generalize hW1 : World.setCell w4 _ _ = W1 at HS1 ⊢
  clear hW1 q6 z6 hHeld
  obtain ⟨n1, hn1⟩ : ∃ n1, n1 = l.length + 1 := ⟨_, rfl⟩
  rw [← hn1] at HS1 ⊢
  clear hn1
  have qc := HS1.out.at.cell
  have qf := HS1.out.fn
  have qz := HS1.out.at.fz
  have hel := eb_len 2 s.size
  have HCON := Lib.hid (laidA_any w.heap.size (l ++ [5]) _ s.size 2 W1 HS1.out.at (by omega) (by simp; omega) (by omega))
  go_wp2_with fail
  refine (HCON.out).mono ?_
  rintro e w6 ⟨rfl, v2, ha2, hs2⟩
  have HS2 := Lib.hid (HS1.out.step ha2 hs2)
  clear ha2 hs2 qc qf qz
  obtain ⟨a2, m2, c2, rfl⟩ := HS2.out.slc
  have qc := HS2.out.at.cell
  have qf := HS2.out.fn
  have qz := HS2.out.at.fz
  go_wp2_with (refine wpList_app (by rfl) _ _ 68 9 (by rfl) _ _ (by rfl) (by rfl) (fun ty => run_app_str 68 9 ty i0 Try.underlying68 Try.underlying9 hi0 hz0 hz1 hz2 _ _ _ HS2.out.at.row s (by simp; omega)) ?_; rintro v9 w9 HAP; have hq := HS2.out.q6 HAP; have hq1 := hq.1; have hq2 := hq.2; obtain ⟨a9, m9, c9, rfl⟩ := HAP.2.2.2; have HS3 := Lib.hid (HS2.out.app HAP); clear HAP hq)
  have HF := Lib.hid HS3.out.fin
  simp only [List.append_assoc, List.cons_append, List.nil_append] at HF
  go_wp2_with fail
  go_ret
  exact HF.out
set_option maxRecDepth 100000 in
set_option maxHeartbeats 4000000 in
theorem laid_6 (w : World) (va : Option Addr) (vn vc : Nat) (l : Bs) (s : ByteArray) (b cap : Nat) (hr : w.ownsRow 0 5 1 (.slice va vn vc) l.length (cellsB l)) (hl : l.length ≤ 1000000000000) (hs : s.size ≤ 4096) (hrb : ∀ (l : Bs) (v' : Value) (W : World), LS w (.slice va vn vc) l v' W → W.rangeAt b 0 (Lib.strCells s))
    (HHELD : ∀ (l : Bs) (v' : Value) (W : World), LS w (.slice va vn vc) l v' W → Calls Try.prog 61 #[.iface 68 (.slice (some ⟨b, 0, none⟩) s.size cap)] W fun e w' => ∃ n', n' = (0 : Int) ∧ ∃ (x' y' : Nat) (s' : ByteArray) (a' : Option Addr) (len' cap' : Nat), e = .returned (.agg #[.int .u8 6, .int .i64 n', .float .f64 x', .float .f64 y', .string s', .slice a' len' cap']) ∧ Below W.heap.size W w') :
    Calls Try.prog 42 #[.slice va vn vc, .iface 68 (.slice (some ⟨b, 0, none⟩) s.size cap)] w (LaidIs (.slice va vn vc) (l ++ 6 :: (eb 2 s.size ++ s.data.toList)) w) := by
  have a0 := ta_yb
  have a1 := ta_yi
  have a2 := ta_yf
  have a3 := ta_yc
  have a4 := ta_ys
  have a5 := ta_yy
  have HHELD := Lib.hid HHELD
  have HS0 := Lib.hid (LS.start w (.slice va vn vc) l hr)
  have hmf : ∀ (fn : Fn) (first cap : Array Value) (w : World), (Instr.makeFunc fn first cap).run Try.prog w = .ok (.func fn first cap) w := fun _ _ _ _ => rfl
  have hf0 := run_field0
  have hf1 := run_field1
  obtain ⟨i0, hi0, hz0, hz1, hz2⟩ := info_parts info_u8
  clear hr
  go_enter Try.func42, Try.ntmps42
  go_wp2_with fail
  refine start_ (n := 7) (S := Box0 w.heap.size (.slice va vn vc)) (ds := [6]) #[false, false, false, false, false, false, false] (by kernel_rfl) rfl rfl ⟨HS0.out.drew.at.cell⟩ (fun hHeld => ?_)
  have HS0 := Lib.hid HS0.out.drew
  generalize World.drew _ = wd at hHeld HS0 ⊢
  refine pure_ (i := 1) (N := some 19) (v := ?_) (a' := ?_) #[false, true, false, false, false, false, false] rfl rfl (by kernel_rfl) (fun _ _ _ h => h) (Or.inl ⟨by rfl, ?_⟩) ?_ ?_
  rotate_left
  · intro w'
    go_simp
    with_reducible rfl
  rotate_left
  · simp only [Act.put, List.setIfInBounds_toArray, List.set_cons_zero, List.set_cons_succ, i64_w, i32_w]
    rfl
  refine take_ (i := 0) (N := some 18) (v := ?_) (a' := ?_) #[true, true, false, false, false, false, false] rfl rfl (by kernel_rfl) (fun _ _ _ h => h) (Or.inl ⟨by rfl, ?_⟩) hHeld ?_ ?_
  rotate_left
  · rintro w' ⟨s0⟩
    go_simp
    with_reducible rfl
  rotate_left
  · simp only [Act.put, List.setIfInBounds_toArray, List.set_cons_zero, List.set_cons_succ, i64_w, i32_w]
    rfl
  refine one_ (i := 2) (N := some 20) #[true, true, true, false, false, false, false] rfl rfl (by kernel_rfl) (by decide) (fun K hK => ?_)
  refine goes_ Try.func61 (by kernel_rfl) (by kernel_rfl) #[.iface 68 (.slice (some ⟨b, 0, none⟩) s.size cap)] (by rfl) rfl rfl (by (try simp only [List.map_toArray, List.map_cons, List.map_nil]); first | done | rfl) ?_
  refine (HHELD.out _ _ _ HS0.out).mono ?_
  rintro e w3 ⟨n', hkn, x', y', s', a', len', cap', rfl, hb1⟩
  have HS1h := Lib.hid (HS0.out.below hb1)
  have hHeld2 : Box0 w.heap.size (.slice va vn vc) w3 := ⟨HS1h.out.at.cell⟩
  have HKN := Lib.hid hkn
  clear hb1 hHeld hkn
  refine ⟨_, rfl, ?_⟩
  refine hK.out _ _ hHeld2 (fun hHeld => ?_)
  clear hK K hHeld2
  refine norm_ (a' := ?_) ?_ ?_
  rotate_left
  · show Act.put _ (some 20) _ = _
    simp only [Act.put, List.setIfInBounds_toArray, List.set_cons_zero, List.set_cons_succ, i64_w, i32_w]
    rfl
  refine pure_ (i := 3) (N := some 21) (v := ?_) (a' := ?_) #[true, true, true, true, false, false, false] rfl rfl (by kernel_rfl) (fun _ _ _ h => h) (Or.inl ⟨by rfl, ?_⟩) ?_ ?_
  rotate_left
  · intro w'
    go_simp
    with_reducible rfl
  rotate_left
  · simp only [Act.put, List.setIfInBounds_toArray, List.set_cons_zero, List.set_cons_succ, i64_w, i32_w]
    rfl
  refine one_ (i := 4) (N := some 22) #[true, true, true, true, true, false, false] rfl rfl (by kernel_rfl) (by decide) (fun K hK => ?_)
  refine value_ (w1 := w3.alloc (.cells #[.int .u8 6] 5)) (v := .slice (some ⟨w3.heap.size, 0, none⟩) 1 1) (by rfl) rfl ?_ ?_
  · go_simp
  refine hK.out _ _ ⟨(cell_new w3 _ _ (by show w.heap.size < w3.heap.size; exact HS1h.out.at.lt)).trans hHeld.c0⟩ (fun hHeld => ?_)
  clear hK K
  refine norm_ (a' := ?_) ?_ ?_
  rotate_left
  · show Act.put _ (some 22) _ = _
    simp only [Act.put, List.setIfInBounds_toArray, List.set_cons_zero, List.set_cons_succ, i64_w, i32_w]
    rfl
  refine one_ (i := 5) (N := some 23) #[true, true, true, true, true, true, false] rfl rfl (by kernel_rfl) (by decide) (fun K hK => ?_)
  refine step_append_lies (w := w3.alloc (.cells #[.int .u8 6] 5)) (by rfl) _ _ 68 (by rfl) 0 5 i0 _ 1 1 Try.underlying68 hi0 hz0 hz1 hz2 rfl (by omega) (.slice va vn vc) (l).length (cellsB (l)) (by rfl) (HS1h.out.at.row.alloc _) ⟨w3.heap.size, 0, none⟩ 1 1 [.int .u8 6] (by rfl) rfl (World.news_of_block (cs := #[.int .u8 6]) (t := 5) (fr := (0, 0)) (heap_alloc_new w3 _)) (by simp [Value.oneCell']) (by omega) (by simp only [maxLen]; omega) (by omega) (by omega) (w3.heap.size + 1) (by simp) ?_
  intro g3 cap3 w4 hk4 hg4 hat4 hlt4
  have hHeld2 : Box0 w.heap.size (.slice va vn vc) w4 := ⟨(hg4.cell_far ⟨w.heap.size, 0, none⟩ (by have := HS1h.out.at.lt; simp; omega) (fun e => HS1h.out.at.far e.symm)).trans hHeld.c0⟩
  have q6 : w4.cell? ⟨w.heap.size, 0, none⟩ = some (.slice va vn vc) := hHeld2.c0
  have z6 : w4.frozen? ⟨w.heap.size, 0, none⟩ = false := ((hg4.frozen_far ⟨w.heap.size, 0, none⟩ (by have := HS1h.out.at.lt; simp; omega) (fun e => HS1h.out.at.far e.symm)).trans (frozen_new w3 _ _ (by show w.heap.size < w3.heap.size; exact HS1h.out.at.lt))).trans HS1h.out.at.fz
  have HS1 := Lib.hid (HS1h.out.byte (UInt8.ofNat 6) rfl hk4 hg4 hat4)
  clear hk4 hg4 hHeld hat4
  refine hK.out _ _ hHeld2 (fun hHeld => ?_)
  clear hK K hHeld2
  refine norm_ (a' := ?_) ?_ ?_
  rotate_left
  · show Act.put _ (some 23) _ = _
    simp only [Act.put, List.setIfInBounds_toArray, List.set_cons_zero, List.set_cons_succ, i64_w, i32_w]
    rfl
  refine last_ (i := 6) (N := none) #[true, true, true, true, true, true, true] rfl rfl (by kernel_rfl) (by decide) (fun K hK => ?_)
  refine skip_ (w1 := w4.setCell ⟨w.heap.size, 0, none⟩ (.slice (some ⟨g3, 0, none⟩) ((l).length + 1) cap3)) (by rfl) rfl ?_ ?_
  · go_simp
  refine hK.out _ _ ?_
  clear hK K
  refine done_ (by kernel_rfl) ?_
  generalize hW1 : World.setCell w4 _ _ = W1 at HS1 ⊢
  clear hW1 q6 z6 hHeld
  obtain ⟨n1, hn1⟩ : ∃ n1, n1 = l.length + 1 := ⟨_, rfl⟩
  rw [← hn1] at HS1 ⊢
  clear hn1
  have qc := HS1.out.at.cell
  have qf := HS1.out.fn
  have qz := HS1.out.at.fz
  have hel := eb_len 2 s.size
  have HCON := Lib.hid (laidA_any w.heap.size (l ++ [6]) _ s.size 2 W1 HS1.out.at (by omega) (by simp; omega) (by omega))
  have HRB := Lib.hid hrb
  clear hrb
  go_wp2_with fail
  refine (HCON.out).mono ?_
  rintro e w6 ⟨rfl, v2, ha2, hs2⟩
  have HS2 := Lib.hid (HS1.out.step ha2 hs2)
  clear ha2 hs2 qc qf qz
  obtain ⟨a2, m2, c2, rfl⟩ := HS2.out.slc
  have qc := HS2.out.at.cell
  have qf := HS2.out.fn
  have qz := HS2.out.at.fz
  go_wp2_with (refine wpList_app (by rfl) _ _ 68 68 (by rfl) _ _ (by rfl) (by rfl) (fun ty => run_app_bytes 68 ty i0 Try.underlying68 hi0 hz0 hz1 hz2 _ _ _ HS2.out.at.row s b cap (by simp; omega) (HRB.out _ _ _ HS2.out)) ?_; rintro v9 w9 HAP; have hq := HS2.out.q6 HAP; have hq1 := hq.1; have hq2 := hq.2; obtain ⟨a9, m9, c9, rfl⟩ := HAP.2.2.2; have HS3 := Lib.hid (HS2.out.app HAP); clear HAP hq)
  have HF := Lib.hid HS3.out.fin
  simp only [List.append_assoc, List.cons_append, List.nil_append] at HF
  go_wp2_with fail
  go_ret
  exact HF.out
end Go.Proofs.Ytaglklcjolcgeaa
