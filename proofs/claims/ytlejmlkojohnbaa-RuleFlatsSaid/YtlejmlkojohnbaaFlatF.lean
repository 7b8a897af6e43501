/- The walk of 'rule.Flat'. -/
import Derived.Test.YtlejmlkojohnbaaFlatN
import Derived.Test.YtlejmlkojohnbaaFits
import Derived.Test.YtlejmlkojohnbaaProg
import Derived.WalkLawsBesides
import Derived.WalkSpells
import Derived.Lib.Hide
import Derived.Laws.Rows
import Derived.Laws.Tables
import Derived.Laws.ResultCell
namespace Go.Proofs.Ytlejmlkojohnbaa
open Go.RowKit
attribute [local go_sem] run_store_float
theorem results_cell_row_tmp {P : Program} {fn : Func} {p u : Tmp} {ty : TypeId} (h : fn.results = #[.cell p ty, .tmp u]) (tmps : Array Value) (w : World) (g : Nat) (t : TypeId) (cs : Array Value) (fr : Nat × Nat) (d : TypeDesc)
    (hp : tmps.getD p undef = .pointer (some ⟨g, 0, none⟩)) (hg : w.heap[g]? = some (.cells cs t fr))
    (hu : P.underlying ty = some d) (hd : (match d with | .struct _ | .array _ _ => true | _ => false) = true) (hi : (P.info? ty).map (·.size) = some cs.size) (v : Value) (hv : tmps.getD u undef = v) :
    (results fn tmps).run P w = .ok (.tuple #[.agg cs, v]) w := by
  rw [results_cell_tmp h, hp, hv]
  simp [asAddr, Result.andThen, run_loadVar_row w g t ty cs fr d hg hu hd hi]
theorem zeros1 : (#[.int .u8 0, .int .i64 0, .int .i64 0, .float .f64 0, .float .f64 0, .string ⟨#[]⟩, .slice none 0 0] : Array Value).all (·.oneCell') = true := all_oneCell_toArray (cs := [.int .u8 0, .int .i64 0, .int .i64 0, .float .f64 0, .float .f64 0, .string ⟨#[]⟩, .slice none 0 0]) (by simp [Value.oneCell'])
theorem heap_alloc1_new (w : World) (o o' : Obj) : ((w.alloc o).alloc o').heap[w.heap.size]? = some o := (Below.heap_alloc _ _ _ (by simp)).trans (heap_alloc_new w o)
theorem flat_low {w w1 : World} {o1 o2 : Obj} (hb1 : Below ((w.alloc o1).alloc o2).heap.size ((w.alloc o1).alloc o2) w1) (C : Array Value) : Below w.heap.size w (w1.setRow (w.heap.size + 1) C) := by
  have h0 : Below w.heap.size w w1 := (bnew (bnew (Below.refl _ w) o1) o2).trans (hb1.mono (by simp; omega))
  exact h0.trans ⟨rfl, rfl, rfl, by simp, fun i hi => setRow_other _ _ _ _ (by omega)⟩
def FlatIs (t : Rl) (w : World) (e : Ending) (w' : World) : Prop := ∃ (op n m : Int) (x y : Nat) (s : ByteArray) (rs : List Rl) (a : Option Addr) (cap : Nat) (F : List Nat), t = .mk op n m x y s rs ∧
  e = .returned (.tuple #[.agg #[.int .u8 op, .int .i64 n, .int .i64 m, .float .f64 x, .float .f64 y, .string s, .slice a rs.length cap], .int .i64 0]) ∧
  t.tr.own 7 w' [.int .u8 op, .int .i64 n, .int .i64 m, .float .f64 x, .float .f64 y, .string s, .slice a rs.length cap] F ∧ Apart w.heap.size F ∧ Soft w' F ∧ Below w.heap.size w w'
def FlatNo (w : World) (e : Ending) (w' : World) : Prop := e = .returned (.tuple #[.agg #[.int .u8 0, .int .i64 0, .int .i64 0, .float .f64 0, .float .f64 0, .string ⟨#[]⟩, .slice none 0 0], .int .i64 220]) ∧ Below w.heap.size w w'
set_option maxRecDepth 100000 in
set_option maxHeartbeats 2000000 in
theorem Flat_no (r : Rl) (h3 : r.size ≤ 3000) (hwf : r.wf) (hck : r.checkN = 220) (c : List Value) (F : List Nat) (w : World) (hr : r.tr.own 7 w c F) : Calls Try.prog 6 #[.agg c.toArray] w (FlatNo w) := by
  obtain ⟨v0, v1, v2, v3, v4, v5, v6, rfl⟩ := Rl.shape hr
  have HC := Lib.hid (fun o1 o2 => (Check_any r h3 hwf [v0, v1, v2, v3, v4, v5, v6] F ((w.alloc o1).alloc o2) (Tr.own_below (Tr.own_below hr (bnew (Below.refl _ w) o1)) (bnew (Below.refl _ _) o2))).mono (R' := fun e w' => e = .returned (.int .i64 220) ∧ Below ((w.alloc o1).alloc o2).heap.size ((w.alloc o1).alloc o2) w') fun e w' h => by rw [← hck]; exact h)
  clear hr hck hwf
  go_enter Try.func6, Try.ntmps6
  go_wp2_with (first | (have hc := HC; clear HC; go_at_call 12; refine (hc.out _ _).mono ?_; clear hc; rintro e w1 ⟨rfl, hb1⟩; have HZ := Lib.hid ((hb1.block (w.heap.size + 1) (by simp)).trans (heap_alloc2_new w _ _)); have HY := HZ) | (have hz := HY; clear HY; refine wpList_store_row (by rfl) 29 _ _ (by rfl) (w.heap.size + 1) #[.int .u8 0, .int .i64 0, .int .i64 0, .float .f64 0, .float .f64 0, .string ⟨#[]⟩, .slice none 0 0] (by rfl) (by rfl) 29 _ hz.out (by kernel_rfl) rfl zeros1 ?_; clear hz))
  refine bodyPost_ret (v := .tuple #[.agg #[.int .u8 0, .int .i64 0, .int .i64 0, .float .f64 0, .float .f64 0, .string ⟨#[]⟩, .slice none 0 0], .int .i64 220]) (results_cell_row_tmp rfl _ _ (w.heap.size + 1) 29 _ (0, 0) _ rfl (setRow_heap _ _ _ _ _ _ HZ.out) Try.underlying29 rfl (by kernel_rfl) (.int .i64 220) rfl) rfl ?_
  exact ⟨rfl, flat_low hb1 _⟩
set_option maxRecDepth 100000 in
set_option maxHeartbeats 2000000 in
theorem Flat_yes (r : Rl) (h3 : r.size ≤ 3000) (hwf : r.wf) (hck : r.checkN = 0) (har : r.ar) (c : List Value) (F : List Nat) (w : World) (hr : r.tr.own 7 w c F) : Calls Try.prog 6 #[.agg c.toArray] w (FlatIs r.flt w) := by
  obtain ⟨aop, an, am, ax, ay, as_, aas, hfe⟩ := r.flt.form
  have hown : ∀ o1 o2 w1, Below ((w.alloc o1).alloc o2).heap.size ((w.alloc o1).alloc o2) w1 → r.tr.own 7 w1 c F := fun o1 o2 w1 h => Tr.own_below (Tr.own_below (Tr.own_below hr (bnew (Below.refl _ w) o1)) (bnew (Below.refl _ _) o2)) h
  have HC := Lib.hid (fun o1 o2 => (Check_any r h3 hwf c F ((w.alloc o1).alloc o2) (hown o1 o2 _ (Below.refl _ _))).mono (R' := fun e w' => e = .returned (.int .i64 0) ∧ Below ((w.alloc o1).alloc o2).heap.size ((w.alloc o1).alloc o2) w') fun e w' h => by rw [← hck]; exact h)
  have HD := Lib.hid (fun o1 o2 w1 h => (flat_N r.size r (Nat.le_refl _) h3 har c F w1 (hown o1 o2 w1 h)).mono fun _ _ h2 => GivesR.told (hfe ▸ h2))
  have HFE := Lib.hid hfe
  obtain ⟨op, n, m, x, y, s, rs, hre⟩ := r.form
  rw [hre] at hr
  obtain ⟨a, cap, rfl, _, _, _⟩ := Rl.open hr
  clear hr hck hwf hown hfe hre
  go_enter Try.func6, Try.ntmps6
  go_wp2_with (first | (have hc := HC; clear HC; go_at_call 12; refine (hc.out _ _).mono ?_; clear hc; rintro e w1 ⟨rfl, hb1⟩; have HZ := Lib.hid ((hb1.block (w.heap.size + 1) (by simp)).trans (heap_alloc2_new w _ _)); have hbx : ∀ j, w1.cell? ⟨w.heap.size, j, none⟩ = (#[.int .u8 op, .int .i64 n, .int .i64 m, .float .f64 x, .float .f64 y, .string s, .slice a rs.length cap] : Array Value)[j]? := fun j => cell_of_row _ _ _ _ _ _ ((hb1.block w.heap.size (by simp; omega)).trans (heap_alloc1_new w _ _))) | (have hc := HD; clear HD; go_at_call 13; refine (hc.out _ _ _ hb1).mono ?_; clear hc; rintro e w2 ⟨aA, acap, G, rfl, hownG, hapG, hsoG, hb2⟩; have HY := Lib.hid ((hb2.block (w.heap.size + 1) (by have := hb1.size; simp at this; omega)).trans HZ.out); have HX := HY) | (have hz := HY; clear HY; refine wpList_store_row (by rfl) 29 _ _ (by rfl) (w.heap.size + 1) #[.int .u8 aop, .int .i64 an, .int .i64 am, .float .f64 ax, .float .f64 ay, .string as_, .slice aA aas.length acap] (by rfl) (by rfl) 29 _ hz.out (by kernel_rfl) rfl (all_oneCell_toArray (cs := [.int .u8 aop, .int .i64 an, .int .i64 am, .float .f64 ax, .float .f64 ay, .string as_, .slice aA aas.length acap]) (Tr.own_one hownG)) ?_; clear hz))
  have h1 := hb1.size
  simp only [World.size_alloc] at h1
  have hne : ∀ b ∈ G, ∀ C, (w2.setRow (w.heap.size + 1) C).heap[b]? = w2.heap[b]? := fun b hb C => setRow_other _ _ _ _ (by have := hapG.2 b hb; omega)
  refine bodyPost_ret (v := .tuple #[.agg #[.int .u8 aop, .int .i64 an, .int .i64 am, .float .f64 ax, .float .f64 ay, .string as_, .slice aA aas.length acap], .int .i64 0]) (results_cell_row_tmp rfl _ _ (w.heap.size + 1) 29 _ (0, 0) _ rfl (setRow_heap _ _ _ _ _ _ HX.out) Try.underlying29 rfl (by kernel_rfl) (.int .i64 0) rfl) rfl ?_
  refine ⟨_, _, _, _, _, _, _, _, _, G, HFE.out, rfl, ?_, hapG.mono (by omega), hsoG.same fun b hb => hne b hb _, flat_low (hb1.trans (hb2.mono hb1.size)) _⟩
  rw [HFE.out]
  exact Tr.own_same _ _ _ (fun b hb => hne b hb _) hownG
end Go.Proofs.Ytlejmlkojohnbaa
