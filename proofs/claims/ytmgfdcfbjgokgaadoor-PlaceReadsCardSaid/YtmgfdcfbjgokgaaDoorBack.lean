/- slices.Backward over a list of places: what its function hands out, round by round. -/
import Derived.RangeFuncNested
import Derived.RangeFuncBound
import Derived.RangeFuncCalls
import Derived.RangeFuncLeaves
import Derived.RangeFuncBox
import Derived.Shelf.Abstract
import Derived.Shelf.RegionOpen
import Derived.WalkKit
import Derived.OwnWalkIn
import Derived.TacticsInMore
import Derived.LoopNIn
import Derived.LoopIn
import Derived.Maps.AppendAt
import Derived.Test.YtmgfdcfbjgokgaaDoorProg
import Derived.Lib.Hide
namespace Go.Proofs.YtmgfdcfbjgokgaaDoor
open Go.RowKit Go.Shelf
set_option linter.unusedVariables false
set_option linter.unusedSimpArgs false
attribute [local go_sem] Oper.semAt_some

/-- A place as plain data. -/
abbrev Pl := ByteArray × Int
/-- A slice's cells hold places. -/
def PlAt (w : World) (A : Option Addr) (l : List Pl) : Prop :=
  ∀ j (h : j < l.length), ∃ ad, A = some ad ∧ ad.block < w.heap.size ∧ w.cell? (ad.add (j * 2)) = some (.string l[j].1) ∧ w.cell? ⟨(ad.add (j * 2)).block, (ad.add (j * 2)).off + 1, none⟩ = some (.int .i64 l[j].2)
theorem add_block_ (a : Addr) (n : Nat) : (a.add n).block = a.block := by unfold Addr.add; split <;> rfl
theorem PlAt.below {w w' : World} {A : Option Addr} {l : List Pl} (h : PlAt w A l) (hb : Below w.heap.size w w') : PlAt w' A l := fun j hj => by
  obtain ⟨ad, e, hl, h1, h2⟩ := h j hj
  exact ⟨ad, e, Nat.lt_of_lt_of_le hl hb.size, (hb.cell (by rw [add_block_]; exact hl)).trans h1, (hb.cell (by show (ad.add (j * 2)).block < _; rw [add_block_]; exact hl)).trans h2⟩

/-- Of the blocks below n₁ only Bw may have turned. -/
def KpB (Bw n₁ : Nat) (W W' : World) : Prop := ∀ k, k < n₁ → k ≠ Bw → W'.heap[k]? = W.heap[k]?
theorem KpB.refl (Bw n₁ : Nat) (W : World) : KpB Bw n₁ W W := fun _ _ _ => rfl
theorem KpB.trans {Bw n₁ : Nat} {A B C : World} (h : KpB Bw n₁ A B) (k : KpB Bw n₁ B C) : KpB Bw n₁ A C := fun i h1 h2 => (k i h1 h2).trans (h i h1 h2)
theorem KpB.cell {Bw n₁ : Nat} {W W' : World} (h : KpB Bw n₁ W W') {p : Addr} (h1 : p.block < n₁) (h2 : p.block ≠ Bw) : W'.cell? p = W.cell? p := World.cell?_of_block (w := W) (h p.block h1 h2)
theorem KpB.put {Bw n₁ : Nat} (W : World) (l : Nat) (o : Obj) (h : n₁ ≤ l) : KpB Bw n₁ W (W.putObj l o) := fun k h1 _ => World.putObj_heap_other (by omega)
theorem KpB.of_below {Bw n₁ B : Nat} {W W' : World} (h : Below B W W') (hb : n₁ ≤ B) : KpB Bw n₁ W W' := fun k h1 _ => h.block k (by omega)

/-- What has come behind k rounds: the places from the last one on. -/
def come (l : List Pl) (k : Nat) : List Pl := l.reverse.take k
theorem come_succ (l : List Pl) (k : Nat) (hk : k < l.length) (h : l.length - 1 - k < l.length) : come l (k + 1) = come l k ++ [l[l.length - 1 - k]] := by
  unfold come
  rw [List.take_succ_eq_append_getElem (by simpa using hk)]
  simp
theorem come_len (l : List Pl) (k : Nat) (hk : k ≤ l.length) : (come l k).length = k := by simp [come, hk]
theorem come_all (l : List Pl) : come l l.length = l.reverse := by
  unfold come
  rw [List.take_of_length_le (by simp)]

set_option maxRecDepth 100000 in
set_option maxHeartbeats 4000000 in
theorem back1_in (F : Fence) (n : Nat) (h7 : F.fn 75) (hro : F.round = none) (hn : 1 ≤ n) (lp Bs Bw n₀ : Nat) (A : Option Addr) (cap : Nat) (l : List Pl) (hreach : l.length ≤ 140737488351232) (J Jx : List Pl → World → Prop)
    (hY : ∀ pre (x : Pl) W, x ∈ l → J pre W → pre.length < l.length → YieldAt F (n - 1) Tryd.prog lp #[.int .i64 ((l.length - 1 - pre.length : Nat) : Int), .agg #[.string x.1, .int .i64 x.2]] W fun e W' =>
      (e = .returned (.bool true) ∧ J (pre ++ [x]) W' ∧ KpB Bw n₀ W W') ∨ (e = .returned (.bool false) ∧ Jx (pre ++ [x]) W'))
    (W : World) (hB₀ : Bs < n₀) (hBw : Bs ≠ Bw) (hBs : W.cell? ⟨Bs, 0, none⟩ = some (.slice A l.length cap))
    (hc : ∀ j (h : j < l.length), ∃ ad, A = some ad ∧ ad.block < n₀ ∧ ad.block ≠ Bw ∧ W.cell? (ad.add (j * 2)) = some (.string l[j].1) ∧ W.cell? ⟨(ad.add (j * 2)).block, (ad.add (j * 2)).off + 1, none⟩ = some (.int .i64 l[j].2)) (h0 : J [] W) :
    CallsIn F n Tryd.prog 75 #[.func (.yield lp) #[] #[], .pointer (some ⟨Bs, 0, none⟩)] W fun e W' => (∃ v, e = .returned v) ∧
      ((∃ ys, ys = l.reverse ∧ J ys W') ∨ (∃ pre, (∃ k, k ≤ l.length ∧ pre = come l k) ∧ Jx pre W')) := by
  have HC := Lib.hid hc
  have HY := Lib.hid hY
  clear hc hY
  refine callsIn_of_wp Tryd.func75 rfl h7 ?_ hro
  simp only [Tryd.ntmps75, List.size_toArray, List.length_cons, List.length_nil, Nat.reduceAdd, Nat.reduceSub, Array.replicate_succ, Array.replicate_zero, List.push_toArray, List.append_toArray, List.nil_append, List.cons_append]
  gi_wp2
  gi_loopw [3] (fun i wr => ∃ (k : Nat) (z : Int), k ≤ l.length ∧ i = .int .i64 z ∧ Hid (z = (l.length : Int) - 1 - k) ∧ -1 ≤ z ∧ z ≤ 140737488351232 ∧ J (come l k) wr ∧ KpB Bw n₀ W wr)
    (fun i _ => (intOf i + 1).toNat)
  case atStart => exact ⟨0, (l.length : Int) - 1, Nat.zero_le _, rfl, by show _ = _; simp, by omega, by omega, h0, KpB.refl _ _ _⟩
  case round =>
    obtain ⟨k, z, hk, rfl, hz, hz1, hz2, hJs, hnx⟩ := hrel
    have hBs' := (hnx.cell (p := ⟨Bs, 0, none⟩) hB₀ hBw).trans hBs
    by_cases hlt : k < l.length
    · have hlt' : l.length - 1 - k < l.length := by omega
      obtain ⟨j, hj⟩ : ∃ j, j = l.length - 1 - k := ⟨_, rfl⟩
      obtain rfl : z = (j : Int) := by have h9 : z = (l.length : Int) - 1 - k := hz.out; omega
      have hjl : j < l.length := by omega
      obtain ⟨ad, rfl, hbl, hbn, hx1, hx2⟩ := HC.out j hjl
      have hx1' := (hnx.cell (p := ad.add (j * 2)) (by rw [add_block_]; exact hbl) (by rw [add_block_]; exact hbn)).trans hx1
      have hx2' := (hnx.cell (p := ⟨(ad.add (j * 2)).block, (ad.add (j * 2)).off + 1, none⟩) (by show (ad.add (j * 2)).block < _; rw [add_block_]; exact hbl) (by show (ad.add (j * 2)).block ≠ _; rw [add_block_]; exact hbn)).trans hx2
      have hy0 := HY.out (come l k) l[j] wr (List.getElem_mem _) hJs (by rw [come_len _ _ hk]; exact hlt)
      rw [come_len _ _ hk, ← hj] at hy0
      have hcm : come l k ++ [l[j]] = come l (k + 1) := by subst hj; rw [come_succ l k hlt hlt']
      rw [hcm] at hy0
      have HJ := Lib.hid hj
      have i0 : (0 : Int) ≤ (j : Int) := by omega
      have i1 : (j : Int) < (l.length : Int) := by omega
      clear hcm hj hx1 hx2
      obtain ⟨fn, tmps, assign, body, hy, hR⟩ := hy0
      gi_wp2
      refine hR.mono ?_
      rintro e W3 (⟨rfl, hJ3, hk3⟩ | ⟨rfl, hJx3⟩)
      · gi_wp2
        go_roundw
        case rel => exact ⟨k + 1, (j : Int) - 1, by omega, rfl, by have := HJ.out; show _ = _; omega, by omega, by omega, hJ3, hnx.trans hk3⟩
        case measure => simp [intOf]
      · gi_wp2
        refine bodyPost_ret (results_none rfl _ _ _) rfl ?_
        exact ⟨⟨_, rfl⟩, .inr ⟨_, ⟨k + 1, by omega, rfl⟩, hJx3⟩⟩
    · obtain rfl : k = l.length := by omega
      obtain rfl : z = -1 := by have h9 : z = _ := hz.out; omega
      gi_wp2
      go_end0
      exact ⟨⟨_, rfl⟩, .inl ⟨_, rfl, by rw [← come_all]; exact hJs⟩⟩

set_option maxHeartbeats 1000000 in
theorem Backward_in (F : Fence) (n : Nat) (h5 : F.fn 45) (hro : F.round = none) (A : Option Addr) (len cap : Nat) (w : World) :
    CallsIn F n Tryd.prog 45 #[.slice A len cap] w fun e w' => e = .returned (.func (.func 75) #[] #[.pointer (some ⟨w.heap.size, 0, none⟩)]) ∧ w' = w.alloc (.cells #[.slice A len cap] 23) := by
  refine callsIn_of_wp Tryd.func45 rfl h5 ?_ hro
  simp only [Tryd.ntmps45, List.size_toArray, List.length_cons, List.length_nil, Nat.reduceAdd, Nat.reduceSub, Array.replicate_succ, Array.replicate_zero, List.push_toArray, List.append_toArray, List.nil_append, List.cons_append]
  gi_wp2
  go_ret
  exact ⟨rfl, rfl⟩

/-- What the iterator hands out: a number, a place of the list. -/
abbrev Ip (l : List Pl) := { x : Int × Pl // x.2 ∈ l }
theorem Backward_stops (F : Fence) (n : Nat) (h7 : F.fn 75) (hro : F.round = none) (hn : 1 ≤ n) (Bs Bw n₀ : Nat) (A : Option Addr) (cap : Nat) (l : List Pl) (hreach : l.length ≤ 140737488351232) (w : World) (hBs : Bs < n₀) (hBw : Bs ≠ Bw) (hn₀ : n₀ ≤ w.heap.size)
    (hc : w.cell? ⟨Bs, 0, none⟩ = some (.slice A l.length cap)) (hI : ∀ j (h : j < l.length), ∃ ad, A = some ad ∧ ad.block < n₀ ∧ ad.block ≠ Bw ∧ w.cell? (ad.add (j * 2)) = some (.string l[j].1) ∧ w.cell? ⟨(ad.add (j * 2)).block, (ad.add (j * 2)).off + 1, none⟩ = some (.int .i64 l[j].2)) :
    SeqStopsK F n Tryd.prog 75 #[.pointer (some ⟨Bs, 0, none⟩)] (fun x : Ip l => #[Value.int .i64 x.1.1, .agg #[.string x.1.2.1, .int .i64 x.1.2.2]]) (KpB Bw n₀) (fun ys => ys.map (·.1.2) = l.reverse) (fun pre => ∃ k, k ≤ l.length ∧ pre.map (·.1.2) = come l k) l.length w := fun lp J Jx W hW _ _ hY h0 => by
  refine (back1_in F n h7 hro hn lp Bs Bw n₀ A cap l hreach (fun ys W => ∃ zs : List (Ip l), zs.map (·.1.2) = ys ∧ J zs W) (fun ys W => ∃ zs : List (Ip l), zs.map (·.1.2) = ys ∧ Jx zs W) ?_ W hBs hBw ((hW.cell (p := ⟨Bs, 0, none⟩) (by show Bs < _; omega)).trans hc) ?_ ⟨[], rfl, h0⟩).mono ?_
  · rintro pre x W' hx ⟨zs, rfl, hJ⟩ hlen
    have := hY zs ⟨(((l.length - 1 - (zs.map (·.1.2)).length : Nat) : Int), x), hx⟩ W' hJ (by simpa using hlen)
    refine YieldAt.mono this ?_
    rintro e W2 (⟨rfl, h1, h2⟩ | ⟨rfl, h1⟩)
    · exact .inl ⟨rfl, ⟨_, by simp, h1⟩, h2⟩
    · exact .inr ⟨rfl, ⟨_, by simp, h1⟩⟩
  · intro j hj
    obtain ⟨ad, e, hb, hne, h1, h2⟩ := hI j hj
    exact ⟨ad, e, hb, hne, (hW.cell (p := ad.add (j * 2)) (by rw [add_block_]; omega)).trans h1, (hW.cell (p := ⟨(ad.add (j * 2)).block, (ad.add (j * 2)).off + 1, none⟩) (by show (ad.add (j * 2)).block < _; rw [add_block_]; omega)).trans h2⟩
  · rintro e W' ⟨he, ⟨ys, hy, zs, hz, hj⟩ | ⟨pre, ⟨k, hk, hp⟩, zs, hz, hj⟩⟩
    · exact ⟨he, .inl ⟨zs, hz.trans hy, hj⟩⟩
    · exact ⟨he, .inr ⟨zs, ⟨k, hk, hz.trans hp⟩, hj⟩⟩
end Go.Proofs.YtmgfdcfbjgokgaaDoor
