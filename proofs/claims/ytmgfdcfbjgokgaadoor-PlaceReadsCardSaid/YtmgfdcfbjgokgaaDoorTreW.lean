/- The tree of stacks, III: a tree that is owned; 'New'. -/
import Derived.Test.YtmgfdcfbjgokgaaDoorTreC
import Derived.Test.YtmgfdcfbjgokgaaDoorMay
import Derived.Carry
import Derived.BigQuiet
namespace Go.Proofs.YtmgfdcfbjgokgaaDoor
open Go Go.RowKit Go.Maps Go.Proofs.YtmgfdcfbjgokgaaDoorW.PrintWords Go.Proofs.YtmgfdcfbjgokgaaDoorW.PrintLast Go.Proofs.YtmgfdcfbjgokgaaDoor.PL
set_option linter.unusedVariables false
set_option linter.unusedSimpArgs false

attribute [local go_sem] run_makeMap
/-- A tree that is owned: its own block, the nodes' row, the depths' row, the map's block: all apart, all from base on. -/
structure TreeW {H : Type} (W : World) (base : Nat) (g gn gd mb : Nat) (cn cd : Nat) (D : DataW H) (T : Tr) : Prop where
  box : W.heap[g]? = some (.cells #[.slice (some ⟨gn, 0, none⟩) T.nodes.length cn, .slice (some ⟨gd, 0, none⟩) T.deep.length cd, .map (some mb)] 133)
  nodes : Kd.R kNd 136 W base (fun k => k = gn) (.slice (some ⟨gn, 0, none⟩) T.nodes.length cn) T.nodes
  deep : Kd.R kDp 3 W base (fun k => k = gd) (.slice (some ⟨gd, 0, none⟩) T.deep.length cd) T.deep
  map : W.ownsMap Tryd.prog 136 (plainElem Tryd.prog 3) mb T.nodes.length D
  told : MapIs D T.nodes
  wf : T.wf
  low : base ≤ g ∧ base ≤ gn ∧ base ≤ gd ∧ base ≤ mb
  apart : g ≠ gn ∧ g ≠ gd ∧ g ≠ mb ∧ gn ≠ gd ∧ gn ≠ mb ∧ gd ≠ mb
theorem TreeW.C {H : Type} {W : World} {base g gn gd mb cn cd : Nat} {D : DataW H} {T : Tr} (h : TreeW W base g gn gd mb cn cd D T) : TreC W g T (some ⟨gn, 0, none⟩) cn (some ⟨gd, 0, none⟩) cd mb where
  c0 := by simp [World.cell?, h.box]
  c1 := by simp [World.cell?, h.box]
  c2 := by simp [World.cell?, h.box]
  capn := (Kd.R_reads' h.nodes).2.1
  capd := (Kd.R_reads' h.deep).2.1
  nodes := (Kd.R_reads' h.nodes).2.2
  deep := (Kd.R_reads' h.deep).2.2
theorem TreeW.alloc {H : Type} {W : World} {base g gn gd mb cn cd : Nat} {D : DataW H} {T : Tr} (h : TreeW W base g gn gd mb cn cd D T) (o : Obj) : TreeW (W.alloc o) base g gn gd mb cn cd D T where
  box := by
    have hlt : g < W.heap.size := by
      have := h.box
      exact (Array.getElem?_eq_some_iff.1 this).1
    rw [heap_alloc_old W _ hlt]
    exact h.box
  nodes := Kd.R_alloc h.nodes _
  deep := Kd.R_alloc h.deep _
  map := h.map.alloc _
  told := h.told
  wf := h.wf
  low := h.low
  apart := h.apart
theorem TreeW.below {H : Type} {W W2 : World} {base g gn gd mb cn cd : Nat} {D : DataW H} {T : Tr} (h : TreeW W base g gn gd mb cn cd D T) (hb : Below W.heap.size W W2) : TreeW W2 base g gn gd mb cn cd D T where
  box := by
    rw [hb.block g (Array.getElem?_eq_some_iff.1 h.box).1]
    exact h.box
  nodes := Kd.R_below h.nodes hb
  deep := Kd.R_below h.deep hb
  map := by
    obtain ⟨es, clock, h1, h2⟩ := h.map
    exact ⟨es, clock, by rw [hb.block mb (Array.getElem?_eq_some_iff.1 h1).1]; exact h1, h2⟩
  told := h.told
  wf := h.wf
  low := h.low
  apart := h.apart
theorem TreeW.drew {H : Type} {W : World} {base g gn gd mb cn cd : Nat} {D : DataW H} {T : Tr} (h : TreeW W base g gn gd mb cn cd D T) : TreeW W.drew base g gn gd mb cn cd D T where
  box := h.box
  nodes := Kd.R_drew h.nodes
  deep := Kd.R_drew h.deep
  map := h.map.drew
  told := h.told
  wf := h.wf
  low := h.low
  apart := h.apart
theorem TreeW.drewN {H : Type} {W : World} {base g gn gd mb cn cd : Nat} {D : DataW H} {T : Tr} (h : TreeW W base g gn gd mb cn cd D T) (n : Nat) : TreeW (W.drewN n) base g gn gd mb cn cd D T where
  box := h.box
  nodes := Kd.R_drewN h.nodes n
  deep := Kd.R_drewN h.deep n
  map := by
    obtain ⟨es, clock, h1, h2⟩ := h.map
    exact ⟨es, clock, h1, h2⟩
  told := h.told
  wf := h.wf
  low := h.low
  apart := h.apart
theorem lit_nd (W : World) (base : Nat) (hb : base ≤ W.heap.size) (x : Nd) : Kd.R kNd 136 (W.alloc (.cells #[.int .i64 x.1, .string x.2.1, .int .i64 x.2.2] 136)) base (fun k => k = W.heap.size) (.slice (some ⟨W.heap.size, 0, none⟩) 1 1) [x] :=
  ⟨fun k hk => by simpa [Value.ownBlock, eq_comm] using hk, [.int .i64 x.1, .string x.2.1, .int .i64 x.2.2], ⟨rfl, .inr ⟨W.heap.size, 1, #[.int .i64 x.1, .string x.2.1, .int .i64 x.2.2], rfl, hb, heap_alloc_new W _, Nat.le_refl _, by decide, rfl, rfl⟩⟩,
    rfl, fun j p hj => by
      cases j with
      | zero => cases hj; exact kNd_mkM _ _ _ x
      | succ j => simp at hj⟩
theorem lit_dp (W : World) (base : Nat) (hb : base ≤ W.heap.size) (x : Nat) : Kd.R kDp 3 (W.alloc (.cells #[.int .i64 x] 3)) base (fun k => k = W.heap.size) (.slice (some ⟨W.heap.size, 0, none⟩) 1 1) [x] :=
  ⟨fun k hk => by simpa [Value.ownBlock, eq_comm] using hk, [.int .i64 x], ⟨rfl, .inr ⟨W.heap.size, 1, #[.int .i64 x], rfl, hb, heap_alloc_new W _, Nat.le_refl _, by decide, rfl, rfl⟩⟩,
    rfl, fun j p hj => by
      cases j with
      | zero => cases hj; exact rfl
      | succ j => simp at hj⟩
theorem new_tree (W : World) : TreeW ((((W.alloc (.cells #[.int .i64 0, .string ⟨#[]⟩, .int .i64 0] 136)).alloc (.cells #[.int .i64 0] 3)).alloc (.map #[] 0)).alloc (.cells #[.slice (some ⟨W.heap.size, 0, none⟩) 1 1, .slice (some ⟨W.heap.size + 1, 0, none⟩) 1 1, .map (some (W.heap.size + 1 + 1))] 133))
    W.heap.size (W.heap.size + 1 + 1 + 1) W.heap.size (W.heap.size + 1) (W.heap.size + 1 + 1) 1 1 (.map [] : DataW Unit) newT := by
  have h1 := lit_nd W W.heap.size (Nat.le_refl _) (0, (⟨#[]⟩, 0))
  have h2 := lit_dp (W.alloc (.cells #[.int .i64 0, .string ⟨#[]⟩, .int .i64 0] 136)) W.heap.size (by simp) 0
  have h3 := World.ownsMap_made (H := Unit) ((W.alloc (.cells #[.int .i64 0, .string ⟨#[]⟩, .int .i64 0] 136)).alloc (.cells #[.int .i64 0] 3)) Tryd.prog 136 (plainElem Tryd.prog 3)
  have e1 : ∀ (w : World) (o : Obj), (w.alloc o).heap.size = w.heap.size + 1 := fun w o => by simp
  rw [e1, e1] at h3
  rw [e1] at h2
  refine ⟨?_, ?_, ?_, ?_, mapIs_new _ (fun x hx => ?_), newT_wf, ⟨by omega, by omega, by omega, by omega⟩, ⟨by omega, by omega, by omega, by omega, by omega, by omega⟩⟩
  · have h4 := heap_alloc_new (((W.alloc (.cells #[.int .i64 0, .string ⟨#[]⟩, .int .i64 0] 136)).alloc (.cells #[.int .i64 0] 3)).alloc (.map #[] 0)) (.cells #[.slice (some ⟨W.heap.size, 0, none⟩) 1 1, .slice (some ⟨W.heap.size + 1, 0, none⟩) 1 1, .map (some (W.heap.size + 1 + 1))] 133)
    rw [e1, e1, e1] at h4
    exact h4
  · exact Kd.R_alloc (Kd.R_alloc (Kd.R_alloc h1 _) _) _
  · exact Kd.R_alloc (Kd.R_alloc h2 _) _
  · exact (h3.alloc _).mono (by decide)
  · rw [List.mem_singleton.1 hx]
    intro h
    have := (may_parts h.may).1
    exact absurd this (by decide)
set_option maxRecDepth 100000 in
set_option maxHeartbeats 1600000 in
theorem New_any (W : World) : Calls Tryd.prog 39 #[] W fun e w' => ∃ g gn gd mb cn cd, e = .returned (.pointer (some ⟨g, 0, none⟩)) ∧ TreeW w' W.heap.size g gn gd mb cn cd (.map [] : DataW Unit) newT ∧ Below W.heap.size W w' := by
  go_enter Tryd.func39, Tryd.ntmps39
  go_wp2
  go_ret
  exact ⟨_, _, _, _, _, _, rfl, new_tree W, by (repeat (with_reducible first | exact Below.refl _ _ | apply below_alloc))⟩
/-- What 'Push' answers. -/
def PushIs {H : Type} (base g gn gd mb : Nat) (T : Tr) (at_ : Int) (p : Pl) (W : World) (e : Ending) (w' : World) : Prop :=
  ∃ gn' gd' cn' cd', ∃ D' : DataW H, e = .returned (.tuple #[.int .i64 (pushT T at_ p).1.1, .int .i64 (pushT T at_ p).1.2]) ∧ TreeW w' base g gn' gd' mb cn' cd' D' (pushT T at_ p).2 ∧ Below base W w' ∧
    ∀ k, k < W.heap.size → k ≠ g → k ≠ gn → k ≠ gd → k ≠ mb → (k ≠ gn' ∧ k ≠ gd') ∧ w'.heap[k]? = W.heap[k]?
section
variable {H : Type} {W : World} {base g gn gd mb cn cd : Nat} {D : DataW H} {T : Tr} {p : Pl}
set_option maxRecDepth 100000 in
set_option maxHeartbeats 1600000 in
theorem push_away (h : TreeW W base g gn gd mb cn cd D T) (n : Int) (h1 : thereT T n = false) (hbase : base ≤ W.heap.size) :
    Calls Tryd.prog 64 #[.pointer (some ⟨g, 0, none⟩), .int .i64 n, .agg #[.string p.1, .int .i64 p.2]] W (PushIs (H := H) base g gn gd mb T n p W) := by
  have HP : pushT T n p = ((0, 1), T) := by
    unfold pushT
    rw [if_pos (fun h => by unfold thereT at h1; rw [decide_eq_true h] at h1; cases h1)]
  unfold PushIs
  rw [HP]
  have HT := Lib.hid h1
  have H' := Lib.hid (h.alloc (.cells #[.string p.1, .int .i64 p.2] 60))
  clear h HP h1
  go_enter Tryd.func64, Tryd.ntmps64
  go_wp2_with (go_at_call 74; (with_reducible refine (there_any H'.out.C n).mono ?_); rintro e w1 ⟨rfl, rfl⟩; rw [HT.out])
  go_ret2
  exact ⟨gn, gd, cn, cd, D, rfl, H'.out, (Below.refl _ _).alloc hbase _, fun k hk _ h1 h2 _ => ⟨⟨h1, h2⟩, heap_alloc_old W _ hk⟩⟩
set_option maxRecDepth 100000 in
set_option maxHeartbeats 1600000 in
theorem push_name (h : TreeW W base g gn gd mb cn cd D T) (n : Int) (h1 : thereT T n = true) (h2 : mayB p.1 p.2 = false) (hsz : p.1.size ≤ 9223372036854775807) (hbase : base ≤ W.heap.size) :
    Calls Tryd.prog 64 #[.pointer (some ⟨g, 0, none⟩), .int .i64 n, .agg #[.string p.1, .int .i64 p.2]] W (PushIs (H := H) base g gn gd mb T n p W) := by
  have HP : pushT T n p = ((0, 30), T) := by
    unfold pushT
    rw [if_neg (fun hn => hn (of_decide_eq_true h1)), if_pos h2]
  unfold PushIs
  rw [HP]
  have HT := Lib.hid h1
  have HM := Lib.hid h2
  have HZ := Lib.hid hsz
  have H' := Lib.hid (h.alloc (.cells #[.string p.1, .int .i64 p.2] 60))
  clear h HP h1 h2 hsz
  go_enter Tryd.func64, Tryd.ntmps64
  go_wp2_with (first | (go_at_call 74; (with_reducible refine (there_any H'.out.C n).mono ?_); rintro e w1 ⟨rfl, rfl⟩; rw [HT.out]) | (go_at_call 49; (with_reducible refine (may_any p.1 p.2 _ HZ.out).mono ?_); rintro e w2 ⟨rfl, hb⟩; have HB := Lib.hid hb; clear hb; rw [HM.out]))
  go_ret2
  exact ⟨gn, gd, cn, cd, D, rfl, H'.out.below HB.out, ((Below.refl _ _).alloc hbase _).trans (HB.out.mono (by simp; omega)), fun k hk _ h1 h2 _ => ⟨⟨h1, h2⟩, by rw [HB.out.block k (by simp; omega)]; exact heap_alloc_old W _ hk⟩⟩
theorem box_at {w2 : World} (hb : Below (W.alloc (.cells #[.string p.1, .int .i64 p.2] 60)).heap.size (W.alloc (.cells #[.string p.1, .int .i64 p.2] 60)) w2) : w2.cell? ⟨W.heap.size, 0, none⟩ = some (.string p.1) ∧ w2.cell? ⟨W.heap.size, 1, none⟩ = some (.int .i64 p.2) ∧ W.heap.size < w2.heap.size := by
  have hz := hb.size
  refine ⟨?_, ?_, by simp at hz; omega⟩
  · rw [hb.cell (by simp)]
    simp only [World.cell?, heap_alloc_new]
    rfl
  · rw [hb.cell (by simp)]
    simp only [World.cell?, heap_alloc_new]
    rfl
/-- What is read of a tree at node i. -/
theorem TreeW.at_ (h : TreeW W base g gn gd mb cn cd D T) {i : Nat} (hi : i < T.nodes.length) : W.cell? ⟨g, 1, none⟩ = some (.slice (some ⟨gd, 0, none⟩) T.deep.length cd) ∧ W.cell? ⟨gd, i, none⟩ = some (.int .i64 (T.deep.getD i 0 : Nat)) ∧ W.cell? ⟨g, 2, none⟩ = some (.map (some mb)) ∧ W.cell? ⟨g, 0, none⟩ = some (.slice (some ⟨gn, 0, none⟩) T.nodes.length cn) := by
  have hC := h.C
  have hil : i < T.deep.length := by rw [h.wf.len]; exact hi
  obtain ⟨ad, e, hc⟩ := at_dp hC.deep i hil hil
  cases e
  have hc : W.cell? ⟨gd, i, none⟩ = some (.int .i64 (T.deep[i] : Nat)) := by rw [add_plain] at hc; exact hc
  exact ⟨hC.c1, by rw [hc, List.getD_eq_getElem?_getD, List.getElem?_eq_getElem hil]; rfl, hC.c2, hC.c0⟩
set_option maxRecDepth 100000 in
set_option maxHeartbeats 1600000 in
theorem push_deep (h : TreeW W base g gn gd mb cn cd D T) (i : Nat) (h1 : thereT T i = true) (h2 : mayB p.1 p.2 = true) (h3 : 64 ≤ T.deep.getD i 0) (hsz : p.1.size ≤ 9223372036854775807) (hbase : base ≤ W.heap.size) :
    Calls Tryd.prog 64 #[.pointer (some ⟨g, 0, none⟩), .int .i64 i, .agg #[.string p.1, .int .i64 p.2]] W (PushIs (H := H) base g gn gd mb T i p W) := by
  have hi := of_decide_eq_true h1
  have HP : pushT T i p = ((0, 31), T) := by
    unfold pushT
    rw [if_neg (fun hn => hn hi), if_neg (by rw [h2]; decide), Int.toNat_natCast, if_pos h3]
  unfold PushIs
  rw [HP]
  have hw := h.wf
  obtain ⟨M, hM⟩ : ∃ M, M = T.deep.length := ⟨_, rfl⟩
  have hltN : i < M := by rw [hM, hw.len]; omega
  have hM64 : M ≤ 4096 := by rw [hM, hw.len]; exact hw.most
  obtain ⟨V, hV⟩ : ∃ V, V = T.deep.getD i 0 := ⟨_, rfl⟩
  have hge : decide (64 ≤ (V : Int)) = true := by simp; omega
  have hlt : decide ((i : Int) < (M : Int)) = true := by simp; omega
  have HI := Lib.hid hi
  have HT := Lib.hid h1
  have HMy := Lib.hid h2
  have HZ := Lib.hid hsz
  have HMV := Lib.hid (And.intro hM hV)
  have H' := Lib.hid (h.alloc (.cells #[.string p.1, .int .i64 p.2] 60))
  clear h HP h1 h2 hsz h3 hM hV hw hi
  go_enter Tryd.func64, Tryd.ntmps64
  go_wp2_with (first | (go_at_call 74; (with_reducible refine (there_any H'.out.C (i : Int)).mono ?_); rintro e w1 ⟨rfl, rfl⟩; rw [HT.out]) | (go_at_call 49; (with_reducible refine (may_any p.1 p.2 _ HZ.out).mono ?_); rintro e w2 ⟨rfl, hb⟩; have HB := Lib.hid hb; have hat := (H'.out.below hb).at_ (i := i) (by have := HI.out.2; omega); clear hb; rw [← HMV.out.1, ← HMV.out.2] at hat; obtain ⟨hc1, hcd, hc2, hc0⟩ := hat; rw [HMy.out]))
  go_ret2
  exact ⟨gn, gd, cn, cd, D, rfl, H'.out.below HB.out, ((Below.refl _ _).alloc hbase _).trans (HB.out.mono (by simp; omega)), fun k hk _ h1 h2 _ => ⟨⟨h1, h2⟩, by rw [HB.out.block k (by simp; omega)]; exact heap_alloc_old W _ hk⟩⟩
theorem zero_i64 (w : World) : (zeroValue 3).run Tryd.prog w = .ok (.int .i64 0) w := by kernel_rfl
set_option maxRecDepth 100000 in
/-- The map is asked for a node. -/
theorem TreeW.look (h : TreeW W base g gn gd mb cn cd D T) {x : Nd} (hx : NdOk x) : ∃ c : Int, (Instr.lookup 131 (.map (some mb)) (ndV x) true).run Tryd.prog W = .ok (.tuple #[.int .i64 c, .bool (findN T.nodes x).isSome]) W ∧ (∀ j, findN T.nodes x = some j → c = (j : Nat)) ∧ (findN T.nodes x = none → c = 0) := by
  obtain ⟨v, ps, hrun, hv⟩ := h.map.look_ok tre_keyed Tryd.underlying131 (zero_i64 W) (plainElem_int (H := H) Tryd.underlying3 (a := 0) (by decide)) (ndKey_eq hx)
  rw [h.told.has x hx] at hrun
  obtain ⟨c, rfl, hc, _⟩ := plainElem_int_inv Tryd.underlying3 hv
  have h2 := congrArg Prod.fst hc
  refine ⟨c, hrun, fun j hj => ?_, fun hj => ?_⟩
  rotate_left
  · have h1 := h.told.has x hx
    rw [hj] at h1
    simp only at h2
    rw [atKey_of_not_has h1] at h2
    injection h2 with h2
    injection h2 with _ h2
    exact h2.symm
  have h1 := h.told.at_ x j hx hj
  simp only at h2
  rw [h1] at h2
  injection h2 with h2
  injection h2 with _ h2
  exact h2.symm
set_option maxRecDepth 100000 in
set_option maxHeartbeats 1600000 in
theorem push_found (h : TreeW W base g gn gd mb cn cd D T) (i j : Nat) (h1 : thereT T i = true) (h2 : mayB p.1 p.2 = true) (h3 : ¬ 64 ≤ T.deep.getD i 0) (h4 : findN T.nodes (i, p) = some j) (hsz : p.1.size ≤ 9223372036854775807) (hbase : base ≤ W.heap.size) :
    Calls Tryd.prog 64 #[.pointer (some ⟨g, 0, none⟩), .int .i64 i, .agg #[.string p.1, .int .i64 p.2]] W (PushIs (H := H) base g gn gd mb T i p W) := by
  have hi := of_decide_eq_true h1
  have HP : pushT T i p = (((j : Int), 0), T) := by
    unfold pushT
    rw [if_neg (fun hn => hn hi), if_neg (by rw [h2]; decide), Int.toNat_natCast, if_neg h3, h4]
  unfold PushIs
  rw [HP]
  have hw := h.wf
  obtain ⟨M, hM⟩ : ∃ M, M = T.deep.length := ⟨_, rfl⟩
  have hltN : i < M := by rw [hM, hw.len]; omega
  have hM64 : M ≤ 4096 := by rw [hM, hw.len]; exact hw.most
  obtain ⟨V, hV⟩ : ∃ V, V = T.deep.getD i 0 := ⟨_, rfl⟩
  have hge : decide (64 ≤ (V : Int)) = false := by simp; omega
  have hlt : decide ((i : Int) < (M : Int)) = true := by simp; omega
  have HX := Lib.hid (show NdOk (i, p) from ⟨by simp only; omega, h2⟩)
  have HI := Lib.hid hi
  have HT := Lib.hid h1
  have HF := Lib.hid h4
  have HMy := Lib.hid h2
  have HZ := Lib.hid hsz
  have HMV := Lib.hid (And.intro hM hV)
  have H' := Lib.hid (h.alloc (.cells #[.string p.1, .int .i64 p.2] 60))
  clear h HP h1 h2 hsz h3 h4 hM hV hw hi
  go_enter Tryd.func64, Tryd.ntmps64
  go_wp2_with (first | (go_at_call 74; (with_reducible refine (there_any H'.out.C (i : Int)).mono ?_); rintro e w1 ⟨rfl, rfl⟩; rw [HT.out]) | (go_at_call 49; (with_reducible refine (may_any p.1 p.2 _ HZ.out).mono ?_); rintro e w2 ⟨rfl, hb⟩; have HB := Lib.hid hb; have hat := (H'.out.below hb).at_ (i := i) (by have := HI.out.2; omega); obtain ⟨hp0, hp1, hpz⟩ := box_at hb; clear hb; rw [← HMV.out.1, ← HMV.out.2] at hat; obtain ⟨hc1, hcd, hc2, hc0⟩ := hat; rw [HMy.out]))
  have HW := Lib.hid ((H'.out.below HB.out).alloc (.cells #[.int .i64 (i : Nat), .string p.1, .int .i64 p.2] 136))
  have hrun : ∀ q, (Instr.lookup 131 (.map (some mb)) (.agg #[.int .i64 (i : Nat), .string p.1, .int .i64 p.2]) true).run Tryd.prog ((w2.alloc (.cells #[.int .i64 (i : Nat), .string p.1, .int .i64 p.2] 136)).drewN q) = .ok (.tuple #[.int .i64 j, .bool true]) ((w2.alloc (.cells #[.int .i64 (i : Nat), .string p.1, .int .i64 p.2] 136)).drewN q) := fun q => by
    obtain ⟨cc, hrun, hcv⟩ := (HW.out.drewN q).look HX.out
    obtain rfl := hcv.1 j HF.out
    rw [HF.out] at hrun
    simpa only [ndV, Option.isSome_some] using hrun
  have ha2 := HW.out.C.c2
  obtain ⟨hn0, hn1, hn2⟩ : (w2.alloc (.cells #[.int .i64 (i : Nat), .string p.1, .int .i64 p.2] 136)).cell? ⟨w2.heap.size, 0, none⟩ = some (.int .i64 (i : Nat)) ∧ (w2.alloc (.cells #[.int .i64 (i : Nat), .string p.1, .int .i64 p.2] 136)).cell? ⟨w2.heap.size, 1, none⟩ = some (.string p.1) ∧ (w2.alloc (.cells #[.int .i64 (i : Nat), .string p.1, .int .i64 p.2] 136)).cell? ⟨w2.heap.size, 2, none⟩ = some (.int .i64 p.2) := by
    refine ⟨?_, ?_, ?_⟩ <;> (simp only [World.cell?, heap_alloc_new]; rfl)
  have HBA := Lib.hid (show Below W.heap.size W (w2.alloc (.cells #[.int .i64 (i : Nat), .string p.1, .int .i64 p.2] 136)) from (((Below.refl _ _).alloc (Nat.le_refl _) _).trans (HB.out.mono (by simp))).alloc (by omega) _)
  generalize w2.alloc (.cells #[.int .i64 (i : Nat), .string p.1, .int .i64 p.2] 136) = wa at HW hrun ha2 hn0 hn1 hn2 HBA ⊢
  clear hp0 hp1 hc1 hcd hc2 hc0
  go_quiet (fail)
  go_wp2
  go_ret2
  exact ⟨gn, gd, cn, cd, D, rfl, HW.out.drewN nq, pw_below_drewN (HBA.out.mono hbase) nq, fun k hk _ h1 h2 _ => ⟨⟨h1, h2⟩, HBA.out.block k hk⟩⟩
set_option maxRecDepth 100000 in
set_option maxHeartbeats 1600000 in
theorem push_full (h : TreeW W base g gn gd mb cn cd D T) (i : Nat) (h1 : thereT T i = true) (h2 : mayB p.1 p.2 = true) (h3 : ¬ 64 ≤ T.deep.getD i 0) (h4 : findN T.nodes (i, p) = none) (h5 : 4096 ≤ T.nodes.length) (hsz : p.1.size ≤ 9223372036854775807) (hbase : base ≤ W.heap.size) :
    Calls Tryd.prog 64 #[.pointer (some ⟨g, 0, none⟩), .int .i64 i, .agg #[.string p.1, .int .i64 p.2]] W (PushIs (H := H) base g gn gd mb T i p W) := by
  have hi := of_decide_eq_true h1
  have HP : pushT T i p = ((0, 3), T) := by
    unfold pushT
    rw [if_neg (fun hn => hn hi), if_neg (by rw [h2]; decide), Int.toNat_natCast, if_neg h3, h4]
    exact if_pos h5
  unfold PushIs
  rw [HP]
  have hw := h.wf
  obtain ⟨M, hM⟩ : ∃ M, M = T.deep.length := ⟨_, rfl⟩
  have hltN : i < M := by rw [hM, hw.len]; omega
  have hM64 : M ≤ 4096 := by rw [hM, hw.len]; exact hw.most
  obtain ⟨V, hV⟩ : ∃ V, V = T.deep.getD i 0 := ⟨_, rfl⟩
  have hge : decide (64 ≤ (V : Int)) = false := by simp; omega
  have hlt : decide ((i : Int) < (M : Int)) = true := by simp; omega
  have HX := Lib.hid (show NdOk (i, p) from ⟨by simp only; omega, h2⟩)
  have HI := Lib.hid hi
  have HT := Lib.hid h1
  have HF := Lib.hid h4
  have H5 := Lib.hid h5
  have HMy := Lib.hid h2
  have HZ := Lib.hid hsz
  have HMV := Lib.hid (And.intro hM hV)
  have H' := Lib.hid (h.alloc (.cells #[.string p.1, .int .i64 p.2] 60))
  clear h HP h1 h2 hsz h3 h4 h5 hM hV hw hi
  go_enter Tryd.func64, Tryd.ntmps64
  go_wp2_with (first | (go_at_call 74; (with_reducible refine (there_any H'.out.C (i : Int)).mono ?_); rintro e w1 ⟨rfl, rfl⟩; rw [HT.out]) | (go_at_call 49; (with_reducible refine (may_any p.1 p.2 _ HZ.out).mono ?_); rintro e w2 ⟨rfl, hb⟩; have HB := Lib.hid hb; have hat := (H'.out.below hb).at_ (i := i) (by have := HI.out.2; omega); obtain ⟨hp0, hp1, hpz⟩ := box_at hb; clear hb; rw [← HMV.out.1, ← HMV.out.2] at hat; obtain ⟨hc1, hcd, hc2, hc0⟩ := hat; rw [HMy.out]))
  have HW := Lib.hid ((H'.out.below HB.out).alloc (.cells #[.int .i64 (i : Nat), .string p.1, .int .i64 p.2] 136))
  have hrun : ∀ q, (Instr.lookup 131 (.map (some mb)) (.agg #[.int .i64 (i : Nat), .string p.1, .int .i64 p.2]) true).run Tryd.prog ((w2.alloc (.cells #[.int .i64 (i : Nat), .string p.1, .int .i64 p.2] 136)).drewN q) = .ok (.tuple #[.int .i64 0, .bool false]) ((w2.alloc (.cells #[.int .i64 (i : Nat), .string p.1, .int .i64 p.2] 136)).drewN q) := fun q => by
    obtain ⟨cc, hrun, hcv⟩ := (HW.out.drewN q).look HX.out
    obtain rfl := hcv.2 HF.out
    rw [HF.out] at hrun
    simpa only [ndV, Option.isSome_none] using hrun
  have hl0 := HW.out.C.c0
  obtain ⟨N, hN⟩ : ∃ N, N = T.nodes.length := ⟨_, rfl⟩
  have hfull : decide (4096 ≤ (N : Int)) = true := by have := H5.out; simp; omega
  rw [← hN] at hl0
  clear hN
  have ha2 := HW.out.C.c2
  obtain ⟨hn0, hn1, hn2⟩ : (w2.alloc (.cells #[.int .i64 (i : Nat), .string p.1, .int .i64 p.2] 136)).cell? ⟨w2.heap.size, 0, none⟩ = some (.int .i64 (i : Nat)) ∧ (w2.alloc (.cells #[.int .i64 (i : Nat), .string p.1, .int .i64 p.2] 136)).cell? ⟨w2.heap.size, 1, none⟩ = some (.string p.1) ∧ (w2.alloc (.cells #[.int .i64 (i : Nat), .string p.1, .int .i64 p.2] 136)).cell? ⟨w2.heap.size, 2, none⟩ = some (.int .i64 p.2) := by
    refine ⟨?_, ?_, ?_⟩ <;> (simp only [World.cell?, heap_alloc_new]; rfl)
  have HBA := Lib.hid (show Below W.heap.size W (w2.alloc (.cells #[.int .i64 (i : Nat), .string p.1, .int .i64 p.2] 136)) from (((Below.refl _ _).alloc (Nat.le_refl _) _).trans (HB.out.mono (by simp))).alloc (by omega) _)
  generalize w2.alloc (.cells #[.int .i64 (i : Nat), .string p.1, .int .i64 p.2] 136) = wa at HW hrun hl0 ha2 hn0 hn1 hn2 HBA ⊢
  clear hp0 hp1 hc1 hcd hc2 hc0
  go_quiet (fail)
  go_wp2
  go_ret2
  exact ⟨gn, gd, cn, cd, D, rfl, HW.out.drewN nq, pw_below_drewN (HBA.out.mono hbase) nq, fun k hk _ h1 h2 _ => ⟨⟨h1, h2⟩, HBA.out.block k hk⟩⟩
end
end Go.Proofs.YtmgfdcfbjgokgaaDoor
