/- The walk of 'ValueNames'. -/
import Derived.Test.YtkgonblofjedfaaDoorMayN
import Derived.Test.YtkgonblofjedfaaDoorFOne
import Derived.Laws.CopyOwn
namespace Go.Proofs.YtkgonblofjedfaaDoor
open Go Go.RowKit
set_option linter.unusedVariables false
set_option linter.unusedSimpArgs false
attribute [local go_sem] run_store_float
def zV : Va := .mk 0 0 0 0 ⟨#[]⟩ []
def deepV : Nat → Va
  | 0 => .mk 7 0 0 0 ⟨#[]⟩ []
  | n + 1 => .mk 7 0 0 0 ⟨#[]⟩ [deepV n]
def fullV (n : Nat) : Va := .mk 7 0 0 0 ⟨#[]⟩ (List.replicate n zV)
def textV (s : ByteArray) : Va := .mk 5 0 0 0 s []
def longS : ByteArray := ⟨(List.replicate 4096 0).toArray⟩
theorem ok_deep15 : (deepV 15).okV = true := by decide +kernel
theorem ok_deep16 : (deepV 16).okV = false := by decide +kernel
theorem ok_full1023 : (fullV 1023).okV = true := by decide +kernel
theorem ok_full1024 : (fullV 1024).okV = false := by decide +kernel
theorem ok_long : (textV longS).okV = true := by decide +kernel
theorem wf_deep : ∀ n, (deepV n).wf
  | 0 => by unfold deepV Va.wf Va.wfs; exact ⟨by omega, by omega, by omega, by omega, by omega, by omega, trivial⟩
  | n + 1 => by unfold deepV Va.wf Va.wfs Va.wfs; exact ⟨by omega, by omega, by omega, by omega, by omega, by omega, wf_deep n, trivial⟩
theorem wf_zeros : ∀ n, Va.wfs (List.replicate n zV)
  | 0 => by unfold List.replicate Va.wfs; trivial
  | n + 1 => by
    unfold List.replicate Va.wfs
    exact ⟨by unfold zV Va.wf Va.wfs; exact ⟨by omega, by omega, by omega, by omega, by omega, by omega, trivial⟩, wf_zeros n⟩
theorem wf_full (n : Nat) : (fullV n).wf := by
  unfold fullV Va.wf
  exact ⟨by omega, by omega, by omega, by omega, by omega, by omega, wf_zeros n⟩
theorem wf_text (s : ByteArray) : (textV s).wf := by unfold textV Va.wf Va.wfs; exact ⟨by omega, by omega, by omega, by omega, by omega, by omega, trivial⟩
abbrev cV (a : Option Addr) (n cap : Nat) : List Value := [.int .u8 7, .int .i64 0, .float .f64 0, .float .f64 0, .string ⟨#[]⟩, .slice a n cap]
/-- A value of kind 7 in memory, in the box `B`. -/
structure DL (w : World) (B : Nat) (r : Va) (a : Option Addr) (n cap : Nat) (F : List Nat) (W : World) : Prop where
  own : r.tr.own 6 W (cV a n cap) F
  box : W.heap[B]? = some (.cells (cV a n cap).toArray 25 (0, 0))
  far : B ∉ F
  low : Below w.heap.size w W
theorem DL.below {w : World} {B : Nat} {r : Va} {a : Option Addr} {n cap : Nat} {F : List Nat} {W W2 : World} (h : DL w B r a n cap F W) (hb : Below W.heap.size W W2) : DL w B r a n cap F W2 :=
  ⟨Tr.own_below h.own hb, (hb.block _ (Array.getElem?_eq_some_iff.1 h.box).1).trans h.box, h.far, bthen h.low hb⟩
abbrev zc : List Value := [.int .u8 0, .int .i64 0, .float .f64 0, .float .f64 0, .string ⟨#[]⟩, .slice none 0 0]
theorem own_zc (W : World) : zV.tr.own 6 W zc [] := by
  unfold zV Va.tr Tr.own
  exact ⟨none, 0, 0, rfl, rfl, by simp [Value.oneCell'], ⟨rfl, Nat.le_refl _⟩, Nat.zero_le _, by decide, .inl ⟨rfl, rfl⟩⟩
theorem own_deep0 (W : World) : (deepV 0).tr.own 6 W (cV none 0 0) [] := by
  unfold deepV Va.tr Tr.own
  exact ⟨none, 0, 0, rfl, rfl, by simp [Value.oneCell'], ⟨rfl, Nat.le_refl _⟩, Nat.zero_le _, by decide, .inl ⟨rfl, rfl⟩⟩
theorem made_snoc (n : Nat) : (madeCells zc.toArray ((n + 1) * 6)).toList = (madeCells zc.toArray (n * 6)).toList ++ zc := by
  rw [show (n + 1) * 6 = n * 6 + 6 by omega]
  unfold madeCells
  simp only [Array.toList_map, Array.toList_range]
  rw [List.range_add, List.map_append]
  congr 1
  have m (i : Nat) (hi : i < 6) : (n * 6 + i) % 6 = i := by omega
  have m0 : (n * 6) % 6 = 0 := by omega
  simp [List.range_succ, m, m0]
theorem trs_rep : ∀ n, Va.trs (List.replicate n zV) = List.replicate n zV.tr := fun n => by rw [Va.trs_eq, List.map_replicate]
theorem own_zeros (W : World) : ∀ n, Tr.ownL 6 W (List.replicate n zV.tr) (madeCells zc.toArray (n * 6)).toList []
  | 0 => by
    unfold List.replicate Tr.ownL
    exact ⟨by simp [madeCells], rfl⟩
  | n + 1 => by
    rw [made_snoc, List.replicate_succ']
    exact Tr.ownL_snoc (own_zeros W n) (own_zc W)
theorem own_full {W : World} {n g : Nat} (h0 : 0 < n) (hn : n ≤ 100000) (hg : W.heap[g]? = some (.cells (madeCells zc.toArray (n * 6)) 25 (0, 0))) : (fullV n).tr.own 6 W (cV (some ⟨g, 0, none⟩) n n) [g] := by
  unfold fullV Va.tr Tr.own
  rw [List.length_replicate, trs_rep]
  refine ⟨some ⟨g, 0, none⟩, n, n, rfl, rfl, by simp [Value.oneCell'], ⟨by rw [List.length_replicate], Nat.le_refl _⟩, Nat.le_refl _, by omega, .inr ⟨by rw [List.length_replicate]; exact h0, g, 0, (madeCells zc.toArray (n * 6)).toList, [], rfl, rfl, fun j v hj => ?_, own_zeros W n⟩⟩
  rw [Nat.zero_add]
  exact (box_all hg j).trans (by simpa using hj)
theorem info_tV : (Tryd.prog.info? 25).map (fun i => (i.zero, i.size, i.bytes)) = some (some (.agg #[.int .u8 0, .int .i64 0, .float .f64 0, .float .f64 0, .string ⟨#[]⟩, .slice none 0 0]), 6, 72) := by kernel_rfl
theorem make_V (n : Nat) (hn : n ≤ 100000) (W : World) : (Instr.makeSlice 23 (.int .i64 n) (.int .i64 n)).run Tryd.prog W = .ok (.slice (some ⟨W.heap.size, 0, none⟩) n n) (W.alloc (.cells (madeCells zc.toArray (n * 6)) 25)) := by
  obtain ⟨i0, hi, hz0, hz1, hz2⟩ := info_parts info_tV
  have := run_make (P := Tryd.prog) W 23 25 i0 _ Tryd.underlying23 hi hz0 .i64 .i64 (n : Int) (n : Int) (by omega) (by omega) (by rw [hz2]; omega) (by omega)
  rw [hz1] at this
  simpa [Value.cells] using this
theorem make_B (n : Nat) (hn : n ≤ 100000) (W : World) : (Instr.makeSlice 26 (.int .i64 n) (.int .i64 n)).run Tryd.prog W = .ok (.slice (some ⟨W.heap.size, 0, none⟩) n n) (W.alloc (.cells (madeCells #[.int .u8 0] n) 5)) := by
  obtain ⟨i0, hi, hz0, hz1, hz2⟩ := info_parts info_u8k
  have := run_make (P := Tryd.prog) W 26 5 i0 _ Tryd.underlying26 hi hz0 .i64 .i64 (n : Int) (n : Int) (by omega) (by omega) (by rw [hz2]; omega) (by omega)
  rw [hz1, Nat.mul_one] at this
  simpa [Value.cells] using this
theorem conv_B (n : Nat) (W : World) (g cap : Nat) (h : W.heap[g]? = some (.cells (madeCells #[.int .u8 0] n) 5 (0, 0))) (s : ByteArray) (hs : s = ⟨(List.replicate n 0).toArray⟩) : Sem.run Tryd.prog (convert 26 9 (.slice (some ⟨g, 0, none⟩) n cap)) W = .ok (.string s) W := by
  subst hs
  have hh := run_convert_bytes_back (P := Tryd.prog) W 26 9 5 ⟨g, 0, none⟩ cap (List.replicate n 0) Tryd.underlying26 Tryd.underlying5 Tryd.underlying9 fun j hj => by
    rw [Addr.add_mid, Nat.zero_add]
    rw [List.length_replicate] at hj
    refine (box_all h j).trans ?_
    rw [← Array.getElem?_toList, toList_madeCells_one, List.getElem?_replicate, if_pos hj]
    simp
  rwa [List.length_replicate] at hh
/-- The value put into a list of its own. -/
theorem own_up {W : World} {k : Nat} {a : Option Addr} {n cap : Nat} {F : List Nat} (h : (deepV k).tr.own 6 W (cV a n cap) F) (g : Nat) (hg : W.heap[g]? = some (.cells (cV a n cap).toArray 25 (0, 0))) :
    (deepV (k + 1)).tr.own 6 W (cV (some ⟨g, 0, none⟩) 1 1) (g :: F) := by
  unfold deepV Va.tr Tr.own
  refine ⟨some ⟨g, 0, none⟩, 1, 1, rfl, rfl, by simp [Value.oneCell'], ⟨by unfold Va.trs Va.trs; rfl, Nat.le_refl _⟩, Nat.le_refl _, by decide, .inr ⟨by unfold Va.trs Va.trs; simp, g, 0, cV a n cap, F, rfl, rfl, ?_, ?_⟩⟩
  · intro j v hv
    rw [Nat.zero_add]
    exact (box_all hg j).trans (by simpa using hv)
  · unfold Va.trs Va.trs
    exact Tr.ownL_single h
theorem DL.up {w : World} {B k : Nat} {a : Option Addr} {n cap : Nat} {F : List Nat} {W : World} (h : DL w B (deepV k) a n cap F W) (hB : w.heap.size ≤ B) :
    ∃ F', DL w B (deepV (k + 1)) (some ⟨W.heap.size, 0, none⟩) 1 1 F' ((W.alloc (.cells (cV a n cap).toArray 25)).setRow B (cV (some ⟨W.heap.size, 0, none⟩) 1 1).toArray) := by
  have hlt := (Array.getElem?_eq_some_iff.1 h.box).1
  have hb : Below W.heap.size W (W.alloc (.cells (cV a n cap).toArray 25)) := bnew (Below.refl _ _) _
  have h1 := own_up (Tr.own_below h.own hb) W.heap.size (heap_alloc_new W _)
  have hf : B ∉ W.heap.size :: F := by
    simp only [List.mem_cons, not_or]
    exact ⟨by omega, h.far⟩
  refine ⟨W.heap.size :: F, Tr.own_same _ _ _ (fun b hm => setRow_other _ _ _ _ (fun e => hf (e ▸ hm))) h1, setRow_heap _ _ _ _ _ _ ((hb.block _ hlt).trans h.box), hf, ?_⟩
  exact below_setRow (bthen h.low hb) hB _
abbrev lC (s : ByteArray) : List Value := [.int .u8 5, .int .i64 0, .float .f64 0, .float .f64 0, .string s, .slice none 0 0]
theorem own_long (s : ByteArray) (W : World) : (textV s).tr.own 6 W (lC s) [] := by
  unfold textV Va.tr Tr.own
  exact ⟨none, 0, 0, rfl, rfl, by simp [Value.oneCell'], ⟨rfl, Nat.le_refl _⟩, Nat.zero_le _, by decide, .inl ⟨rfl, rfl⟩⟩
/-- All that the law has made, in memory. -/
structure NS (w : World) (s : ByteArray) (a : Option Addr) (n cap : Nat) (F : List Nat) (g : Nat) (W : World) : Prop where
  d : DL w w.heap.size (deepV 15) a n cap F W
  f : (fullV 1023).tr.own 6 W (cV (some ⟨g, 0, none⟩) 1023 1023) [g]
  m : (fullV 1024).tr.own 6 W (cV (some ⟨g + 1 + 1, 0, none⟩) 1024 1024) [g + 1 + 1]
  bf : W.heap[g + 1]? = some (.cells (cV (some ⟨g, 0, none⟩) 1023 1023).toArray 25 (0, 0))
  bm : W.heap[g + 1 + 1 + 1]? = some (.cells (cV (some ⟨g + 1 + 1, 0, none⟩) 1024 1024).toArray 25 (0, 0))
  bl : W.heap[g + 1 + 1 + 1 + 1 + 1]? = some (.cells (lC s).toArray 25 (0, 0))
  t : FTabs W
theorem NS.below {w : World} {s : ByteArray} {a : Option Addr} {n cap : Nat} {F : List Nat} {g : Nat} {W W2 : World} (h : NS w s a n cap F g W) (hb : Below W.heap.size W W2) : NS w s a n cap F g W2 :=
  ⟨h.d.below hb, Tr.own_below h.f hb, Tr.own_below h.m hb, (hb.block _ (Array.getElem?_eq_some_iff.1 h.bf).1).trans h.bf, (hb.block _ (Array.getElem?_eq_some_iff.1 h.bm).1).trans h.bm, (hb.block _ (Array.getElem?_eq_some_iff.1 h.bl).1).trans h.bl, h.t.below hb⟩
theorem ns_of {w wr : World} (s : ByteArray) {a : Option Addr} {n cap : Nat} {F : List Nat} (h : DL w w.heap.size (deepV 15) a n cap F wr) (ht : FTabs w) :
    NS w s a n cap F wr.heap.size ((((((wr.alloc (.cells (madeCells zc.toArray 6138) 25)).alloc (.cells (cV (some ⟨wr.heap.size, 0, none⟩) 1023 1023).toArray 25)).alloc (.cells (madeCells zc.toArray 6144) 25)).alloc
      (.cells (cV (some ⟨wr.heap.size + 1 + 1, 0, none⟩) 1024 1024).toArray 25)).alloc (.cells (madeCells #[.int .u8 0] 4096) 5)).alloc (.cells (lC s).toArray 25)) := by
  generalize hA : wr.alloc (.cells (madeCells zc.toArray 6138) 25) = A
  have sA : A.heap.size = wr.heap.size + 1 := by rw [← hA]; simp
  have gA : A.heap[wr.heap.size]? = some (.cells (madeCells zc.toArray (1023 * 6)) 25 (0, 0)) := by rw [← hA]; exact heap_alloc_new wr _
  have bA : Below wr.heap.size wr A := by rw [← hA]; exact bnew (Below.refl _ _) _
  generalize hB : A.alloc (.cells (cV (some ⟨wr.heap.size, 0, none⟩) 1023 1023).toArray 25) = B
  have sB : B.heap.size = wr.heap.size + 1 + 1 := by rw [← hB]; simp [sA]
  have gB : B.heap[wr.heap.size + 1]? = some (.cells (cV (some ⟨wr.heap.size, 0, none⟩) 1023 1023).toArray 25 (0, 0)) := by rw [← hB, ← sA]; exact heap_alloc_new A _
  have bB : Below A.heap.size A B := by rw [← hB]; exact bnew (Below.refl _ _) _
  generalize hC : B.alloc (.cells (madeCells zc.toArray 6144) 25) = C
  have sC : C.heap.size = wr.heap.size + 1 + 1 + 1 := by rw [← hC]; simp [sB]
  have gC : C.heap[wr.heap.size + 1 + 1]? = some (.cells (madeCells zc.toArray (1024 * 6)) 25 (0, 0)) := by rw [← hC, ← sB]; exact heap_alloc_new B _
  have bC : Below B.heap.size B C := by rw [← hC]; exact bnew (Below.refl _ _) _
  generalize hD : C.alloc (.cells (cV (some ⟨wr.heap.size + 1 + 1, 0, none⟩) 1024 1024).toArray 25) = D
  have sD : D.heap.size = wr.heap.size + 1 + 1 + 1 + 1 := by rw [← hD]; simp [sC]
  have gD : D.heap[wr.heap.size + 1 + 1 + 1]? = some (.cells (cV (some ⟨wr.heap.size + 1 + 1, 0, none⟩) 1024 1024).toArray 25 (0, 0)) := by rw [← hD, ← sC]; exact heap_alloc_new C _
  have bD : Below C.heap.size C D := by rw [← hD]; exact bnew (Below.refl _ _) _
  have bE : Below D.heap.size D ((D.alloc (.cells (madeCells #[.int .u8 0] 4096) 5)).alloc (.cells (lC s).toArray 25)) := bnew (bnew (Below.refl _ _) _) _
  have gE : ((D.alloc (.cells (madeCells #[.int .u8 0] 4096) 5)).alloc (.cells (lC s).toArray 25)).heap[wr.heap.size + 1 + 1 + 1 + 1 + 1]? = some (.cells (lC s).toArray 25 (0, 0)) := by
    have := heap_alloc2_new D (.cells (madeCells #[.int .u8 0] 4096) 5) (.cells (lC s).toArray 25)
    rwa [sD] at this
  generalize (D.alloc (.cells (madeCells #[.int .u8 0] 4096) 5)).alloc (.cells (lC s).toArray 25) = E at bE gE ⊢
  have cDE := bE
  have cCE := bthen bD bE
  have cBE := bthen bC cCE
  have cAE := bthen bB cBE
  have cE := bthen bA cAE
  exact ⟨h.below cE, own_full (by omega) (by omega) ((cAE.block _ (Array.getElem?_eq_some_iff.1 gA).1).trans gA), own_full (by omega) (by omega) ((cCE.block _ (Array.getElem?_eq_some_iff.1 gC).1).trans gC),
    (cBE.block _ (Array.getElem?_eq_some_iff.1 gB).1).trans gB, (cDE.block _ (Array.getElem?_eq_some_iff.1 gD).1).trans gD, gE, ht.below (bthen h.low cE)⟩
set_option maxRecDepth 100000 in
set_option maxHeartbeats 4000000 in
theorem law_any (w : World) (h : FTabs w) : Calls Tryd.prog 3 #[] w fun e w' => e = .returned (.bool true) ∧ Below w.heap.size w w' := by
  have HT := Lib.hid h
  clear h
  go_enter Tryd.func3, Tryd.ntmps3
  go_wp2_with fail
  go_loopw [2] (fun u2 wr => ∃ (k : Nat) (a : Option Addr) (n cap : Nat) (F : List Nat), k ≤ 15 ∧ u2 = .int .i64 ((k : Int) + 1) ∧ Hid (DL w w.heap.size (deepV k) a n cap F wr)) (fun u2 _ => 16 - (intOf u2).toNat)
  case atStart => exact ⟨0, none, 0, 0, [], by omega, rfl, Lib.hid ⟨own_deep0 _, heap_alloc_new w _, by simp, bnew (Below.refl _ _) _⟩⟩
  case round =>
    obtain ⟨k, a, n, cap, F, hk, rfl, HD⟩ := hrel
    by_cases hlt : k < 15
    · have d1 : (k : Int) + 1 < 16 := by omega
      have j0 := box_all HD.out.box
      have HF := Lib.hid HD.out.box
      go_wp2_with (refine wpList_store_rowTo (by rfl) 25 _ _ (by rfl) (by rfl) w.heap.size (cV (some ⟨wr.heap.size, 0, none⟩) 1 1).toArray (by rfl) (by rfl) 25 (cV a n cap).toArray (((bnew (Below.refl wr.heap.size wr) (.cells (cV a n cap).toArray 25)).block _ (Array.getElem?_eq_some_iff.1 HF.out).1).trans HF.out) (by kernel_rfl) (by kernel_rfl) (by simp [Value.oneCell']) ?_; obtain ⟨F', hup⟩ := HD.out.up (Nat.le_refl _); have HU := Lib.hid hup; clear hup j0)
      go_roundw
      case rel => exact ⟨k + 1, _, _, _, F', by omega, by go_num, HU⟩
      case measure => simp [intOf]; omega
    · obtain rfl : k = 15 := by omega
      have M1 := make_V 1023 (by omega) wr
      have M2 := make_V 1024 (by omega) ((wr.alloc (.cells (madeCells zc.toArray (1023 * 6)) 25)).alloc (.cells (cV (some ⟨wr.heap.size, 0, none⟩) 1023 1023).toArray 25))
      have M3 := make_B 4096 (by omega) ((((wr.alloc (.cells (madeCells zc.toArray 6138) 25)).alloc (.cells (cV (some ⟨wr.heap.size, 0, none⟩) 1023 1023).toArray 25)).alloc (.cells (madeCells zc.toArray 6144) 25)).alloc
        (.cells (cV (some ⟨wr.heap.size + 1 + 1, 0, none⟩) 1024 1024).toArray 25))
      obtain ⟨SL, hSL⟩ : ∃ SL, SL = longS := ⟨_, rfl⟩
      have M4 := conv_B 4096 (((((wr.alloc (.cells (madeCells zc.toArray 6138) 25)).alloc (.cells (cV (some ⟨wr.heap.size, 0, none⟩) 1023 1023).toArray 25)).alloc (.cells (madeCells zc.toArray 6144) 25)).alloc
        (.cells (cV (some ⟨wr.heap.size + 1 + 1, 0, none⟩) 1024 1024).toArray 25)).alloc (.cells (madeCells #[.int .u8 0] 4096) 5)) (wr.heap.size + 1 + 1 + 1 + 1) 4096 (by
          have := heap_alloc_new ((((wr.alloc (.cells (madeCells zc.toArray 6138) 25)).alloc (.cells (cV (some ⟨wr.heap.size, 0, none⟩) 1023 1023).toArray 25)).alloc (.cells (madeCells zc.toArray 6144) 25)).alloc
            (.cells (cV (some ⟨wr.heap.size + 1 + 1, 0, none⟩) 1024 1024).toArray 25)) (.cells (madeCells #[.int .u8 0] 4096) 5)
          simpa using this) SL hSL
      simp only [Int.cast_ofNat_Int] at M1 M2 M3
      have HN := Lib.hid (ns_of SL HD.out HT.out)
      have j0 := box_all HN.out.d.box
      clear hlt hk HD
      have HSL := Lib.hid hSL
      clear hSL
      go_wp2_with fail
      clear M1 M2 M3 M4 j0
      generalize World.alloc (World.alloc (World.alloc (World.alloc (World.alloc (World.alloc _ _) _) _) _) _) _ = W6 at HN ⊢
      generalize wr.heap.size = g at HN ⊢
      refine (Check_any (deepV 15) _ F _ HN.out.d.own (wf_deep 15)).mono ?_
      rintro e w1 ⟨rfl, hb⟩
      rw [if_pos ok_deep15]
      have HN1 := Lib.hid (HN.out.below hb)
      clear hb HN
      have j0 := box_all HN1.out.d.box
      go_wp2_with fail
      have hb := bnew (Below.refl w1.heap.size w1) (.cells (cV a n cap).toArray 25)
      refine (Check_any (deepV 16) _ _ _ (own_up (Tr.own_below HN1.out.d.own hb) w1.heap.size (heap_alloc_new w1 _)) (wf_deep 16)).mono ?_
      rintro e w2 ⟨rfl, hb2⟩
      rw [if_neg (by rw [ok_deep16]; decide)]
      have HN2 := Lib.hid (HN1.out.below (bthen hb hb2))
      clear hb hb2 HN1 j0
      have j0 := box_all HN2.out.bf
      go_wp2_with fail
      refine (Check_any (fullV 1023) _ _ _ HN2.out.f (wf_full 1023)).mono ?_
      rintro e w3 ⟨rfl, hb⟩
      rw [if_pos ok_full1023]
      have HN3 := Lib.hid (HN2.out.below hb)
      clear hb HN2 j0
      have j0 := box_all HN3.out.bm
      go_wp2_with fail
      refine (Check_any (fullV 1024) _ _ _ HN3.out.m (wf_full 1024)).mono ?_
      rintro e w4 ⟨rfl, hb⟩
      rw [if_neg (by rw [ok_full1024]; decide)]
      have HN4 := Lib.hid (HN3.out.below hb)
      clear hb HN3 j0
      have j0 := box_all HN4.out.bl
      go_wp2_with fail
      refine (Check_any (textV SL) _ _ _ (own_long SL _) (wf_text SL)).mono ?_
      rintro e w5 ⟨rfl, hb⟩
      rw [if_pos (by rw [HSL.out]; exact ok_long)]
      have HN5 := Lib.hid (HN4.out.below hb)
      clear hb HN4 j0
      go_wp2_with fail
      refine (Float_100000 _ HN5.out.t).mono ?_
      rintro e w6 ⟨rfl, hb⟩
      have HN6 := Lib.hid (HN5.out.below hb)
      clear hb HN5
      go_wp2_with fail
      refine (Float_1e6 _ HN6.out.t).mono ?_
      rintro e w7 ⟨rfl, hb⟩
      have HN7 := Lib.hid (HN6.out.below hb)
      clear hb HN6
      go_wp2_with fail
      go_ret
      exact ⟨rfl, HN7.out.d.low⟩
end Go.Proofs.YtkgonblofjedfaaDoor
