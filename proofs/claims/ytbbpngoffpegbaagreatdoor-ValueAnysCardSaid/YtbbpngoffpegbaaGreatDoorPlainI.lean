/- The walk of 'value.plain', its memory in intervals one behind the other. (Printed by genplaini.py.) -/
import Derived.Test.YtbbpngoffpegbaaGreatDoorPlain
namespace Go.Proofs.YtbbpngoffpegbaaGreatDoor
open Go.RowKit
set_option linter.unusedVariables false
set_option linter.unusedSimpArgs false
attribute [local go_sem] run_store_float
mutual
/-- v is the Go value of a value; its blocks lie from `lo` on, below `hi`, those of each of its elements behind those of the ones ahead. -/
def Va.plI (w : World) : Va → Nat → Nat → Value → Prop
  | .mk kd n x y s rs, lo, hi, v => lo ≤ hi ∧ hi ≤ w.heap.size ∧
    ((kd ≠ 6 ∧ kd ≠ 7 ∧ (Va.mk kd n x y s rs).pl w lo v) ∨
    (kd = 6 ∧ ∃ b cap, v = .iface 32 (.slice (some ⟨b, 0, none⟩) s.size cap) ∧ lo ≤ b ∧ b < hi ∧ w.ownsRow 0 5 1 (.slice (some ⟨b, 0, none⟩) s.size cap) s.size (Lib.strCells s)) ∨
    (kd = 7 ∧ ∃ b cap vs, v = .iface 34 (.slice (some ⟨b, 0, none⟩) rs.length cap) ∧ lo ≤ b ∧ b < hi ∧ w.ownsRow 0 20 1 (.slice (some ⟨b, 0, none⟩) rs.length cap) rs.length vs ∧ Va.plsI w rs (b + 1) hi vs))
def Va.plsI (w : World) : List Va → Nat → Nat → List Value → Prop
  | [], lo, hi, vs => vs = [] ∧ lo ≤ hi
  | r :: rs, lo, hi, vs => ∃ v vs' mid, vs = v :: vs' ∧ r.plI w lo mid v ∧ Va.plsI w rs mid hi vs'
end
theorem row_low {w : World} {base base2 sz n : Nat} {e : TypeId} {v : Value} {xs : List Value} (h : w.ownsRow base e sz v n xs) (hb : base2 ≤ base) : w.ownsRow base2 e sz v n xs := by
  refine ⟨h.1, ?_⟩
  rcases h.2 with h | ⟨g, cap, cur, h1, h2, h3⟩
  · exact .inl h
  · exact .inr ⟨g, cap, cur, h1, by omega, h3⟩
theorem row_same {w w' : World} {base sz n b cap : Nat} {e : TypeId} {xs : List Value} (h : w.ownsRow base e sz (.slice (some ⟨b, 0, none⟩) n cap) n xs) (hb : w'.heap[b]? = w.heap[b]?) : w'.ownsRow base e sz (.slice (some ⟨b, 0, none⟩) n cap) n xs := by
  refine ⟨h.1, ?_⟩
  rcases h.2 with ⟨h, _⟩ | ⟨g, cap2, cur, h1, h2, h3, h4⟩
  · cases h
  · simp only [Value.slice.injEq, Option.some.injEq, Addr.mk.injEq, and_true, true_and] at h1
    obtain ⟨rfl, rfl⟩ := h1
    exact .inr ⟨b, cap, cur, rfl, h2, by rw [hb]; exact h3, h4⟩
theorem pl_leaf {w w' : World} {lo lo' : Nat} {kd n : Int} {x y : Nat} {s : ByteArray} {rs : List Va} {v : Value} (h6 : kd ≠ 6) (h7 : kd ≠ 7) (h : (Va.mk kd n x y s rs).pl w lo v) : (Va.mk kd n x y s rs).pl w' lo' v := by
  unfold Va.pl at h ⊢
  rcases h with h | h | h | h | h | h | ⟨h, _⟩ | ⟨h, _⟩
  · exact .inl h
  · exact .inr (.inl h)
  · exact .inr (.inr (.inl h))
  · exact .inr (.inr (.inr (.inl h)))
  · exact .inr (.inr (.inr (.inr (.inl h))))
  · exact .inr (.inr (.inr (.inr (.inr (.inl h)))))
  · exact absurd h h6
  · exact absurd h h7
theorem Va.plI_le {w : World} {lo hi : Nat} {r : Va} {v : Value} (h : r.plI w lo hi v) : lo ≤ hi ∧ hi ≤ w.heap.size := by
  cases r
  unfold Va.plI at h
  exact ⟨h.1, h.2.1⟩
theorem Va.plsI_le {w : World} : ∀ {rs : List Va} {lo hi : Nat} {vs : List Value}, Va.plsI w rs lo hi vs → lo ≤ hi
  | [], lo, hi, vs, h => by unfold Va.plsI at h; exact h.2
  | r :: rs, lo, hi, vs, h => by
    unfold Va.plsI at h
    obtain ⟨v, vs', mid, _, h1, h2⟩ := h
    have := Va.plI_le h1
    have := Va.plsI_le h2
    omega
mutual
/-- It stays while none of its blocks is written. -/
theorem Va.plI_same {w w' : World} (hs : w.heap.size ≤ w'.heap.size) : ∀ (r : Va) (lo hi : Nat) (v : Value), (∀ b, lo ≤ b → b < hi → w'.heap[b]? = w.heap[b]?) → r.plI w lo hi v → r.plI w' lo hi v
  | .mk kd n x y s rs, lo, hi, v => fun hb h => by
    unfold Va.plI at h ⊢
    obtain ⟨h0, h1, h⟩ := h
    refine ⟨h0, by omega, ?_⟩
    rcases h with ⟨h6, h7, h⟩ | ⟨h, b, cap, h2, h3, h4, h5⟩ | ⟨h, b, cap, vs, h2, h3, h4, h5, h6⟩
    · exact .inl ⟨h6, h7, pl_leaf h6 h7 h⟩
    · exact .inr (.inl ⟨h, b, cap, h2, h3, h4, row_same h5 (hb b h3 h4)⟩)
    · exact .inr (.inr ⟨h, b, cap, vs, h2, h3, h4, row_same h5 (hb b h3 h4), Va.plsI_same hs rs _ _ vs (fun i i1 i2 => hb i (by omega) i2) h6⟩)
theorem Va.plsI_same {w w' : World} (hs : w.heap.size ≤ w'.heap.size) : ∀ (rs : List Va) (lo hi : Nat) (vs : List Value), (∀ b, lo ≤ b → b < hi → w'.heap[b]? = w.heap[b]?) → Va.plsI w rs lo hi vs → Va.plsI w' rs lo hi vs
  | [], lo, hi, vs => fun _ h => by unfold Va.plsI at h ⊢; exact h
  | r :: rs, lo, hi, vs => fun hb h => by
    unfold Va.plsI at h ⊢
    obtain ⟨v, vs', mid, h1, h2, h3⟩ := h
    have h2' := Va.plI_le h2
    have h3' := Va.plsI_le h3
    exact ⟨v, vs', mid, h1, Va.plI_same hs r _ _ v (fun i i1 i2 => hb i i1 (by omega)) h2, Va.plsI_same hs rs _ _ vs' (fun i i1 i2 => hb i (by omega) i2) h3⟩
end
mutual
theorem Va.plI_mono {w : World} : ∀ (r : Va) (lo hi lo' hi' : Nat) (v : Value), lo' ≤ lo → hi ≤ hi' → hi' ≤ w.heap.size → r.plI w lo hi v → r.plI w lo' hi' v
  | .mk kd n x y s rs, lo, hi, lo', hi', v => fun a b c h => by
    unfold Va.plI at h ⊢
    obtain ⟨h0, h1, h⟩ := h
    refine ⟨by omega, by omega, ?_⟩
    rcases h with ⟨h6, h7, h⟩ | ⟨h, b, cap, h2, h3, h4, h5⟩ | ⟨h, b, cap, vs, h2, h3, h4, h5, h6⟩
    · exact .inl ⟨h6, h7, pl_leaf h6 h7 h⟩
    · exact .inr (.inl ⟨h, b, cap, h2, by omega, by omega, h5⟩)
    · exact .inr (.inr ⟨h, b, cap, vs, h2, by omega, by omega, h5, Va.plsI_mono rs _ _ _ _ vs (Nat.le_refl _) (by omega) c h6⟩)
theorem Va.plsI_mono {w : World} : ∀ (rs : List Va) (lo hi lo' hi' : Nat) (vs : List Value), lo' ≤ lo → hi ≤ hi' → hi' ≤ w.heap.size → Va.plsI w rs lo hi vs → Va.plsI w rs lo' hi' vs
  | [], lo, hi, lo', hi', vs => fun a b c h => by unfold Va.plsI at h ⊢; exact ⟨h.1, by omega⟩
  | r :: rs, lo, hi, lo', hi', vs => fun a b c h => by
    unfold Va.plsI at h ⊢
    obtain ⟨v, vs', mid, h1, h2, h3⟩ := h
    exact ⟨v, vs', mid, h1, Va.plI_mono r _ _ _ _ v a (Nat.le_refl _) (Va.plI_le h2).2 h2, Va.plsI_mono rs _ _ _ _ vs' (Nat.le_refl _) b c h3⟩
end
theorem Va.plsI_snoc {w : World} : ∀ {rs : List Va} {vs : List Value} {r : Va} {v : Value} {lo mid hi : Nat}, Va.plsI w rs lo mid vs → r.plI w mid hi v → Va.plsI w (rs ++ [r]) lo hi (vs ++ [v])
  | [], vs, r, v, lo, mid, hi, h, k => by
    unfold Va.plsI at h
    obtain ⟨rfl, h⟩ := h
    show Va.plsI w [r] lo hi [v]
    unfold Va.plsI
    exact ⟨v, [], hi, rfl, Va.plI_mono r _ _ _ _ v h (Nat.le_refl _) (Va.plI_le k).2 k, by unfold Va.plsI; exact ⟨rfl, Nat.le_refl _⟩⟩
  | q :: rs, vs, r, v, lo, mid, hi, h, k => by
    unfold Va.plsI at h
    obtain ⟨u, vs', m, rfl, h2, h3⟩ := h
    rw [List.cons_append, List.cons_append]
    unfold Va.plsI
    exact ⟨u, _, m, rfl, h2, Va.plsI_snoc h3 k⟩
theorem str_range {w : World} {b n cap : Nat} {e : TypeId} {xs : List Value} (h : w.ownsRow 0 e 1 (.slice (some ⟨b, 0, none⟩) n cap) n xs) : n ≤ cap ∧ b < w.heap.size := by
  rcases h.2 with ⟨h, _⟩ | ⟨g, cap2, cur, h1, h2, h3, h4, h5⟩
  · cases h
  · simp only [Value.slice.injEq, Option.some.injEq, Addr.mk.injEq, and_true, true_and] at h1
    obtain ⟨rfl, rfl⟩ := h1
    exact ⟨h4, (Array.getElem?_eq_some_iff.1 h3).1⟩
mutual
theorem Va.plI_pl {w : World} : ∀ (r : Va) (lo hi : Nat) (v : Value), r.plI w lo hi v → r.pl w lo v
  | .mk kd n x y s rs, lo, hi, v => fun h => by
    unfold Va.plI at h
    obtain ⟨h0, h1, h⟩ := h
    rcases h with ⟨h6, h7, h⟩ | ⟨h, b, cap, h2, h3, h4, h5⟩ | ⟨h, b, cap, vs, h2, h3, h4, h5, h6⟩
    · exact h
    · unfold Va.pl
      exact .inr (.inr (.inr (.inr (.inr (.inr (.inl ⟨h, b, cap, h2, (str_range h5).1, h3, (str_range h5).2, own_range h5⟩))))))
    · unfold Va.pl
      exact .inr (.inr (.inr (.inr (.inr (.inr (.inr ⟨h, b, cap, vs, h2, (str_range h5).1, h3, (str_range h5).2, own_range h5, Va.plsI_pls rs _ _ _ vs (by omega) h6⟩))))))
theorem Va.plsI_pls {w : World} : ∀ (rs : List Va) (lo lo' hi : Nat) (vs : List Value), lo' ≤ lo → Va.plsI w rs lo hi vs → Va.pls w lo' rs vs
  | [], lo, lo', hi, vs => fun _ h => by unfold Va.plsI at h; unfold Va.pls; exact h.1
  | r :: rs, lo, lo', hi, vs => fun hl h => by
    unfold Va.plsI at h
    unfold Va.pls
    obtain ⟨v, vs', mid, h1, h2, h3⟩ := h
    have := Va.plI_le h2
    exact ⟨v, vs', h1, Va.pl_same hl (Nat.le_refl _) (fun _ _ _ => rfl) _ _ (Va.plI_pl r _ _ v h2), Va.plsI_pls rs _ _ _ vs' (by omega) h3⟩
end
/-- What 'plain' gives. -/
def PlainI (r : Va) (w : World) (e : Ending) (w' : World) : Prop := ∃ v, e = .returned v ∧ r.plI w' w.heap.size w'.heap.size v ∧ Below w.heap.size w w'
theorem PlainI.leaf {kd n : Int} {x y : Nat} {s : ByteArray} {rs : List Va} {w w' : World} {e : Ending} (h6 : kd ≠ 6) (h7 : kd ≠ 7) (h : PlainIs (.mk kd n x y s rs) w e w') : PlainI (.mk kd n x y s rs) w e w' := by
  obtain ⟨v, h1, h2, h3⟩ := h
  exact ⟨v, h1, by unfold Va.plI; exact ⟨h3.size, Nat.le_refl _, .inl ⟨h6, h7, h2⟩⟩, h3⟩
section
variable (n : Int) (x y : Nat) (s : ByteArray) (rs : List Va) (a : Option Addr) (cap : Nat) (w : World)
theorem plainI_6 (hs : s.size ≤ 4096) : Calls Tryz.prog 25 #[.agg #[.int .u8 6, .int .i64 n, .float .f64 x, .float .f64 y, .string s, .slice a rs.length cap]] w (PlainI (.mk 6 n x y s rs) w) := by
  obtain ⟨i0, hi0, hz0, hz1, hz2⟩ := info_parts info_u8
  have HS := Lib.hid hs
  clear hs
  go_enter Tryz.func25, Tryz.ntmps25
  go_wp2_with (refine Lib.wpList_append_own_string _ (by rfl) _ _ 32 9 (by rfl) (w.heap.size + 1) 5 i0 Tryz.underlying32 Tryz.underlying9 hi0 hz0 hz1 hz2 _ 0 [] (by rfl) (own_none _ (w.heap.size + 1) 5 (two2 w _ _) _ (Nat.le_refl _)) s (by rfl) (by have := HS.out; simp only [maxLen]; omega) (by have := HS.out; omega) (by simp) ?_; intro v' w1 hown hg hnil)
  rcases hown.2 with ⟨rfl, h0⟩ | ⟨g, cap2, cur, rfl, hbg, hgg, hle, _⟩
  · exact absurd (hnil.1 rfl).1 (by simp)
  go_wp2_with fail
  go_ret
  have hlt := (hown.lt g rfl)
  refine ⟨_, rfl, ?_, ?_⟩
  · unfold Va.plI
    refine ⟨by have := hlt.1; have := hlt.2; omega, Nat.le_refl _, .inr (.inl ⟨rfl, g, cap2, by simp, by omega, hlt.2, ?_⟩)⟩
    simpa using row_low hown (Nat.zero_le _)
  · exact (bb2 w _ _).trans (⟨hg.os, hg.tape, hg.output, hg.size, fun k hk => hg.block k (by simp; omega) (by simp [Value.ownBlock]; omega)⟩)
end
theorem plainI_step {w wr w2 w3 : World} {g k mid : Nat} {rs : List Va} {vs : List Value} {v : Value} {bx : Array Value} (hgw : g = w.heap.size + 1) (hb : Below w.heap.size w wr) (hgl : g < wr.heap.size) (hin : Va.plsI wr (rs.take k) (g + 1) mid vs) (hmid : mid ≤ wr.heap.size) (hlt : k < rs.length)
    (hpl : rs[k].plI w2 (wr.alloc (.cells bx 25)).heap.size w2.heap.size v) (hb2 : Below (wr.alloc (.cells bx 25)).heap.size (wr.alloc (.cells bx 25)) w2) (hg3 : (w2.alloc (.cells #[v] 20)).grownBy w3 (some g)) :
    Va.plsI w3 (rs.take (k + 1)) (g + 1) w2.heap.size (vs ++ [v]) ∧ w2.heap.size ≤ w3.heap.size ∧ Below w.heap.size w w3 ∧ g < w3.heap.size := by
  have hs2 := hb2.size
  have hs3 := hg3.size
  have hsA : (wr.alloc (.cells bx 25)).heap.size = wr.heap.size + 1 := by simp
  have hsB : (w2.alloc (.cells #[v] 20)).heap.size = w2.heap.size + 1 := by simp
  have hbl3 : ∀ i, i < wr.heap.size → i ≠ g → w3.heap[i]? = wr.heap[i]? := fun i hi hne => by
    have h1 := hb2.block i (by omega)
    have h2 : (w2.alloc (.cells #[v] 20)).heap[i]? = w2.heap[i]? := Below.heap_alloc _ _ _ (by omega)
    have h4 : (wr.alloc (.cells bx 25)).heap[i]? = wr.heap[i]? := Below.heap_alloc _ _ _ hi
    rw [hg3.block i (by omega) (by simpa using hne), h2, h1, h4]
  refine ⟨?_, by omega, ?_, by omega⟩
  · rw [List.take_succ_eq_append_getElem hlt]
    refine Va.plsI_snoc (Va.plsI_same (by omega) _ _ _ _ (fun i h1 h2 => hbl3 i (by omega) (by omega)) hin) ?_
    refine Va.plI_mono _ (wr.alloc (.cells bx 25)).heap.size w2.heap.size _ _ _ (by omega) (Nat.le_refl _) (by omega) ?_
    refine Va.plI_same (w := w2) (by omega) _ _ _ _ (fun i h1 h2 => ?_) hpl
    have h5 : (w2.alloc (.cells #[v] 20)).heap[i]? = w2.heap[i]? := Below.heap_alloc _ _ _ h2
    rw [hg3.block i (by omega) (by simp; omega), h5]
  · exact hb.trans ⟨hg3.os.trans hb2.os, hg3.tape.trans hb2.tape, hg3.output.trans hb2.output, by omega, fun i hi => by
      have := hb.size
      exact hbl3 i (by omega) (by omega)⟩
set_option maxRecDepth 100000 in
set_option maxHeartbeats 2000000 in
theorem plainI_N (N : Nat) : ∀ (r : Va) (_ : r.size ≤ N) (_ : r.sm) (c : List Value) (F : List Nat) (w : World) (_ : r.tr.own 6 w c F), Calls Tryz.prog 25 #[.agg c.toArray] w (PlainI r w) := by
  induction N with
  | zero => intro r hN; have := r.size_pos; omega
  | succ N ih =>
  intro r hN hsm c F w hr
  obtain ⟨kd, n, x, y, s, rs⟩ := r
  obtain ⟨a, cap, rfl, hcap, hcap', hc⟩ := Va.open hr
  clear hr
  unfold Va.sm at hsm
  obtain ⟨hs, hl, hsms⟩ := hsm
  by_cases h7 : ¬ kd = 7
  · by_cases h1 : kd = 1
    · subst h1; exact (plain_1 n x y s rs a cap w).mono fun _ _ h => PlainI.leaf (by decide) (by decide) h
    by_cases h2 : kd = 2
    · subst h2; exact (plain_2 n x y s rs a cap w).mono fun _ _ h => PlainI.leaf (by decide) (by decide) h
    by_cases h3 : kd = 3
    · subst h3; exact (plain_3 n x y s rs a cap w).mono fun _ _ h => PlainI.leaf (by decide) (by decide) h
    by_cases h4 : kd = 4
    · subst h4; exact (plain_4 n x y s rs a cap w).mono fun _ _ h => PlainI.leaf (by decide) (by decide) h
    by_cases h5 : kd = 5
    · subst h5; exact (plain_5 n x y s rs a cap w).mono fun _ _ h => PlainI.leaf (by decide) (by decide) h
    by_cases h6 : kd = 6
    · subst h6; exact plainI_6 n x y s rs a cap w hs
    exact (plain_none n x y s rs a cap w kd (beq_eq_false_iff_ne.2 h1) (beq_eq_false_iff_ne.2 h2) (beq_eq_false_iff_ne.2 h3) (beq_eq_false_iff_ne.2 h4) (beq_eq_false_iff_ne.2 h5) (beq_eq_false_iff_ne.2 h6) (beq_eq_false_iff_ne.2 h7)).mono fun _ _ h => PlainI.leaf h6 h7 h
  have h7 := Classical.not_not.1 h7
  subst h7
  unfold Va.size at hN
  have IH := Lib.hid ih
  have HSM := Lib.hid hsms
  have HL := Lib.hid hl
  clear ih hsms hs
  obtain ⟨i0, hi0, hz0, hz1, hz2⟩ := info_parts info_any
  go_enter Tryz.func25, Tryz.ntmps25
  go_wp2_with (refine wpList_make_own _ (by rfl) _ _ 34 (by rfl) (w.heap.size + 1) 20 i0 _ 1 Tryz.underlying34 hi0 hz0 hz1 _ _ _ rs.length (by rfl) (by rfl) rfl (by rw [hz2]; have := HL.out; omega) (by have := HL.out; simp only [maxLen]; omega) (by simp) ?_; intro w1 hown1 hg1; have HOWN := Lib.hid hown1; have HG := Lib.hid hg1; have q5 := (hg1.cell_far ⟨w.heap.size, 5, none⟩ (by simp) (by simp)).trans (box_all (heap_alloc_new w _) 5))
  clear hown1 hg1
  go_loopw [3, 53] (fun u3 u53 wr => ∃ (k : Nat) (g : Nat) (vs : List Value) (mid : Nat), k ≤ rs.length ∧ u53 = .int .i64 k ∧ u3 = .slice (some ⟨g, 0, none⟩) k rs.length ∧ Hid (g = w.heap.size + 1) ∧ Hid (wr.ownsRow (w.heap.size + 1) 20 1 (.slice (some ⟨g, 0, none⟩) k rs.length) k vs ∧ Va.plsI wr (rs.take k) (g + 1) mid vs ∧ mid ≤ wr.heap.size) ∧ Below w.heap.size w wr ∧ g < wr.heap.size) (fun _ u53 _ => rs.length - (intOf u53).toNat)
  case atStart =>
    have hlt := HOWN.out.lt (w.heap.size + 1) (by simp [Value.ownBlock])
    refine ⟨0, w.heap.size + 1, [], w.heap.size + 2, by omega, rfl, by simp, rfl, ⟨by simpa using HOWN.out, by simp [Va.plsI], by omega⟩, ?_, hlt.2⟩
    have hg := HG.out
    exact (bnew (Below.refl _ w) _).trans ⟨hg.os, hg.tape, hg.output, hg.size, fun k hk => hg.block k (by simp; omega) (by simp)⟩
  case round =>
    clear q5 HOWN HG
    obtain ⟨k, g, vs, mid, hk, rfl, rfl, hgw, hin, hb, hgl⟩ := hrel
    by_cases hlt : k < rs.length
    · rcases hc with ⟨h0', _⟩ | ⟨_, b, o, cs, F', rfl, rfl, hra, hkl⟩
      · omega
      have hbl : b < w.heap.size := rangeAt_lt hra (by rw [Tr.ownL_len hkl, Va.trs_len]; omega)
      have hkl' := Tr.ownL_same _ _ _ (fun i hi => hb.block i (Tr.ownL_lt _ _ _ hkl i hi)) hkl
      obtain ⟨kkd, kn, kx, ky, ks, krs, ka, kcap, Fa, F1, Fb, hF1, _he1, hkid, c0, c1, c2, c3, c4, c5⟩ := Va.kidO k hlt hkl' (rangeAt_of_block hra (hb.block b hbl))
      have hri : (0:Int) ≤ (k:Int) := by omega
      have hri2 : (k:Int) < (rs.length:Int) := by omega
      have HZ := Va.sizes_at rs k hlt
      have HK := Lib.hid (fun A => Tr.own_below hkid (bnew (Below.refl _ wr) A))
      have HB := Lib.hid (And.intro hb hgl)
      clear hra hkl hkl' hF1 _he1 hkid
      go_wp2_with (first | (go_at_call 25; refine (IH.out rs[k] (by omega) (Va.sms_at rs k hlt HSM.out) [.int .u8 kkd, .int .i64 kn, .float .f64 kx, .float .f64 ky, .string ks, .slice ka krs.length kcap] F1 _ (HK.out _)).mono ?_; rintro e w2 ⟨v, rfl, hpl, hb2⟩; have hpl0 := Va.plI_pl _ _ _ _ hpl; have hone := Va.pl_one hpl0; have HFORM := Lib.hid (Va.pl_form hpl0); clear hpl0; have HP := Lib.hid (And.intro hpl hb2); clear hpl hb2; rcases HFORM.out with rfl | ⟨t9, u9, rfl⟩) | (refine wpList_append_fits _ (by rfl) _ _ 34 (by rfl) (w.heap.size + 1) 20 i0 1 Tryz.underlying34 hi0 hz1 g k rs.length vs (by rfl) (hin.out.1.kept (row := none) ⟨HP.out.2.os, HP.out.2.tape, HP.out.2.output, by have := HP.out.2.size; simp at this ⊢; omega, fun i hi _ => by have := HP.out.2.size; rw [heap_alloc_old _ _ (by simp at this; omega), HP.out.2.block i (by simp; omega)]; exact heap_alloc_old _ _ hi⟩ (.inr (by simp [Value.ownBlock]))) ⟨w2.heap.size, 0, none⟩ 1 1 [.nilIface] (by rfl) rfl (World.news_of_block (cs := #[.nilIface]) (t := 20) (fr := (0, 0)) (heap_alloc_new w2 _)) (by simp [Value.oneCell']) (by omega) ?_; intro w3 hown3 hg3) | (refine wpList_append_fits _ (by rfl) _ _ 34 (by rfl) (w.heap.size + 1) 20 i0 1 Tryz.underlying34 hi0 hz1 g k rs.length vs (by rfl) (hin.out.1.kept (row := none) ⟨HP.out.2.os, HP.out.2.tape, HP.out.2.output, by have := HP.out.2.size; simp at this ⊢; omega, fun i hi _ => by have := HP.out.2.size; rw [heap_alloc_old _ _ (by simp at this; omega), HP.out.2.block i (by simp; omega)]; exact heap_alloc_old _ _ hi⟩ (.inr (by simp [Value.ownBlock]))) ⟨w2.heap.size, 0, none⟩ 1 1 [.iface t9 u9] (by rfl) rfl (World.news_of_block (cs := #[.iface t9 u9]) (t := 20) (fr := (0, 0)) (heap_alloc_new w2 _)) (by simp [Value.oneCell']) (by omega) ?_; intro w3 hown3 hg3))
      all_goals
        go_roundw
        case rel =>
          obtain ⟨r1, r4, r2, r3⟩ := plainI_step hgw.out HB.out.1 HB.out.2 hin.out.2.1 hin.out.2.2 hlt HP.out.1 HP.out.2 hg3
          exact ⟨k + 1, g, _, w2.heap.size, by omega, by go_num, by simp, hgw, ⟨hown3, r1, r4⟩, r2, r3⟩
        case measure => simp [intOf]; omega
    · have hk' : k = rs.length := by omega
      subst hk'
      go_wp2_with fail
      go_ret
      refine ⟨_, rfl, ?_, hb⟩
      obtain ⟨h1, h2, h3⟩ := hin.out
      have := hgw.out
      rw [List.take_length] at h2
      unfold Va.plI
      exact ⟨hb.size, Nat.le_refl _, .inr (.inr ⟨rfl, g, rs.length, vs, rfl, by omega, hgl, row_low h1 (Nat.zero_le _), Va.plsI_mono _ _ _ _ _ _ (Nat.le_refl _) h3 (Nat.le_refl _) h2⟩)⟩
end Go.Proofs.YtbbpngoffpegbaaGreatDoor
