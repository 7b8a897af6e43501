/- The walk of 'over': a value's lists are written over. Lists of kids that grow, where the world about them turns in between. Trees in memory whose rows have their room: what an append may write into. -/
import Derived.Test.YtaglklcjolcgeaaLent
import Derived.Test.YtaglklcjolcgeaaRLeaf
namespace Go.Proofs.Ytaglklcjolcgeaa
open Go.RowKit
set_option linter.unusedVariables false
set_option linter.unusedSimpArgs false
attribute [local go_sem] run_store_float
theorem setCells_frame (b : Nat) : ∀ (vs : List Value) (o : Nat) (w : World), (w.setCells b o vs).heap.size = w.heap.size ∧ (w.setCells b o vs).os = w.os ∧ (w.setCells b o vs).tape = w.tape ∧ (w.setCells b o vs).output = w.output ∧ ∀ k, k ≠ b → (w.setCells b o vs).heap[k]? = w.heap[k]?
  | [], _, _ => ⟨rfl, rfl, rfl, rfl, fun _ _ => rfl⟩
  | v :: vs, o, w => by
    obtain ⟨h1, h2, h3, h4, h5⟩ := setCells_frame b vs (o + 1) (w.setCell ⟨b, o, none⟩ v)
    unfold World.setCells
    exact ⟨h1.trans (size_set _ _ _), h2, h3, h4, fun k hk => (h5 k hk).trans (Below.heap_setCell _ _ _ _ hk)⟩
theorem rangeAt_app {w : World} {b o : Nat} {c d : List Value} (h : w.rangeAt b o c) (k : w.rangeAt b (o + c.length) d) : w.rangeAt b o (c ++ d) := fun j v hv => by
  by_cases hj : j < c.length
  · rw [List.getElem?_append_left hj] at hv
    exact h j v hv
  · rw [List.getElem?_append_right (by omega)] at hv
    have := k (j - c.length) v hv
    rw [Nat.add_assoc, show c.length + (j - c.length) = j by omega] at this
    exact this
/-- What lies at a list behind k rounds. -/
def OverInv (wr : World) (b o : Nat) (F' : List Nat) (rs : List Va) (m : Int) (cm : List Value) (k : Nat) : Prop :=
  ∃ cs, cs.length = rs.length * 6 ∧ wr.rangeAt b o (cs ++ cm) ∧ Tr.ownL 6 wr (Va.ltrs (overL (rs.take k) m 0) ++ Va.ltrs (rs.drop k)) cs F' ∧ Soft wr (b :: F')
structure OverAt (wr : World) (b o : Nat) (F' : List Nat) (rs : List Va) (m : Int) (cm : List Value) (k : Nat) (hk : k < rs.length) (c pre post : List Value) (Fa F1 Fb : List Nat) : Prop where
  eF : F' = Fa ++ (F1 ++ Fb)
  l0 : pre.length = k * 6
  l1 : c.length = 6
  l2 : post.length = (rs.length - (k + 1)) * 6
  r0 : wr.rangeAt b o pre
  r1 : wr.rangeAt b (o + k * 6) c
  r2 : wr.rangeAt b (o + (k + 1) * 6) (post ++ cm)
  o0 : Tr.ownL 6 wr (Va.ltrs (overL (rs.take k) m 0)) pre Fa
  o1 : rs[k].ltr.own 6 wr c F1
  o2 : Tr.ownL 6 wr (Va.ltrs (rs.drop (k + 1))) post Fb
  so : Soft wr (b :: F')
theorem over_open {wr : World} {b o : Nat} {F' : List Nat} {rs : List Va} {m : Int} {cm : List Value} {k : Nat} (h : OverInv wr b o F' rs m cm k) (hk : k < rs.length) : ∃ c pre post Fa F1 Fb, OverAt wr b o F' rs m cm k hk c pre post Fa F1 Fb := by
  obtain ⟨cs, h1, h2, h3, h4⟩ := h
  obtain ⟨pre, rest, Fa, Fr, rfl, rfl, a1, a2⟩ := Tr.ownL_split h3
  rw [List.drop_eq_getElem_cons hk] at a2
  unfold Va.ltrs Tr.ownL at a2
  obtain ⟨c, post, F1, Fb, rfl, rfl, a3, a4⟩ := a2
  have e0 : pre.length = k * 6 := by rw [Tr.ownL_len a1, Va.ltrs_len, overL_len, List.length_take]; congr 1; omega
  have e1 := Tr.own_len a3
  have e2 : post.length = (rs.length - (k + 1)) * 6 := by rw [Tr.ownL_len a4, Va.ltrs_len, List.length_drop]
  rw [List.append_assoc] at h2
  have r0 := rangeAt_left h2
  have r := rangeAt_right h2
  rw [List.append_assoc] at r
  have r1 := rangeAt_left r
  have r2 := rangeAt_right r
  rw [e0] at r1 r2
  rw [e1] at r2
  have e : o + k * 6 + 6 = o + (k + 1) * 6 := by omega
  rw [e] at r2
  exact ⟨c, pre, post, Fa, F1, Fb, rfl, e0, e1, e2, r0, r1, r2, a1, a3, a4, h4⟩
theorem over_close {wr wn : World} {b o : Nat} {F' : List Nat} {rs : List Va} {m : Int} {cm : List Value} {k : Nat} {hk : k < rs.length} {c pre post : List Value} {Fa F1 Fb : List Nat} (h : OverAt wr b o F' rs m cm k hk c pre post Fa F1 Fb)
    {c' : List Value} (hown : (if rs[k].kd = 7 then overV rs[k] m else .mk 2 (100 * m + ((0 + k : Nat) : Int)) 0 0 ⟨#[]⟩ [] : Va).ltr.own 6 wn c' F1) (hfa : ∀ i ∈ Fa, wn.heap[i]? = wr.heap[i]?) (hfb : ∀ i ∈ Fb, wn.heap[i]? = wr.heap[i]?)
    (r0 : wn.rangeAt b o pre) (r1 : wn.rangeAt b (o + k * 6) c') (r2 : wn.rangeAt b (o + (k + 1) * 6) (post ++ cm)) (so : Soft wn (b :: F')) : OverInv wn b o F' rs m cm (k + 1) := by
  have e1 := Tr.own_len hown
  have hl := h.l0
  have h2 := h.l2
  refine ⟨pre ++ c' ++ post, ?_, ?_, ?_, so⟩
  · simp only [List.length_append, hl, e1, h2]
    have := Nat.sub_add_cancel (show k + 1 ≤ rs.length by omega)
    rw [← this]
    simp only [Nat.add_mul]
    omega
  · rw [List.append_assoc, List.append_assoc]
    refine rangeAt_app r0 ?_
    rw [hl]
    refine rangeAt_app r1 ?_
    rw [e1, show o + k * 6 + 6 = o + (k + 1) * 6 by omega]
    exact r2
  · rw [overL_at rs m 0 k hk, Va.ltrs_eq (overL (rs.take k) m 0 ++ _), List.map_append, ← Va.ltrs_eq, h.eF, ← List.append_assoc]
    simp only [List.map_cons, List.map_nil]
    exact Tr.ownL_app (Tr.ownL_snoc (Tr.ownL_same _ _ _ hfa h.o0) hown) (Tr.ownL_same _ _ _ hfb h.o2)
theorem fresh_own (m : Int) (k : Nat) (w : World) : (Va.mk 2 (100 * m + ((0 + k : Nat) : Int)) 0 0 ⟨#[]⟩ []).ltr.own 6 w [.int .u8 2, .int .i64 (100 * m + (k : Int)), .float .f64 0, .float .f64 0, .string ⟨#[]⟩, .slice none 0 0] [] := by
  unfold Va.ltr Tr.own
  refine ⟨none, 0, 0, by simp, rfl, by simp [Value.oneCell'], ⟨rfl, Nat.le_refl _⟩, Nat.le_refl _, by omega, .inl ⟨rfl, rfl⟩⟩
theorem kid_none {w : World} {r : Va} {c : List Value} {F : List Nat} (ho : r.okV = true) (h7 : ¬ r.kd = 7) (h : r.ltr.own 6 w c F) : F = [] := by
  obtain ⟨kd, n, x, y, s, rs⟩ := r
  obtain rfl := Va.ok_nolist ho h7
  obtain ⟨a, cap, _, _, _, h⟩ := Va.openL h
  rcases h with h | h
  · exact h.2
  · simp at h
/-- What 'over' comes to. -/
def OverIs (r : Va) (m : Int) (c : List Value) (F : List Nat) (w : World) (e : Ending) (w' : World) : Prop := e = .returned (.tuple #[]) ∧ (overV r m).ltr.own 6 w' c F ∧ Wr (fun i => i ∈ F) w w' ∧ Soft w' F
theorem one2 (z : Int) : (#[.int .u8 2, .int .i64 z, .float .f64 0, .float .f64 0, .string ⟨#[]⟩, .slice none 0 0] : Array Value).all (·.oneCell') = true := all_oneCell_toArray (cs := [.int .u8 2, .int .i64 z, .float .f64 0, .float .f64 0, .string ⟨#[]⟩, .slice none 0 0]) (by simp [Value.oneCell'])
theorem size_tV : (Try.prog.info? 25).map (·.size) = some 6 := by kernel_rfl
theorem over_bad (r : Va) (ho : r.okV = false) (m : Int) (c : List Value) (F : List Nat) (w : World) (hr : r.tr.own 6 w c F) : Calls Try.prog 8 #[.agg c.toArray, .int .i64 m] w fun e w' => e = .returned (.tuple #[]) ∧ Below w.heap.size w w' := by
  obtain ⟨v0, v1, v2, v3, v4, v5, rfl⟩ := Va.shape hr
  have HR := Lib.hid (fun o => Tr.own_below hr (bnew (Below.refl _ w) o))
  have HO := Lib.hid ho
  clear hr ho
  go_enter Try.func8, Try.ntmps8
  go_wp2_with (go_at_call 14; (with_reducible refine (rCheck_any r [v0, v1, v2, v3, v4, v5] F _ (HR.out _)).mono ?_); rintro e w1 ⟨rfl, hb1⟩; rw [bad_ite HO.out])
  refine bodyPost_ret (results_none rfl _ _ _) rfl ?_
  exact ⟨rfl, bthen (bnew (Below.refl _ w) _) hb1⟩
set_option maxRecDepth 100000 in
set_option maxHeartbeats 4000000 in
theorem over_N (N : Nat) : ∀ (r : Va) (_ : r.size ≤ N) (_ : r.okV = true) (m : Int) (_ : 0 ≤ m) (_ : m ≤ 10) (c : List Value) (F : List Nat) (w : World) (_ : r.ltr.own 6 w c F) (_ : F.Nodup) (_ : Soft w F),
    Calls Try.prog 8 #[.agg c.toArray, .int .i64 m] w (OverIs r m c F w) := by
  induction N with
  | zero => intro r hN; have := r.size_pos; omega
  | succ N ih =>
  intro r hN ho m m0 m1 c F w hr hnd hso
  have HR := Lib.hid (fun A => Va.own_ltr r c F (Tr.own_below hr (bnew (Below.refl _ w) A)))
  have HLT := Lib.hid (Tr.own_lt _ _ _ hr)
  have HR0 := Lib.hid hr
  obtain ⟨kd, n, x, y, s, rs⟩ := r
  obtain ⟨a, cap, rfl, hcap, hcap', hc⟩ := Va.openL hr
  clear hr
  have HO := Lib.hid ho
  have HOK := Lib.hid (fun k hk => Va.ok_kid ho k hk)
  have hsz := Va.ok_size ho
  have HND := Lib.hid hnd
  have HSO := Lib.hid hso
  clear ho hnd hso
  unfold Va.size at hN hsz
  have hlen := Va.sizes_len rs
  have IH := Lib.hid ih
  clear ih
  rcases hc with ⟨hz0, rfl⟩ | ⟨hpos, hcap20, b, o, cs, cm, F', rfl, rfl, hra, hkl, hml⟩
  · have HZ := Lib.hid hz0
    clear hz0
    go_enter Try.func8, Try.ntmps8
    go_wp2_with (go_at_call 14; (with_reducible refine (rCheck_any (Va.mk kd n x y s rs) [.int .u8 kd, .int .i64 n, .float .f64 x, .float .f64 y, .string s, .slice a rs.length cap] [] _ (HR.out _)).mono ?_); rintro e w1 ⟨rfl, hb1⟩; rw [ok_ite HO.out]; have HB := Lib.hid (bthen (bnew (Below.refl _ w) _) hb1); have q5 : w1.cell? ⟨w.heap.size, 5, none⟩ = some (.slice a rs.length cap) := (hb1.cell (p := ⟨w.heap.size, 5, none⟩) (by simp)).trans ((box_all (heap_alloc_new w _) 5).trans rfl); clear hb1)
    go_loopw [4] (fun u4 wr => u4 = .int .i64 0 ∧ Hid (Below w.heap.size w wr) ∧ wr.cell? ⟨w.heap.size, 5, none⟩ = some (.slice a rs.length cap)) (fun _ _ => 0)
    case atStart => exact ⟨rfl, HB, q5⟩
    case round =>
      clear HB q5
      obtain ⟨rfl, HB, q5⟩ := hrel
      have hd : decide ((0 : Int) < (rs.length : Int)) = false := decide_eq_false (by have := HZ.out; omega)
      have hd2 : decide (0 < rs.length) = false := decide_eq_false (by have := HZ.out; omega)
      go_wp2_with fail
      go_end0
      refine ⟨rfl, ?_, Wr.of_below HB.out _, Soft.nil _⟩
      have h1 := Tr.own_below HR0.out HB.out
      obtain rfl := List.eq_nil_of_length_eq_zero HZ.out
      simpa [overV, overL] using h1
  · have hbl : b < w.heap.size := rangeAt_lt hra (by rw [List.length_append, Tr.ownL_len hkl, Va.ltrs_len]; omega)
    have HM : Hid (∀ W, Tr.ownL 6 W (Va.trs (marks 20)) cm []) := fun W => Tr.ownL_same _ _ _ (fun i hi => by simp at hi) hml
    have hcl : cs.length = rs.length * 6 := by rw [Tr.ownL_len hkl, Va.ltrs_len]
    have HINV : Hid (∀ W, Below w.heap.size w W → OverInv W b o F' rs m cm 0) := fun W hW => ⟨cs, hcl, rangeAt_of_block hra (hW.block b hbl), by simpa [overL, Va.ltrs] using Tr.ownL_below hkl hW, HSO.out.same fun i hi => hW.block i (HLT.out i hi)⟩
    have HBL := Lib.hid hbl
    clear hra hkl hml hcl hbl
    go_enter Try.func8, Try.ntmps8
    go_wp2_with (go_at_call 14; (with_reducible refine (rCheck_any (Va.mk kd n x y s rs) [.int .u8 kd, .int .i64 n, .float .f64 x, .float .f64 y, .string s, .slice (some ⟨b, o, none⟩) rs.length cap] (b :: F') _ (HR.out _)).mono ?_); rintro e w1 ⟨rfl, hb1⟩; rw [ok_ite HO.out]; have HB := Lib.hid (bthen (bnew (Below.refl _ w) _) hb1); have q5 : w1.cell? ⟨w.heap.size, 5, none⟩ = some (.slice (some ⟨b, o, none⟩) rs.length cap) := (hb1.cell (p := ⟨w.heap.size, 5, none⟩) (by simp)).trans ((box_all (heap_alloc_new w _) 5).trans rfl); have q6 : w.heap.size < w1.heap.size := Nat.lt_of_lt_of_le (by simp) hb1.size; clear hb1)
    go_loopw [4] (fun u4 wr => ∃ k : Nat, k ≤ rs.length ∧ u4 = .int .i64 k ∧ Hid (Wr (fun i => i ∈ b :: F') w wr) ∧ w.heap.size < wr.heap.size ∧ wr.cell? ⟨w.heap.size, 5, none⟩ = some (.slice (some ⟨b, o, none⟩) rs.length cap) ∧ Hid (OverInv wr b o F' rs m cm k)) (fun u4 _ => rs.length - (intOf u4).toNat)
    case atStart => exact ⟨0, by omega, rfl, Wr.of_below HB.out _, q6, q5, HINV.out _ HB.out⟩
    case round =>
      clear HB q5 q6
      obtain ⟨k, hk, rfl, hw, hz, hcell, hinv⟩ := hrel
      by_cases hlt : k < rs.length
      · obtain ⟨kc, pre, post, Fa, F1, Fb, hat⟩ := over_open hinv.out hlt
        have HAT := Lib.hid hat
        have ho1 := hat.o1
        have hr1 := hat.r1
        have hokk := HOK.out k hlt
        have HZ := Va.sizes_at rs k hlt
        have hri : (0:Int) ≤ (k:Int) := by omega
        have hri2 : (k:Int) < (rs.length:Int) := by omega
        have hk1024 : (k : Int) < 1024 := by omega
        have hnd := HND.out
        rw [hat.eF] at hnd
        have hbF := (List.nodup_cons.1 hnd).1
        have hndF := (List.nodup_cons.1 hnd).2
        have hdA := (List.nodup_append.1 hndF).2.2
        have hnd2 := (List.nodup_append.1 hndF).2.1
        have hdB := (List.nodup_append.1 hnd2).2.2
        have hnd1 := (List.nodup_append.1 hnd2).1
        have hso1 : Soft wr F1 := fun i hi j => hat.so i (by rw [hat.eF]; simp [hi]) j
        have HD := Lib.hid (And.intro (show b ∉ F1 from fun h => hbF (by simp [h])) (And.intro (fun i (hi : i ∈ Fa) => (fun h => hdA i hi i (by simp [h]) rfl : i ∉ F1)) (fun i (hi : i ∈ Fb) => (fun h => hdB i h i hi rfl : i ∉ F1))))
        have HDB := Lib.hid (And.intro (fun i (hi : i ∈ Fa) => (fun h => hbF (by rw [← h]; simp [hi]) : i ≠ b)) (fun i (hi : i ∈ Fb) => (fun h => hbF (by rw [← h]; simp [hi]) : i ≠ b)))
        have hbw : b < wr.heap.size := by have := HBL.out; have := hw.out.size; omega
        have HNB : Hid (w.heap.size ∉ b :: F') := fun h => Nat.lt_irrefl _ (HLT.out _ h)
        clear hat hnd hbF hndF hdA hnd2 hdB hinv
        obtain ⟨kkd, kn, kx, ky, ks, krs, hke⟩ : ∃ kkd kn kx ky ks krs, rs[k] = Va.mk kkd kn kx ky ks krs := by cases rs[k]; exact ⟨_, _, _, _, _, _, rfl⟩
        have HKE := Lib.hid hke
        rw [hke] at ho1 hokk
        have HKID := Lib.hid (And.intro ho1 (And.intro hnd1 (And.intro hso1 hokk)))
        have hke2 : rs[k].size = (Va.mk kkd kn kx ky ks krs).size := by rw [hke]
        rw [hke2] at HZ
        obtain ⟨ka, kcap, rfl, _⟩ := Va.openL ho1
        clear ho1 hokk hke hke2 hnd1 hso1
        have c0 : wr.cell? ⟨b, o + k * 6, none⟩ = some (.int .u8 kkd) := hr1 0 _ rfl
        have c1 : wr.cell? ⟨b, o + k * 6 + 1, none⟩ = some (.int .i64 kn) := hr1 1 _ rfl
        have c2 : wr.cell? ⟨b, o + k * 6 + 2, none⟩ = some (.float .f64 kx) := hr1 2 _ rfl
        have c3 : wr.cell? ⟨b, o + k * 6 + 3, none⟩ = some (.float .f64 ky) := hr1 3 _ rfl
        have c4 : wr.cell? ⟨b, o + k * 6 + 4, none⟩ = some (.string ks) := hr1 4 _ rfl
        have c5 : wr.cell? ⟨b, o + k * 6 + 5, none⟩ = some (.slice ka krs.length kcap) := hr1 5 _ rfl
        clear hr1
        by_cases h7 : kkd = 7
        · subst h7
          go_wp2_with (go_at_call 8; refine (IH.out (Va.mk 7 kn kx ky ks krs) (by omega) HKID.out.2.2.2 m m0 m1 [.int .u8 7, .int .i64 kn, .float .f64 kx, .float .f64 ky, .string ks, .slice ka krs.length kcap] F1 _ HKID.out.1 HKID.out.2.1 HKID.out.2.2.1).mono ?_; rintro e w1 ⟨rfl, hov, hw1, hs1⟩; have HX := Lib.hid (And.intro hov (And.intro hw1 hs1)); have q1 := hw1.size; clear hov hs1 hw1)
          go_roundw
          case rel =>
            obtain ⟨hov, hw1, hs1⟩ := HX.out
            obtain ⟨d1, d2, d3⟩ := HD.out
            have hin : ∀ i, i ∈ F1 → i ∈ b :: F' := fun i hi => by rw [HAT.out.eF]; simp [hi]
            have hbb := hw1.block b hbw d1
            have hfa : ∀ i ∈ Fa, w1.heap[i]? = wr.heap[i]? := fun i hi => hw1.block i (Tr.ownL_lt _ _ _ HAT.out.o0 i hi) (d2 i hi)
            have hfb : ∀ i ∈ Fb, w1.heap[i]? = wr.heap[i]? := fun i hi => hw1.block i (Tr.ownL_lt _ _ _ HAT.out.o2 i hi) (d3 i hi)
            refine ⟨k + 1, by omega, by go_num, Wr.andThen hw.out hw1 (fun i _ hi => hin i hi), by omega, ?_, ?_⟩
            · exact (hw1.cell (p := ⟨w.heap.size, 5, none⟩) hz (fun h => HNB.out (hin _ h))).trans hcell
            · refine over_close HAT.out (c' := [.int .u8 7, .int .i64 kn, .float .f64 kx, .float .f64 ky, .string ks, .slice ka krs.length kcap]) ?_ hfa hfb (rangeAt_of_block HAT.out.r0 hbb) (rangeAt_of_block HAT.out.r1 hbb) (rangeAt_of_block HAT.out.r2 hbb) ?_
              · rw [HKE.out, if_pos (show (Va.mk 7 kn kx ky ks krs).kd = 7 from rfl)]
                exact hov
              · intro i hi j
                rcases List.mem_cons.1 hi with rfl | hi
                · exact (World.frozen?_of_block (w := wr) (a := ⟨i, j, none⟩) hbb).trans (HAT.out.so i (by simp) j)
                · have hi2 := hi
                  rw [HAT.out.eF] at hi2
                  rcases List.mem_append.1 hi2 with h | h
                  · exact (World.frozen?_of_block (w := wr) (a := ⟨i, j, none⟩) (hfa i h)).trans (HAT.out.so i (by simp [hi]) j)
                  · rcases List.mem_append.1 h with h | h
                    · exact hs1 i h j
                    · exact (World.frozen?_of_block (w := wr) (a := ⟨i, j, none⟩) (hfb i h)).trans (HAT.out.so i (by simp [hi]) j)
          case measure => simp [intOf]; omega
        · have h7b : (kkd == 7) = false := beq_eq_false_iff_ne.2 h7
          have hth : wr.there b (o + k * 6) 6 := fun j hj => ⟨by
            have := HAT.out.r1 j _ (List.getElem?_eq_getElem (by simpa using hj))
            rw [this]; rfl, HAT.out.so b (by simp) _⟩
          have HTH := Lib.hid hth
          clear hth
          go_wp2_with (refine wpList_store_mid (by rfl) 25 _ _ (by rfl) b (o + k * 6) #[.int .u8 2, .int .i64 (100 * m + (k : Int)), .float .f64 0, .float .f64 0, .string ⟨#[]⟩, .slice none 0 0] (by rfl) (by rfl) ?_ size_tV (one2 _) ?_; exact HTH.out)
          go_roundw
          case rel =>
            obtain ⟨s1, s2, s3, s4, s5⟩ := setCells_frame b [.int .u8 2, .int .i64 (100 * m + (k : Int)), .float .f64 0, .float .f64 0, .string ⟨#[]⟩, .slice none 0 0] (o + k * 6) wr
            have hW : Wr (fun i => i = b) wr (wr.setCells b (o + k * 6) [.int .u8 2, .int .i64 (100 * m + (k : Int)), .float .f64 0, .float .f64 0, .string ⟨#[]⟩, .slice none 0 0]) := ⟨s2, s3, s4, by omega, fun i _ hi => s5 i hi⟩
            have hF1 : F1 = [] := kid_none HKID.out.2.2.2 (by show ¬ kkd = 7; exact h7) HKID.out.1
            refine ⟨k + 1, by omega, by go_num, Wr.andThen hw.out hW (fun i _ hi => by rw [hi]; simp), by omega, ?_, ?_⟩
            · exact (hW.cell (p := ⟨w.heap.size, 5, none⟩) hz (fun h => HNB.out (by have h2 : w.heap.size = b := h; rw [h2]; simp))).trans hcell
            · refine over_close HAT.out (c' := [.int .u8 2, .int .i64 (100 * m + (k : Int)), .float .f64 0, .float .f64 0, .string ⟨#[]⟩, .slice none 0 0]) ?_ (fun i hi => s5 i (HDB.out.1 i hi)) (fun i hi => s5 i (HDB.out.2 i hi)) ?_ ?_ ?_ ?_
              · rw [HKE.out, if_neg (show ¬ (Va.mk kkd kn kx ky ks krs).kd = 7 from h7), hF1]
                exact fresh_own m k _
              · exact World.rangeAt_setCells_apart HAT.out.r0 b (o + k * 6) _ (.inr (.inl (by rw [HAT.out.l0]; omega)))
              · exact World.rangeAt_setCells_same wr b (o + k * 6) _ HTH.out
              · exact World.rangeAt_setCells_apart HAT.out.r2 b (o + k * 6) _ (.inr (.inr (by simp; omega)))
              · intro i hi j
                rw [World.frozen?_setCells]
                exact HAT.out.so i hi j
          case measure => simp [intOf]; omega
      · obtain rfl : k = rs.length := by omega
        go_wp2_with fail
        go_end0
        obtain ⟨cs', h1, h2, h3, h4⟩ := hinv.out
        refine ⟨rfl, ?_, hw.out, h4⟩
        rw [List.take_length, List.drop_length] at h3
        simp only [Va.ltrs, List.append_nil] at h3
        unfold overV Va.ltr Tr.own
        have hol := overL_len rs m 0
        rw [hol, if_neg (by omega)]
        have hlm : (Va.ltrs (overL rs m 0) ++ Va.trs (marks 20)).length = rs.length + 20 := by rw [List.length_append, Va.ltrs_len, Va.trs_len, marks_len, hol]
        refine ⟨some ⟨b, o, none⟩, rs.length + 20, cap, rfl, rfl, by simp [Value.oneCell'], ⟨hlm.symm, by omega⟩, by omega, hcap', .inr ⟨by omega, b, o, cs' ++ cm, F', rfl, rfl, h2, ?_⟩⟩
        have := Tr.ownL_app h3 (HM.out wr)
        rw [List.append_nil] at this
        exact this
end Go.Proofs.Ytaglklcjolcgeaa
namespace Go.Proofs.Ytaglklcjolcgeaa
open Go.RowKit
set_option linter.unusedVariables false
set_option linter.unusedSimpArgs false
/-- Behind an append of kids that lie elsewhere. -/
theorem Kids.push2 {sz : Nat} {e : TypeId} {base n : Nat} {w1 w' : World} {v v' : Value} {ts us : List Tr} {xs cs : List Value} {F G : List Nat} (h : Kids sz e base w1 v ts xs F) (hF : ∀ b ∈ F, b < n) (hv : ∀ g, v.ownBlock = some g → g < n) (hb : base ≤ n)
    (k : Tr.ownL sz w1 us cs G) (hG : Apart n G) (hsoft : Soft w1 G) (hown : w'.ownsRow base e sz v' (ts.length + us.length) (xs ++ cs)) (hg : w1.grownBy w' v.ownBlock) (hat : v'.ownBlock = v.ownBlock ∨ v'.ownBlock = some w1.heap.size) :
    Kids sz e base w' v' (ts ++ us) (xs ++ cs) (F ++ G) := by
  have hlt := Tr.ownL_lt ts xs F h.own
  have hlt1 := Tr.ownL_lt us cs G k
  have hF' : ∀ b ∈ F, w'.heap[b]? = w1.heap[b]? := fun b hm => hg.block b (hlt b hm) fun e => h.far b e.symm hm
  have hGs : ∀ b ∈ G, w'.heap[b]? = w1.heap[b]? := fun b hm => hg.block b (hlt1 b hm) fun e => by
    have := hG.2 b hm
    have := hv b e.symm
    omega
  refine ⟨by rw [List.length_append]; exact hown, Tr.ownL_app (Tr.ownL_same ts xs F hF' h.own) (Tr.ownL_same us cs G hGs k), h.apart.app hF hG hb, fun g hg' hm => ?_, (h.soft.same hF').app (hsoft.same hGs)⟩
  · rcases hat with hat | hat
    · rw [hat] at hg'
      rcases List.mem_append.1 hm with hm | hm
      · exact h.far g hg' hm
      · have := hG.2 g hm
        have := hv g hg'
        omega
    · rw [hat] at hg'
      injection hg' with hg'
      rcases List.mem_append.1 hm with hm | hm
      · have := hlt g hm
        omega
      · have := hlt1 g hm
        omega
section
variable {P : Program} {ops : Array Oper} {o : Oper} {a : Act} {Q : Exit → Act → World → Prop}
theorem wp_push2 {K : Act → World → Prop} {w1 : World} (s x : Operand) (t : TypeId) (ho : o.op = .call { callee := .builtin .append, args := #[s, x], argTypes := #[t, t] })
    (base n : Nat) (e : TypeId) (i : TypeInfo) (z : Value) (size bytes : Nat) (ht : P.underlying t = some (.slice e)) (hi : P.info? e = some i) (hz : i.zero = some z)
    (hsize : i.size = size) (hby : i.bytes = bytes) (hzs : z.cells.size = size) (hsz : 0 < size)
    (v : Value) (ts : List Tr) (xs : List Value) (F : List Nat) (hs : a.eval s = v) (hk : Kids size e base w1 v ts xs F) (hF : ∀ b ∈ F, b < n) (hv : ∀ g, v.ownBlock = some g → g < n) (hb : base ≤ n) (hn : n ≤ w1.heap.size)
    (tr : Tr) (c : List Value) (G : List Nat) (hown : tr.own size w1 c G) (hG : Apart n G) (hsoft : Soft w1 G) (hx : a.eval x = .slice (some ⟨w1.heap.size, 0, none⟩) 1 1) (hbytes : (ts.length + 1) * bytes ≤ 140737488355328) (hb0 : 0 < bytes)
    (h : ∀ g cap w', Kids size e base w' (.slice (some ⟨g, 0, none⟩) (ts.length + 1) cap) (ts ++ [tr]) (xs ++ c) (F ++ G) → w1.grownBy w' v.ownBlock → base ≤ g → g < w'.heap.size → K (a.put o.dst (.slice (some ⟨g, 0, none⟩) (ts.length + 1) cap)) w') :
    o.wp P a (w1.alloc (.cells c.toArray e)) K Q := by
  have hlen : ts.length + 1 ≤ 140737488355328 := Nat.le_trans (Nat.le_mul_of_pos_right _ hb0) hbytes
  have hc := Tr.own_len hown
  have hba : Below w1.heap.size w1 (w1.alloc (.cells c.toArray e)) := (Below.refl _ _).alloc (Nat.le_refl _) _
  refine wp_append_lies (w1.alloc (.cells c.toArray e)) s x t ho base e i z size bytes ht hi hz hsize hby hzs hsz v ts.length xs hs (hk.row.alloc _) ⟨w1.heap.size, 0, none⟩ 1 1 c hx (by omega)
    (World.news_of_block (cs := c.toArray) (t := e) (fr := (0, 0)) (heap_alloc_new w1 _)) (Tr.own_one hown) (by omega) (by simp only [maxLen]; omega) hbytes (by simp; omega) (w1.heap.size + 1) (by simp) ?_
  intro g cap w' hown' hg hat hlt
  have hkids : Kids size e base w' (.slice (some ⟨g, 0, none⟩) (ts.length + 1) cap) (ts ++ [tr]) (xs ++ c) (F ++ G) :=
    (hk.below hba).push2 (n := n) (us := [tr]) hF hv hb (Tr.ownL_single (Tr.own_below hown hba)) hG (hsoft.same fun b hb => hba.block b (Tr.own_lt _ _ _ hown b hb)) (by simpa using hown') hg (by
      rcases hat with hat | hat
      · exact .inl hat.symm
      · exact .inr (by simp [Value.ownBlock, hat]))
  exact h g cap w' hkids (World.grownBy.trans (World.grownBy_alloc w1 _ _) hg) (hkids.block g rfl).1 hlt
theorem wpList_push2 {rest : List Oper} {w1 : World} (hgd : o.guard = none) (s x : Operand) (t : TypeId) (ho : o.op = .call { callee := .builtin .append, args := #[s, x], argTypes := #[t, t] })
    (base n : Nat) (e : TypeId) (i : TypeInfo) (z : Value) (size bytes : Nat) (ht : P.underlying t = some (.slice e)) (hi : P.info? e = some i) (hz : i.zero = some z)
    (hsize : i.size = size) (hby : i.bytes = bytes) (hzs : z.cells.size = size) (hsz : 0 < size)
    (v : Value) (ts : List Tr) (xs : List Value) (F : List Nat) (hs : a.eval s = v) (hk : Kids size e base w1 v ts xs F) (hF : ∀ b ∈ F, b < n) (hv : ∀ g, v.ownBlock = some g → g < n) (hb : base ≤ n) (hn : n ≤ w1.heap.size)
    (tr : Tr) (c : List Value) (G : List Nat) (hown : tr.own size w1 c G) (hG : Apart n G) (hsoft : Soft w1 G) (hx : a.eval x = .slice (some ⟨w1.heap.size, 0, none⟩) 1 1) (hbytes : (ts.length + 1) * bytes ≤ 140737488355328) (hb0 : 0 < bytes)
    (h : ∀ g cap w', Kids size e base w' (.slice (some ⟨g, 0, none⟩) (ts.length + 1) cap) (ts ++ [tr]) (xs ++ c) (F ++ G) → w1.grownBy w' v.ownBlock → base ≤ g → g < w'.heap.size → wpList P ops Q rest (a.put o.dst (.slice (some ⟨g, 0, none⟩) (ts.length + 1) cap)) w') :
    wpList P ops Q (o :: rest) a (w1.alloc (.cells c.toArray e)) :=
  wpList_plain hgd fun _ hK => wp_push2 s x t ho base n e i z size bytes ht hi hz hsize hby hzs hsz v ts xs F hs hk hF hv hb hn tr c G hown hG hsoft hx hbytes hb0 fun g cap w' h1 h2 h3 h4 => hK _ _ (h g cap w' h1 h2 h3 h4)
theorem step_push2 {K : Act → World → Prop} {E : Prop} {w1 : World} (hgd : o.guard = none) (s x : Operand) (t : TypeId) (ho : o.op = .call { callee := .builtin .append, args := #[s, x], argTypes := #[t, t] })
    (base n : Nat) (e : TypeId) (i : TypeInfo) (z : Value) (size bytes : Nat) (ht : P.underlying t = some (.slice e)) (hi : P.info? e = some i) (hz : i.zero = some z)
    (hsize : i.size = size) (hby : i.bytes = bytes) (hzs : z.cells.size = size) (hsz : 0 < size)
    (v : Value) (ts : List Tr) (xs : List Value) (F : List Nat) (hs : a.eval s = v) (hk : Kids size e base w1 v ts xs F) (hF : ∀ b ∈ F, b < n) (hv : ∀ g, v.ownBlock = some g → g < n) (hb : base ≤ n) (hn : n ≤ w1.heap.size)
    (tr : Tr) (c : List Value) (G : List Nat) (hown : tr.own size w1 c G) (hG : Apart n G) (hsoft : Soft w1 G) (hx : a.eval x = .slice (some ⟨w1.heap.size, 0, none⟩) 1 1) (hbytes : (ts.length + 1) * bytes ≤ 140737488355328) (hb0 : 0 < bytes)
    (h : ∀ g cap w', Kids size e base w' (.slice (some ⟨g, 0, none⟩) (ts.length + 1) cap) (ts ++ [tr]) (xs ++ c) (F ++ G) → w1.grownBy w' v.ownBlock → base ≤ g → g < w'.heap.size → K (a.put o.dst (.slice (some ⟨g, 0, none⟩) (ts.length + 1) cap)) w') :
    if Region.wanted o (yielded ops a.tmps) = true then Oper.wp P o a (w1.alloc (.cells c.toArray e)) K Q else E := by
  have hw : Region.wanted o (yielded ops a.tmps) = true := by simp [Region.wanted, hgd]
  rw [if_pos hw]
  exact wp_push2 s x t ho base n e i z size bytes ht hi hz hsize hby hzs hsz v ts xs F hs hk hF hv hb hn tr c G hown hG hsoft hx hbytes hb0 h
end
theorem Va.trs_snoc (rs : List Va) (r : Va) : Va.trs (rs ++ [r]) = Va.trs rs ++ [r.tr] := by simp [Va.trs_eq]
end Go.Proofs.Ytaglklcjolcgeaa
namespace Go.Proofs.Ytaglklcjolcgeaa
open Go Go.RowKit
set_option linter.unusedVariables false
set_option linter.unusedSimpArgs false
/-- A row's block. -/
def RowC (w : World) (b cap : Nat) : Prop := ∃ cur : Array Value, w.heap[b]? = some (.cells cur 25 (0, 0)) ∧ cur.size = cap * 6
theorem RowC.same {w w' : World} {b cap : Nat} (h : RowC w b cap) (hb : w'.heap[b]? = w.heap[b]?) : RowC w' b cap := by
  obtain ⟨cur, h1, h2⟩ := h
  exact ⟨cur, hb.trans h1, h2⟩
mutual
/-- As 'own', each list's row with its room. -/
def Tr.ownR (w : World) : Tr → List Value → List Nat → Prop
  | .mk hd vis kids, c, F => ∃ a cap, c = hd ++ [.slice a vis cap] ∧ hd.length + 1 = 6 ∧ (∀ v ∈ hd, v.oneCell' = true) ∧ vis = kids.length ∧
      ((kids.length = 0 ∧ F = [] ∧ a = none ∧ cap = 0) ∨ (0 < kids.length ∧ kids.length ≤ cap ∧ cap ≤ 9223372036854775807 ∧ ∃ b cs F', a = some ⟨b, 0, none⟩ ∧ F = b :: F' ∧ RowC w b cap ∧ w.rangeAt b 0 cs ∧ Tr.ownRL w kids cs F'))
def Tr.ownRL (w : World) : List Tr → List Value → List Nat → Prop
  | [], cs, F => cs = [] ∧ F = []
  | t :: ts, cs, F => ∃ c cs' F1 F2, cs = c ++ cs' ∧ F = F1 ++ F2 ∧ Tr.ownR w t c F1 ∧ Tr.ownRL w ts cs' F2
end
mutual
theorem Tr.ownR_own {w : World} : ∀ (t : Tr) (c : List Value) (F : List Nat), t.ownR w c F → t.own 6 w c F
  | .mk hd vis kids, c, F => fun h => by
    unfold Tr.ownR at h
    unfold Tr.own
    obtain ⟨a, cap, h0, h1, h2, h3, h4⟩ := h
    rcases h4 with ⟨h5, h6, h7, h8⟩ | ⟨h5, h6, h7, b, cs, F', h8, h9, _, h10, h11⟩
    · exact ⟨a, 0, cap, h0, h1, h2, ⟨h5.symm, by omega⟩, by omega, by omega, .inl ⟨h5, h6⟩⟩
    · exact ⟨a, kids.length, cap, h0, h1, h2, ⟨rfl, by omega⟩, h6, h7, .inr ⟨h5, b, 0, cs, F', h8, h9, h10, Tr.ownRL_own kids cs F' h11⟩⟩
theorem Tr.ownRL_own {w : World} : ∀ (ts : List Tr) (cs : List Value) (F : List Nat), Tr.ownRL w ts cs F → Tr.ownL 6 w ts cs F
  | [], cs, F => fun h => by
    unfold Tr.ownRL at h
    unfold Tr.ownL
    exact h
  | t :: ts, cs, F => fun h => by
    unfold Tr.ownRL at h
    unfold Tr.ownL
    obtain ⟨c, cs', F1, F2, h1, h2, h3, h4⟩ := h
    exact ⟨c, cs', F1, F2, h1, h2, Tr.ownR_own t c F1 h3, Tr.ownRL_own ts cs' F2 h4⟩
end
mutual
theorem Tr.ownR_same {w w' : World} : ∀ (t : Tr) (c : List Value) (F : List Nat), (∀ b ∈ F, w'.heap[b]? = w.heap[b]?) → t.ownR w c F → t.ownR w' c F
  | .mk hd vis kids, c, F => fun hF h => by
    unfold Tr.ownR at h ⊢
    obtain ⟨a, cap, h0, h1, h2, h3, h4⟩ := h
    refine ⟨a, cap, h0, h1, h2, h3, ?_⟩
    rcases h4 with h4 | ⟨h5, h6, h7, b, cs, F', h8, rfl, h10, h11, h12⟩
    · exact .inl h4
    · exact .inr ⟨h5, h6, h7, b, cs, F', h8, rfl, h10.same (hF b (by simp)), rangeAt_of_block h11 (hF b (by simp)), Tr.ownRL_same kids cs F' (fun i hi => hF i (by simp [hi])) h12⟩
theorem Tr.ownRL_same {w w' : World} : ∀ (ts : List Tr) (cs : List Value) (F : List Nat), (∀ b ∈ F, w'.heap[b]? = w.heap[b]?) → Tr.ownRL w ts cs F → Tr.ownRL w' ts cs F
  | [], cs, F => fun _ h => by
    unfold Tr.ownRL at h ⊢
    exact h
  | t :: ts, cs, F => fun hF h => by
    unfold Tr.ownRL at h ⊢
    obtain ⟨c, cs', F1, F2, rfl, rfl, h1, h2⟩ := h
    exact ⟨c, cs', F1, F2, rfl, rfl, Tr.ownR_same t c F1 (fun b hb => hF b (by simp [hb])) h1, Tr.ownRL_same ts cs' F2 (fun b hb => hF b (by simp [hb])) h2⟩
end
theorem Tr.ownR_len {w : World} {t : Tr} {c : List Value} {F : List Nat} (h : t.ownR w c F) : c.length = 6 := Tr.own_len (Tr.ownR_own _ _ _ h)
theorem Tr.ownRL_len {w : World} {ts : List Tr} {cs : List Value} {F : List Nat} (h : Tr.ownRL w ts cs F) : cs.length = ts.length * 6 := Tr.ownL_len (Tr.ownRL_own _ _ _ h)
theorem Tr.ownR_lt {w : World} (t : Tr) (c : List Value) (F : List Nat) (h : t.ownR w c F) : ∀ b ∈ F, b < w.heap.size := Tr.own_lt _ _ _ (Tr.ownR_own _ _ _ h)
theorem Tr.ownRL_lt {w : World} (ts : List Tr) (cs : List Value) (F : List Nat) (h : Tr.ownRL w ts cs F) : ∀ b ∈ F, b < w.heap.size := Tr.ownL_lt _ _ _ (Tr.ownRL_own _ _ _ h)
theorem Tr.ownR_below {w w' : World} {t : Tr} {c : List Value} {F : List Nat} (h : t.ownR w c F) (hb : Below w.heap.size w w') : t.ownR w' c F := Tr.ownR_same _ _ _ (fun i hi => hb.block i (Tr.ownR_lt _ _ _ h i hi)) h
theorem Tr.ownRL_below {w w' : World} {ts : List Tr} {cs : List Value} {F : List Nat} (h : Tr.ownRL w ts cs F) (hb : Below w.heap.size w w') : Tr.ownRL w' ts cs F := Tr.ownRL_same _ _ _ (fun i hi => hb.block i (Tr.ownRL_lt _ _ _ h i hi)) h
theorem Tr.ownRL_app {w : World} : ∀ {ts us : List Tr} {cs ds : List Value} {F G : List Nat}, Tr.ownRL w ts cs F → Tr.ownRL w us ds G → Tr.ownRL w (ts ++ us) (cs ++ ds) (F ++ G)
  | [], us, cs, ds, F, G, h, k => by
    unfold Tr.ownRL at h
    obtain ⟨rfl, rfl⟩ := h
    simpa using k
  | t :: ts, us, cs, ds, F, G, h, k => by
    unfold Tr.ownRL at h
    obtain ⟨c, cs', F1, F2, rfl, rfl, h1, h2⟩ := h
    rw [List.cons_append]
    unfold Tr.ownRL
    exact ⟨c, cs' ++ ds, F1, F2 ++ G, by simp, by simp, h1, Tr.ownRL_app h2 k⟩
theorem Tr.ownRL_single {w : World} {t : Tr} {c : List Value} {F : List Nat} (h : t.ownR w c F) : Tr.ownRL w [t] c F := by
  unfold Tr.ownRL
  exact ⟨c, [], F, [], by simp, by simp, h, by simp [Tr.ownRL]⟩
theorem Tr.ownRL_split {w : World} : ∀ {ts us : List Tr} {cs : List Value} {F : List Nat}, Tr.ownRL w (ts ++ us) cs F → ∃ c1 c2 F1 F2, cs = c1 ++ c2 ∧ F = F1 ++ F2 ∧ Tr.ownRL w ts c1 F1 ∧ Tr.ownRL w us c2 F2
  | [], us, cs, F, h => ⟨[], cs, [], F, rfl, rfl, by simp [Tr.ownRL], h⟩
  | t :: ts, us, cs, F, h => by
    rw [List.cons_append] at h
    unfold Tr.ownRL at h
    obtain ⟨c, cs', F1, F2, rfl, rfl, h1, h2⟩ := h
    obtain ⟨c1, c2, G1, G2, rfl, rfl, k1, k2⟩ := Tr.ownRL_split h2
    refine ⟨c ++ c1, c2, F1 ++ G1, G2, by simp, by simp, ?_, k2⟩
    unfold Tr.ownRL
    exact ⟨c, c1, F1, G1, rfl, rfl, h1, k1⟩
/-- A value without a list. -/
theorem leafR {w : World} {kd n : Int} {x y : Nat} {s : ByteArray} : (Va.mk kd n x y s []).tr.ownR w [.int .u8 kd, .int .i64 n, .float .f64 x, .float .f64 y, .string s, .slice none 0 0] [] := by
  unfold Va.tr Tr.ownR
  exact ⟨none, 0, by simp, rfl, by simp [Value.oneCell'], rfl, .inl ⟨rfl, rfl, rfl, rfl⟩⟩
/-- The list of a row that was grown. -/
theorem Kids.nodeR {base : Nat} {w : World} {A : Option Addr} {cap : Nat} {ts : List Tr} {xs : List Value} {F : List Nat} (h : Kids 6 25 base w (.slice A ts.length cap) ts xs F) (hR : Tr.ownRL w ts xs F) (hN : ts.length = 0 → A = none ∧ cap = 0) (hd : List Value) (hl : hd.length + 1 = 6) (h1 : ∀ u ∈ hd, u.oneCell' = true) :
    ∃ G, Tr.ownR w (.mk hd ts.length ts) (hd ++ [.slice A ts.length cap]) G ∧ Apart base G ∧ Soft w G := by
  rcases Nat.eq_zero_or_pos ts.length with h0 | h0
  · obtain ⟨rfl, rfl⟩ := hN h0
    exact ⟨[], by unfold Tr.ownR; exact ⟨none, 0, rfl, hl, h1, rfl, .inl ⟨h0, rfl, rfl, rfl⟩⟩, Apart.nil _, Soft.nil _⟩
  · rcases h.row.2 with ⟨_, h2⟩ | ⟨g, cap2, cur, he, hbg, hg, hnc, hcm, hcs, htake⟩
    · omega
    · injection he with q1 _ q3
      subst q1
      subst q3
      refine ⟨g :: F, by unfold Tr.ownR; exact ⟨_, cap, rfl, hl, h1, rfl, .inr ⟨h0, hnc, hcm, g, xs, F, rfl, rfl, ⟨cur, hg, hcs⟩, own_range h.row, hR⟩⟩, ⟨List.nodup_cons.2 ⟨h.far g rfl, h.apart.1⟩, fun b hb => ?_⟩, fun b hb o => ?_⟩
      · rcases List.mem_cons.1 hb with rfl | hb
        · exact hbg
        · exact h.apart.2 b hb
      · rcases List.mem_cons.1 hb with rfl | hb
        · exact h.row.frozenAt o
        · exact h.soft b hb o
end Go.Proofs.Ytaglklcjolcgeaa
