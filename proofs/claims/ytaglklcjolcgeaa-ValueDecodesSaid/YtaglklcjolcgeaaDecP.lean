/- The walk of 'over' of values whose rows have their room. (Printed by genovert.py from Over.) Values from bytes, in plain words: the program's reader, the reference's, the bytes of a value. No program. -/
import Derived.Test.YtaglklcjolcgeaaOwnR
import Derived.Test.YtaglklcjolcgeaaRLeaf
namespace Go.Proofs.Ytaglklcjolcgeaa
open Go.RowKit
set_option linter.unusedVariables false
set_option linter.unusedSimpArgs false
attribute [local go_sem] run_store_float
theorem RowC.setCells {b cap : Nat} : ∀ (vs : List Value) (o : Nat) {w : World}, RowC w b cap → RowC (w.setCells b o vs) b cap
  | [], _, _, h => h
  | v :: vs, o, w, h => by
    unfold World.setCells
    refine RowC.setCells vs (o + 1) ?_
    obtain ⟨cur, h1, h2⟩ := h
    exact ⟨_, Joins.block_setCell (i := o) h1 v, by simpa using h2⟩
theorem Va.openT {w : World} {kd n : Int} {x y : Nat} {s : ByteArray} {rs : List Va} {c : List Value} {F : List Nat} (h : (Va.mk kd n x y s rs).tr.ownR w c F) :
    ∃ a cap, c = [.int .u8 kd, .int .i64 n, .float .f64 x, .float .f64 y, .string s, .slice a rs.length cap] ∧ rs.length ≤ cap ∧ cap ≤ 9223372036854775807 ∧
      ((rs.length = 0 ∧ F = []) ∨ (0 < rs.length ∧ rs.length ≤ cap ∧ ∃ b cs F', a = some ⟨b, 0, none⟩ ∧ F = b :: F' ∧ w.rangeAt b 0 cs ∧ Tr.ownRL w (Va.trs rs) cs F' ∧ RowC w b cap)) := by
  unfold Va.tr Tr.ownR at h
  obtain ⟨a, cap, h0, h1, h2, h3, h4⟩ := h
  rw [Va.trs_len] at h4
  rcases h4 with ⟨h5, h6, h7, h8⟩ | ⟨h5, h6, h7, b, cs, F', h8, h9, h10, h11, h12⟩
  · exact ⟨a, cap, h0, by omega, by omega, .inl ⟨h5, h6⟩⟩
  · exact ⟨a, cap, h0, h6, h7, .inr ⟨h5, h6, b, cs, F', h8, h9, h11, h12, h10⟩⟩
/-- What lies at a list behind k rounds. -/
def OverInvT (wr : World) (b : Nat) (F' : List Nat) (rs : List Va) (m : Int) (cap : Nat) (k : Nat) : Prop :=
  ∃ cs, cs.length = rs.length * 6 ∧ wr.rangeAt b 0 cs ∧ Tr.ownRL wr (Va.trs (overL (rs.take k) m 0) ++ Va.trs (rs.drop k)) cs F' ∧ Soft wr (b :: F') ∧ RowC wr b cap
structure OverAtT (wr : World) (b : Nat) (F' : List Nat) (rs : List Va) (m : Int) (cap : Nat) (k : Nat) (hk : k < rs.length) (c pre post : List Value) (Fa F1 Fb : List Nat) : Prop where
  eF : F' = Fa ++ (F1 ++ Fb)
  l0 : pre.length = k * 6
  l1 : c.length = 6
  l2 : post.length = (rs.length - (k + 1)) * 6
  r0 : wr.rangeAt b 0 pre
  r1 : wr.rangeAt b (k * 6) c
  r2 : wr.rangeAt b ((k + 1) * 6) post
  o0 : Tr.ownRL wr (Va.trs (overL (rs.take k) m 0)) pre Fa
  o1 : rs[k].tr.ownR wr c F1
  o2 : Tr.ownRL wr (Va.trs (rs.drop (k + 1))) post Fb
  so : Soft wr (b :: F')
  rc : RowC wr b cap
theorem over_openT {wr : World} {b : Nat} {F' : List Nat} {rs : List Va} {m : Int} {cap : Nat} {k : Nat} (h : OverInvT wr b F' rs m cap k) (hk : k < rs.length) : ∃ c pre post Fa F1 Fb, OverAtT wr b F' rs m cap k hk c pre post Fa F1 Fb := by
  obtain ⟨cs, h1, h2, h3, h4, h5⟩ := h
  obtain ⟨pre, rest, Fa, Fr, rfl, rfl, a1, a2⟩ := Tr.ownRL_split h3
  rw [List.drop_eq_getElem_cons hk] at a2
  unfold Va.trs Tr.ownRL at a2
  obtain ⟨c, post, F1, Fb, rfl, rfl, a3, a4⟩ := a2
  have e0 : pre.length = k * 6 := by rw [Tr.ownRL_len a1, Va.trs_len, overL_len, List.length_take]; congr 1; omega
  have e1 := Tr.ownR_len a3
  have e2 : post.length = (rs.length - (k + 1)) * 6 := by rw [Tr.ownRL_len a4, Va.trs_len, List.length_drop]
  have r0 := rangeAt_left h2
  have r := rangeAt_right h2
  have r1 := rangeAt_left r
  have r2 := rangeAt_right r
  rw [e0, Nat.zero_add] at r1 r2
  rw [e1] at r2
  have e : k * 6 + 6 = (k + 1) * 6 := by omega
  rw [e] at r2
  exact ⟨c, pre, post, Fa, F1, Fb, rfl, e0, e1, e2, r0, r1, r2, a1, a3, a4, h4, h5⟩
theorem over_closeT {wr wn : World} {b : Nat} {F' : List Nat} {rs : List Va} {m : Int} {cap : Nat} {k : Nat} {hk : k < rs.length} {c pre post : List Value} {Fa F1 Fb : List Nat} (h : OverAtT wr b F' rs m cap k hk c pre post Fa F1 Fb)
    {c' : List Value} (hown : (if rs[k].kd = 7 then overV rs[k] m else .mk 2 (100 * m + ((0 + k : Nat) : Int)) 0 0 ⟨#[]⟩ [] : Va).tr.ownR wn c' F1) (hfa : ∀ i ∈ Fa, wn.heap[i]? = wr.heap[i]?) (hfb : ∀ i ∈ Fb, wn.heap[i]? = wr.heap[i]?)
    (r0 : wn.rangeAt b 0 pre) (r1 : wn.rangeAt b (k * 6) c') (r2 : wn.rangeAt b ((k + 1) * 6) post) (so : Soft wn (b :: F')) (rc : RowC wn b cap) : OverInvT wn b F' rs m cap (k + 1) := by
  have e1 := Tr.ownR_len hown
  have hl := h.l0
  have h2 := h.l2
  refine ⟨pre ++ c' ++ post, ?_, ?_, ?_, so, rc⟩
  · simp only [List.length_append, hl, e1, h2]
    have := Nat.sub_add_cancel (show k + 1 ≤ rs.length by omega)
    rw [← this]
    simp only [Nat.add_mul]
    omega
  · rw [List.append_assoc]
    refine rangeAt_app r0 ?_
    rw [hl, Nat.zero_add]
    refine rangeAt_app r1 ?_
    rw [e1, show k * 6 + 6 = (k + 1) * 6 by omega]
    exact r2
  · rw [overL_at rs m 0 k hk, Va.trs_eq (overL (rs.take k) m 0 ++ _), List.map_append, ← Va.trs_eq, h.eF, ← List.append_assoc]
    simp only [List.map_cons, List.map_nil]
    exact Tr.ownRL_app (Tr.ownRL_app (Tr.ownRL_same _ _ _ hfa h.o0) (Tr.ownRL_single hown)) (Tr.ownRL_same _ _ _ hfb h.o2)
theorem fresh_ownR (m : Int) (k : Nat) (w : World) : (Va.mk 2 (100 * m + ((0 + k : Nat) : Int)) 0 0 ⟨#[]⟩ []).tr.ownR w [.int .u8 2, .int .i64 (100 * m + (k : Int)), .float .f64 0, .float .f64 0, .string ⟨#[]⟩, .slice none 0 0] [] := by
  have := @leafR w 2 (100 * m + (k : Int)) 0 0 ⟨#[]⟩
  rw [Nat.zero_add]
  exact this
theorem kid_noneT {w : World} {r : Va} {c : List Value} {F : List Nat} (ho : r.okV = true) (h7 : ¬ r.kd = 7) (h : r.tr.ownR w c F) : F = [] := by
  obtain ⟨kd, n, x, y, s, rs⟩ := r
  obtain rfl := Va.ok_nolist ho h7
  obtain ⟨a, cap, _, _, _, h⟩ := Va.openT h
  rcases h with h | h
  · exact h.2
  · simp at h
/-- What 'over' comes to. -/
def OverIsT (r : Va) (m : Int) (c : List Value) (F : List Nat) (w : World) (e : Ending) (w' : World) : Prop := e = .returned (.tuple #[]) ∧ (overV r m).tr.ownR w' c F ∧ Wr (fun i => i ∈ F) w w' ∧ Soft w' F
set_option maxRecDepth 100000 in
set_option maxHeartbeats 4000000 in
theorem over_NT (N : Nat) : ∀ (r : Va) (_ : r.size ≤ N) (_ : r.okV = true) (m : Int) (_ : 0 ≤ m) (_ : m ≤ 10) (c : List Value) (F : List Nat) (w : World) (_ : r.tr.ownR w c F) (_ : F.Nodup) (_ : Soft w F),
    Calls Try.prog 8 #[.agg c.toArray, .int .i64 m] w (OverIsT r m c F w) := by
  induction N with
  | zero => intro r hN; have := r.size_pos; omega
  | succ N ih =>
  intro r hN ho m m0 m1 c F w hr hnd hso
  have HR := Lib.hid (fun A => Tr.ownR_own _ _ _ (Tr.ownR_below hr (bnew (Below.refl _ w) A)))
  have HLT := Lib.hid (Tr.ownR_lt _ _ _ hr)
  have HR0 := Lib.hid hr
  obtain ⟨kd, n, x, y, s, rs⟩ := r
  obtain ⟨a, cap, rfl, hcap, hcap', hc⟩ := Va.openT hr
  clear hr
  have HO := Lib.hid ho
  have HOK := Lib.hid (fun k hk => Va.ok_kid ho k hk)
  have hsz := Va.ok_size ho
  have HND := Lib.hid hnd
  have HSO := Lib.hid hso
  clear ho hnd hso
  unfold Va.size at hN hsz
  have hlen := Va.sizes_len rs
  have IH := Lib.hid ih
  clear ih
  rcases hc with ⟨hz0, rfl⟩ | ⟨hpos, hcap20, b, cs, F', rfl, rfl, hra, hkl, hml⟩
  · have HZ := Lib.hid hz0
    clear hz0
    go_enter Try.func8, Try.ntmps8
    go_wp2_with (go_at_call 14; (with_reducible refine (rCheck_any (Va.mk kd n x y s rs) [.int .u8 kd, .int .i64 n, .float .f64 x, .float .f64 y, .string s, .slice a rs.length cap] [] _ (HR.out _)).mono ?_); rintro e w1 ⟨rfl, hb1⟩; rw [ok_ite HO.out]; have HB := Lib.hid (bthen (bnew (Below.refl _ w) _) hb1); have q5 : w1.cell? ⟨w.heap.size, 5, none⟩ = some (.slice a rs.length cap) := (hb1.cell (p := ⟨w.heap.size, 5, none⟩) (by simp)).trans ((box_all (heap_alloc_new w _) 5).trans rfl); clear hb1)
    go_loopw [4] (fun u4 wr => u4 = .int .i64 0 ∧ Hid (Below w.heap.size w wr) ∧ wr.cell? ⟨w.heap.size, 5, none⟩ = some (.slice a rs.length cap)) (fun _ _ => 0)
    case atStart => exact ⟨rfl, HB, q5⟩
    case round =>
      clear HB q5
      obtain ⟨rfl, HB, q5⟩ := hrel
      have hd : decide ((0 : Int) < (rs.length : Int)) = false := decide_eq_false (by have := HZ.out; omega)
      have hd2 : decide (0 < rs.length) = false := decide_eq_false (by have := HZ.out; omega)
      go_wp2_with fail
      go_end0
      refine ⟨rfl, ?_, Wr.of_below HB.out _, Soft.nil _⟩
      have h1 := Tr.ownR_below HR0.out HB.out
      obtain rfl := List.eq_nil_of_length_eq_zero HZ.out
      simpa [overV, overL] using h1
  · have hbl : b < w.heap.size := rangeAt_lt hra (by rw [Tr.ownRL_len hkl, Va.trs_len]; omega)
    have hcl : cs.length = rs.length * 6 := by rw [Tr.ownRL_len hkl, Va.trs_len]
    have HINV : Hid (∀ W, Below w.heap.size w W → OverInvT W b F' rs m cap 0) := fun W hW => ⟨cs, hcl, rangeAt_of_block hra (hW.block b hbl), by simpa [overL, Va.trs] using Tr.ownRL_below hkl hW, HSO.out.same (fun i hi => hW.block i (HLT.out i hi)), hml.same (hW.block b hbl)⟩
    have HBL := Lib.hid hbl
    clear hra hkl hml hcl hbl
    go_enter Try.func8, Try.ntmps8
    go_wp2_with (go_at_call 14; (with_reducible refine (rCheck_any (Va.mk kd n x y s rs) [.int .u8 kd, .int .i64 n, .float .f64 x, .float .f64 y, .string s, .slice (some ⟨b, 0, none⟩) rs.length cap] (b :: F') _ (HR.out _)).mono ?_); rintro e w1 ⟨rfl, hb1⟩; rw [ok_ite HO.out]; have HB := Lib.hid (bthen (bnew (Below.refl _ w) _) hb1); have q5 : w1.cell? ⟨w.heap.size, 5, none⟩ = some (.slice (some ⟨b, 0, none⟩) rs.length cap) := (hb1.cell (p := ⟨w.heap.size, 5, none⟩) (by simp)).trans ((box_all (heap_alloc_new w _) 5).trans rfl); have q6 : w.heap.size < w1.heap.size := Nat.lt_of_lt_of_le (by simp) hb1.size; clear hb1)
    go_loopw [4] (fun u4 wr => ∃ k : Nat, k ≤ rs.length ∧ u4 = .int .i64 k ∧ Hid (Wr (fun i => i ∈ b :: F') w wr) ∧ w.heap.size < wr.heap.size ∧ wr.cell? ⟨w.heap.size, 5, none⟩ = some (.slice (some ⟨b, 0, none⟩) rs.length cap) ∧ Hid (OverInvT wr b F' rs m cap k)) (fun u4 _ => rs.length - (intOf u4).toNat)
    case atStart => exact ⟨0, by omega, rfl, Wr.of_below HB.out _, q6, q5, HINV.out _ HB.out⟩
    case round =>
      clear HB q5 q6
      obtain ⟨k, hk, rfl, hw, hz, hcell, hinv⟩ := hrel
      by_cases hlt : k < rs.length
      · obtain ⟨kc, pre, post, Fa, F1, Fb, hat⟩ := over_openT hinv.out hlt
        have HAT := Lib.hid hat
        have ho1 := hat.o1
        have hr1 := hat.r1
        have hokk := HOK.out k hlt
        have HZ := Va.sizes_at rs k hlt
        have hri : (0:Int) ≤ (k:Int) := by omega
        have hri2 : (k:Int) < (rs.length:Int) := by omega
        have hk1024 : (k : Int) < 1024 := by omega
        have hnd := HND.out
        rw [hat.eF] at hnd
        have hbF := (List.nodup_cons.1 hnd).1
        have hndF := (List.nodup_cons.1 hnd).2
        have hdA := (List.nodup_append.1 hndF).2.2
        have hnd2 := (List.nodup_append.1 hndF).2.1
        have hdB := (List.nodup_append.1 hnd2).2.2
        have hnd1 := (List.nodup_append.1 hnd2).1
        have hso1 : Soft wr F1 := fun i hi j => hat.so i (by rw [hat.eF]; simp [hi]) j
        have HD := Lib.hid (And.intro (show b ∉ F1 from fun h => hbF (by simp [h])) (And.intro (fun i (hi : i ∈ Fa) => (fun h => hdA i hi i (by simp [h]) rfl : i ∉ F1)) (fun i (hi : i ∈ Fb) => (fun h => hdB i h i hi rfl : i ∉ F1))))
        have HDB := Lib.hid (And.intro (fun i (hi : i ∈ Fa) => (fun h => hbF (by rw [← h]; simp [hi]) : i ≠ b)) (fun i (hi : i ∈ Fb) => (fun h => hbF (by rw [← h]; simp [hi]) : i ≠ b)))
        have hbw : b < wr.heap.size := by have := HBL.out; have := hw.out.size; omega
        have HNB : Hid (w.heap.size ∉ b :: F') := fun h => Nat.lt_irrefl _ (HLT.out _ h)
        clear hat hnd hbF hndF hdA hnd2 hdB hinv
        obtain ⟨kkd, kn, kx, ky, ks, krs, hke⟩ : ∃ kkd kn kx ky ks krs, rs[k] = Va.mk kkd kn kx ky ks krs := by cases rs[k]; exact ⟨_, _, _, _, _, _, rfl⟩
        have HKE := Lib.hid hke
        rw [hke] at ho1 hokk
        have HKID := Lib.hid (And.intro ho1 (And.intro hnd1 (And.intro hso1 hokk)))
        have hke2 : rs[k].size = (Va.mk kkd kn kx ky ks krs).size := by rw [hke]
        rw [hke2] at HZ
        obtain ⟨ka, kcap, rfl, _⟩ := Va.openT ho1
        clear ho1 hokk hke hke2 hnd1 hso1
        have c0 : wr.cell? ⟨b, k * 6, none⟩ = some (.int .u8 kkd) := hr1 0 _ rfl
        have c1 : wr.cell? ⟨b, k * 6 + 1, none⟩ = some (.int .i64 kn) := hr1 1 _ rfl
        have c2 : wr.cell? ⟨b, k * 6 + 2, none⟩ = some (.float .f64 kx) := hr1 2 _ rfl
        have c3 : wr.cell? ⟨b, k * 6 + 3, none⟩ = some (.float .f64 ky) := hr1 3 _ rfl
        have c4 : wr.cell? ⟨b, k * 6 + 4, none⟩ = some (.string ks) := hr1 4 _ rfl
        have c5 : wr.cell? ⟨b, k * 6 + 5, none⟩ = some (.slice ka krs.length kcap) := hr1 5 _ rfl
        clear hr1
        by_cases h7 : kkd = 7
        · subst h7
          go_wp2_with (go_at_call 8; refine (IH.out (Va.mk 7 kn kx ky ks krs) (by omega) HKID.out.2.2.2 m m0 m1 [.int .u8 7, .int .i64 kn, .float .f64 kx, .float .f64 ky, .string ks, .slice ka krs.length kcap] F1 _ HKID.out.1 HKID.out.2.1 HKID.out.2.2.1).mono ?_; rintro e w1 ⟨rfl, hov, hw1, hs1⟩; have HX := Lib.hid (And.intro hov (And.intro hw1 hs1)); have q1 := hw1.size; clear hov hs1 hw1)
          go_roundw
          case rel =>
            obtain ⟨hov, hw1, hs1⟩ := HX.out
            obtain ⟨d1, d2, d3⟩ := HD.out
            have hin : ∀ i, i ∈ F1 → i ∈ b :: F' := fun i hi => by rw [HAT.out.eF]; simp [hi]
            have hbb := hw1.block b hbw d1
            have hfa : ∀ i ∈ Fa, w1.heap[i]? = wr.heap[i]? := fun i hi => hw1.block i (Tr.ownRL_lt _ _ _ HAT.out.o0 i hi) (d2 i hi)
            have hfb : ∀ i ∈ Fb, w1.heap[i]? = wr.heap[i]? := fun i hi => hw1.block i (Tr.ownRL_lt _ _ _ HAT.out.o2 i hi) (d3 i hi)
            refine ⟨k + 1, by omega, by go_num, Wr.andThen hw.out hw1 (fun i _ hi => hin i hi), by omega, ?_, ?_⟩
            · exact (hw1.cell (p := ⟨w.heap.size, 5, none⟩) hz (fun h => HNB.out (hin _ h))).trans hcell
            · refine over_closeT HAT.out (c' := [.int .u8 7, .int .i64 kn, .float .f64 kx, .float .f64 ky, .string ks, .slice ka krs.length kcap]) ?_ hfa hfb (rangeAt_of_block HAT.out.r0 hbb) (rangeAt_of_block HAT.out.r1 hbb) (rangeAt_of_block HAT.out.r2 hbb) ?_ (HAT.out.rc.same hbb)
              · rw [HKE.out, if_pos (show (Va.mk 7 kn kx ky ks krs).kd = 7 from rfl)]
                exact hov
              · intro i hi j
                rcases List.mem_cons.1 hi with rfl | hi
                · exact (World.frozen?_of_block (w := wr) (a := ⟨i, j, none⟩) hbb).trans (HAT.out.so i (by simp) j)
                · have hi2 := hi
                  rw [HAT.out.eF] at hi2
                  rcases List.mem_append.1 hi2 with h | h
                  · exact (World.frozen?_of_block (w := wr) (a := ⟨i, j, none⟩) (hfa i h)).trans (HAT.out.so i (by simp [hi]) j)
                  · rcases List.mem_append.1 h with h | h
                    · exact hs1 i h j
                    · exact (World.frozen?_of_block (w := wr) (a := ⟨i, j, none⟩) (hfb i h)).trans (HAT.out.so i (by simp [hi]) j)
          case measure => simp [intOf]; omega
        · have h7b : (kkd == 7) = false := beq_eq_false_iff_ne.2 h7
          have hth : wr.there b (k * 6) 6 := fun j hj => ⟨by
            have := HAT.out.r1 j _ (List.getElem?_eq_getElem (by simpa using hj))
            rw [this]; rfl, HAT.out.so b (by simp) _⟩
          have HTH := Lib.hid hth
          clear hth
          go_wp2_with (refine wpList_store_mid (by rfl) 25 _ _ (by rfl) b (k * 6) #[.int .u8 2, .int .i64 (100 * m + (k : Int)), .float .f64 0, .float .f64 0, .string ⟨#[]⟩, .slice none 0 0] (by rfl) (by rfl) ?_ size_tV (one2 _) ?_; exact HTH.out)
          go_roundw
          case rel =>
            obtain ⟨s1, s2, s3, s4, s5⟩ := setCells_frame b [.int .u8 2, .int .i64 (100 * m + (k : Int)), .float .f64 0, .float .f64 0, .string ⟨#[]⟩, .slice none 0 0] (k * 6) wr
            have hW : Wr (fun i => i = b) wr (wr.setCells b (k * 6) [.int .u8 2, .int .i64 (100 * m + (k : Int)), .float .f64 0, .float .f64 0, .string ⟨#[]⟩, .slice none 0 0]) := ⟨s2, s3, s4, by omega, fun i _ hi => s5 i hi⟩
            have hF1 : F1 = [] := kid_noneT HKID.out.2.2.2 (by show ¬ kkd = 7; exact h7) HKID.out.1
            refine ⟨k + 1, by omega, by go_num, Wr.andThen hw.out hW (fun i _ hi => by rw [hi]; simp), by omega, ?_, ?_⟩
            · exact (hW.cell (p := ⟨w.heap.size, 5, none⟩) hz (fun h => HNB.out (by have h2 : w.heap.size = b := h; rw [h2]; simp))).trans hcell
            · refine over_closeT HAT.out (c' := [.int .u8 2, .int .i64 (100 * m + (k : Int)), .float .f64 0, .float .f64 0, .string ⟨#[]⟩, .slice none 0 0]) ?_ (fun i hi => s5 i (HDB.out.1 i hi)) (fun i hi => s5 i (HDB.out.2 i hi)) ?_ ?_ ?_ ?_ (HAT.out.rc.setCells _ _)
              · rw [HKE.out, if_neg (show ¬ (Va.mk kkd kn kx ky ks krs).kd = 7 from h7), hF1]
                exact fresh_ownR m k _
              · exact World.rangeAt_setCells_apart HAT.out.r0 b (k * 6) _ (.inr (.inl (by rw [HAT.out.l0]; omega)))
              · exact World.rangeAt_setCells_same wr b (k * 6) _ HTH.out
              · exact World.rangeAt_setCells_apart HAT.out.r2 b (k * 6) _ (.inr (.inr (by simp; omega)))
              · intro i hi j
                rw [World.frozen?_setCells]
                exact HAT.out.so i hi j
          case measure => simp [intOf]; omega
      · obtain rfl : k = rs.length := by omega
        go_wp2_with fail
        go_end0
        obtain ⟨cs', h1, h2, h3, h4, h5⟩ := hinv.out
        refine ⟨rfl, ?_, hw.out, h4⟩
        rw [List.take_length, List.drop_length] at h3
        simp only [Va.trs, List.append_nil] at h3
        unfold overV Va.tr Tr.ownR
        have hol := overL_len rs m 0
        have hlm : (Va.trs (overL rs m 0)).length = rs.length := by rw [Va.trs_len, hol]
        rw [hol]
        exact ⟨some ⟨b, 0, none⟩, cap, rfl, rfl, by simp [Value.oneCell'], hlm.symm, .inr ⟨by omega, by omega, hcap', b, cs', F', rfl, rfl, h5, h2, h3⟩⟩
end Go.Proofs.Ytaglklcjolcgeaa
namespace Go.Proofs.Ytaglklcjolcgeaa
open Go.RowKit
set_option linter.unusedVariables false
set_option linter.unusedSimpArgs false

abbrev Bs := List UInt8
/-- A number's bytes, the highest first. -/
def be : Bs → Nat
  | l => l.foldl (fun n c => 256 * n + c.toNat) 0
/-- As many bytes as there are, of a number, the highest first. -/
def eb : Nat → Nat → Bs
  | 0, _ => []
  | k + 1, n => eb k (n / 256) ++ [UInt8.ofNat n]
theorem eb_len : ∀ k n, (eb k n).length = k
  | 0, _ => rfl
  | k + 1, n => by unfold eb; simp [eb_len k]
/-- A float's bits as they are written. -/
def fbits (x : Nat) : Nat := if nanB x then 9221120237041090560 else x
/-- A whole number's word. -/
def word (n : Int) : Nat := (n % 18446744073709551616).toNat
def unword (n : Nat) : Int := wrap64 (n : Int)
mutual
/-- The bytes of a value. -/
def encV : Va → Bs
  | .mk kd n x y s rs => UInt8.ofNat kd.toNat ::
    (if kd = 1 then [UInt8.ofNat (word n)]
     else if kd = 2 then eb 8 (word n)
     else if kd = 3 then eb 8 (fbits x)
     else if kd = 4 then eb 8 (fbits x) ++ eb 8 (fbits y)
     else if kd = 5 ∨ kd = 6 then eb 2 s.size ++ s.data.toList
     else if kd = 7 then eb 2 rs.length ++ encL rs
     else [])
def encL : List Va → Bs
  | [] => []
  | r :: rs => encV r ++ encL rs
end
/-- The first bytes, if there are so many. -/
def takeN (k : Nat) (l : Bs) : Option (Bs × Bs) := if l.length < k then none else some (l.take k, l.drop k)
/-- So many values, one behind the other. -/
def rep (f : Bs → Option (Va × Bs)) : Nat → Bs → Option (List Va × Bs)
  | 0, l => some ([], l)
  | n + 1, l => match f l with
    | none => none
    | some (v, l2) => match rep f n l2 with
      | none => none
      | some (vs, l3) => some (v :: vs, l3)
def mkI (kd : Int) (n : Int) : Va := .mk kd n 0 0 ⟨#[]⟩ []
/-- The program's reader; k: so many lists may still stand within one another. -/
def progV (k : Nat) (l : Bs) : Option (Va × Bs) :=
  match l with
  | [] => none
  | c :: l =>
    if c = 1 then (takeN 1 l).map fun h => (mkI 1 (be h.1), h.2)
    else if c = 2 then (takeN 8 l).map fun h => (mkI 2 (unword (be h.1)), h.2)
    else if c = 3 then (takeN 8 l).map fun h => (.mk 3 0 (be h.1) 0 ⟨#[]⟩ [], h.2)
    else if c = 4 then (takeN 8 l).bind fun h => (takeN 8 h.2).map fun g => (.mk 4 0 (be h.1) (be g.1) ⟨#[]⟩ [], g.2)
    else if c = 5 ∨ c = 6 then (takeN 2 l).bind fun h => (takeN (be h.1) h.2).map fun g => (.mk c.toNat 0 0 0 ⟨g.1.toArray⟩ [], g.2)
    else if c = 7 then
      match k with
      | 0 => none
      | k + 1 => (takeN 2 l).bind fun h => (rep (progV k) (be h.1) h.2).map fun g => (.mk 7 0 0 0 ⟨#[]⟩ g.1, g.2)
    else some (mkI c.toNat 0, l)
/-- The reference's reader: bytes, and whether there were too few. -/
def takeR (k : Nat) (l : Bs × Bool) : Bs × (Bs × Bool) := if l.2 = true ∨ l.1.length < k then ([], (l.1, true)) else (l.1.take k, (l.1.drop k, false))
def repR (f : Bs × Bool → Va × (Bs × Bool)) : Nat → Bs × Bool → List Va × (Bs × Bool)
  | 0, l => ([], l)
  | n + 1, l => if l.2 = true then ([], l) else ((f l).1 :: (repR f n (f l).2).1, (repR f n (f l).2).2)
def refV (k : Nat) (l : Bs × Bool) : Va × (Bs × Bool) :=
  let h := takeR 1 l
  let c := be h.1
  if c = 1 then (mkI 1 (be (takeR 1 h.2).1), (takeR 1 h.2).2)
  else if c = 2 then (mkI 2 (unword (be (takeR 8 h.2).1)), (takeR 8 h.2).2)
  else if c = 3 then (.mk 3 0 (be (takeR 8 h.2).1) 0 ⟨#[]⟩ [], (takeR 8 h.2).2)
  else if c = 4 then (.mk 4 0 (be (takeR 8 h.2).1) (be (takeR 8 (takeR 8 h.2).2).1) ⟨#[]⟩ [], (takeR 8 (takeR 8 h.2).2).2)
  else if c = 5 ∨ c = 6 then (.mk c 0 0 0 ⟨(takeR (be (takeR 2 h.2).1) (takeR 2 h.2).2).1.toArray⟩ [], (takeR (be (takeR 2 h.2).1) (takeR 2 h.2).2).2)
  else if c = 7 then
    match k with
    | 0 => (.mk 7 0 0 0 ⟨#[]⟩ [], (takeR 2 h.2).2)
    | k + 1 => (.mk 7 0 0 0 ⟨#[]⟩ (repR (refV k) (be (takeR 2 h.2).1) (takeR 2 h.2).2).1, (repR (refV k) (be (takeR 2 h.2).1) (takeR 2 h.2).2).2)
  else (mkI c 0, h.2)
theorem takeN_R {k : Nat} {l a b : Bs} (h : takeN k l = some (a, b)) : takeR k (l, false) = (a, (b, false)) := by
  unfold takeN at h
  unfold takeR
  split at h
  · cases h
  · rename_i hc
    injection h with h
    injection h with h1 h2
    subst h1 h2
    rw [if_neg (by simp; omega)]
theorem takeN_no {k : Nat} {l : Bs} (h : takeN k l = none) : l.length < k ∧ takeR k (l, false) = ([], (l, true)) := by
  unfold takeN at h
  split at h
  · rename_i hc
    refine ⟨hc, ?_⟩
    unfold takeR
    rw [if_pos (.inr hc)]
  · cases h
theorem takeN_len {k : Nat} {l a b : Bs} (h : takeN k l = some (a, b)) : l = a ++ b ∧ a.length = k := by
  unfold takeN at h
  split at h
  · cases h
  · injection h with h
    injection h with h1 h2
    subst h1 h2
    exact ⟨(List.take_append_drop k l).symm, by rw [List.length_take]; omega⟩
theorem be_one (c : UInt8) : be [c] = c.toNat := by simp [be]
theorem be_two (c d : UInt8) : be [c, d] = 256 * c.toNat + d.toNat := by simp [be]
theorem rep_len {f : Bs → Option (Va × Bs)} (hf : ∀ l v l2, f l = some (v, l2) → (encV v).length + l2.length = l.length) : ∀ (n : Nat) (l : Bs) (vs : List Va) (l2 : Bs), rep f n l = some (vs, l2) → vs.length = n ∧ (encL vs).length + l2.length = l.length
  | 0, l, vs, l2, h => by
    unfold rep at h
    injection h with h
    injection h with h1 h2
    subst h1 h2
    exact ⟨rfl, by simp [encL]⟩
  | n + 1, l, vs, l2, h => by
    unfold rep at h
    split at h
    · cases h
    · rename_i v l3 h1
      split at h
      · cases h
      · rename_i vs2 l4 h2
        injection h with h
        injection h with e1 e2
        subst e1 e2
        obtain ⟨k1, k2⟩ := rep_len hf n l3 vs2 l4 h2
        have := hf l v l3 h1
        refine ⟨by simp [k1], ?_⟩
        unfold encL
        rw [List.length_append]
        omega
end Go.Proofs.Ytaglklcjolcgeaa
