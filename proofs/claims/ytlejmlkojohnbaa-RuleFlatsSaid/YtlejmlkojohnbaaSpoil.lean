/- The walk of 'spoil': all that is within a rule is written over. -/
import Derived.Test.YtlejmlkojohnbaaFlatL
import Derived.Test.YtlejmlkojohnbaaProg
import Derived.WalkLawsBesides
import Derived.WalkSpells
import Derived.Lib.Hide
namespace Go.Proofs.Ytlejmlkojohnbaa
open Go.RowKit
attribute [local go_sem] run_store_float

theorem one99 : (#[.int .u8 99, .int .i64 0, .int .i64 0, .float .f64 0, .float .f64 0, .string ⟨#[]⟩, .slice none 0 0] : Array Value).all (·.oneCell') = true := all_oneCell_toArray (cs := [.int .u8 99, .int .i64 0, .int .i64 0, .float .f64 0, .float .f64 0, .string ⟨#[]⟩, .slice none 0 0]) (by simp [Value.oneCell'])
theorem size_tR : (Try.prog.info? 29).map (·.size) = some 7 := by kernel_rfl
theorem setCells_frame (b : Nat) : ∀ (vs : List Value) (o : Nat) (w : World), (w.setCells b o vs).heap.size = w.heap.size ∧ (w.setCells b o vs).os = w.os ∧ (w.setCells b o vs).tape = w.tape ∧ (w.setCells b o vs).output = w.output ∧ ∀ k, k ≠ b → (w.setCells b o vs).heap[k]? = w.heap[k]?
  | [], _, _ => ⟨rfl, rfl, rfl, rfl, fun _ _ => rfl⟩
  | v :: vs, o, w => by
    obtain ⟨h1, h2, h3, h4, h5⟩ := setCells_frame b vs (o + 1) (w.setCell ⟨b, o, none⟩ v)
    unfold World.setCells
    exact ⟨h1.trans (size_set _ _ _), h2, h3, h4, fun k hk => (h5 k hk).trans (Below.heap_setCell _ _ _ _ hk)⟩
theorem spoil_inv {w wr w1 : World} {b o k : Nat} {rs : List Rl} {cs cs' zs : List Value} {F' F1 F2 : List Nat} (hw : Wr (fun i => i ∈ b :: F') w wr) (hw1 : Wr (fun i => i ∈ F1) wr w1) (hin : ∀ i ∈ F1, i ∈ b :: F')
    (r2 : wr.rangeAt b (o + k * 7 + 7) cs') (g7 : Tr.ownL 7 wr (Rl.trs (rs.drop (k + 1))) cs' F2) (hdis : ∀ a ∈ F1, ∀ b ∈ F2, a ≠ b) (hb1 : b ∉ F1) (hb2 : b ∉ F2) (hso : Soft wr F2) (g4 : ∀ j, wr.frozen? ⟨b, j, none⟩ = false)
    (ecs : cs' = cs.drop ((k + 1) * 7)) (hb : b < wr.heap.size) (hz : zs.length = 7) :
    Wr (fun i => i ∈ b :: F') w (w1.setCells b (o + k * 7) zs) ∧ (w1.setCells b (o + k * 7) zs).rangeAt b (o + (k + 1) * 7) (cs.drop ((k + 1) * 7)) ∧ Tr.ownL 7 (w1.setCells b (o + k * 7) zs) (Rl.trs (rs.drop (k + 1))) (cs.drop ((k + 1) * 7)) F2 ∧
      (∀ j, (w1.setCells b (o + k * 7) zs).frozen? ⟨b, j, none⟩ = false) ∧ Soft (w1.setCells b (o + k * 7) zs) F2 := by
  obtain ⟨s1, s2, s3, s4, s5⟩ := setCells_frame b zs (o + k * 7) w1
  have hW : Wr (fun i => i = b) w1 (w1.setCells b (o + k * 7) zs) := ⟨s2, s3, s4, by omega, fun i _ hi => s5 i hi⟩
  have hWr : Wr (fun i => i ∈ b :: F1) wr (w1.setCells b (o + k * 7) zs) := Wr.andThen (hw1.mono fun _ _ h => by simp [h]) hW fun i _ hi => by simp [hi]
  have hnot : ∀ i ∈ F2, ¬ i ∈ b :: F1 := fun i hi hm => by
    rcases List.mem_cons.1 hm with rfl | hm
    · exact hb2 hi
    · exact hdis i hm i hi rfl
  have hblk := hw1.block b hb hb1
  rw [← ecs]
  refine ⟨Wr.andThen hw hWr fun i _ hi => ?_, ?_, Tr.ownL_wr g7 hWr hnot, fun j => ?_, hso.same fun i hi => hWr.block i (Tr.ownL_lt _ _ _ g7 i hi) (hnot i hi)⟩
  · rcases List.mem_cons.1 hi with rfl | hi
    · simp
    · exact hin i hi
  · have e : o + (k + 1) * 7 = o + k * 7 + 7 := by omega
    rw [e]
    exact World.rangeAt_setCells_apart (rangeAt_of_block r2 hblk) b (o + k * 7) zs (.inr (.inr (by omega)))
  · rw [World.frozen?_setCells]
    exact (World.frozen?_of_block (w := wr) (a := ⟨b, j, none⟩) hblk).trans (g4 j)
def SpoilIs (F : List Nat) (w : World) (e : Ending) (w' : World) : Prop := e = .returned (.tuple #[]) ∧ Wr (fun i => i ∈ F) w w'
set_option maxRecDepth 100000 in
set_option maxHeartbeats 16000000 in
theorem spoil_N (N : Nat) : ∀ (r : Rl) (_ : r.size ≤ N) (c : List Value) (F : List Nat) (w : World) (_ : r.tr.own 7 w c F) (_ : F.Nodup) (_ : Soft w F),
    Calls Try.prog 11 #[.agg c.toArray] w (SpoilIs F w) := by
  induction N with
  | zero => intro r hN; have := r.size_pos; omega
  | succ N ih =>
  intro r hN c F w hr hnd hsoft
  obtain ⟨op, n, m, x, y, s, rs⟩ := r
  obtain ⟨a, cap, rfl, hcap, hcap', hc⟩ := Rl.open hr
  have HLT := Lib.hid (Tr.own_lt _ _ _ hr)
  have HND := Lib.hid hnd
  have HSO := Lib.hid hsoft
  clear hr hnd hsoft
  unfold Rl.size at hN
  have IH := Lib.hid ih
  clear ih
  rcases hc with ⟨h0, _⟩ | ⟨hpos, b, o, cs, F', rfl, rfl, hra, hkl⟩
  · have hd : decide (0 < rs.length) = false := decide_eq_false (by omega)
    clear h0
    go_enter Try.func11, Try.ntmps11
    go_wp2_with fail
    go_loopw [2] (fun u2 wr => u2 = .int .i64 0 ∧ Wr (fun i => i ∈ F) w wr ∧ wr.cell? ⟨w.heap.size, 6, none⟩ = some (.slice a rs.length cap)) (fun _ _ => 0)
    case atStart => exact ⟨rfl, (Wr.refl _ _).alloc _, by simp [go_sem]⟩
    case round =>
      obtain ⟨rfl, hw, hcell⟩ := hrel
      go_wp2_with fail
      go_end0
      exact ⟨rfl, hw⟩
  · have hbl : b < w.heap.size := rangeAt_lt hra (by rw [Tr.ownL_len hkl, Rl.trs_len]; omega)
    have hcl : cs.length = rs.length * 7 := by rw [Tr.ownL_len hkl, Rl.trs_len]
    have HCL := Lib.hid hcl
    have HB := Lib.hid hbl
    have HRA := Lib.hid hra
    have HKL := Lib.hid hkl
    clear hra hkl hcl
    go_enter Try.func11, Try.ntmps11
    go_wp2_with fail
    go_loopw [2] (fun u2 wr => ∃ (k : Nat) (Fk : List Nat), k ≤ rs.length ∧ u2 = .int .i64 k ∧ Wr (fun i => i ∈ b :: F') w wr ∧ w.heap.size + 1 ≤ wr.heap.size ∧ wr.cell? ⟨w.heap.size, 6, none⟩ = some (.slice (some ⟨b, o, none⟩) rs.length cap) ∧
        Hid (wr.rangeAt b (o + k * 7) (cs.drop (k * 7)) ∧ Tr.ownL 7 wr (Rl.trs (rs.drop k)) (cs.drop (k * 7)) Fk ∧ (∃ Fd, F' = Fd ++ Fk) ∧ (∀ j, wr.frozen? ⟨b, j, none⟩ = false) ∧ Soft wr Fk)) (fun u2 _ => rs.length - (intOf u2).toNat)
    case atStart =>
      refine ⟨0, F', by omega, rfl, (Wr.refl _ _).alloc _, by simp, by simp [go_sem], ?_⟩
      refine ⟨?_, ?_, ⟨[], rfl⟩, fun j => ?_, ?_⟩
      · simpa using rangeAt_of_block HRA.out (Below.heap_alloc w _ b hbl)
      · simpa using Tr.ownL_below HKL.out (bnew (Below.refl _ w) _)
      · rw [frozen_new _ _ _ (by show b < _; omega)]; exact HSO.out b (by simp) j
      · exact Soft.same (fun i hi => HSO.out i (by simp [hi])) fun i hi => Below.heap_alloc w _ i (HLT.out i (by simp [hi]))
    case round =>
      obtain ⟨k, Fk, hk, rfl, hw, hz, hcell, hinv⟩ := hrel
      by_cases hlt : k < rs.length
      · obtain ⟨g1, g2, ⟨Fd, g3⟩, g4, g5⟩ := hinv.out
        have hd := List.drop_eq_getElem_cons hlt
        rw [hd] at g2
        unfold Rl.trs Tr.ownL at g2
        obtain ⟨kc, cs', F1, F2, e1, e2, g6, g7⟩ := g2
        rw [e1] at g1
        have hl1 := Tr.own_len g6
        have r1 := rangeAt_left g1
        have r2 := rangeAt_right g1
        rw [hl1] at r2
        have ecs : cs' = cs.drop ((k + 1) * 7) := by
          have h := congrArg (List.drop 7) e1
          have h2 : List.drop 7 (kc ++ cs') = cs' := by rw [← hl1, List.drop_left]
          rw [h2, List.drop_drop] at h
          rw [← h]
          congr 1
          omega
        obtain ⟨v0, v1, v2, v3, v4, v5, v6, rfl⟩ := Rl.shape g6
        have c0 : wr.cell? ⟨b, o + k * 7, none⟩ = some v0 := r1 0 _ rfl
        have c1 : wr.cell? ⟨b, o + k * 7 + 1, none⟩ = some v1 := r1 1 _ rfl
        have c2 : wr.cell? ⟨b, o + k * 7 + 2, none⟩ = some v2 := r1 2 _ rfl
        have c3 : wr.cell? ⟨b, o + k * 7 + 3, none⟩ = some v3 := r1 3 _ rfl
        have c4 : wr.cell? ⟨b, o + k * 7 + 4, none⟩ = some v4 := r1 4 _ rfl
        have c5 : wr.cell? ⟨b, o + k * 7 + 5, none⟩ = some v5 := r1 5 _ rfl
        have c6 : wr.cell? ⟨b, o + k * 7 + 6, none⟩ = some v6 := r1 6 _ rfl
        have hnd := HND.out
        rw [g3, e2] at hnd
        have hbF := (List.nodup_cons.1 hnd).1
        have hnd2 := (List.nodup_append.1 (List.nodup_cons.1 hnd).2).2.1
        have hdis := (List.nodup_append.1 hnd2).2.2
        have hnd1 := (List.nodup_append.1 hnd2).1
        have hb1 : b ∉ F1 := fun h => hbF (by simp [h])
        have hb2 : b ∉ F2 := fun h => hbF (by simp [h])
        have hso1 : Soft wr F1 := fun i hi j => g5 i (by rw [e2]; simp [hi]) j
        have hso2 : Soft wr F2 := fun i hi j => g5 i (by rw [e2]; simp [hi]) j
        have HZ := Rl.sizes_at rs k hlt
        have hbw : b < wr.heap.size := by have := hw.size; omega
        have HIN : Hid (∀ i ∈ F1, i ∈ b :: F') := fun i hi => by rw [g3, e2]; simp [hi]
        have H2 := Lib.hid (And.intro r1 (And.intro r2 (And.intro g7 (And.intro hdis (And.intro hb1 (And.intro hb2 (And.intro hso2 (And.intro g4 (And.intro ecs (And.intro g3 e2))))))))))
        have HC := Lib.hid (IH.out rs[k] (by omega) [v0, v1, v2, v3, v4, v5, v6] F1 wr g6 hnd1 hso1)
        clear hinv g1 g3 g4 g5 e1 e2 g6 g7 hl1 r1 r2 ecs hnd hbF hnd2 hdis hnd1 hb1 hb2 hso1 hso2 hd
        have hnew : Hid (∀ w1 : World, Wr (fun i => i ∈ F1) wr w1 → w1.cell? ⟨w.heap.size, 6, none⟩ = some (.slice (some ⟨b, o, none⟩) rs.length cap) ∧ w1.there b (o + k * 7) 7) := fun w1 hw1 => by
          obtain ⟨r1, r2, g7, hdis, hb1, hb2, hso2, g4, ecs, g3, e2⟩ := H2.out
          have hbb := hw1.block b hbw hb1
          refine ⟨(hw1.cell (p := ⟨w.heap.size, 6, none⟩) (by show w.heap.size < _; omega) (fun h => Nat.lt_irrefl w.heap.size (HLT.out _ (HIN.out _ h)))).trans hcell, fun j hj => ⟨?_, (World.frozen?_of_block (w := wr) (a := ⟨b, o + k * 7 + j, none⟩) hbb).trans (g4 _)⟩⟩
          have := rangeAt_of_block r1 hbb j _ (List.getElem?_eq_getElem (by simpa using hj))
          rw [this]; rfl
        go_wp2_with (first | (go_at_call 11; refine HC.out.mono ?_; rintro e w1 ⟨rfl, hw1⟩; obtain ⟨hc1, hth⟩ := hnew.out w1 hw1; have HTH := Lib.hid hth; clear hth) | (refine wpList_store_mid (by rfl) 29 _ _ (by rfl) b (o + k * 7) #[.int .u8 99, .int .i64 0, .int .i64 0, .float .f64 0, .float .f64 0, .string ⟨#[]⟩, .slice none 0 0] (by rfl) (by rfl) ?_ size_tR one99 ?_; exact HTH.out))
        go_roundw
        case rel =>
          obtain ⟨r1, r2, g7, hdis, hb1, hb2, hso2, g4, ecs, g3, e2⟩ := H2.out
          obtain ⟨q1, q2, q3, q4, q5⟩ := spoil_inv (zs := [.int .u8 99, .int .i64 0, .int .i64 0, .float .f64 0, .float .f64 0, .string ⟨#[]⟩, .slice none 0 0]) hw hw1 HIN.out r2 g7 hdis hb1 hb2 hso2 g4 ecs hbw rfl
          refine ⟨k + 1, F2, by omega, by simp, q1, ?_, ?_, ⟨q2, q3, ⟨Fd ++ F1, by rw [g3, e2]; simp⟩, q4, q5⟩⟩
          · have := hw1.size; have := (setCells_frame b [.int .u8 99, .int .i64 0, .int .i64 0, .float .f64 0, .float .f64 0, .string ⟨#[]⟩, .slice none 0 0] (o + k * 7) w1).1; omega
          · rw [World.cell?_setCells_out]
            · exact hc1
            · intro h; exfalso; have := HB.out; simp only at h; omega
        case measure => simp [intOf]; omega
      · have hd : decide (k < rs.length) = false := decide_eq_false (by omega)
        go_wp2_with fail
        go_end0
        exact ⟨rfl, hw⟩
end Go.Proofs.Ytlejmlkojohnbaa
