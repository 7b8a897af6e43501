/- The walks of 'errataref05.Alike' and 'errataref22.Same', of one rule twice. -/
import Derived.Test.YtlejmlkojohnbaaRl
import Derived.Test.YtlejmlkojohnbaaProg
import Derived.Test.YtlejmlkojohnbaaFloat
import Derived.WalkSpells
import Derived.Lib.Hide
import Derived.Deep.QuietTactic
import Derived.BigQuiet
import Derived.StillTailTactics
namespace Go.Proofs.Ytlejmlkojohnbaa
open Go.RowKit
attribute [local go_sem] run_store_float
set_option maxHeartbeats 1000000 in
theorem alike_any (x : Nat) (w : World) : Calls Try.prog 15 #[.float .f64 x, .float .f64 x] w fun e w' => e = .returned (.bool true) ∧ w = w' := by
  by_cases h : FloatKind.f64.format.order x x = some .eq
  · obtain ⟨r, hr, ho⟩ := one_div x h
    have hq := fun t => run_quo (P := Try.prog) t _ _ r hr
    have HR := Lib.hid hr
    clear hr
    go_enter Try.func15, Try.ntmps15
    go_wp2_with fail
    go_ret
    exact ⟨rfl, rfl⟩
  · have hb : (FloatKind.f64.format.order x x != some .eq) = true := by simpa using h
    clear h
    go_enter Try.func15, Try.ntmps15
    go_wp2_with fail
    go_ret
    exact ⟨rfl, rfl⟩
def SameIs (w : World) (e : Ending) (w' : World) : Prop := e = .returned (.bool true) ∧ Below w.heap.size w w'
set_option maxRecDepth 100000 in
set_option maxHeartbeats 1000000 in
theorem same_N (N : Nat) : ∀ (r : Rl) (_ : r.size ≤ N) (c1 c2 : List Value) (G1 G2 : List Nat) (w : World) (_ : r.tr.own 7 w c1 G1) (_ : r.tr.own 7 w c2 G2),
    Calls Try.prog 8 #[.agg c1.toArray, .agg c2.toArray] w (SameIs w) := by
  induction N with
  | zero => intro r hN; have := r.size_pos; omega
  | succ N ih =>
  intro r hN c1 c2 G1 G2 w hr1 hr2
  obtain ⟨op, n, m, x, y, s, rs⟩ := r
  obtain ⟨a1, cap1, rfl, hcap1, hcap1', hc1⟩ := Rl.open hr1
  obtain ⟨a2, cap2, rfl, hcap2, hcap2', hc2⟩ := Rl.open hr2
  clear hr1 hr2
  unfold Rl.size at hN
  have IH := Lib.hid ih
  clear ih
  go_enter Try.func8, Try.ntmps8
  go_wp2_with (go_at_call 15; refine (alike_any _ _).mono ?_; rintro e w' ⟨rfl, rfl⟩)
  go_loopw [5] (fun u5 wr => ∃ (k : Nat), k ≤ rs.length ∧ u5 = .int .i64 k ∧ Below w.heap.size w wr ∧ w.heap.size + 2 ≤ wr.heap.size ∧
    wr.cell? ⟨w.heap.size, 6, none⟩ = some (.slice a1 rs.length cap1) ∧ wr.cell? ⟨w.heap.size + 1, 6, none⟩ = some (.slice a2 rs.length cap2)) (fun u5 _ => rs.length - (intOf u5).toNat)
  case atStart => exact ⟨0, by omega, rfl, bnew (bnew (Below.refl _ _) _) _, by simp, by simp [go_sem], by simp [go_sem]⟩
  case round =>
    obtain ⟨k, hk, rfl, hb, hz, hcell1, hcell2⟩ := hrel
    by_cases hlt : k < rs.length
    · rcases hc1 with ⟨h0', _⟩ | ⟨_, b1, o1, cs1, F1', rfl, rfl, hra1, hkl1⟩
      · omega
      rcases hc2 with ⟨h0', _⟩ | ⟨_, b2, o2, cs2, F2', rfl, rfl, hra2, hkl2⟩
      · omega
      have hbl1 : b1 < w.heap.size := rangeAt_lt hra1 (by rw [Tr.ownL_len hkl1, Rl.trs_len]; omega)
      have hbl2 : b2 < w.heap.size := rangeAt_lt hra2 (by rw [Tr.ownL_len hkl2, Rl.trs_len]; omega)
      have hkl1' := Tr.ownL_same _ _ _ (fun i hi => hb.block i (Tr.ownL_lt _ _ _ hkl1 i hi)) hkl1
      have hkl2' := Tr.ownL_same _ _ _ (fun i hi => hb.block i (Tr.ownL_lt _ _ _ hkl2 i hi)) hkl2
      obtain ⟨v0, v1, v2, v3, v4, v5, v6, Fa, F1, Fb, hF1, hkid1, c0, c1, c2, c3, c4, c5, c6⟩ := Rl.kid k hlt hkl1' (rangeAt_of_block hra1 (hb.block b1 hbl1))
      obtain ⟨x0, x1, x2, x3, x4, x5, x6, Fc, F2, Fd, hF2, hkid2, d0, d1, d2, d3, d4, d5, d6⟩ := Rl.kid k hlt hkl2' (rangeAt_of_block hra2 (hb.block b2 hbl2))
      have HZ := Rl.sizes_at rs k hlt
      have HF := Lib.hid (And.intro hF1 hF2)
      have hri : (0:Int) ≤ (k:Int) := by omega
      have hri2 : (k:Int) < (rs.length:Int) := by omega
      clear hra1 hkl1 hkl1' hF1 hra2 hkl2 hkl2' hF2
      go_wp2_with fail
      go_still_tail 10, (by kernel_rfl)
      change wpList _ _ _ _ _ wr.drew
      go_wp2_with (go_at_call 8; refine (IH.out rs[k] (by omega) [v0, v1, v2, v3, v4, v5, v6] [x0, x1, x2, x3, x4, x5, x6] F1 F2 _ (Tr.own_drew hkid1) (Tr.own_drew hkid2)).mono ?_; rintro e w' ⟨rfl, hb'⟩)
      go_roundw
      case rel =>
        have hb2 := below_of_drew (w := wr) hb'
        have hs2 := hb2.size
        exact ⟨k + 1, by omega, by go_num, bthen hb hb2, by omega, (hb2.cell (p := ⟨w.heap.size, 6, none⟩) (by show w.heap.size < _; omega)).trans hcell1, (hb2.cell (p := ⟨w.heap.size + 1, 6, none⟩) (by show w.heap.size + 1 < _; omega)).trans hcell2⟩
      case measure => simp [intOf]; omega
    · have hk' : k = rs.length := by omega
      go_wp2_with fail
      go_ret
      exact ⟨rfl, hb⟩
end Go.Proofs.Ytlejmlkojohnbaa
