/- The walk of 'few'. -/
import Derived.Test.YtlejmlkojohnbaaRl
import Derived.Test.YtlejmlkojohnbaaProg
import Derived.WalkLawsBesides
import Derived.WalkSpells
import Derived.Lib.Hide
namespace Go.Proofs.Ytlejmlkojohnbaa
open Go.RowKit

mutual
def Rl.few : Rl → Int → Int
  | .mk _ _ _ _ _ _ rs, l => Rl.fews rs (l - 1)
def Rl.fews : List Rl → Int → Int
  | [], l => l
  | r :: rs, l => if l < 0 then l else Rl.fews rs (r.few l)
end
mutual
theorem Rl.few_bd : ∀ (r : Rl) (l : Int), 0 ≤ l → -1 ≤ r.few l ∧ r.few l ≤ l
  | .mk _ _ _ _ _ _ rs, l => fun h => by
    unfold Rl.few
    have := Rl.fews_bd rs (l - 1) (by omega)
    omega
theorem Rl.fews_bd : ∀ (rs : List Rl) (l : Int), -1 ≤ l → -1 ≤ Rl.fews rs l ∧ Rl.fews rs l ≤ l
  | [], l => fun h => by unfold Rl.fews; omega
  | r :: rs, l => fun h => by
    unfold Rl.fews
    split
    · omega
    · have h1 := Rl.few_bd r l (by omega)
      have h2 := Rl.fews_bd rs (r.few l) h1.1
      omega
end
theorem Rl.fews_neg (rs : List Rl) (l : Int) (h : l < 0) : Rl.fews rs l = l := by
  cases rs <;> unfold Rl.fews
  · rfl
  · rw [if_pos h]
mutual
/-- Few rules: all are counted. -/
theorem Rl.few_size : ∀ (r : Rl) (l : Int), 0 ≤ r.few l → r.few l = l - r.size
  | .mk _ _ _ _ _ _ rs, l => fun h => by
    unfold Rl.few at h ⊢
    unfold Rl.size
    have := Rl.fews_size rs (l - 1) h
    omega
theorem Rl.fews_size : ∀ (rs : List Rl) (l : Int), 0 ≤ Rl.fews rs l → Rl.fews rs l = l - Rl.sizes rs
  | [], l => fun h => by unfold Rl.fews Rl.sizes; simp
  | r :: rs, l => fun h => by
    unfold Rl.fews at h ⊢
    unfold Rl.sizes
    split at h
    · omega
    · rename_i hl
      rw [if_neg hl]
      have h1 := Rl.fews_size rs (r.few l) h
      have h2 := Rl.few_size r l (by omega)
      omega
end
theorem Rl.fews_drop (rs : List Rl) (k : Nat) (hk : k < rs.length) (l : Int) (h : 0 ≤ l) : Rl.fews (rs.drop k) l = Rl.fews (rs.drop (k + 1)) (rs[k].few l) := by
  rw [List.drop_eq_getElem_cons hk]
  conv => lhs; unfold Rl.fews
  rw [if_neg (by omega)]

def FewIs (r : Rl) (left : Int) (w : World) (e : Ending) (w' : World) : Prop := e = .returned (.int .i64 (r.few left)) ∧ Below w.heap.size w w'

set_option maxHeartbeats 400000 in
theorem few_N (N : Nat) : ∀ (r : Rl) (_ : r.size ≤ N) (c : List Value) (F : List Nat) (w : World) (left : Int) (_ : r.tr.own 7 w c F) (_ : 0 ≤ left) (_ : left ≤ 3000),
    Calls Try.prog 4 #[.agg c.toArray, .int .i64 left] w (FewIs r left w) := by
  induction N with
  | zero => intro r hN; have := r.size_pos; omega
  | succ N ih =>
  intro r hN c F w left hr h0 h1
  obtain ⟨op, n, m, x, y, s, rs⟩ := r
  obtain ⟨a, cap, rfl, hcap, hcap', hc⟩ := Rl.open hr
  clear hr
  unfold Rl.size at hN
  have IH := Lib.hid ih
  clear ih
  go_enter Try.func4, Try.ntmps4
  go_wp2_with fail
  go_loopw [1, 5] (fun u1 u5 wr => ∃ (k : Nat) (l : Int), k ≤ rs.length ∧ u5 = .int .i64 k ∧ u1 = .int .i64 l ∧ -1 ≤ l ∧ l ≤ 3000 ∧ Hid (Rl.fews (rs.drop k) l = Rl.fews rs (left - 1)) ∧ Below w.heap.size w wr ∧ w.heap.size < wr.heap.size ∧
    wr.cell? ⟨w.heap.size, 6, none⟩ = some (.slice a rs.length cap)) (fun _ u5 _ => rs.length - (intOf u5).toNat)
  case atStart => exact ⟨0, left - 1, by omega, rfl, rfl, by omega, by omega, rfl, bnew (Below.refl _ _) _, by simp, by simp [go_sem]⟩
  case round =>
    obtain ⟨k, l, hk, rfl, rfl, l0, l1, hf, hb, hz, hcell⟩ := hrel
    by_cases hlt : k < rs.length
    · rcases hc with ⟨h0', _⟩ | ⟨_, b, o, cs, F', rfl, rfl, hra, hkl⟩
      · omega
      have hbl : b < w.heap.size := rangeAt_lt hra (by rw [Tr.ownL_len hkl, Rl.trs_len]; omega)
      have hra' := rangeAt_of_block hra (hb.block b hbl)
      have hkl' := Tr.ownL_same _ _ _ (fun i hi => hb.block i (Tr.ownL_lt _ _ _ hkl i hi)) hkl
      obtain ⟨v0, v1, v2, v3, v4, v5, v6, Fa, F1, Fb, hF, hkid, c0, c1, c2, c3, c4, c5, c6⟩ := Rl.kid k hlt hkl' hra'
      have HZ := Rl.sizes_at rs k hlt
      have HF := Lib.hid hF
      clear hra hkl hra' hkl' hF
      by_cases hneg : 0 ≤ l
      · have hlen := Rl.few_bd rs[k] l hneg
        go_wp2_with (go_at_call 4; refine (IH.out rs[k] (by omega) [v0, v1, v2, v3, v4, v5, v6] F1 _ l hkid (by omega) (by omega)).mono ?_; rintro e w' ⟨rfl, hb'⟩)
        go_roundw
        case rel => exact ⟨k + 1, rs[k].few l, by omega, by go_num, rfl, by omega, by omega, (Rl.fews_drop rs k hlt l hneg).symm.trans hf, bthen hb hb', by have := hb'.size; omega, by rw [hb'.cell (p := ⟨w.heap.size, 6, none⟩) (by simpa using hz)]; exact hcell⟩
        case measure => simp [intOf]; omega
      · have hd : decide (0 ≤ l) = false := by simp; omega
        go_wp2_with fail
        go_ret
        refine ⟨ri ?_, hb⟩
        rw [Rl.few, ← hf.out, Rl.fews_neg _ _ (by omega)]
    · have hk' : k = rs.length := by omega
      go_wp2_with fail
      go_ret
      refine ⟨ri ?_, hb⟩
      subst hk'
      rw [Rl.few, ← hf.out]
      simp [Rl.fews]
end Go.Proofs.Ytlejmlkojohnbaa
