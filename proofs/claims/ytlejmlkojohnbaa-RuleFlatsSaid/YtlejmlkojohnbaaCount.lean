/- The walks of 'errataref22.count' and 'errataref22.May', and what they come to. -/
import Derived.Test.YtlejmlkojohnbaaOwn
namespace Go.Proofs.Ytlejmlkojohnbaa
open Go.RowKit
attribute [local go_sem] run_store_float

mutual
/-- 'count', as the code counts. -/
def Rl.cnt : Rl → Int → Int → Int
  | .mk op n m x y s rs, nest, most => if nest = 0 then -1 else if okB op n m x y s rs.length = false then -1 else Rl.cnts rs (nest - 1) most 1
def Rl.cnts : List Rl → Int → Int → Int → Int
  | [], _, _, c => c
  | r :: rs, nest, most, c => if most < c then c else if r.cnt nest (most - c) < 0 then -1 else Rl.cnts rs nest most (c + r.cnt nest (most - c))
end
mutual
theorem Rl.cnt_bd : ∀ (r : Rl) (nest most : Int), -1 ≤ r.cnt nest most ∧ r.cnt nest most ≤ r.size
  | .mk op n m x y s rs, nest, most => by
    unfold Rl.cnt Rl.size
    split
    · omega
    · split
      · omega
      · have := Rl.cnts_bd rs (nest - 1) most 1 (by omega)
        omega
theorem Rl.cnts_bd : ∀ (rs : List Rl) (nest most c : Int), 0 ≤ c → -1 ≤ Rl.cnts rs nest most c ∧ Rl.cnts rs nest most c ≤ c + Rl.sizes rs
  | [], _, _, c => fun h => by unfold Rl.cnts Rl.sizes; omega
  | r :: rs, nest, most, c => fun h => by
    unfold Rl.cnts Rl.sizes
    have h1 := Rl.cnt_bd r nest (most - c)
    split
    · omega
    · split
      · omega
      · have h2 := Rl.cnts_bd rs nest most (c + r.cnt nest (most - c)) (by omega)
        omega
end
theorem Rl.cnts_drop (rs : List Rl) (k : Nat) (hk : k < rs.length) (nest most c : Int) (h1 : c ≤ most) (h2 : 0 ≤ rs[k].cnt nest (most - c)) :
    Rl.cnts (rs.drop k) nest most c = Rl.cnts (rs.drop (k + 1)) nest most (c + rs[k].cnt nest (most - c)) := by
  rw [List.drop_eq_getElem_cons hk]
  conv => lhs; unfold Rl.cnts
  rw [if_neg (by omega), if_neg (by omega)]
theorem Rl.cnts_bad (rs : List Rl) (k : Nat) (hk : k < rs.length) (nest most c : Int) (h1 : c ≤ most) (h2 : rs[k].cnt nest (most - c) < 0) : Rl.cnts (rs.drop k) nest most c = -1 := by
  rw [List.drop_eq_getElem_cons hk]
  unfold Rl.cnts
  rw [if_neg (by omega), if_pos h2]
theorem Rl.cnts_over (rs : List Rl) (nest most c : Int) (h1 : most < c) : Rl.cnts rs nest most c = c := by
  cases rs <;> unfold Rl.cnts
  · rfl
  · rw [if_pos h1]

def CntIs (r : Rl) (nest most : Int) (w : World) (e : Ending) (w' : World) : Prop := e = .returned (.int .i64 (r.cnt nest most)) ∧ Below w.heap.size w w'

set_option maxRecDepth 100000 in
set_option maxHeartbeats 1000000 in
theorem count_N (N : Nat) : ∀ (r : Rl) (_ : r.size ≤ N) (_ : r.size ≤ 3000) (c : List Value) (F : List Nat) (w : World) (nest most : Int) (_ : r.tr.own 7 w c F) (_ : 0 ≤ nest) (_ : nest ≤ 32) (_ : 0 ≤ most) (_ : most ≤ 1000),
    Calls Try.prog 14 #[.agg c.toArray, .int .i64 nest, .int .i64 most] w (CntIs r nest most w) := by
  induction N with
  | zero => intro r hN; have := r.size_pos; omega
  | succ N ih =>
  intro r hN h3 c F w nest most hr g0 g1 g2 g3
  obtain ⟨op, n, m, x, y, s, rs⟩ := r
  obtain ⟨a, cap, rfl, hcap, hcap', hc⟩ := Rl.open hr
  clear hr
  unfold Rl.size at hN h3
  have hlen := Rl.sizes_len rs
  have IH := Lib.hid ih
  clear ih
  by_cases hn0 : nest = 0
  · have hd : (nest == 0) = true := by simpa using hn0
    have HN := Lib.hid hn0
    clear hn0
    go_enter Try.func14, Try.ntmps14
    go_wp2_with fail
    go_ret
    exact ⟨ri (by unfold Rl.cnt; rw [if_pos HN.out]), bnew (Below.refl _ _) _⟩
  have hd : (nest == 0) = false := by simpa using hn0
  have HN := Lib.hid hn0
  clear hn0
  cases hok : okB op n m x y s rs.length
  · have HO := Lib.hid hok
    clear hok
    go_enter Try.func14, Try.ntmps14
    go_wp2_with (go_at_call 17; refine (own_any _ _ _ _ _ _ _ _ _ _).mono ?_; rintro e w1 ⟨rfl, hb1⟩; rw [HO.out])
    go_ret
    exact ⟨ri (by unfold Rl.cnt; rw [if_neg HN.out, if_pos HO.out]), bthen (bnew (Below.refl _ _) _) hb1⟩
  have HO := Lib.hid hok
  clear hok
  go_enter Try.func14, Try.ntmps14
  go_wp2_with (go_at_call 17; refine (own_any _ _ _ _ _ _ _ _ _ _).mono ?_; rintro e w1 ⟨rfl, hb1⟩; rw [HO.out])
  go_loopw [7, 8] (fun u7 u8 wr => ∃ (k : Nat) (l : Int), k ≤ rs.length ∧ u8 = .int .i64 k ∧ u7 = .int .i64 l ∧ 1 ≤ l ∧ Hid (Rl.cnts (rs.drop k) (nest - 1) most l = Rl.cnts rs (nest - 1) most 1) ∧ l ≤ 3001 + Rl.sizes rs ∧ Below w.heap.size w wr ∧ w.heap.size < wr.heap.size ∧
    wr.cell? ⟨w.heap.size, 6, none⟩ = some (.slice a rs.length cap)) (fun _ u8 _ => rs.length - (intOf u8).toNat)
  case atStart =>
    have hs1 := hb1.size
    exact ⟨0, 1, by omega, rfl, rfl, by omega, rfl, by omega, bthen (bnew (Below.refl _ _) _) hb1, by simp at hs1; omega, (hb1.cell (p := ⟨w.heap.size, 6, none⟩) (by simp)).trans (by simp [go_sem])⟩
  case round =>
    obtain ⟨k, l, hk, rfl, rfl, l0, hf, l1, hb, hz, hcell⟩ := hrel
    by_cases hlt : k < rs.length
    · rcases hc with ⟨h0', _⟩ | ⟨_, b, o, cs, F', rfl, rfl, hra, hkl⟩
      · omega
      have hbl : b < w.heap.size := rangeAt_lt hra (by rw [Tr.ownL_len hkl, Rl.trs_len]; omega)
      have hra' := rangeAt_of_block hra (hb.block b hbl)
      have hkl' := Tr.ownL_same _ _ _ (fun i hi => hb.block i (Tr.ownL_lt _ _ _ hkl i hi)) hkl
      obtain ⟨v0, v1, v2, v3, v4, v5, v6, Fa, F1, Fb, hF, hkid, c0, c1, c2, c3, c4, c5, c6⟩ := Rl.kid k hlt hkl' hra'
      have HZ := Rl.sizes_at rs k hlt
      have HF := Lib.hid hF
      clear hra hkl hra' hkl' hF hb1
      by_cases hov : most < l
      · go_wp2_with fail
        go_ret
        refine ⟨ri ?_, hb⟩
        unfold Rl.cnt
        rw [if_neg HN.out, if_neg (by rw [HO.out]; simp), ← hf.out, Rl.cnts_over _ _ _ _ hov]
      · have hbd := Rl.cnt_bd rs[k] (nest - 1) (most - l)
        have hno : nest - 1 ≥ 0 := by have := HN.out; omega
        by_cases hneg : rs[k].cnt (nest - 1) (most - l) < 0
        · go_wp2_with (go_at_call 14; refine (IH.out rs[k] (by omega) (by omega) [v0, v1, v2, v3, v4, v5, v6] F1 _ (nest - 1) (most - l) hkid (by omega) (by omega) (by omega) (by omega)).mono ?_; rintro e w' ⟨rfl, hb'⟩)
          go_ret
          refine ⟨ri ?_, bthen hb hb'⟩
          unfold Rl.cnt
          rw [if_neg HN.out, if_neg (by rw [HO.out]; simp), ← hf.out, Rl.cnts_bad rs k hlt _ _ _ (by omega) hneg]
        · go_wp2_with (go_at_call 14; refine (IH.out rs[k] (by omega) (by omega) [v0, v1, v2, v3, v4, v5, v6] F1 _ (nest - 1) (most - l) hkid (by omega) (by omega) (by omega) (by omega)).mono ?_; rintro e w' ⟨rfl, hb'⟩)
          go_roundw
          case rel => exact ⟨k + 1, l + rs[k].cnt (nest - 1) (most - l), by omega, by go_num, rfl, by omega, (Rl.cnts_drop rs k hlt _ _ l (by omega) (by omega)).symm.trans hf, by omega, bthen hb hb', by have := hb'.size; omega, by rw [hb'.cell (p := ⟨w.heap.size, 6, none⟩) (by simpa using hz)]; exact hcell⟩
          case measure => simp [intOf]; omega
    · have hk' : k = rs.length := by omega
      go_wp2_with fail
      go_ret
      refine ⟨ri ?_, hb⟩
      subst hk'
      unfold Rl.cnt
      rw [if_neg HN.out, if_neg (by rw [HO.out]; simp), ← hf.out]
      simp [Rl.cnts]

def Rl.mayB (r : Rl) : Bool := decide (0 < r.cnt 32 1000) && decide (r.cnt 32 1000 ≤ 1000)
set_option maxHeartbeats 400000 in
theorem May_any (r : Rl) (h3 : r.size ≤ 3000) (c : List Value) (F : List Nat) (w : World) (hr : r.tr.own 7 w c F) :
    Calls Try.prog 7 #[.agg c.toArray] w fun e w' => e = .returned (.bool r.mayB) ∧ Below w.heap.size w w' := by
  obtain ⟨v0, v1, v2, v3, v4, v5, v6, rfl⟩ := Rl.shape hr
  have HR := Lib.hid (fun o => Tr.own_below hr (bnew (Below.refl _ w) o))
  clear hr
  by_cases h1 : 0 < r.cnt 32 1000
  · by_cases h2 : r.cnt 32 1000 ≤ 1000
    · go_enter Try.func7, Try.ntmps7
      go_wp2_with (go_at_call 14; refine (count_N _ r (Nat.le_refl _) h3 [v0, v1, v2, v3, v4, v5, v6] F _ 32 1000 (HR.out _) (by omega) (by omega) (by omega) (by omega)).mono ?_; rintro e w1 ⟨rfl, hb1⟩)
      go_ret
      exact ⟨rb (by simp [Rl.mayB, h1, h2]), bthen (bnew (Below.refl _ _) _) hb1⟩
    · have d2 : decide (r.cnt 32 1000 ≤ 1000) = false := by simpa using h2
      go_enter Try.func7, Try.ntmps7
      go_wp2_with (go_at_call 14; refine (count_N _ r (Nat.le_refl _) h3 [v0, v1, v2, v3, v4, v5, v6] F _ 32 1000 (HR.out _) (by omega) (by omega) (by omega) (by omega)).mono ?_; rintro e w1 ⟨rfl, hb1⟩)
      go_ret
      exact ⟨rb (by unfold Rl.mayB; rw [d2]; simp), bthen (bnew (Below.refl _ _) _) hb1⟩
  · have d1 : decide (0 < r.cnt 32 1000) = false := by simpa using h1
    go_enter Try.func7, Try.ntmps7
    go_wp2_with (go_at_call 14; refine (count_N _ r (Nat.le_refl _) h3 [v0, v1, v2, v3, v4, v5, v6] F _ 32 1000 (HR.out _) (by omega) (by omega) (by omega) (by omega)).mono ?_; rintro e w1 ⟨rfl, hb1⟩)
    go_ret
    exact ⟨rb (by unfold Rl.mayB; rw [d1]; simp), bthen (bnew (Below.refl _ _) _) hb1⟩
end Go.Proofs.Ytlejmlkojohnbaa
