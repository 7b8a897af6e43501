/- The walks of 'fits' and 'rule.Check', and what they come to. -/
import Derived.Test.YtlejmlkojohnbaaAloneC
namespace Go.Proofs.Ytlejmlkojohnbaa
open Go.RowKit
attribute [local go_sem] run_store_float

mutual
/-- 'fits': whether, and what is left. -/
def Rl.fit : Rl → Int → Int → Bool × Int
  | .mk op n m x y s rs, nest, left => if nest = 0 ∨ left - 1 < 0 ∨ okB op n m x y s rs.length = false then (false, left - 1) else Rl.fitS rs (nest - 1) (left - 1)
def Rl.fitS : List Rl → Int → Int → Bool × Int
  | [], _, l => (true, l)
  | r :: rs, nest, l => if (r.fit nest l).1 = false then (false, (r.fit nest l).2) else Rl.fitS rs nest (r.fit nest l).2
end
mutual
theorem Rl.fit_bd : ∀ (r : Rl) (nest l : Int), l - r.size ≤ (r.fit nest l).2 ∧ (r.fit nest l).2 ≤ l - 1
  | .mk op n m x y s rs, nest, l => by
    unfold Rl.fit Rl.size
    split
    · simp; omega
    · have := Rl.fitS_bd rs (nest - 1) (l - 1)
      omega
theorem Rl.fitS_bd : ∀ (rs : List Rl) (nest l : Int), l - Rl.sizes rs ≤ (Rl.fitS rs nest l).2 ∧ (Rl.fitS rs nest l).2 ≤ l
  | [], nest, l => by unfold Rl.fitS Rl.sizes; simp
  | r :: rs, nest, l => by
    unfold Rl.fitS Rl.sizes
    have h1 := Rl.fit_bd r nest l
    split
    · simp; omega
    · have := Rl.fitS_bd rs nest (r.fit nest l).2
      omega
end
mutual
theorem Rl.fit_nn : ∀ (r : Rl) (nest l : Int), (r.fit nest l).1 = true → 0 ≤ (r.fit nest l).2
  | .mk op n m x y s rs, nest, l => by
    unfold Rl.fit
    split
    · intro h; cases h
    · rename_i h0
      intro h
      exact Rl.fitS_nn rs (nest - 1) (l - 1) (by
        rcases Int.lt_or_le (l - 1) 0 with h1 | h1
        · exact absurd (.inr (.inl h1)) h0
        · exact h1) h
theorem Rl.fitS_nn : ∀ (rs : List Rl) (nest l : Int), 0 ≤ l → (Rl.fitS rs nest l).1 = true → 0 ≤ (Rl.fitS rs nest l).2
  | [], nest, l => fun h _ => by unfold Rl.fitS; exact h
  | r :: rs, nest, l => by
    unfold Rl.fitS
    intro h0
    split
    · intro h; cases h
    · rename_i h1
      exact Rl.fitS_nn rs nest _ (Rl.fit_nn r nest l (by simpa using h1))
end
theorem Rl.fitS_drop (rs : List Rl) (k : Nat) (hk : k < rs.length) (nest l : Int) (h : (rs[k].fit nest l).1 = true) : Rl.fitS (rs.drop k) nest l = Rl.fitS (rs.drop (k + 1)) nest (rs[k].fit nest l).2 := by
  rw [List.drop_eq_getElem_cons hk]
  conv => lhs; unfold Rl.fitS
  rw [if_neg (by rw [h]; simp)]
theorem Rl.fitS_bad (rs : List Rl) (k : Nat) (hk : k < rs.length) (nest l : Int) (h : (rs[k].fit nest l).1 = false) : Rl.fitS (rs.drop k) nest l = (false, (rs[k].fit nest l).2) := by
  rw [List.drop_eq_getElem_cons hk]
  unfold Rl.fitS
  rw [if_pos h]

def FitsIs (r : Rl) (nest left : Int) (p : Addr) (w : World) (e : Ending) (w' : World) : Prop :=
  e = .returned (.bool (r.fit nest left).1) ∧ w'.cell? p = some (.int .i64 (r.fit nest left).2) ∧ w'.frozen? p = false ∧ Wr (fun k => k = p.block) w w'

/-- The number is stored, and nothing else that was there turns. -/
theorem fits_fin {w W : World} {pb po : Nat} {u u' : Value} (hp : w.cell? ⟨pb, po, none⟩ = some u) (hpf : w.frozen? ⟨pb, po, none⟩ = false) (hb : Below (w.setCell ⟨pb, po, none⟩ u').heap.size (w.setCell ⟨pb, po, none⟩ u') W) :
    W.cell? ⟨pb, po, none⟩ = some u' ∧ W.frozen? ⟨pb, po, none⟩ = false ∧ Wr (fun k => k = pb) w W := by
  have hl : pb < (w.setCell ⟨pb, po, none⟩ u').heap.size := by
    have := World.block_lt_of_cell? w _ hp
    simpa [World.setCell] using this
  refine ⟨(hb.cell (p := ⟨pb, po, none⟩) hl).trans (World.cell?_setCell_same w _ _ hp), (hb.frozen (p := ⟨pb, po, none⟩) hl).trans ((World.frozen?_setCell w _ _ _).trans hpf), ?_⟩
  exact Wr.andThen (Wr.setCell (p := ⟨pb, po, none⟩) (Wr.refl (fun k => k = pb) w) (.inl rfl) u') (Wr.of_below hb fun _ => False) fun _ _ h => h.elim

set_option maxRecDepth 100000 in
set_option maxHeartbeats 1000000 in
theorem fits_N (N : Nat) : ∀ (r : Rl) (_ : r.size ≤ N) (_ : r.size ≤ 3000) (_ : r.wf) (c : List Value) (F : List Nat) (w : World) (nest left : Int) (pb po : Nat) (_ : r.tr.own 7 w c F) (_ : 0 ≤ nest) (_ : nest ≤ 32) (_ : 0 ≤ left) (_ : left ≤ 1000)
    (_ : w.cell? ⟨pb, po, none⟩ = some (.int .i64 left)) (_ : w.frozen? ⟨pb, po, none⟩ = false) (_ : ∀ b ∈ F, b ≠ pb),
    Calls Try.prog 16 #[.agg c.toArray, .int .i64 nest, .pointer (some ⟨pb, po, none⟩)] w (FitsIs r nest left ⟨pb, po, none⟩ w) := by
  induction N with
  | zero => intro r hN; have := r.size_pos; omega
  | succ N ih =>
  intro r hN h3 hwf c F w nest left pb po hr g0 g1 g2 g3 hp hpf hpF
  obtain ⟨op, n, m, x, y, s, rs⟩ := r
  obtain ⟨a, cap, rfl, hcap, hcap', hc⟩ := Rl.open hr
  clear hr
  unfold Rl.size at hN h3
  unfold Rl.wf at hwf
  obtain ⟨_, _, _, wn, _, _, wx, wy, wfs⟩ := hwf
  have hlen := Rl.sizes_len rs
  have IH := Lib.hid ih
  have HPF := Lib.hid hpF
  have HX := Lib.hid wx
  have HY := Lib.hid wy
  have hpl : pb < w.heap.size := World.block_lt_of_cell? w _ hp
  clear ih hpF wx wy
  by_cases hn0 : nest = 0
  · have hd : (nest == 0) = true := by simpa using hn0
    have HN := Lib.hid hn0
    clear hn0
    go_enter Try.func16, Try.ntmps16
    go_wp2_with fail
    go_ret
    have hfit : (Rl.mk op n m x y s rs).fit nest left = (false, left - 1) := by unfold Rl.fit; rw [if_pos (.inl HN.out)]
    unfold FitsIs
    rw [hfit]
    exact ⟨rfl, fits_fin hp hpf (bnew (Below.refl _ _) _)⟩
  have hd : (nest == 0) = false := by simpa using hn0
  have HN := Lib.hid hn0
  clear hn0
  by_cases hneg : left - 1 < 0
  · go_enter Try.func16, Try.ntmps16
    go_wp2_with fail
    go_ret
    have hfit : (Rl.mk op n m x y s rs).fit nest left = (false, left - 1) := by unfold Rl.fit; rw [if_pos (.inr (.inl hneg))]
    unfold FitsIs
    rw [hfit]
    exact ⟨rfl, fits_fin hp hpf (bnew (Below.refl _ _) _)⟩
  have hdl : decide (left - 1 < 0) = false := by simpa using hneg
  cases hok : okB op n m x y s rs.length
  · have HO := Lib.hid hok
    clear hok
    go_enter Try.func16, Try.ntmps16
    go_wp2_with (go_at_call 18; refine (alone_any _ _ _ _ _ _ _ _ _ _ wn HX.out HY.out).mono ?_; rintro e w1 ⟨rfl, hb1⟩; rw [HO.out])
    go_ret
    have hfit : (Rl.mk op n m x y s rs).fit nest left = (false, left - 1) := by unfold Rl.fit; rw [if_pos (.inr (.inr HO.out))]
    unfold FitsIs
    rw [hfit]
    exact ⟨rfl, fits_fin hp hpf (bthen (bnew (Below.refl _ _) _) hb1)⟩
  have hfit : (Rl.mk op n m x y s rs).fit nest left = Rl.fitS rs (nest - 1) (left - 1) := by
    unfold Rl.fit
    rw [if_neg]
    rintro (h | h | h)
    · exact HN.out h
    · exact hneg h
    · rw [hok] at h; cases h
  have HO := Lib.hid hok
  have HFIT := Lib.hid hfit
  clear hok hfit hneg
  go_enter Try.func16, Try.ntmps16
  go_wp2_with (go_at_call 18; refine (alone_any _ _ _ _ _ _ _ _ _ _ wn HX.out HY.out).mono ?_; rintro e w1 ⟨rfl, hb1⟩; rw [HO.out]; have hcell6 := (hb1.cell (p := ⟨w.heap.size, 6, none⟩) (by simp [World.setCell])).trans (cell_top (w.setCell ⟨pb, po, none⟩ (.int .i64 (left - 1))) _ _ w.heap.size 6 (size_set _ _ _).symm))
  obtain ⟨p1, p2, p3⟩ := fits_fin hp hpf (bthen (bnew (Below.refl _ _) _) hb1)
  go_loopw [30] (fun u30 wr => ∃ (k : Nat) (l : Int), k ≤ rs.length ∧ u30 = .int .i64 k ∧ 0 ≤ l ∧ l ≤ 1000 ∧ Hid (Rl.fitS (rs.drop k) (nest - 1) l = Rl.fitS rs (nest - 1) (left - 1)) ∧ Wr (fun i => i = pb) w wr ∧
    wr.cell? ⟨pb, po, none⟩ = some (.int .i64 l) ∧ wr.frozen? ⟨pb, po, none⟩ = false) (fun u30 _ => rs.length - (intOf u30).toNat)
  case atStart => exact ⟨0, left - 1, by omega, rfl, by simp at hdl; omega, by omega, rfl, p3, p1, p2⟩
  case round =>
    obtain ⟨k, l, hk, rfl, l0, l1, hf, hw, q1, q2⟩ := hrel
    have HDL := Lib.hid hdl
    clear hdl p1 p2 p3 hb1 hcell6 hp hpf
    by_cases hlt : k < rs.length
    · rcases hc with ⟨h0', _⟩ | ⟨_, b, o, cs, F', rfl, rfl, hra, hkl⟩
      · omega
      have hbl : b < w.heap.size := rangeAt_lt hra (by rw [Tr.ownL_len hkl, Rl.trs_len]; omega)
      have hra' := rangeAt_of_block hra (hw.block b hbl (HPF.out b (by simp)))
      have hkl' := Tr.ownL_wr hkl hw (fun i hi => HPF.out i (by simp [hi]))
      obtain ⟨kop, kn, km, kx, ky, ks, krs, ka, kcap, Fa, F1, Fb, hF, hke, hkid, c0, c1, c2, c3, c4, c5, c6⟩ := Rl.kidO k hlt hkl' hra'
      have HPF1 := Lib.hid (fun i (hi : i ∈ F1) => HPF.out i (by rw [hF]; simp [hi]))
      have HZ := Rl.sizes_at rs k hlt
      have HW := Lib.hid (Rl.wfs_at rs k hlt wfs)
      have hbd := Rl.fit_bd rs[k] (nest - 1) l
      have hpl' : pb < wr.heap.size := World.block_lt_of_cell? wr _ q1
      clear hra hkl hra' hkl' hF hke
      have hno : 0 ≤ nest - 1 := by have := HN.out; omega
      have r1 := Lib.hid (fun ob => (cell_new wr ob ⟨pb, po, none⟩ hpl').trans q1)
      have r2 := Lib.hid (fun ob => (frozen_new wr ob ⟨pb, po, none⟩ hpl').trans q2)
      have r3 := Lib.hid (fun ob => Tr.own_below hkid (bnew (Below.refl _ wr) ob))
      cases hft : (rs[k].fit (nest - 1) l).1
      · have HFT := Lib.hid hft
        clear hft
        go_wp2_with (go_at_call 16; refine (IH.out rs[k] (by omega) (by omega) HW.out [.int .u8 kop, .int .i64 kn, .int .i64 km, .float .f64 kx, .float .f64 ky, .string ks, .slice ka krs.length kcap] F1 _ (nest - 1) l pb po (r3.out _) (by omega) (by omega) (by omega) (by omega) (r1.out _) (r2.out _) HPF1.out).mono ?_; rintro e w' ⟨rfl, s1, s2, hb'⟩; rw [HFT.out])
        go_ret
        unfold FitsIs
        rw [HFIT.out, ← hf.out, Rl.fitS_bad rs k hlt _ _ HFT.out]
        exact ⟨rfl, s1, s2, Wr.andThen (hw.alloc _) hb' fun _ _ h => h⟩
      · have HFT := Lib.hid hft
        have hnn := Rl.fit_nn _ _ _ hft
        clear hft
        go_wp2_with (go_at_call 16; refine (IH.out rs[k] (by omega) (by omega) HW.out [.int .u8 kop, .int .i64 kn, .int .i64 km, .float .f64 kx, .float .f64 ky, .string ks, .slice ka krs.length kcap] F1 _ (nest - 1) l pb po (r3.out _) (by omega) (by omega) (by omega) (by omega) (r1.out _) (r2.out _) HPF1.out).mono ?_; rintro e w' ⟨rfl, s1, s2, hb'⟩; rw [HFT.out])
        go_roundw
        case rel => exact ⟨k + 1, (rs[k].fit (nest - 1) l).2, by omega, by go_num, by omega, by omega, (Rl.fitS_drop rs k hlt _ _ HFT.out).symm.trans hf, Wr.andThen (hw.alloc _) hb' fun _ _ h => h, s1, s2⟩
        case measure => simp [intOf]; omega
    · obtain rfl : k = rs.length := by omega
      go_wp2_with fail
      go_ret
      unfold FitsIs
      rw [HFIT.out, ← hf.out]
      simp only [List.drop_length]
      unfold Rl.fitS
      exact ⟨rfl, q1, q2, hw⟩

theorem _root_.Go.RowKit.Below.of_alloc2 {w W : World} {a b : Obj} (h : Below w.heap.size ((w.alloc a).alloc b) W) : Below w.heap.size w W := (bnew (bnew (Below.refl _ w) a) b).trans h
def Rl.checkN (r : Rl) : Int := if (r.fit 32 1000).1 = true then 0 else 220
set_option maxHeartbeats 400000 in
theorem Check_any (r : Rl) (h3 : r.size ≤ 3000) (hwf : r.wf) (c : List Value) (F : List Nat) (w : World) (hr : r.tr.own 7 w c F) :
    Calls Try.prog 12 #[.agg c.toArray] w fun e w' => e = .returned (.int .i64 r.checkN) ∧ Below w.heap.size w w' := by
  obtain ⟨v0, v1, v2, v3, v4, v5, v6, rfl⟩ := Rl.shape hr
  have hlt := Tr.own_lt _ _ _ hr
  have HR := Lib.hid (fun o1 o2 => Tr.own_below (Tr.own_below hr (bnew (Below.refl _ w) o1)) (bnew (Below.refl _ _) o2))
  have HL := Lib.hid hlt
  have HW := Lib.hid hwf
  clear hr hlt hwf
  have hp1 := Lib.hid (fun o1 => cell_top (w.alloc o1) #[.int .i64 1000] 3 (w.heap.size + 1) 0 (by simp))
  have hp2 : Hid (∀ o1, ((w.alloc o1).alloc (.cells #[.int .i64 1000] 3)).frozen? ⟨w.heap.size + 1, 0, none⟩ = false) := fun o1 => by
    have h := heap_alloc2_new w o1 (.cells #[.int .i64 1000] 3)
    unfold World.frozen?
    simp only
    rw [h]
    rfl
  cases hft : (r.fit 32 1000).1
  · have HFT := Lib.hid hft
    clear hft
    go_enter Try.func12, Try.ntmps12
    go_wp2_with (go_at_call 16; refine (fits_N _ r (Nat.le_refl _) h3 HW.out [v0, v1, v2, v3, v4, v5, v6] F _ 32 1000 (w.heap.size + 1) 0 (HR.out _ _) (by omega) (by omega) (by omega) (by omega) (hp1.out _) (hp2.out _) (fun i hi => by have := HL.out i hi; omega)).mono ?_; rintro e w' ⟨rfl, s1, s2, hb'⟩; rw [HFT.out])
    go_ret
    refine ⟨ri (by unfold Rl.checkN; rw [if_neg (by rw [HFT.out]; simp)]), (Wr.below (B := w.heap.size) hb' (by simp; omega) (by rintro i rfl; simp)).of_alloc2⟩
  · have HFT := Lib.hid hft
    clear hft
    go_enter Try.func12, Try.ntmps12
    go_wp2_with (go_at_call 16; refine (fits_N _ r (Nat.le_refl _) h3 HW.out [v0, v1, v2, v3, v4, v5, v6] F _ 32 1000 (w.heap.size + 1) 0 (HR.out _ _) (by omega) (by omega) (by omega) (by omega) (hp1.out _) (hp2.out _) (fun i hi => by have := HL.out i hi; omega)).mono ?_; rintro e w' ⟨rfl, s1, s2, hb'⟩; rw [HFT.out])
    go_ret
    refine ⟨ri (by unfold Rl.checkN; rw [if_pos HFT.out]), (Wr.below (B := w.heap.size) hb' (by simp; omega) (by rintro i rfl; simp)).of_alloc2⟩
end Go.Proofs.Ytlejmlkojohnbaa
