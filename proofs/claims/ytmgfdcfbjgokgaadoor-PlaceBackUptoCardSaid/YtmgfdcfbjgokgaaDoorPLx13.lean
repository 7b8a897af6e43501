/- Printed by a program of this session (wip/pr/drive.py) over the kit's print: L. -/
import Derived.Test.YtmgfdcfbjgokgaaDoorPLx0
import Derived.Test.YtmgfdcfbjgokgaaDoorPLx7
import Derived.Test.YtmgfdcfbjgokgaaDoorPLx12
namespace Go.Proofs.YtmgfdcfbjgokgaaDoor.PL
open Go.RowKit Go.Proofs.YtmgfdcfbjgokgaaDoorW.PrintWords Go.Proofs.YtmgfdcfbjgokgaaDoorW.PrintLast Go.Proofs.YtmgfdcfbjgokgaaDoorW.PrintMore
attribute [local go_sem] max2_int min2_int max_two min_two max_three min_three max_four min_four   -- for this text's walks alone
set_option linter.unusedVariables false
set_option linter.unusedSimpArgs false

/-! ### place_block: function 60 -/
mutual
def place_block.l0 : Nat → List (S60) → Int → Int → Int → Option (Int × Int)
  | 0, _, _, _, _ => none
  | k + 1, x0, x4, x5, x6 => if x6 ≤ 8 then (place_block.j1 k x0 x4 x5 x6 (decide ((wrap64 (2 * x6)) ≤ (x0.length : Int)))) else (place_block.j1 k x0 x4 x5 x6 false)
def place_block.j1 : Nat → List (S60) → Int → Int → Int → Bool → Option (Int × Int)
  | 0, _, _, _, _, _ => none
  | k + 1, x0, x4, x5, x6, x16 => if x16 = true then (place_block.l1 k x0 x4 x5 x6 1) else (some (x4, x5))
def place_block.l1 : Nat → List (S60) → Int → Int → Int → Int → Option (Int × Int)
  | 0, _, _, _, _, _ => none
  | k + 1, x0, x4, x5, x6, x7 => if (wrap64 ((wrap64 (x7 + 1)) * x6)) ≤ (x0.length : Int) then (if 0 ≤ (wrap64 (x7 * x6)) then (if (wrap64 (x7 * x6)) ≤ (wrap64 ((wrap64 (x7 + 1)) * x6)) then (if 0 ≤ x6 then (if x6 ≤ (x0.length : Int) then ((place_Place_87.f k ((x0.take ((wrap64 ((wrap64 (x7 + 1)) * x6)) : Int).toNat).drop ((wrap64 (x7 * x6)) : Int).toNat) (x0.take (x6 : Int).toNat)).bind fun t286 => (if t286 = true then (place_block.l1 k x0 x4 x5 x6 (wrap64 (x7 + 1))) else (if x7 > 1 then (if (wrap64 (x6 * x7)) > (wrap64 (x4 * x5)) then (place_block.l0 k x0 x6 x7 (wrap64 (x6 + 1))) else (place_block.l0 k x0 x4 x5 (wrap64 (x6 + 1)))) else (place_block.l0 k x0 x4 x5 (wrap64 (x6 + 1)))))) else (none)) else (none)) else (none)) else (none)) else (if x7 > 1 then (if (wrap64 (x6 * x7)) > (wrap64 (x4 * x5)) then (place_block.l0 k x0 x6 x7 (wrap64 (x6 + 1))) else (place_block.l0 k x0 x4 x5 (wrap64 (x6 + 1)))) else (place_block.l0 k x0 x4 x5 (wrap64 (x6 + 1))))
end
def place_block.f (k : Nat) (l0 : List (S60)) : Option (Int × Int) := place_block.l0 k l0 0 0 1
theorem place_block.mono_l : ∀ k, (∀ y0 y1 y2 y3, LeO (place_block.l0 k y0 y1 y2 y3) (place_block.l0 (k + 1) y0 y1 y2 y3)) ∧ (∀ y0 y1 y2 y3 y4, LeO (place_block.j1 k y0 y1 y2 y3 y4) (place_block.j1 (k + 1) y0 y1 y2 y3 y4)) ∧ (∀ y0 y1 y2 y3 y4, LeO (place_block.l1 k y0 y1 y2 y3 y4) (place_block.l1 (k + 1) y0 y1 y2 y3 y4))
  | 0 => ⟨fun _ _ _ _ r h => by simp [place_block.l0] at h, fun _ _ _ _ _ r h => by simp [place_block.j1] at h, fun _ _ _ _ _ r h => by simp [place_block.l1] at h⟩
  | k + 1 => by
    obtain ⟨ih0, ih1, ih2⟩ := place_block.mono_l k
    refine ⟨?_, ?_, ?_⟩
    · intro y0 y1 y2 y3
      unfold place_block.l0
      repeat' first
      | (with_reducible exact ih0 _ _ _ _)
      | (with_reducible exact ih1 _ _ _ _ _)
      | (with_reducible exact ih2 _ _ _ _ _)
      | (with_reducible exact place_Place_87.mono _ _ _)
      | (with_reducible exact LeO.refl _)
      | (with_reducible exact LeO.none _)
      | (with_reducible refine LeO.ite ?_ ?_)
      | (with_reducible refine LeO.bind ?_ (fun _ => ?_))
      | exact ih0 _ _ _ _
      | exact ih1 _ _ _ _ _
      | exact ih2 _ _ _ _ _
      | exact place_Place_87.mono _ _ _
      | exact LeO.none _
      | refine LeO.ite ?_ ?_
      | refine LeO.bind ?_ (fun _ => ?_)
    · intro y0 y1 y2 y3 y4
      unfold place_block.j1
      repeat' first
      | (with_reducible exact ih0 _ _ _ _)
      | (with_reducible exact ih1 _ _ _ _ _)
      | (with_reducible exact ih2 _ _ _ _ _)
      | (with_reducible exact place_Place_87.mono _ _ _)
      | (with_reducible exact LeO.refl _)
      | (with_reducible exact LeO.none _)
      | (with_reducible refine LeO.ite ?_ ?_)
      | (with_reducible refine LeO.bind ?_ (fun _ => ?_))
      | exact ih0 _ _ _ _
      | exact ih1 _ _ _ _ _
      | exact ih2 _ _ _ _ _
      | exact place_Place_87.mono _ _ _
      | exact LeO.none _
      | refine LeO.ite ?_ ?_
      | refine LeO.bind ?_ (fun _ => ?_)
    · intro y0 y1 y2 y3 y4
      unfold place_block.l1
      repeat' first
      | (with_reducible exact ih0 _ _ _ _)
      | (with_reducible exact ih1 _ _ _ _ _)
      | (with_reducible exact ih2 _ _ _ _ _)
      | (with_reducible exact place_Place_87.mono _ _ _)
      | (with_reducible exact LeO.refl _)
      | (with_reducible exact LeO.none _)
      | (with_reducible refine LeO.ite ?_ ?_)
      | (with_reducible refine LeO.bind ?_ (fun _ => ?_))
      | exact ih0 _ _ _ _
      | exact ih1 _ _ _ _ _
      | exact ih2 _ _ _ _ _
      | exact place_Place_87.mono _ _ _
      | exact LeO.none _
      | refine LeO.ite ?_ ?_
      | refine LeO.bind ?_ (fun _ => ?_)
theorem place_block.mono : ∀ a0 k, LeO (place_block.f k a0) (place_block.f (k + 1) a0) := by
  intro a0 k
  obtain ⟨ih0, ih1, ih2⟩ := place_block.mono_l k
  unfold place_block.f
  repeat' first
      | (with_reducible exact ih0 _ _ _ _)
      | (with_reducible exact ih1 _ _ _ _ _)
      | (with_reducible exact ih2 _ _ _ _ _)
      | (with_reducible exact place_Place_87.mono _ _ _)
      | (with_reducible exact LeO.refl _)
      | (with_reducible exact LeO.none _)
      | (with_reducible refine LeO.ite ?_ ?_)
      | (with_reducible refine LeO.bind ?_ (fun _ => ?_))
      | exact ih0 _ _ _ _
      | exact ih1 _ _ _ _ _
      | exact ih2 _ _ _ _ _
      | exact place_Place_87.mono _ _ _
      | exact LeO.none _
      | refine LeO.ite ?_ ?_
      | refine LeO.bind ?_ (fun _ => ?_)
set_option maxHeartbeats 8000000 in
set_option maxRecDepth 100000 in
theorem place_block.calls (k : Nat) (A0 : Option Addr) (c0 : Nat) (l0 : List (S60)) (r1 : Int) (r2 : Int) (w : World) (hr0 : Kd.C k60 w A0 l0.length l0) (hc0 : l0.length ≤ c0) (h : place_block.f k l0 = some (r1, r2)) :
    Calls Tryd.prog 60 #[.slice A0 l0.length c0] w fun e w' => e = .returned (.tuple #[.int .i64 r1, .int .i64 r2]) ∧ Drawn0 w w' := by
  have HR0 := Aside0.mk hr0
  have HC0 := Aside0.mk hc0
  clear hr0 hc0
  have H : (place_block.l0 k l0 0 0 1) = some (r1, r2) := h
  clear h
  have H' := Aside0.mk H
  clear H
  go_enter Tryd.func60, Tryd.ntmps60
  go_wp2
  repeat (go_quiet (fail); try go_wp2)
  go_loopg [4, 5, 6] k (fun kq v4 v5 v6 w' => ∃ (x4_1 : Int) (x5_1 : Int) (x6_1 : Int), v4 = .int .i64 x4_1 ∧ v5 = .int .i64 x5_1 ∧ v6 = .int .i64 x6_1 ∧ Aside0 (place_block.l0 kq l0 x4_1 x5_1 x6_1 = some (r1, r2)) ∧ Aside0 (kq ≤ k) ∧ Drawn0 w w')
  case atStart => exact ⟨(0), (0), (1), (by first | rfl | (simp; done) | (simp [*]; done)), (by first | rfl | (simp; done) | (simp [*]; done)), (by first | rfl | (simp; done) | (simp [*]; done)), H', ⟨Nat.le_refl _⟩, by repeat (first | exact Drawn0.refl _ | apply Drawn0.step)⟩
  case round =>
    clear H'
    obtain ⟨x4_1, x5_1, x6_1, rfl, rfl, rfl, HA, HK1, ⟨m1, rfl⟩⟩ := hrel
    cases gk with
    | zero => exact absurd HA.out (by simp [place_block.l0])
    | succ k1 =>
      have H := HA.out
      clear HA
      simp only [place_block.l0] at H
      have HC2 := Aside0.mk H
      clear H
      go_upto_region 3 with (fail)
      repeat (go_quiet (fail); go_upto_region 3 with (fail))
      go_cut [16] (fun v16 wc => ∃ (kq : Nat) (x16_1 : Bool), v16 = .bool x16_1 ∧ Aside0 (place_block.j1 kq l0 x4_1 x5_1 x6_1 x16_1 = some (r1, r2)) ∧ Aside0 (kq ≤ k1) ∧ Drawn0 w wc)
      case first =>
        have H := HC2.out
        clear HC2
        by_cases c3 : x6_1 ≤ 8
        · rw [if_pos c3] at H
          have c3b0 : decide (x6_1 ≤ 8) = true := decide_eq_true c3
          clear c3
          (first | rw [c3b0] | (simp only [i64_w, i32_w]; rw [c3b0]) | skip)
          have H' := Aside0.mk H
          clear H
          go_wp2
          repeat (go_quiet (fail); try go_wp2)
          go_meet
          case rel => exact ⟨_, (decide ((wrap64 (2 * x6_1)) ≤ (l0.length : Int))), (by first | rfl | (simp; done) | (simp [*]; done)), H', ⟨by have := HK1.out; first | omega | exact Nat.le_refl _⟩, by repeat (first | exact Drawn0.refl _ | apply Drawn0.step)⟩
        · rw [if_neg c3] at H
          have c3b0 : decide (x6_1 ≤ 8) = false := decide_eq_false c3
          clear c3
          (first | rw [c3b0] | (simp only [i64_w, i32_w]; rw [c3b0]) | skip)
          have H' := Aside0.mk H
          clear H
          go_wp2
          repeat (go_quiet (fail); try go_wp2)
          go_meet
          case rel => exact ⟨_, (false), (by first | rfl | (simp; done) | (simp [*]; done)), H', ⟨by have := HK1.out; first | omega | exact Nat.le_refl _⟩, by repeat (first | exact Drawn0.refl _ | apply Drawn0.step)⟩
      case rest =>
        clear HC2
        try clear p2
        try clear c3
        try clear c3b0
        obtain ⟨kq, x16_1, rfl, HA, HJ1, ⟨mc1, rfl⟩⟩ := hcut
        cases kq with
        | zero => exact absurd HA.out (by simp [place_block.j1])
        | succ kj1 =>
          have H := HA.out
          clear HA
          simp only [place_block.j1] at H
          by_cases c4 : x16_1 = true
          · subst c4
            have H1 : (place_block.l1 kj1 l0 x4_1 x5_1 x6_1 1) = some (r1, r2) := by rw [if_pos rfl] at H; exact H
            clear H
            have H := H1
            clear H1
            have H' := Aside0.mk H
            clear H
            go_wp2
            repeat (go_quiet (fail); try go_wp2)
            go_loopg [7] kj1 (fun kq v7 w' => ∃ (x7_3 : Int), v7 = .int .i64 x7_3 ∧ Aside0 (place_block.l1 kq l0 x4_1 x5_1 x6_1 x7_3 = some (r1, r2)) ∧ Aside0 (kq ≤ kj1) ∧ Drawn0 w w')
            case atStart => exact ⟨(1), (by first | rfl | (simp; done) | (simp [*]; done)), H', ⟨Nat.le_refl _⟩, by repeat (first | exact Drawn0.refl _ | apply Drawn0.step)⟩
            case round =>
              clear H'
              try clear c1
              try clear p2
              try clear c3
              try clear c3b0
              try clear c4
              try clear p2
              obtain ⟨x7_3, rfl, HA, HK3, ⟨m3, rfl⟩⟩ := hrel
              cases gk with
              | zero => exact absurd HA.out (by simp [place_block.l1])
              | succ k3 =>
                have H := HA.out
                clear HA
                simp only [place_block.l1] at H
                by_cases c5 : (wrap64 ((wrap64 (x7_3 + 1)) * x6_1)) ≤ (l0.length : Int)
                · rw [if_pos c5] at H
                  have c5b0 : decide ((wrap64 ((wrap64 (x7_3 + 1)) * x6_1)) ≤ (l0.length : Int)) = true := decide_eq_true c5
                  clear c5
                  obtain ⟨ji6, hji6⟩ : ∃ j_ : Int, (wrap64 (x7_3 * x6_1)) = j_ := ⟨_, rfl⟩
                  replace H : (if 0 ≤ (ji6) then (if (ji6) ≤ (wrap64 ((wrap64 (x7_3 + 1)) * x6_1)) then (if 0 ≤ x6_1 then (if x6_1 ≤ (l0.length : Int) then ((place_Place_87.f k3 ((l0.take ((wrap64 ((wrap64 (x7_3 + 1)) * x6_1)) : Int).toNat).drop ((ji6) : Int).toNat) (l0.take (x6_1 : Int).toNat)).bind fun t286 => (if t286 = true then (place_block.l1 k3 l0 x4_1 x5_1 x6_1 (wrap64 (x7_3 + 1))) else (if x7_3 > 1 then (if (wrap64 (x6_1 * x7_3)) > (wrap64 (x4_1 * x5_1)) then (place_block.l0 k3 l0 x6_1 x7_3 (wrap64 (x6_1 + 1))) else (place_block.l0 k3 l0 x4_1 x5_1 (wrap64 (x6_1 + 1)))) else (place_block.l0 k3 l0 x4_1 x5_1 (wrap64 (x6_1 + 1)))))) else (none)) else (none)) else (none)) else (none)) = some (r1, r2) := by first | (rw [hji6] at H; exact H) | (simp only [hji6] at H ⊢; exact H)
                  have hji6w : (IntKind.i64.wrap (x7_3 * x6_1)) = ji6 := (i64_w _).trans hji6
                  by_cases c7 : 0 ≤ (ji6)
                  · rw [if_pos c7] at H
                    have c7b0 := eq_true c7
                    have c7b1 : decide (0 ≤ (ji6)) = true := decide_eq_true c7
                    clear c7
                    by_cases c8 : (ji6) ≤ (wrap64 ((wrap64 (x7_3 + 1)) * x6_1))
                    · rw [if_pos c8] at H
                      have c8b0 := eq_true c8
                      have c8b1 : decide ((ji6) ≤ (wrap64 ((wrap64 (x7_3 + 1)) * x6_1))) = true := decide_eq_true c8
                      have c9b0 := eq_true (of_decide_eq_true (by first | (with_reducible assumption) | assumption) : (wrap64 ((wrap64 (x7_3 + 1)) * x6_1)) ≤ (l0.length : Int))
                      obtain ⟨y278, hy278⟩ : ∃ y_ : List (S60), y_ = ((l0.take ((wrap64 ((wrap64 (x7_3 + 1)) * x6_1)) : Int).toNat).drop ((ji6) : Int).toNat) := ⟨_, rfl⟩
                      replace H : (if 0 ≤ x6_1 then (if x6_1 ≤ (l0.length : Int) then ((place_Place_87.f k3 y278 (l0.take (x6_1 : Int).toNat)).bind fun t286 => (if t286 = true then (place_block.l1 k3 l0 x4_1 x5_1 x6_1 (wrap64 (x7_3 + 1))) else (if x7_3 > 1 then (if (wrap64 (x6_1 * x7_3)) > (wrap64 (x4_1 * x5_1)) then (place_block.l0 k3 l0 x6_1 x7_3 (wrap64 (x6_1 + 1))) else (place_block.l0 k3 l0 x4_1 x5_1 (wrap64 (x6_1 + 1)))) else (place_block.l0 k3 l0 x4_1 x5_1 (wrap64 (x6_1 + 1)))))) else (none)) else (none)) = some (r1, r2) := by first | (rw [hy278]; with_reducible exact H) | (have H2_ := (Option.bind_some _ _).symm.trans H; rw [hy278]; with_reducible exact H2_) | (have H2_ := (Option.bind_some _ _).symm.trans H; with_reducible exact H2_) | with_reducible exact H | (rw [hy278]; exact H) | exact H
                      have Ny278 := Aside0.mk hy278
                      clear hy278
                      by_cases c10 : 0 ≤ x6_1
                      · rw [if_pos c10] at H
                        have c10b0 := eq_true c10
                        have c10b1 : decide (0 ≤ x6_1) = true := decide_eq_true c10
                        clear c10
                        by_cases c11 : x6_1 ≤ (l0.length : Int)
                        · rw [if_pos c11] at H
                          have c11b0 := eq_true c11
                          have c11b1 : decide (x6_1 ≤ (l0.length : Int)) = true := decide_eq_true c11
                          clear c11
                          obtain ⟨y282, hy282⟩ : ∃ y_ : List (S60), y_ = (l0.take (x6_1 : Int).toNat) := ⟨_, rfl⟩
                          replace H : ((place_Place_87.f k3 y278 y282).bind fun t286 => (if t286 = true then (place_block.l1 k3 l0 x4_1 x5_1 x6_1 (wrap64 (x7_3 + 1))) else (if x7_3 > 1 then (if (wrap64 (x6_1 * x7_3)) > (wrap64 (x4_1 * x5_1)) then (place_block.l0 k3 l0 x6_1 x7_3 (wrap64 (x6_1 + 1))) else (place_block.l0 k3 l0 x4_1 x5_1 (wrap64 (x6_1 + 1)))) else (place_block.l0 k3 l0 x4_1 x5_1 (wrap64 (x6_1 + 1)))))) = some (r1, r2) := by first | (rw [hy282]; with_reducible exact H) | (have H2_ := (Option.bind_some _ _).symm.trans H; rw [hy282]; with_reducible exact H2_) | (have H2_ := (Option.bind_some _ _).symm.trans H; with_reducible exact H2_) | with_reducible exact H | (rw [hy282]; exact H) | exact H
                          have Ny282 := Aside0.mk hy282
                          clear hy282
                          replace H := Option.bind_eq_some_iff.mp H
                          obtain ⟨t286, A120, H⟩ := H
                          replace H : (if t286 = true then (place_block.l1 k3 l0 x4_1 x5_1 x6_1 (wrap64 (x7_3 + 1))) else (if x7_3 > 1 then (if (wrap64 (x6_1 * x7_3)) > (wrap64 (x4_1 * x5_1)) then (place_block.l0 k3 l0 x6_1 x7_3 (wrap64 (x6_1 + 1))) else (place_block.l0 k3 l0 x4_1 x5_1 (wrap64 (x6_1 + 1)))) else (place_block.l0 k3 l0 x4_1 x5_1 (wrap64 (x6_1 + 1))))) = some (r1, r2) := H
                          have A12 := Aside0.mk A120
                          clear A120
                          by_cases c13 : t286 = true
                          · subst c13
                            have H1 : (place_block.l1 k3 l0 x4_1 x5_1 x6_1 (wrap64 (x7_3 + 1))) = some (r1, r2) := by rw [if_pos rfl] at H; exact H
                            clear H
                            have H := H1
                            clear H1
                            have H' := Aside0.mk H
                            clear H
                            have q14 : ((wrap64 ((wrap64 (x7_3 + 1)) * x6_1)) : Int) ≤ ((l0.length : Int) : Int) := of_decide_eq_true (by first | (with_reducible assumption) | assumption)
                            obtain ⟨i014, hi014, _, hsz14, _⟩ := info_parts info60
                            have hroom14 : l0.length ≤ c0 := HC0.out
                            have hC14 : Kd.C k60 _ A0 l0.length l0 := HR0.out
                            have ql14 : ((ji6) : Int) ≤ ((wrap64 ((wrap64 (x7_3 + 1)) * x6_1)) : Int) := of_decide_eq_true (by first | (with_reducible assumption) | assumption)
                            have q014 : (0 : Int) ≤ ((ji6) : Int) := of_decide_eq_true (by first | (with_reducible assumption) | assumption)
                            have hcut14 := cut_mid (P := Tryd.prog) 23 60 .i64 .i64 Tryd.underlying23 hi014 2 hsz14 A0 l0.length c0 (ji6) (wrap64 ((wrap64 (x7_3 + 1)) * x6_1)) q014 ql14 q14 hroom14
                            have hr14 := Kd.C_mid (lo := ((ji6) : Int).toNat) (hi := ((wrap64 ((wrap64 (x7_3 + 1)) * x6_1)) : Int).toNat) (c := c0) hC14 (by omega) (by omega) hroom14
                            obtain ⟨A14, hA14⟩ : ∃ A1, A1 = (if c0 = ((ji6) : Int).toNat then A0 else (A0 : Option Addr).map (·.add (((ji6) : Int).toNat * 2))) := ⟨_, rfl⟩
                            obtain ⟨c14, hc14⟩ : ∃ c1, c1 = c0 - ((ji6) : Int).toNat := ⟨_, rfl⟩
                            have hy14 : y278.length = ((wrap64 ((wrap64 (x7_3 + 1)) * x6_1)) : Int).toNat - ((ji6) : Int).toNat := (by rw [Ny278.out, List.length_drop, List.length_take] <;> omega)
                            rw [show ((l0).take ((wrap64 ((wrap64 (x7_3 + 1)) * x6_1)) : Int).toNat).drop ((ji6) : Int).toNat = y278 from Ny278.out.symm] at hr14
                            replace hr14 : Kd.C k60 _ A14 y278.length y278 := (by rw [hA14]; exact hr14)
                            rw [← hy14, ← hA14, ← hc14] at hcut14
                            have HR281 := Aside0.mk hr14
                            have HC281 := Aside0.mk (show y278.length ≤ c14 from by rw [hy14, hc14]; exact Nat.sub_le_sub_right (Nat.le_trans (by omega) hroom14) _)
                            clear hr14 hC14 hroom14 hi014 hsz14 hc14
                            have KY14 := Aside0.mk hy14
                            have KA14 := Aside0.mk hA14
                            clear hy14 hA14
                            replace q14 := eq_true q14
                            have q15 : (x6_1 : Int) ≤ ((l0.length : Int) : Int) := of_decide_eq_true (by first | (with_reducible assumption) | assumption)
                            obtain ⟨i015, hi015, _, hsz15, _⟩ := info_parts info60
                            have hroom15 : l0.length ≤ c0 := HC0.out
                            have hC15 : Kd.C k60 _ A0 l0.length l0 := HR0.out
                            have hcut15 := cut_to (P := Tryd.prog) 23 60 .i64 Tryd.underlying23 hi015 A0 l0.length c0 x6_1 (of_decide_eq_true (by first | (with_reducible assumption) | assumption)) q15 hroom15
                            have hr15 := Kd.C_take (m := (x6_1 : Int).toNat) hC15 (by omega)
                            have hy15 : y282.length = (x6_1 : Int).toNat := (by rw [Ny282.out, List.length_take]; omega)
                            rw [← Ny282.out] at hr15
                            rw [← hy15] at hcut15
                            have HR285 := Aside0.mk hr15
                            have HC285 := Aside0.mk (show y282.length ≤ c0 from by omega)
                            clear hr15 hC15 hroom15 hi015 hsz15
                            have KY15 := Aside0.mk hy15
                            clear hy15
                            replace q15 := eq_true q15
                            go_wp2_with (first | (go_at_call 87; (with_reducible refine (place_Place_87.calls k3 _ _ y278 _ _ y282 true _ ?side1 ?side2 ?side3 ?side4 A12.out).mono ?_); (case side1 => repeat (first | exact HR281.out | (with_reducible refine Kd.C_alloc ?_ _) | (with_reducible refine Kd.C_drewN ?_ _) | (with_reducible refine Kd.C_drew ?_))); (case side2 => exact HC281.out); (case side3 => repeat (first | exact HR285.out | (with_reducible refine Kd.C_alloc ?_ _) | (with_reducible refine Kd.C_drewN ?_ _) | (with_reducible refine Kd.C_drew ?_))); (case side4 => exact HC285.out); rintro e w' ⟨rfl, ⟨nd, rfl⟩⟩; (try first | exact ⟨rfl, _, World.drewN_drewN _ _ _⟩ | exact ⟨rfl, _, Eq.trans (World.drewN_drewN _ _ _) (congrArg (World.drewN _) (Nat.add_assoc _ _ _))⟩)))
                            repeat (go_quiet (first | (go_at_call 87; (with_reducible refine (place_Place_87.calls k3 _ _ y278 _ _ y282 true _ ?side1 ?side2 ?side3 ?side4 A12.out).mono ?_); (case side1 => repeat (first | exact HR281.out | (with_reducible refine Kd.C_alloc ?_ _) | (with_reducible refine Kd.C_drewN ?_ _) | (with_reducible refine Kd.C_drew ?_))); (case side2 => exact HC281.out); (case side3 => repeat (first | exact HR285.out | (with_reducible refine Kd.C_alloc ?_ _) | (with_reducible refine Kd.C_drewN ?_ _) | (with_reducible refine Kd.C_drew ?_))); (case side4 => exact HC285.out); rintro e w' ⟨rfl, ⟨nd, rfl⟩⟩; (try first | exact ⟨rfl, _, World.drewN_drewN _ _ _⟩ | exact ⟨rfl, _, Eq.trans (World.drewN_drewN _ _ _) (congrArg (World.drewN _) (Nat.add_assoc _ _ _))⟩))); try go_wp2_with (first | (go_at_call 87; (with_reducible refine (place_Place_87.calls k3 _ _ y278 _ _ y282 true _ ?side1 ?side2 ?side3 ?side4 A12.out).mono ?_); (case side1 => repeat (first | exact HR281.out | (with_reducible refine Kd.C_alloc ?_ _) | (with_reducible refine Kd.C_drewN ?_ _) | (with_reducible refine Kd.C_drew ?_))); (case side2 => exact HC281.out); (case side3 => repeat (first | exact HR285.out | (with_reducible refine Kd.C_alloc ?_ _) | (with_reducible refine Kd.C_drewN ?_ _) | (with_reducible refine Kd.C_drew ?_))); (case side4 => exact HC285.out); rintro e w' ⟨rfl, ⟨nd, rfl⟩⟩; (try first | exact ⟨rfl, _, World.drewN_drewN _ _ _⟩ | exact ⟨rfl, _, Eq.trans (World.drewN_drewN _ _ _) (congrArg (World.drewN _) (Nat.add_assoc _ _ _))⟩))))
                            go_roundg k3
                            case measure => have := HK1.out; have := HJ1.out; have := HK3.out; omega
                            case rel => exact ⟨(wrap64 (x7_3 + 1)), (by first | rfl | (simp; done) | (simp [*]; done)), H', ⟨by have := HK1.out; have := HJ1.out; have := HK3.out; omega⟩, by repeat (first | exact Drawn0.refl _ | apply Drawn0.step)⟩
                          · replace c13 := Bool.eq_false_iff.mpr c13
                            subst c13
                            have H1 : (if x7_3 > 1 then (if (wrap64 (x6_1 * x7_3)) > (wrap64 (x4_1 * x5_1)) then (place_block.l0 k3 l0 x6_1 x7_3 (wrap64 (x6_1 + 1))) else (place_block.l0 k3 l0 x4_1 x5_1 (wrap64 (x6_1 + 1)))) else (place_block.l0 k3 l0 x4_1 x5_1 (wrap64 (x6_1 + 1)))) = some (r1, r2) := by rw [if_neg (show ¬ (false = true) by decide)] at H; exact H
                            clear H
                            have H := H1
                            clear H1
                            by_cases c16 : x7_3 > 1
                            · rw [if_pos c16] at H
                              have c16b0 : decide (1 < x7_3) = true := decide_eq_true c16
                              clear c16
                              by_cases c17 : (wrap64 (x6_1 * x7_3)) > (wrap64 (x4_1 * x5_1))
                              · rw [if_pos c17] at H
                                have c17b0 : decide ((wrap64 (x4_1 * x5_1)) < (wrap64 (x6_1 * x7_3))) = true := decide_eq_true c17
                                clear c17
                                have H' := Aside0.mk H
                                clear H
                                have q18 : ((wrap64 ((wrap64 (x7_3 + 1)) * x6_1)) : Int) ≤ ((l0.length : Int) : Int) := of_decide_eq_true (by first | (with_reducible assumption) | assumption)
                                obtain ⟨i018, hi018, _, hsz18, _⟩ := info_parts info60
                                have hroom18 : l0.length ≤ c0 := HC0.out
                                have hC18 : Kd.C k60 _ A0 l0.length l0 := HR0.out
                                have ql18 : ((ji6) : Int) ≤ ((wrap64 ((wrap64 (x7_3 + 1)) * x6_1)) : Int) := of_decide_eq_true (by first | (with_reducible assumption) | assumption)
                                have q018 : (0 : Int) ≤ ((ji6) : Int) := of_decide_eq_true (by first | (with_reducible assumption) | assumption)
                                have hcut18 := cut_mid (P := Tryd.prog) 23 60 .i64 .i64 Tryd.underlying23 hi018 2 hsz18 A0 l0.length c0 (ji6) (wrap64 ((wrap64 (x7_3 + 1)) * x6_1)) q018 ql18 q18 hroom18
                                have hr18 := Kd.C_mid (lo := ((ji6) : Int).toNat) (hi := ((wrap64 ((wrap64 (x7_3 + 1)) * x6_1)) : Int).toNat) (c := c0) hC18 (by omega) (by omega) hroom18
                                obtain ⟨A18, hA18⟩ : ∃ A1, A1 = (if c0 = ((ji6) : Int).toNat then A0 else (A0 : Option Addr).map (·.add (((ji6) : Int).toNat * 2))) := ⟨_, rfl⟩
                                obtain ⟨c18, hc18⟩ : ∃ c1, c1 = c0 - ((ji6) : Int).toNat := ⟨_, rfl⟩
                                have hy18 : y278.length = ((wrap64 ((wrap64 (x7_3 + 1)) * x6_1)) : Int).toNat - ((ji6) : Int).toNat := (by rw [Ny278.out, List.length_drop, List.length_take] <;> omega)
                                rw [show ((l0).take ((wrap64 ((wrap64 (x7_3 + 1)) * x6_1)) : Int).toNat).drop ((ji6) : Int).toNat = y278 from Ny278.out.symm] at hr18
                                replace hr18 : Kd.C k60 _ A18 y278.length y278 := (by rw [hA18]; exact hr18)
                                rw [← hy18, ← hA18, ← hc18] at hcut18
                                have HR281 := Aside0.mk hr18
                                have HC281 := Aside0.mk (show y278.length ≤ c18 from by rw [hy18, hc18]; exact Nat.sub_le_sub_right (Nat.le_trans (by omega) hroom18) _)
                                clear hr18 hC18 hroom18 hi018 hsz18 hc18
                                have KY18 := Aside0.mk hy18
                                have KA18 := Aside0.mk hA18
                                clear hy18 hA18
                                replace q18 := eq_true q18
                                have q19 : (x6_1 : Int) ≤ ((l0.length : Int) : Int) := of_decide_eq_true (by first | (with_reducible assumption) | assumption)
                                obtain ⟨i019, hi019, _, hsz19, _⟩ := info_parts info60
                                have hroom19 : l0.length ≤ c0 := HC0.out
                                have hC19 : Kd.C k60 _ A0 l0.length l0 := HR0.out
                                have hcut19 := cut_to (P := Tryd.prog) 23 60 .i64 Tryd.underlying23 hi019 A0 l0.length c0 x6_1 (of_decide_eq_true (by first | (with_reducible assumption) | assumption)) q19 hroom19
                                have hr19 := Kd.C_take (m := (x6_1 : Int).toNat) hC19 (by omega)
                                have hy19 : y282.length = (x6_1 : Int).toNat := (by rw [Ny282.out, List.length_take]; omega)
                                rw [← Ny282.out] at hr19
                                rw [← hy19] at hcut19
                                have HR285 := Aside0.mk hr19
                                have HC285 := Aside0.mk (show y282.length ≤ c0 from by omega)
                                clear hr19 hC19 hroom19 hi019 hsz19
                                have KY19 := Aside0.mk hy19
                                clear hy19
                                replace q19 := eq_true q19
                                go_wp2_with (first | (go_at_call 87; (with_reducible refine (place_Place_87.calls k3 _ _ y278 _ _ y282 false _ ?side1 ?side2 ?side3 ?side4 A12.out).mono ?_); (case side1 => repeat (first | exact HR281.out | (with_reducible refine Kd.C_alloc ?_ _) | (with_reducible refine Kd.C_drewN ?_ _) | (with_reducible refine Kd.C_drew ?_))); (case side2 => exact HC281.out); (case side3 => repeat (first | exact HR285.out | (with_reducible refine Kd.C_alloc ?_ _) | (with_reducible refine Kd.C_drewN ?_ _) | (with_reducible refine Kd.C_drew ?_))); (case side4 => exact HC285.out); rintro e w' ⟨rfl, ⟨nd, rfl⟩⟩; (try first | exact ⟨rfl, _, World.drewN_drewN _ _ _⟩ | exact ⟨rfl, _, Eq.trans (World.drewN_drewN _ _ _) (congrArg (World.drewN _) (Nat.add_assoc _ _ _))⟩)))
                                repeat (go_quiet (first | (go_at_call 87; (with_reducible refine (place_Place_87.calls k3 _ _ y278 _ _ y282 false _ ?side1 ?side2 ?side3 ?side4 A12.out).mono ?_); (case side1 => repeat (first | exact HR281.out | (with_reducible refine Kd.C_alloc ?_ _) | (with_reducible refine Kd.C_drewN ?_ _) | (with_reducible refine Kd.C_drew ?_))); (case side2 => exact HC281.out); (case side3 => repeat (first | exact HR285.out | (with_reducible refine Kd.C_alloc ?_ _) | (with_reducible refine Kd.C_drewN ?_ _) | (with_reducible refine Kd.C_drew ?_))); (case side4 => exact HC285.out); rintro e w' ⟨rfl, ⟨nd, rfl⟩⟩; (try first | exact ⟨rfl, _, World.drewN_drewN _ _ _⟩ | exact ⟨rfl, _, Eq.trans (World.drewN_drewN _ _ _) (congrArg (World.drewN _) (Nat.add_assoc _ _ _))⟩))); try go_wp2_with (first | (go_at_call 87; (with_reducible refine (place_Place_87.calls k3 _ _ y278 _ _ y282 false _ ?side1 ?side2 ?side3 ?side4 A12.out).mono ?_); (case side1 => repeat (first | exact HR281.out | (with_reducible refine Kd.C_alloc ?_ _) | (with_reducible refine Kd.C_drewN ?_ _) | (with_reducible refine Kd.C_drew ?_))); (case side2 => exact HC281.out); (case side3 => repeat (first | exact HR285.out | (with_reducible refine Kd.C_alloc ?_ _) | (with_reducible refine Kd.C_drewN ?_ _) | (with_reducible refine Kd.C_drew ?_))); (case side4 => exact HC285.out); rintro e w' ⟨rfl, ⟨nd, rfl⟩⟩; (try first | exact ⟨rfl, _, World.drewN_drewN _ _ _⟩ | exact ⟨rfl, _, Eq.trans (World.drewN_drewN _ _ _) (congrArg (World.drewN _) (Nat.add_assoc _ _ _))⟩))))
                                go_roundg k3
                                case measure => have := HK1.out; have := HJ1.out; have := HK3.out; omega
                                case rel => exact ⟨(x6_1), (x7_3), (wrap64 (x6_1 + 1)), (by first | rfl | (simp; done) | (simp [*]; done)), (by first | rfl | (simp; done) | (simp [*]; done)), (by first | rfl | (simp; done) | (simp [*]; done)), H', ⟨by have := HK1.out; have := HJ1.out; have := HK3.out; omega⟩, by repeat (first | exact Drawn0.refl _ | apply Drawn0.step)⟩
                              · rw [if_neg c17] at H
                                have c17b0 : decide ((wrap64 (x4_1 * x5_1)) < (wrap64 (x6_1 * x7_3))) = false := decide_eq_false c17
                                clear c17
                                have H' := Aside0.mk H
                                clear H
                                have q20 : ((wrap64 ((wrap64 (x7_3 + 1)) * x6_1)) : Int) ≤ ((l0.length : Int) : Int) := of_decide_eq_true (by first | (with_reducible assumption) | assumption)
                                obtain ⟨i020, hi020, _, hsz20, _⟩ := info_parts info60
                                have hroom20 : l0.length ≤ c0 := HC0.out
                                have hC20 : Kd.C k60 _ A0 l0.length l0 := HR0.out
                                have ql20 : ((ji6) : Int) ≤ ((wrap64 ((wrap64 (x7_3 + 1)) * x6_1)) : Int) := of_decide_eq_true (by first | (with_reducible assumption) | assumption)
                                have q020 : (0 : Int) ≤ ((ji6) : Int) := of_decide_eq_true (by first | (with_reducible assumption) | assumption)
                                have hcut20 := cut_mid (P := Tryd.prog) 23 60 .i64 .i64 Tryd.underlying23 hi020 2 hsz20 A0 l0.length c0 (ji6) (wrap64 ((wrap64 (x7_3 + 1)) * x6_1)) q020 ql20 q20 hroom20
                                have hr20 := Kd.C_mid (lo := ((ji6) : Int).toNat) (hi := ((wrap64 ((wrap64 (x7_3 + 1)) * x6_1)) : Int).toNat) (c := c0) hC20 (by omega) (by omega) hroom20
                                obtain ⟨A20, hA20⟩ : ∃ A1, A1 = (if c0 = ((ji6) : Int).toNat then A0 else (A0 : Option Addr).map (·.add (((ji6) : Int).toNat * 2))) := ⟨_, rfl⟩
                                obtain ⟨c20, hc20⟩ : ∃ c1, c1 = c0 - ((ji6) : Int).toNat := ⟨_, rfl⟩
                                have hy20 : y278.length = ((wrap64 ((wrap64 (x7_3 + 1)) * x6_1)) : Int).toNat - ((ji6) : Int).toNat := (by rw [Ny278.out, List.length_drop, List.length_take] <;> omega)
                                rw [show ((l0).take ((wrap64 ((wrap64 (x7_3 + 1)) * x6_1)) : Int).toNat).drop ((ji6) : Int).toNat = y278 from Ny278.out.symm] at hr20
                                replace hr20 : Kd.C k60 _ A20 y278.length y278 := (by rw [hA20]; exact hr20)
                                rw [← hy20, ← hA20, ← hc20] at hcut20
                                have HR281 := Aside0.mk hr20
                                have HC281 := Aside0.mk (show y278.length ≤ c20 from by rw [hy20, hc20]; exact Nat.sub_le_sub_right (Nat.le_trans (by omega) hroom20) _)
                                clear hr20 hC20 hroom20 hi020 hsz20 hc20
                                have KY20 := Aside0.mk hy20
                                have KA20 := Aside0.mk hA20
                                clear hy20 hA20
                                replace q20 := eq_true q20
                                have q21 : (x6_1 : Int) ≤ ((l0.length : Int) : Int) := of_decide_eq_true (by first | (with_reducible assumption) | assumption)
                                obtain ⟨i021, hi021, _, hsz21, _⟩ := info_parts info60
                                have hroom21 : l0.length ≤ c0 := HC0.out
                                have hC21 : Kd.C k60 _ A0 l0.length l0 := HR0.out
                                have hcut21 := cut_to (P := Tryd.prog) 23 60 .i64 Tryd.underlying23 hi021 A0 l0.length c0 x6_1 (of_decide_eq_true (by first | (with_reducible assumption) | assumption)) q21 hroom21
                                have hr21 := Kd.C_take (m := (x6_1 : Int).toNat) hC21 (by omega)
                                have hy21 : y282.length = (x6_1 : Int).toNat := (by rw [Ny282.out, List.length_take]; omega)
                                rw [← Ny282.out] at hr21
                                rw [← hy21] at hcut21
                                have HR285 := Aside0.mk hr21
                                have HC285 := Aside0.mk (show y282.length ≤ c0 from by omega)
                                clear hr21 hC21 hroom21 hi021 hsz21
                                have KY21 := Aside0.mk hy21
                                clear hy21
                                replace q21 := eq_true q21
                                go_wp2_with (first | (go_at_call 87; (with_reducible refine (place_Place_87.calls k3 _ _ y278 _ _ y282 false _ ?side1 ?side2 ?side3 ?side4 A12.out).mono ?_); (case side1 => repeat (first | exact HR281.out | (with_reducible refine Kd.C_alloc ?_ _) | (with_reducible refine Kd.C_drewN ?_ _) | (with_reducible refine Kd.C_drew ?_))); (case side2 => exact HC281.out); (case side3 => repeat (first | exact HR285.out | (with_reducible refine Kd.C_alloc ?_ _) | (with_reducible refine Kd.C_drewN ?_ _) | (with_reducible refine Kd.C_drew ?_))); (case side4 => exact HC285.out); rintro e w' ⟨rfl, ⟨nd, rfl⟩⟩; (try first | exact ⟨rfl, _, World.drewN_drewN _ _ _⟩ | exact ⟨rfl, _, Eq.trans (World.drewN_drewN _ _ _) (congrArg (World.drewN _) (Nat.add_assoc _ _ _))⟩)))
                                repeat (go_quiet (first | (go_at_call 87; (with_reducible refine (place_Place_87.calls k3 _ _ y278 _ _ y282 false _ ?side1 ?side2 ?side3 ?side4 A12.out).mono ?_); (case side1 => repeat (first | exact HR281.out | (with_reducible refine Kd.C_alloc ?_ _) | (with_reducible refine Kd.C_drewN ?_ _) | (with_reducible refine Kd.C_drew ?_))); (case side2 => exact HC281.out); (case side3 => repeat (first | exact HR285.out | (with_reducible refine Kd.C_alloc ?_ _) | (with_reducible refine Kd.C_drewN ?_ _) | (with_reducible refine Kd.C_drew ?_))); (case side4 => exact HC285.out); rintro e w' ⟨rfl, ⟨nd, rfl⟩⟩; (try first | exact ⟨rfl, _, World.drewN_drewN _ _ _⟩ | exact ⟨rfl, _, Eq.trans (World.drewN_drewN _ _ _) (congrArg (World.drewN _) (Nat.add_assoc _ _ _))⟩))); try go_wp2_with (first | (go_at_call 87; (with_reducible refine (place_Place_87.calls k3 _ _ y278 _ _ y282 false _ ?side1 ?side2 ?side3 ?side4 A12.out).mono ?_); (case side1 => repeat (first | exact HR281.out | (with_reducible refine Kd.C_alloc ?_ _) | (with_reducible refine Kd.C_drewN ?_ _) | (with_reducible refine Kd.C_drew ?_))); (case side2 => exact HC281.out); (case side3 => repeat (first | exact HR285.out | (with_reducible refine Kd.C_alloc ?_ _) | (with_reducible refine Kd.C_drewN ?_ _) | (with_reducible refine Kd.C_drew ?_))); (case side4 => exact HC285.out); rintro e w' ⟨rfl, ⟨nd, rfl⟩⟩; (try first | exact ⟨rfl, _, World.drewN_drewN _ _ _⟩ | exact ⟨rfl, _, Eq.trans (World.drewN_drewN _ _ _) (congrArg (World.drewN _) (Nat.add_assoc _ _ _))⟩))))
                                go_roundg k3
                                case measure => have := HK1.out; have := HJ1.out; have := HK3.out; omega
                                case rel => exact ⟨(x4_1), (x5_1), (wrap64 (x6_1 + 1)), (by first | rfl | (simp; done) | (simp [*]; done)), (by first | rfl | (simp; done) | (simp [*]; done)), (by first | rfl | (simp; done) | (simp [*]; done)), H', ⟨by have := HK1.out; have := HJ1.out; have := HK3.out; omega⟩, by repeat (first | exact Drawn0.refl _ | apply Drawn0.step)⟩
                            · rw [if_neg c16] at H
                              have c16b0 : decide (1 < x7_3) = false := decide_eq_false c16
                              clear c16
                              have H' := Aside0.mk H
                              clear H
                              have q22 : ((wrap64 ((wrap64 (x7_3 + 1)) * x6_1)) : Int) ≤ ((l0.length : Int) : Int) := of_decide_eq_true (by first | (with_reducible assumption) | assumption)
                              obtain ⟨i022, hi022, _, hsz22, _⟩ := info_parts info60
                              have hroom22 : l0.length ≤ c0 := HC0.out
                              have hC22 : Kd.C k60 _ A0 l0.length l0 := HR0.out
                              have ql22 : ((ji6) : Int) ≤ ((wrap64 ((wrap64 (x7_3 + 1)) * x6_1)) : Int) := of_decide_eq_true (by first | (with_reducible assumption) | assumption)
                              have q022 : (0 : Int) ≤ ((ji6) : Int) := of_decide_eq_true (by first | (with_reducible assumption) | assumption)
                              have hcut22 := cut_mid (P := Tryd.prog) 23 60 .i64 .i64 Tryd.underlying23 hi022 2 hsz22 A0 l0.length c0 (ji6) (wrap64 ((wrap64 (x7_3 + 1)) * x6_1)) q022 ql22 q22 hroom22
                              have hr22 := Kd.C_mid (lo := ((ji6) : Int).toNat) (hi := ((wrap64 ((wrap64 (x7_3 + 1)) * x6_1)) : Int).toNat) (c := c0) hC22 (by omega) (by omega) hroom22
                              obtain ⟨A22, hA22⟩ : ∃ A1, A1 = (if c0 = ((ji6) : Int).toNat then A0 else (A0 : Option Addr).map (·.add (((ji6) : Int).toNat * 2))) := ⟨_, rfl⟩
                              obtain ⟨c22, hc22⟩ : ∃ c1, c1 = c0 - ((ji6) : Int).toNat := ⟨_, rfl⟩
                              have hy22 : y278.length = ((wrap64 ((wrap64 (x7_3 + 1)) * x6_1)) : Int).toNat - ((ji6) : Int).toNat := (by rw [Ny278.out, List.length_drop, List.length_take] <;> omega)
                              rw [show ((l0).take ((wrap64 ((wrap64 (x7_3 + 1)) * x6_1)) : Int).toNat).drop ((ji6) : Int).toNat = y278 from Ny278.out.symm] at hr22
                              replace hr22 : Kd.C k60 _ A22 y278.length y278 := (by rw [hA22]; exact hr22)
                              rw [← hy22, ← hA22, ← hc22] at hcut22
                              have HR281 := Aside0.mk hr22
                              have HC281 := Aside0.mk (show y278.length ≤ c22 from by rw [hy22, hc22]; exact Nat.sub_le_sub_right (Nat.le_trans (by omega) hroom22) _)
                              clear hr22 hC22 hroom22 hi022 hsz22 hc22
                              have KY22 := Aside0.mk hy22
                              have KA22 := Aside0.mk hA22
                              clear hy22 hA22
                              replace q22 := eq_true q22
                              have q23 : (x6_1 : Int) ≤ ((l0.length : Int) : Int) := of_decide_eq_true (by first | (with_reducible assumption) | assumption)
                              obtain ⟨i023, hi023, _, hsz23, _⟩ := info_parts info60
                              have hroom23 : l0.length ≤ c0 := HC0.out
                              have hC23 : Kd.C k60 _ A0 l0.length l0 := HR0.out
                              have hcut23 := cut_to (P := Tryd.prog) 23 60 .i64 Tryd.underlying23 hi023 A0 l0.length c0 x6_1 (of_decide_eq_true (by first | (with_reducible assumption) | assumption)) q23 hroom23
                              have hr23 := Kd.C_take (m := (x6_1 : Int).toNat) hC23 (by omega)
                              have hy23 : y282.length = (x6_1 : Int).toNat := (by rw [Ny282.out, List.length_take]; omega)
                              rw [← Ny282.out] at hr23
                              rw [← hy23] at hcut23
                              have HR285 := Aside0.mk hr23
                              have HC285 := Aside0.mk (show y282.length ≤ c0 from by omega)
                              clear hr23 hC23 hroom23 hi023 hsz23
                              have KY23 := Aside0.mk hy23
                              clear hy23
                              replace q23 := eq_true q23
                              go_wp2_with (first | (go_at_call 87; (with_reducible refine (place_Place_87.calls k3 _ _ y278 _ _ y282 false _ ?side1 ?side2 ?side3 ?side4 A12.out).mono ?_); (case side1 => repeat (first | exact HR281.out | (with_reducible refine Kd.C_alloc ?_ _) | (with_reducible refine Kd.C_drewN ?_ _) | (with_reducible refine Kd.C_drew ?_))); (case side2 => exact HC281.out); (case side3 => repeat (first | exact HR285.out | (with_reducible refine Kd.C_alloc ?_ _) | (with_reducible refine Kd.C_drewN ?_ _) | (with_reducible refine Kd.C_drew ?_))); (case side4 => exact HC285.out); rintro e w' ⟨rfl, ⟨nd, rfl⟩⟩; (try first | exact ⟨rfl, _, World.drewN_drewN _ _ _⟩ | exact ⟨rfl, _, Eq.trans (World.drewN_drewN _ _ _) (congrArg (World.drewN _) (Nat.add_assoc _ _ _))⟩)))
                              repeat (go_quiet (first | (go_at_call 87; (with_reducible refine (place_Place_87.calls k3 _ _ y278 _ _ y282 false _ ?side1 ?side2 ?side3 ?side4 A12.out).mono ?_); (case side1 => repeat (first | exact HR281.out | (with_reducible refine Kd.C_alloc ?_ _) | (with_reducible refine Kd.C_drewN ?_ _) | (with_reducible refine Kd.C_drew ?_))); (case side2 => exact HC281.out); (case side3 => repeat (first | exact HR285.out | (with_reducible refine Kd.C_alloc ?_ _) | (with_reducible refine Kd.C_drewN ?_ _) | (with_reducible refine Kd.C_drew ?_))); (case side4 => exact HC285.out); rintro e w' ⟨rfl, ⟨nd, rfl⟩⟩; (try first | exact ⟨rfl, _, World.drewN_drewN _ _ _⟩ | exact ⟨rfl, _, Eq.trans (World.drewN_drewN _ _ _) (congrArg (World.drewN _) (Nat.add_assoc _ _ _))⟩))); try go_wp2_with (first | (go_at_call 87; (with_reducible refine (place_Place_87.calls k3 _ _ y278 _ _ y282 false _ ?side1 ?side2 ?side3 ?side4 A12.out).mono ?_); (case side1 => repeat (first | exact HR281.out | (with_reducible refine Kd.C_alloc ?_ _) | (with_reducible refine Kd.C_drewN ?_ _) | (with_reducible refine Kd.C_drew ?_))); (case side2 => exact HC281.out); (case side3 => repeat (first | exact HR285.out | (with_reducible refine Kd.C_alloc ?_ _) | (with_reducible refine Kd.C_drewN ?_ _) | (with_reducible refine Kd.C_drew ?_))); (case side4 => exact HC285.out); rintro e w' ⟨rfl, ⟨nd, rfl⟩⟩; (try first | exact ⟨rfl, _, World.drewN_drewN _ _ _⟩ | exact ⟨rfl, _, Eq.trans (World.drewN_drewN _ _ _) (congrArg (World.drewN _) (Nat.add_assoc _ _ _))⟩))))
                              go_roundg k3
                              case measure => have := HK1.out; have := HJ1.out; have := HK3.out; omega
                              case rel => exact ⟨(x4_1), (x5_1), (wrap64 (x6_1 + 1)), (by first | rfl | (simp; done) | (simp [*]; done)), (by first | rfl | (simp; done) | (simp [*]; done)), (by first | rfl | (simp; done) | (simp [*]; done)), H', ⟨by have := HK1.out; have := HJ1.out; have := HK3.out; omega⟩, by repeat (first | exact Drawn0.refl _ | apply Drawn0.step)⟩
                        · rw [if_neg c11] at H
                          exact absurd H (by simp)
                      · rw [if_neg c10] at H
                        exact absurd H (by simp)
                    · rw [if_neg c8] at H
                      exact absurd H (by simp)
                  · rw [if_neg c7] at H
                    exact absurd H (by simp)
                · rw [if_neg c5] at H
                  have c5b0 : decide ((wrap64 ((wrap64 (x7_3 + 1)) * x6_1)) ≤ (l0.length : Int)) = false := decide_eq_false c5
                  clear c5
                  by_cases c24 : x7_3 > 1
                  · rw [if_pos c24] at H
                    have c24b0 : decide (1 < x7_3) = true := decide_eq_true c24
                    clear c24
                    by_cases c25 : (wrap64 (x6_1 * x7_3)) > (wrap64 (x4_1 * x5_1))
                    · rw [if_pos c25] at H
                      have c25b0 : decide ((wrap64 (x4_1 * x5_1)) < (wrap64 (x6_1 * x7_3))) = true := decide_eq_true c25
                      clear c25
                      have H' := Aside0.mk H
                      clear H
                      go_wp2
                      repeat (go_quiet (fail); try go_wp2)
                      go_roundg k3
                      case measure => have := HK1.out; have := HJ1.out; have := HK3.out; omega
                      case rel => exact ⟨(x6_1), (x7_3), (wrap64 (x6_1 + 1)), (by first | rfl | (simp; done) | (simp [*]; done)), (by first | rfl | (simp; done) | (simp [*]; done)), (by first | rfl | (simp; done) | (simp [*]; done)), H', ⟨by have := HK1.out; have := HJ1.out; have := HK3.out; omega⟩, by repeat (first | exact Drawn0.refl _ | apply Drawn0.step)⟩
                    · rw [if_neg c25] at H
                      have c25b0 : decide ((wrap64 (x4_1 * x5_1)) < (wrap64 (x6_1 * x7_3))) = false := decide_eq_false c25
                      clear c25
                      have H' := Aside0.mk H
                      clear H
                      go_wp2
                      repeat (go_quiet (fail); try go_wp2)
                      go_roundg k3
                      case measure => have := HK1.out; have := HJ1.out; have := HK3.out; omega
                      case rel => exact ⟨(x4_1), (x5_1), (wrap64 (x6_1 + 1)), (by first | rfl | (simp; done) | (simp [*]; done)), (by first | rfl | (simp; done) | (simp [*]; done)), (by first | rfl | (simp; done) | (simp [*]; done)), H', ⟨by have := HK1.out; have := HJ1.out; have := HK3.out; omega⟩, by repeat (first | exact Drawn0.refl _ | apply Drawn0.step)⟩
                  · rw [if_neg c24] at H
                    have c24b0 : decide (1 < x7_3) = false := decide_eq_false c24
                    clear c24
                    have H' := Aside0.mk H
                    clear H
                    go_wp2
                    repeat (go_quiet (fail); try go_wp2)
                    go_roundg k3
                    case measure => have := HK1.out; have := HJ1.out; have := HK3.out; omega
                    case rel => exact ⟨(x4_1), (x5_1), (wrap64 (x6_1 + 1)), (by first | rfl | (simp; done) | (simp [*]; done)), (by first | rfl | (simp; done) | (simp [*]; done)), (by first | rfl | (simp; done) | (simp [*]; done)), H', ⟨by have := HK1.out; have := HJ1.out; have := HK3.out; omega⟩, by repeat (first | exact Drawn0.refl _ | apply Drawn0.step)⟩
          · replace c4 := Bool.eq_false_iff.mpr c4
            subst c4
            have H1 : (some (x4_1, x5_1)) = some (r1, r2) := by rw [if_neg (show ¬ (false = true) by decide)] at H; exact H
            clear H
            have H := H1
            clear H1
            simp only [Option.some.injEq, Prod.mk.injEq] at H
            obtain ⟨rfl, rfl⟩ := H
            go_wp2
            repeat (go_quiet (fail); try go_wp2)
            go_ret2
            exact ⟨by first | rfl | (simp; done) | (simp [*]; done), by repeat (first | exact Drawn0.refl _ | apply Drawn0.step)⟩

-- NOT PRINTED: function 28 (place_Fold)

/-! ### errataref03_SamePlaces: function 88 -/
def errataref03_SamePlaces.f (k : Nat) (l0 : List (S95)) (l1 : List (S95)) : Option (Bool) := if (l0.length : Int) = (l1.length : Int) then ((errataref03_Common.f k l0 l1).bind fun t307 => (some (t307 == (l0.length : Int)))) else (some false)
theorem errataref03_SamePlaces.mono : ∀ a0 a1 k, LeO (errataref03_SamePlaces.f k a0 a1) (errataref03_SamePlaces.f (k + 1) a0 a1) := by
  intro a0 a1 k
  unfold errataref03_SamePlaces.f
  repeat' first
      | (with_reducible exact errataref03_Common.mono _ _ _)
      | (with_reducible exact LeO.refl _)
      | (with_reducible exact LeO.none _)
      | (with_reducible refine LeO.ite ?_ ?_)
      | (with_reducible refine LeO.bind ?_ (fun _ => ?_))
      | exact errataref03_Common.mono _ _ _
      | exact LeO.none _
      | refine LeO.ite ?_ ?_
      | refine LeO.bind ?_ (fun _ => ?_)
set_option maxHeartbeats 8000000 in
set_option maxRecDepth 100000 in
theorem errataref03_SamePlaces.calls (k : Nat) (A0 : Option Addr) (c0 : Nat) (l0 : List (S95)) (A1 : Option Addr) (c1 : Nat) (l1 : List (S95)) (r : Bool) (w : World) (hr0 : Kd.C k95 w A0 l0.length l0) (hc0 : l0.length ≤ c0) (hr1 : Kd.C k95 w A1 l1.length l1) (hc1 : l1.length ≤ c1) (h : errataref03_SamePlaces.f k l0 l1 = some r) :
    Calls Tryd.prog 88 #[.slice A0 l0.length c0, .slice A1 l1.length c1] w fun e w' => e = .returned (.bool r) ∧ Drawn0 w w' := by
  have HR0 := Aside0.mk hr0
  have HC0 := Aside0.mk hc0
  clear hr0 hc0
  have HR1 := Aside0.mk hr1
  have HC1 := Aside0.mk hc1
  clear hr1 hc1
  have H : (if (l0.length : Int) = (l1.length : Int) then ((errataref03_Common.f k l0 l1).bind fun t307 => (some (t307 == (l0.length : Int)))) else (some false)) = some r := h
  clear h
  by_cases c3 : (l0.length : Int) = (l1.length : Int)
  · rw [if_pos c3] at H
    have c3b0 : ((l0.length : Int) == (l1.length : Int)) = true := beq_iff_eq.mpr c3
    have c3b1 : ((l0.length : Int) != (l1.length : Int)) = false := bne_eq_false_iff_eq.mpr c3
    have c3b2 : (l0.length == l1.length) = true := by first | simpa using c3 | (simp at c3 ⊢; omega)
    clear c3
    replace H := Option.bind_eq_some_iff.mp H
    obtain ⟨t307, A40, H⟩ := H
    replace H : (some (t307 == (l0.length : Int))) = some r := H
    have A4 := Aside0.mk A40
    clear A40
    obtain rfl := Option.some.inj H
    go_enter Tryd.func88, Tryd.ntmps88
    go_wp2_with (first | (go_at_call 17; (with_reducible refine (errataref03_Common.calls k _ _ l0 _ _ l1 t307 _ ?side1 ?side2 ?side3 ?side4 A4.out).mono ?_); (case side1 => repeat (first | exact HR0.out | (with_reducible refine Kd.C_alloc ?_ _) | (with_reducible refine Kd.C_drewN ?_ _) | (with_reducible refine Kd.C_drew ?_))); (case side2 => exact HC0.out); (case side3 => repeat (first | exact HR1.out | (with_reducible refine Kd.C_alloc ?_ _) | (with_reducible refine Kd.C_drewN ?_ _) | (with_reducible refine Kd.C_drew ?_))); (case side4 => exact HC1.out); rintro e w' ⟨rfl, ⟨nd, rfl⟩⟩))
    go_ret
    exact ⟨by first | rfl | (simp; done) | (simp [*]; done), by repeat (first | exact Drawn0.refl _ | apply Drawn0.step)⟩
  · rw [if_neg c3] at H
    have c3b0 : ((l0.length : Int) == (l1.length : Int)) = false := beq_eq_false_iff_ne.mpr c3
    have c3b1 : ((l0.length : Int) != (l1.length : Int)) = true := bne_iff_ne.mpr c3
    have c3b2 : (l0.length == l1.length) = false := by first | simpa using c3 | (simp at c3 ⊢; omega)
    obtain rfl := Option.some.inj H
    go_enter Tryd.func88, Tryd.ntmps88
    go_wp2
    go_ret
    exact ⟨by first | rfl | (simp; done) | (simp [*]; done), by repeat (first | exact Drawn0.refl _ | apply Drawn0.step)⟩

/-! ### errataref03_times: function 61 -/
def errataref03_times.l0 : Nat → List (S95) → Int → Int → Option (Int)
  | 0, _, _, _ => none
  | k + 1, x0, x1, x5 => if (wrap64 ((wrap64 (x5 + 1)) * x1)) ≤ (x0.length : Int) then (if 0 ≤ (wrap64 (x5 * x1)) then (if (wrap64 (x5 * x1)) ≤ (wrap64 ((wrap64 (x5 + 1)) * x1)) then (if 0 ≤ x1 then (if x1 ≤ (x0.length : Int) then ((errataref03_SamePlaces.f k ((x0.take ((wrap64 ((wrap64 (x5 + 1)) * x1)) : Int).toNat).drop ((wrap64 (x5 * x1)) : Int).toNat) (x0.take (x1 : Int).toNat)).bind fun t316 => (if t316 = true then (errataref03_times.l0 k x0 x1 (wrap64 (x5 + 1))) else (some x5))) else (none)) else (none)) else (none)) else (none)) else (some x5)
def errataref03_times.f (k : Nat) (l0 : List (S95)) (a1 : Int) : Option (Int) := errataref03_times.l0 k l0 a1 0
theorem errataref03_times.mono_l : ∀ k, (∀ y0 y1 y2, LeO (errataref03_times.l0 k y0 y1 y2) (errataref03_times.l0 (k + 1) y0 y1 y2))
  | 0 => fun _ _ _ r h => by simp [errataref03_times.l0] at h
  | k + 1 => by
    have ih0 := errataref03_times.mono_l k
    · intro y0 y1 y2
      unfold errataref03_times.l0
      repeat' first
      | (with_reducible exact ih0 _ _ _)
      | (with_reducible exact errataref03_SamePlaces.mono _ _ _)
      | (with_reducible exact LeO.refl _)
      | (with_reducible exact LeO.none _)
      | (with_reducible refine LeO.ite ?_ ?_)
      | (with_reducible refine LeO.bind ?_ (fun _ => ?_))
      | exact ih0 _ _ _
      | exact errataref03_SamePlaces.mono _ _ _
      | exact LeO.none _
      | refine LeO.ite ?_ ?_
      | refine LeO.bind ?_ (fun _ => ?_)
theorem errataref03_times.mono : ∀ a0 a1 k, LeO (errataref03_times.f k a0 a1) (errataref03_times.f (k + 1) a0 a1) := by
  intro a0 a1 k
  have ih0 := errataref03_times.mono_l k
  unfold errataref03_times.f
  repeat' first
      | (with_reducible exact ih0 _ _ _)
      | (with_reducible exact errataref03_SamePlaces.mono _ _ _)
      | (with_reducible exact LeO.refl _)
      | (with_reducible exact LeO.none _)
      | (with_reducible refine LeO.ite ?_ ?_)
      | (with_reducible refine LeO.bind ?_ (fun _ => ?_))
      | exact ih0 _ _ _
      | exact errataref03_SamePlaces.mono _ _ _
      | exact LeO.none _
      | refine LeO.ite ?_ ?_
      | refine LeO.bind ?_ (fun _ => ?_)
set_option maxHeartbeats 8000000 in
set_option maxRecDepth 100000 in
theorem errataref03_times.calls (k : Nat) (A0 : Option Addr) (c0 : Nat) (l0 : List (S95)) (a1 : Int) (r : Int) (w : World) (hr0 : Kd.C k95 w A0 l0.length l0) (hc0 : l0.length ≤ c0) (h : errataref03_times.f k l0 a1 = some r) :
    Calls Tryd.prog 61 #[.slice A0 l0.length c0, .int .i64 a1] w fun e w' => e = .returned (.int .i64 r) ∧ Drawn0 w w' := by
  have HR0 := Aside0.mk hr0
  have HC0 := Aside0.mk hc0
  clear hr0 hc0
  have H : (errataref03_times.l0 k l0 a1 0) = some r := h
  clear h
  have H' := Aside0.mk H
  clear H
  go_enter Tryd.func61, Tryd.ntmps61
  go_wp2
  repeat (go_quiet (fail); try go_wp2)
  go_loopg [5] k (fun kq v5 w' => ∃ (x5_1 : Int), v5 = .int .i64 x5_1 ∧ Aside0 (errataref03_times.l0 kq l0 a1 x5_1 = some r) ∧ Aside0 (kq ≤ k) ∧ Drawn0 w w')
  case atStart => exact ⟨(0), (by first | rfl | (simp; done) | (simp [*]; done)), H', ⟨Nat.le_refl _⟩, by repeat (first | exact Drawn0.refl _ | apply Drawn0.step)⟩
  case round =>
    clear H'
    try clear p2
    obtain ⟨x5_1, rfl, HA, HK1, ⟨m1, rfl⟩⟩ := hrel
    cases gk with
    | zero => exact absurd HA.out (by simp [errataref03_times.l0])
    | succ k1 =>
      have H := HA.out
      clear HA
      simp only [errataref03_times.l0] at H
      by_cases c3 : (wrap64 ((wrap64 (x5_1 + 1)) * a1)) ≤ (l0.length : Int)
      · rw [if_pos c3] at H
        have c3b0 : decide ((wrap64 ((wrap64 (x5_1 + 1)) * a1)) ≤ (l0.length : Int)) = true := decide_eq_true c3
        clear c3
        obtain ⟨ji4, hji4⟩ : ∃ j_ : Int, (wrap64 (x5_1 * a1)) = j_ := ⟨_, rfl⟩
        replace H : (if 0 ≤ (ji4) then (if (ji4) ≤ (wrap64 ((wrap64 (x5_1 + 1)) * a1)) then (if 0 ≤ a1 then (if a1 ≤ (l0.length : Int) then ((errataref03_SamePlaces.f k1 ((l0.take ((wrap64 ((wrap64 (x5_1 + 1)) * a1)) : Int).toNat).drop ((ji4) : Int).toNat) (l0.take (a1 : Int).toNat)).bind fun t316 => (if t316 = true then (errataref03_times.l0 k1 l0 a1 (wrap64 (x5_1 + 1))) else (some x5_1))) else (none)) else (none)) else (none)) else (none)) = some r := by first | (rw [hji4] at H; exact H) | (simp only [hji4] at H ⊢; exact H)
        have hji4w : (IntKind.i64.wrap (x5_1 * a1)) = ji4 := (i64_w _).trans hji4
        by_cases c5 : 0 ≤ (ji4)
        · rw [if_pos c5] at H
          have c5b0 := eq_true c5
          have c5b1 : decide (0 ≤ (ji4)) = true := decide_eq_true c5
          clear c5
          by_cases c6 : (ji4) ≤ (wrap64 ((wrap64 (x5_1 + 1)) * a1))
          · rw [if_pos c6] at H
            have c6b0 := eq_true c6
            have c6b1 : decide ((ji4) ≤ (wrap64 ((wrap64 (x5_1 + 1)) * a1))) = true := decide_eq_true c6
            have c7b0 := eq_true (of_decide_eq_true (by first | (with_reducible assumption) | assumption) : (wrap64 ((wrap64 (x5_1 + 1)) * a1)) ≤ (l0.length : Int))
            obtain ⟨y308, hy308⟩ : ∃ y_ : List (S95), y_ = ((l0.take ((wrap64 ((wrap64 (x5_1 + 1)) * a1)) : Int).toNat).drop ((ji4) : Int).toNat) := ⟨_, rfl⟩
            replace H : (if 0 ≤ a1 then (if a1 ≤ (l0.length : Int) then ((errataref03_SamePlaces.f k1 y308 (l0.take (a1 : Int).toNat)).bind fun t316 => (if t316 = true then (errataref03_times.l0 k1 l0 a1 (wrap64 (x5_1 + 1))) else (some x5_1))) else (none)) else (none)) = some r := by first | (rw [hy308]; with_reducible exact H) | (have H2_ := (Option.bind_some _ _).symm.trans H; rw [hy308]; with_reducible exact H2_) | (have H2_ := (Option.bind_some _ _).symm.trans H; with_reducible exact H2_) | with_reducible exact H | (rw [hy308]; exact H) | exact H
            have Ny308 := Aside0.mk hy308
            clear hy308
            by_cases c8 : 0 ≤ a1
            · rw [if_pos c8] at H
              have c8b0 := eq_true c8
              have c8b1 : decide (0 ≤ a1) = true := decide_eq_true c8
              clear c8
              by_cases c9 : a1 ≤ (l0.length : Int)
              · rw [if_pos c9] at H
                have c9b0 := eq_true c9
                have c9b1 : decide (a1 ≤ (l0.length : Int)) = true := decide_eq_true c9
                clear c9
                obtain ⟨y312, hy312⟩ : ∃ y_ : List (S95), y_ = (l0.take (a1 : Int).toNat) := ⟨_, rfl⟩
                replace H : ((errataref03_SamePlaces.f k1 y308 y312).bind fun t316 => (if t316 = true then (errataref03_times.l0 k1 l0 a1 (wrap64 (x5_1 + 1))) else (some x5_1))) = some r := by first | (rw [hy312]; with_reducible exact H) | (have H2_ := (Option.bind_some _ _).symm.trans H; rw [hy312]; with_reducible exact H2_) | (have H2_ := (Option.bind_some _ _).symm.trans H; with_reducible exact H2_) | with_reducible exact H | (rw [hy312]; exact H) | exact H
                have Ny312 := Aside0.mk hy312
                clear hy312
                replace H := Option.bind_eq_some_iff.mp H
                obtain ⟨t316, A100, H⟩ := H
                replace H : (if t316 = true then (errataref03_times.l0 k1 l0 a1 (wrap64 (x5_1 + 1))) else (some x5_1)) = some r := H
                have A10 := Aside0.mk A100
                clear A100
                by_cases c11 : t316 = true
                · subst c11
                  have H1 : (errataref03_times.l0 k1 l0 a1 (wrap64 (x5_1 + 1))) = some r := by rw [if_pos rfl] at H; exact H
                  clear H
                  have H := H1
                  clear H1
                  have H' := Aside0.mk H
                  clear H
                  have q12 : ((wrap64 ((wrap64 (x5_1 + 1)) * a1)) : Int) ≤ ((l0.length : Int) : Int) := of_decide_eq_true (by first | (with_reducible assumption) | assumption)
                  obtain ⟨i012, hi012, _, hsz12, _⟩ := info_parts info95
                  have hroom12 : l0.length ≤ c0 := HC0.out
                  have hC12 : Kd.C k95 _ A0 l0.length l0 := HR0.out
                  have ql12 : ((ji4) : Int) ≤ ((wrap64 ((wrap64 (x5_1 + 1)) * a1)) : Int) := of_decide_eq_true (by first | (with_reducible assumption) | assumption)
                  have q012 : (0 : Int) ≤ ((ji4) : Int) := of_decide_eq_true (by first | (with_reducible assumption) | assumption)
                  have hcut12 := cut_mid (P := Tryd.prog) 29 95 .i64 .i64 Tryd.underlying29 hi012 2 hsz12 A0 l0.length c0 (ji4) (wrap64 ((wrap64 (x5_1 + 1)) * a1)) q012 ql12 q12 hroom12
                  have hr12 := Kd.C_mid (lo := ((ji4) : Int).toNat) (hi := ((wrap64 ((wrap64 (x5_1 + 1)) * a1)) : Int).toNat) (c := c0) hC12 (by omega) (by omega) hroom12
                  obtain ⟨A12, hA12⟩ : ∃ A1, A1 = (if c0 = ((ji4) : Int).toNat then A0 else (A0 : Option Addr).map (·.add (((ji4) : Int).toNat * 2))) := ⟨_, rfl⟩
                  obtain ⟨c12, hc12⟩ : ∃ c1, c1 = c0 - ((ji4) : Int).toNat := ⟨_, rfl⟩
                  have hy12 : y308.length = ((wrap64 ((wrap64 (x5_1 + 1)) * a1)) : Int).toNat - ((ji4) : Int).toNat := (by rw [Ny308.out, List.length_drop, List.length_take] <;> omega)
                  rw [show ((l0).take ((wrap64 ((wrap64 (x5_1 + 1)) * a1)) : Int).toNat).drop ((ji4) : Int).toNat = y308 from Ny308.out.symm] at hr12
                  replace hr12 : Kd.C k95 _ A12 y308.length y308 := (by rw [hA12]; exact hr12)
                  rw [← hy12, ← hA12, ← hc12] at hcut12
                  have HR311 := Aside0.mk hr12
                  have HC311 := Aside0.mk (show y308.length ≤ c12 from by rw [hy12, hc12]; exact Nat.sub_le_sub_right (Nat.le_trans (by omega) hroom12) _)
                  clear hr12 hC12 hroom12 hi012 hsz12 hc12
                  have KY12 := Aside0.mk hy12
                  have KA12 := Aside0.mk hA12
                  clear hy12 hA12
                  replace q12 := eq_true q12
                  have q13 : (a1 : Int) ≤ ((l0.length : Int) : Int) := of_decide_eq_true (by first | (with_reducible assumption) | assumption)
                  obtain ⟨i013, hi013, _, hsz13, _⟩ := info_parts info95
                  have hroom13 : l0.length ≤ c0 := HC0.out
                  have hC13 : Kd.C k95 _ A0 l0.length l0 := HR0.out
                  have hcut13 := cut_to (P := Tryd.prog) 29 95 .i64 Tryd.underlying29 hi013 A0 l0.length c0 a1 (of_decide_eq_true (by first | (with_reducible assumption) | assumption)) q13 hroom13
                  have hr13 := Kd.C_take (m := (a1 : Int).toNat) hC13 (by omega)
                  have hy13 : y312.length = (a1 : Int).toNat := (by rw [Ny312.out, List.length_take]; omega)
                  rw [← Ny312.out] at hr13
                  rw [← hy13] at hcut13
                  have HR315 := Aside0.mk hr13
                  have HC315 := Aside0.mk (show y312.length ≤ c0 from by omega)
                  clear hr13 hC13 hroom13 hi013 hsz13
                  have KY13 := Aside0.mk hy13
                  clear hy13
                  replace q13 := eq_true q13
                  go_wp2_with (first | (go_at_call 88; (with_reducible refine (errataref03_SamePlaces.calls k1 _ _ y308 _ _ y312 true _ ?side1 ?side2 ?side3 ?side4 A10.out).mono ?_); (case side1 => repeat (first | exact HR311.out | (with_reducible refine Kd.C_alloc ?_ _) | (with_reducible refine Kd.C_drewN ?_ _) | (with_reducible refine Kd.C_drew ?_))); (case side2 => exact HC311.out); (case side3 => repeat (first | exact HR315.out | (with_reducible refine Kd.C_alloc ?_ _) | (with_reducible refine Kd.C_drewN ?_ _) | (with_reducible refine Kd.C_drew ?_))); (case side4 => exact HC315.out); rintro e w' ⟨rfl, ⟨nd, rfl⟩⟩; (try first | exact ⟨rfl, _, World.drewN_drewN _ _ _⟩ | exact ⟨rfl, _, Eq.trans (World.drewN_drewN _ _ _) (congrArg (World.drewN _) (Nat.add_assoc _ _ _))⟩)))
                  repeat (go_quiet (first | (go_at_call 88; (with_reducible refine (errataref03_SamePlaces.calls k1 _ _ y308 _ _ y312 true _ ?side1 ?side2 ?side3 ?side4 A10.out).mono ?_); (case side1 => repeat (first | exact HR311.out | (with_reducible refine Kd.C_alloc ?_ _) | (with_reducible refine Kd.C_drewN ?_ _) | (with_reducible refine Kd.C_drew ?_))); (case side2 => exact HC311.out); (case side3 => repeat (first | exact HR315.out | (with_reducible refine Kd.C_alloc ?_ _) | (with_reducible refine Kd.C_drewN ?_ _) | (with_reducible refine Kd.C_drew ?_))); (case side4 => exact HC315.out); rintro e w' ⟨rfl, ⟨nd, rfl⟩⟩; (try first | exact ⟨rfl, _, World.drewN_drewN _ _ _⟩ | exact ⟨rfl, _, Eq.trans (World.drewN_drewN _ _ _) (congrArg (World.drewN _) (Nat.add_assoc _ _ _))⟩))); try go_wp2_with (first | (go_at_call 88; (with_reducible refine (errataref03_SamePlaces.calls k1 _ _ y308 _ _ y312 true _ ?side1 ?side2 ?side3 ?side4 A10.out).mono ?_); (case side1 => repeat (first | exact HR311.out | (with_reducible refine Kd.C_alloc ?_ _) | (with_reducible refine Kd.C_drewN ?_ _) | (with_reducible refine Kd.C_drew ?_))); (case side2 => exact HC311.out); (case side3 => repeat (first | exact HR315.out | (with_reducible refine Kd.C_alloc ?_ _) | (with_reducible refine Kd.C_drewN ?_ _) | (with_reducible refine Kd.C_drew ?_))); (case side4 => exact HC315.out); rintro e w' ⟨rfl, ⟨nd, rfl⟩⟩; (try first | exact ⟨rfl, _, World.drewN_drewN _ _ _⟩ | exact ⟨rfl, _, Eq.trans (World.drewN_drewN _ _ _) (congrArg (World.drewN _) (Nat.add_assoc _ _ _))⟩))))
                  go_roundg k1
                  case measure => have := HK1.out; omega
                  case rel => exact ⟨(wrap64 (x5_1 + 1)), (by first | rfl | (simp; done) | (simp [*]; done)), H', ⟨by have := HK1.out; omega⟩, by repeat (first | exact Drawn0.refl _ | apply Drawn0.step)⟩
                · replace c11 := Bool.eq_false_iff.mpr c11
                  subst c11
                  have H1 : (some x5_1) = some r := by rw [if_neg (show ¬ (false = true) by decide)] at H; exact H
                  clear H
                  have H := H1
                  clear H1
                  obtain rfl := Option.some.inj H
                  have q14 : ((wrap64 ((wrap64 (x5_1 + 1)) * a1)) : Int) ≤ ((l0.length : Int) : Int) := of_decide_eq_true (by first | (with_reducible assumption) | assumption)
                  obtain ⟨i014, hi014, _, hsz14, _⟩ := info_parts info95
                  have hroom14 : l0.length ≤ c0 := HC0.out
                  have hC14 : Kd.C k95 _ A0 l0.length l0 := HR0.out
                  have ql14 : ((ji4) : Int) ≤ ((wrap64 ((wrap64 (x5_1 + 1)) * a1)) : Int) := of_decide_eq_true (by first | (with_reducible assumption) | assumption)
                  have q014 : (0 : Int) ≤ ((ji4) : Int) := of_decide_eq_true (by first | (with_reducible assumption) | assumption)
                  have hcut14 := cut_mid (P := Tryd.prog) 29 95 .i64 .i64 Tryd.underlying29 hi014 2 hsz14 A0 l0.length c0 (ji4) (wrap64 ((wrap64 (x5_1 + 1)) * a1)) q014 ql14 q14 hroom14
                  have hr14 := Kd.C_mid (lo := ((ji4) : Int).toNat) (hi := ((wrap64 ((wrap64 (x5_1 + 1)) * a1)) : Int).toNat) (c := c0) hC14 (by omega) (by omega) hroom14
                  obtain ⟨A14, hA14⟩ : ∃ A1, A1 = (if c0 = ((ji4) : Int).toNat then A0 else (A0 : Option Addr).map (·.add (((ji4) : Int).toNat * 2))) := ⟨_, rfl⟩
                  obtain ⟨c14, hc14⟩ : ∃ c1, c1 = c0 - ((ji4) : Int).toNat := ⟨_, rfl⟩
                  have hy14 : y308.length = ((wrap64 ((wrap64 (x5_1 + 1)) * a1)) : Int).toNat - ((ji4) : Int).toNat := (by rw [Ny308.out, List.length_drop, List.length_take] <;> omega)
                  rw [show ((l0).take ((wrap64 ((wrap64 (x5_1 + 1)) * a1)) : Int).toNat).drop ((ji4) : Int).toNat = y308 from Ny308.out.symm] at hr14
                  replace hr14 : Kd.C k95 _ A14 y308.length y308 := (by rw [hA14]; exact hr14)
                  rw [← hy14, ← hA14, ← hc14] at hcut14
                  have HR311 := Aside0.mk hr14
                  have HC311 := Aside0.mk (show y308.length ≤ c14 from by rw [hy14, hc14]; exact Nat.sub_le_sub_right (Nat.le_trans (by omega) hroom14) _)
                  clear hr14 hC14 hroom14 hi014 hsz14 hc14
                  have KY14 := Aside0.mk hy14
                  have KA14 := Aside0.mk hA14
                  clear hy14 hA14
                  replace q14 := eq_true q14
                  have q15 : (a1 : Int) ≤ ((l0.length : Int) : Int) := of_decide_eq_true (by first | (with_reducible assumption) | assumption)
                  obtain ⟨i015, hi015, _, hsz15, _⟩ := info_parts info95
                  have hroom15 : l0.length ≤ c0 := HC0.out
                  have hC15 : Kd.C k95 _ A0 l0.length l0 := HR0.out
                  have hcut15 := cut_to (P := Tryd.prog) 29 95 .i64 Tryd.underlying29 hi015 A0 l0.length c0 a1 (of_decide_eq_true (by first | (with_reducible assumption) | assumption)) q15 hroom15
                  have hr15 := Kd.C_take (m := (a1 : Int).toNat) hC15 (by omega)
                  have hy15 : y312.length = (a1 : Int).toNat := (by rw [Ny312.out, List.length_take]; omega)
                  rw [← Ny312.out] at hr15
                  rw [← hy15] at hcut15
                  have HR315 := Aside0.mk hr15
                  have HC315 := Aside0.mk (show y312.length ≤ c0 from by omega)
                  clear hr15 hC15 hroom15 hi015 hsz15
                  have KY15 := Aside0.mk hy15
                  clear hy15
                  replace q15 := eq_true q15
                  go_wp2_with (first | (go_at_call 88; (with_reducible refine (errataref03_SamePlaces.calls k1 _ _ y308 _ _ y312 false _ ?side1 ?side2 ?side3 ?side4 A10.out).mono ?_); (case side1 => repeat (first | exact HR311.out | (with_reducible refine Kd.C_alloc ?_ _) | (with_reducible refine Kd.C_drewN ?_ _) | (with_reducible refine Kd.C_drew ?_))); (case side2 => exact HC311.out); (case side3 => repeat (first | exact HR315.out | (with_reducible refine Kd.C_alloc ?_ _) | (with_reducible refine Kd.C_drewN ?_ _) | (with_reducible refine Kd.C_drew ?_))); (case side4 => exact HC315.out); rintro e w' ⟨rfl, ⟨nd, rfl⟩⟩; (try first | exact ⟨rfl, _, World.drewN_drewN _ _ _⟩ | exact ⟨rfl, _, Eq.trans (World.drewN_drewN _ _ _) (congrArg (World.drewN _) (Nat.add_assoc _ _ _))⟩)))
                  repeat (go_quiet (first | (go_at_call 88; (with_reducible refine (errataref03_SamePlaces.calls k1 _ _ y308 _ _ y312 false _ ?side1 ?side2 ?side3 ?side4 A10.out).mono ?_); (case side1 => repeat (first | exact HR311.out | (with_reducible refine Kd.C_alloc ?_ _) | (with_reducible refine Kd.C_drewN ?_ _) | (with_reducible refine Kd.C_drew ?_))); (case side2 => exact HC311.out); (case side3 => repeat (first | exact HR315.out | (with_reducible refine Kd.C_alloc ?_ _) | (with_reducible refine Kd.C_drewN ?_ _) | (with_reducible refine Kd.C_drew ?_))); (case side4 => exact HC315.out); rintro e w' ⟨rfl, ⟨nd, rfl⟩⟩; (try first | exact ⟨rfl, _, World.drewN_drewN _ _ _⟩ | exact ⟨rfl, _, Eq.trans (World.drewN_drewN _ _ _) (congrArg (World.drewN _) (Nat.add_assoc _ _ _))⟩))); try go_wp2_with (first | (go_at_call 88; (with_reducible refine (errataref03_SamePlaces.calls k1 _ _ y308 _ _ y312 false _ ?side1 ?side2 ?side3 ?side4 A10.out).mono ?_); (case side1 => repeat (first | exact HR311.out | (with_reducible refine Kd.C_alloc ?_ _) | (with_reducible refine Kd.C_drewN ?_ _) | (with_reducible refine Kd.C_drew ?_))); (case side2 => exact HC311.out); (case side3 => repeat (first | exact HR315.out | (with_reducible refine Kd.C_alloc ?_ _) | (with_reducible refine Kd.C_drewN ?_ _) | (with_reducible refine Kd.C_drew ?_))); (case side4 => exact HC315.out); rintro e w' ⟨rfl, ⟨nd, rfl⟩⟩; (try first | exact ⟨rfl, _, World.drewN_drewN _ _ _⟩ | exact ⟨rfl, _, Eq.trans (World.drewN_drewN _ _ _) (congrArg (World.drewN _) (Nat.add_assoc _ _ _))⟩))))
                  go_ret
                  exact ⟨by first | rfl | (simp; done) | (simp only [← hji4] <;> (first | rfl | simp)) | (simp [*]; done), by repeat (first | exact Drawn0.refl _ | apply Drawn0.step)⟩
              · rw [if_neg c9] at H
                exact absurd H (by simp)
            · rw [if_neg c8] at H
              exact absurd H (by simp)
          · rw [if_neg c6] at H
            exact absurd H (by simp)
        · rw [if_neg c5] at H
          exact absurd H (by simp)
      · rw [if_neg c3] at H
        have c3b0 : decide ((wrap64 ((wrap64 (x5_1 + 1)) * a1)) ≤ (l0.length : Int)) = false := decide_eq_false c3
        clear c3
        obtain rfl := Option.some.inj H
        go_wp2
        repeat (go_quiet (fail); try go_wp2)
        go_ret
        exact ⟨by first | rfl | (simp; done) | (simp [*]; done), by repeat (first | exact Drawn0.refl _ | apply Drawn0.step)⟩

-- NOT PRINTED: function 29 (errataref03_Fold)

end Go.Proofs.YtmgfdcfbjgokgaaDoor.PL
