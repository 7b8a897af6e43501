/- The walk of the reference's 'Fold'. -/
import Derived.Test.YtmgfdcfbjgokgaaDoorFo
import Derived.Test.YtmgfdcfbjgokgaaDoorFoldW
import Derived.BigQuiet
namespace Go.Proofs.YtmgfdcfbjgokgaaDoor
open Go Go.RowKit Go.Proofs.YtmgfdcfbjgokgaaDoorW.PrintWords Go.Proofs.YtmgfdcfbjgokgaaDoorW.PrintLast Go.Proofs.YtmgfdcfbjgokgaaDoorW.PrintMore Go.Proofs.YtmgfdcfbjgokgaaDoor.PL
set_option linter.unusedVariables false
set_option linter.unusedSimpArgs false

theorem infoRPl : (Tryd.prog.info? 95).map (fun i => (i.zero, i.size, i.bytes)) = some (some (.agg #[.string ⟨#[]⟩, .int .i64 0]), 2, 24) := by kernel_rfl
theorem infoRRun_ : (Tryd.prog.info? 52).map (fun i => (i.zero, i.size, i.bytes)) = some (some (.agg #[.slice none 0 0, .int .i64 0]), 2, 32) := by kernel_rfl
/-- What 'Fold' answers. -/
def RFoldIs (L : List Pl) (w : World) (e : Ending) (w' : World) : Prop :=
  ∃ v rs, e = .returned (.tuple #[v, .int .i64 (foldOf L).2]) ∧ rs.map run52 = (foldOf L).1 ∧ Kd.S k52 52 w' w.heap.size (fun _ => True) v rs ∧ Below w.heap.size w w'
structure RInv (F : List Rn) (q : Nat) (rest : List S95) (rs : List S52) (single : Bool) : Prop where
  go : goF q (rest.map rpl) (rs.map run52) single = F
  len : rest.length < q
  sing : single = true → rs ≠ []
  many : rs.length + rest.length ≤ 64
  long : ∀ r ∈ rs, r.f0.length + rest.length ≤ 64
theorem RInv.done {F : List Rn} {q : Nat} {rest : List S95} {rs : List S52} {s : Bool} (H : RInv F q rest rs s) (h : rest.length = 0) : rs.map run52 = F := by
  have e : rest = [] := List.eq_nil_of_length_eq_zero h
  subst e
  have := H.go
  rwa [List.map_nil, goF_nil] at this
theorem RInv.block {F : List Rn} {q p k m : Nat} {rest : List S95} {rs : List S52} {s : Bool} (H : RInv F (q + 1) rest rs s) (hp : p = (blockP (rest.map rpl)).1) (hk : k = (blockP (rest.map rpl)).2) (hm : m = p * k) (hp0 : 0 < p) (hmn : m ≤ rest.length) (hpm : p ≤ m) :
    RInv F q (rest.drop m) (rs ++ [⟨rest.take p, (k : Int)⟩]) false := by
  have hne : rest.map rpl ≠ [] := by
    intro e
    have := congrArg List.length e
    simp at this
    subst this
    simp at hmn
    omega
  have hg := H.go
  rw [goF_cons _ _ hne, ← hp, ← hk, if_pos hp0, ← hm] at hg
  have hl := H.len
  have hmany := H.many
  refine ⟨?_, by rw [List.length_drop]; omega, (fun h => by cases h), by rw [List.length_append, List.length_drop, List.length_singleton]; omega, fun r hr => ?_⟩
  · rw [← hg, List.map_drop, List.map_append]
    congr 2
    simp [run52]
  · rcases List.mem_append.1 hr with hr | hr
    · have := H.long r hr
      rw [List.length_drop]; omega
    · rw [List.mem_singleton.1 hr]
      show (rest.take p).length + _ ≤ 64
      rw [List.length_take, List.length_drop]; omega
/-- The runs that the next single place goes into. -/
def readyR (s : Bool) (rs : List S52) : List S52 := if s then rs else rs ++ [⟨[], 1⟩]
theorem RInv.step {F : List Rn} {q : Nat} {rest : List S95} {rs : List S52} {s : Bool} (H : RInv F (q + 1) rest rs s) (hp : ¬ 0 < (blockP (rest.map rpl)).1) (hn : 0 < rest.length) :
    RInv F q (rest.drop 1) (pushR (readyR s rs) (rest.getD 0 z95)) true ∧ readyR s rs ≠ [] ∧ (readyR s rs).length ≤ 64 ∧ ∀ r ∈ readyR s rs, r.f0.length ≤ 64 := by
  have hne : rest.map rpl ≠ [] := by
    intro e
    have := congrArg List.length e
    simp at this
    subst this
    simp at hn
  have hg := H.go
  rw [goF_cons _ _ hne, if_neg hp] at hg
  have hl := H.len
  have hmany := H.many
  have hrl : (readyR s rs).length ≤ rs.length + 1 := by unfold readyR; split <;> simp
  have hrb : ∀ r ∈ readyR s rs, r.f0.length ≤ 64 - rest.length := by
    intro r hr
    unfold readyR at hr
    split at hr
    · have := H.long r hr; omega
    · rcases List.mem_append.1 hr with hr | hr
      · have := H.long r hr; omega
      · rw [List.mem_singleton.1 hr]; simp
  have hrn : readyR s rs ≠ [] := by
    unfold readyR
    split
    · rename_i h; exact H.sing h
    · simp
  refine ⟨⟨?_, by rw [List.length_drop]; omega, fun _ => ?_, by rw [pushR_len, List.length_drop]; omega, fun r hr => ?_⟩, hrn, by omega, fun r hr => by have := hrb r hr; omega⟩
  · rw [← hg, List.map_drop, pushR_run]
    congr 2
    · unfold readyR
      cases s <;> simp [run52]
    · cases rest with
      | nil => simp at hn
      | cons y r => rfl
  · intro e
    have := congrArg List.length e
    rw [pushR_len] at this
    exact hrn (List.eq_nil_of_length_eq_zero (by simpa using this))
  · have := pushR_bd _ _ _ hrb r hr
    rw [List.length_drop]; omega
theorem S_openR {W : World} {base : Nat} {ok : Nat → Prop} {v : Value} {R : List S52} (h : Kd.S k52 52 W base ok v R) (hne : R ≠ []) : ∃ g cap i, v = .slice (some ⟨g, 0, none⟩) (i + 1) cap ∧ i + 1 ≤ cap ∧ R.length = i + 1 ∧ Kd.S k52 52 W base ok (.slice (some ⟨g, 0, none⟩) (i + 1) cap) R := by
  have hl : 0 < R.length := List.length_pos_iff.2 hne
  obtain ⟨g, cap, hv, _⟩ := Kd.S_form h hl
  have e : R.length = (R.length - 1) + 1 := by omega
  subst hv
  have := (Kd.S_reads' h).2.1
  refine ⟨g, cap, R.length - 1, by rw [← e], by omega, e, by rw [← e]; exact h⟩
theorem close_runR {w5 : World} {base g i cap : Nat} {oki okp : Nat → Prop} {R : List S52} {E : S52} {y : S95} {c0 v5 : Value} (HH : Kd.H k52 52 w5 base (fun _ => True) (.slice (some ⟨g, 0, none⟩) (i + 1) cap) R (i : Int) oki [c0, .int .i64 E.f1])
    (hR : Kd.R k95 95 w5 base okp v5 (E.f0 ++ [y])) (hokp : ∀ k, okp k → oki k) (hne : ∀ k, okp k → k ≠ g) :
    Kd.S k52 52 (w5.setCell ⟨g, i * 2, none⟩ v5) base (fun _ => True) (.slice (some ⟨g, 0, none⟩) (i + 1) cap) (R.set i ⟨E.f0 ++ [y], E.f1⟩) ∧ w5.grownBy (w5.setCell ⟨g, i * 2, none⟩ v5) (some g) := by
  obtain ⟨A5, c5, rfl⟩ := Kd.R_slice hR
  obtain ⟨h1, h2⟩ := Kd.H_seg HH (by omega) (by omega) (seg := [.slice A5 (E.f0 ++ [y]).length c5]) (j := 0) (by show 0 + 1 ≤ 2; omega) (fun q hq => by rw [List.mem_singleton.1 hq]; rfl)
  have e : w5.setCells g ((i : Int).toNat * k52.sz + 0) [.slice A5 (E.f0 ++ [y]).length c5] = w5.setCell ⟨g, i * 2, none⟩ (.slice A5 (E.f0 ++ [y]).length c5) := by
    rw [Int.toNat_natCast]
    rfl
  rw [e] at h1 h2
  have hR2 : Kd.R k95 95 (w5.setCell ⟨g, i * 2, none⟩ (.slice A5 (E.f0 ++ [y]).length c5)) base okp (.slice A5 (E.f0 ++ [y]).length c5) (E.f0 ++ [y]) := Kd.R_far hR (fun k hk => hne k hk) _
  have := Kd.H_back h1 (x' := (⟨E.f0 ++ [y], E.f1⟩ : S52)) (okp := okp) (k52_mkM _ _ _ (⟨E.f0 ++ [y], E.f1⟩ : S52) hR2) hokp
  rw [Int.toNat_natCast] at this
  exact ⟨this, h2⟩
/-- A list from some place on. -/
theorem cut_tailR (A : Option Addr) (n c m : Nat) (l : List S95) (hn : n = l.length) (hm : m ≤ n) (hc : n ≤ c) : ∃ A2 : Option Addr, (∀ W : World, (Instr.slice 29 (.slice A n c) (some (.int .i64 (m : Int))) none none).run Tryd.prog W = .ok (.slice A2 (n - m) (c - m)) W) ∧
    ∀ W : World, Kd.C k95 W A n l → Kd.C k95 W A2 (n - m) (l.drop m) := by
  subst hn
  obtain ⟨i, hi, _, hz, _⟩ := info_parts infoRPl
  refine ⟨if c = m then A else A.map (·.add (m * 2)), fun W => ?_, fun W h => ?_⟩
  · have := cut_from (P := Tryd.prog) 29 95 .i64 Tryd.underlying29 hi 2 hz A l.length c (m : Int) (by omega) (by omega) W
    simpa using this
  · have := Kd.C_drop (k := k95) h hm hc
    rw [List.length_drop] at this
    exact this
theorem times_n {A : Option Addr} {c n : Nat} {l : List S95} {W : World} (p : Nat) (hn : n = l.length) (h : Kd.C k95 W A n l) (hc : n ≤ c) (hb : n ≤ 64) (h1 : 1 ≤ p) (h8 : p ≤ 8) (hp : p ≤ n) :
    Calls Tryd.prog 61 #[.slice A n c, .int .i64 (p : Int)] W fun e w' => e = .returned (.int .i64 ((cntN (l.map rpl) p : Nat) : Int)) ∧ Below W.heap.size W w' := by
  subst hn
  exact (errataref03_times.calls _ A c l _ _ W h hc (times_f l hb p h1 h8 hp)).mono fun e w' h => ⟨h.1, h.2.below⟩
theorem rcheck_v {A : Option Addr} {c : Nat} {l : List S95} {W : World} (h : Kd.C k95 W A l.length l) (hc : l.length ≤ c) (hl : l.length ≤ 9223372036854775806) :
    Calls Tryd.prog 15 #[.slice A l.length c] W fun e w' => e = .returned (.int .i64 (checkN (l.map rpl))) ∧ Below W.heap.size W w' :=
  errataref03_Check.calls _ A c l _ W h hc (rcheck_f l hl (l.length + 125) (Nat.le_refl _))
/-- A list between two places. -/
theorem cut_midR (A : Option Addr) (n c lo hi : Nat) (l : List S95) (hn : n = l.length) (h1 : lo ≤ hi) (h2 : hi ≤ n) (hc : n ≤ c) : ∃ A2 : Option Addr, (∀ W : World, (Instr.slice 29 (.slice A n c) (some (.int .i64 (lo : Int))) (some (.int .i64 (hi : Int))) none).run Tryd.prog W = .ok (.slice A2 (hi - lo) (c - lo)) W) ∧
    ∀ W : World, Kd.C k95 W A n l → Kd.C k95 W A2 (hi - lo) ((l.take hi).drop lo) := by
  subst hn
  obtain ⟨i, hi0, _, hz, _⟩ := info_parts infoRPl
  refine ⟨if c = lo then A else A.map (·.add (lo * 2)), fun W => ?_, fun W h => ?_⟩
  · have := cut_mid (P := Tryd.prog) 29 95 .i64 .i64 Tryd.underlying29 hi0 2 hz A l.length c (lo : Int) (hi : Int) (by omega) (by omega) (by omega) hc W
    simpa using this
  · have := Kd.C_mid (k := k95) h h1 h2 hc
    rw [show ((l.take hi).drop lo).length = hi - lo by rw [List.length_drop, List.length_take]; omega] at this
    exact this
theorem R_winR {α : Type} {k : Kd α} {W : World} {e base m : Nat} {v : Value} {xs : List α} (h : Kd.R k e W base (fun k => m ≤ k) v xs) : Kd.R k e W base (fun j => m ≤ j ∧ j < W.heap.size) v xs :=
  Kd.R_mono (Kd.R_bound h) (fun _ h => ⟨h.1, h.2.2.1⟩)
set_option maxRecDepth 100000 in
set_option maxHeartbeats 16000000 in
theorem rFold_ok (A : Option Addr) (c : Nat) (l : List S95) (w : World) (h : Kd.C k95 w A l.length l) (hc : l.length ≤ c) (h0 : checkN (l.map rpl) = 0) :
    Calls Tryd.prog 29 #[.slice A l.length c] w (RFoldIs (l.map rpl) w) := by
  have h64 := (checkN_zero h0).1
  rw [List.length_map] at h64
  have hchk := rcheck_v h hc (by omega)
  rw [h0] at hchk
  have HCK := Lib.hid hchk
  obtain ⟨F, hF⟩ : ∃ F, F = goF ((l.map rpl).length + 1) (l.map rpl) [] false := ⟨_, rfl⟩
  have HFO := Lib.hid (show foldOf (l.map rpl) = (F, 0) by unfold foldOf; rw [if_pos h0, hF])
  obtain ⟨n0, hn0⟩ : ∃ n, n = l.length := ⟨_, rfl⟩
  have HF := Lib.hid (show RInv F (n0 + 1) l [] false from ⟨by rw [hF, hn0, List.length_map]; rfl, by omega, (fun h => by cases h), (by rw [List.length_nil]; omega), (fun r hr => by cases hr)⟩)
  have HN0 := Lib.hid hn0
  have HC0 := Lib.hid h
  have Hc0 := Lib.hid hc
  rw [← hn0] at HCK HC0 Hc0 h64 ⊢
  clear hF hchk h hc h0 hn0
  go_enter Tryd.func29, Tryd.ntmps29
  go_wp2_with (go_at_call 15; (with_reducible refine (HCK.out).mono ?_); rintro e w1 ⟨rfl, hb1⟩; have HB1 := Lib.hid hb1; clear hb1 HCK)
  go_loopg [5, 6, 7] (n0 + 1) (fun q s5 s6 s7 wx => ∃ (j n : Nat) (rest : List S95) (rs : List S52) (single : Bool), s7 = .int .i64 j ∧ s6 = .bool single ∧ Hid (n = rest.length ∧ n0 = j + n ∧ rest = l.drop j) ∧
    Hid (Kd.S k52 52 wx w.heap.size (fun _ => True) s5 rs) ∧ Hid (Below w.heap.size w wx) ∧ Hid (RInv F q rest rs single))
  case atStart => exact ⟨0, n0, l, [], false, rfl, rfl, Lib.hid ⟨HN0.out, by omega, rfl⟩, Kd.S_nil _ _ _ _ _, HB1.out, HF.out⟩
  case round =>
    obtain ⟨j, n, rest, rs, single, rfl, rfl, HN, HS, HB, HI⟩ := hrel
    clear HF HB1
    have hjn : j + n = n0 := HN.out.2.1.symm
    have hn64 : n ≤ 64 := by omega
    obtain ⟨q, rfl⟩ : ∃ q, gk = q + 1 := ⟨gk - 1, by have := HI.out.len; omega⟩
    by_cases hn : n = 0
    · have hend : decide ((j : Int) < (n0 : Int)) = false := by simp; omega
      have hendN : ¬ j < n0 := by omega
      have HN' := Lib.hid (show rest.length = 0 by rw [← HN.out.1]; exact hn)
      clear hn hjn
      go_wp2
      go_ret2
      exact ⟨_, rs, by rw [HFO.out]; rfl, by rw [HFO.out]; exact HI.out.done HN'.out, HS.out, HB.out⟩
    · have hgo : decide ((j : Int) < (n0 : Int)) = true := by simp; omega
      have hgoN : j < n0 := by omega
      have hgoI : (j : Int) < (n0 : Int) := by omega
      have HJN := Lib.hid hjn
      obtain ⟨Ar, hcutr, hcutrC⟩ := cut_tailR A n0 c j l HN0.out (by omega) Hc0.out
      have HCR := Lib.hid (show Kd.C k95 w Ar n rest by
        have h2 := hcutrC w HC0.out
        rw [HN.out.2.2]
        rwa [show n0 - j = n by omega] at h2)
      have hcut : ∀ W : World, (Instr.slice 29 (.slice A n0 c) (some (.int .i64 (j : Int))) none none).run Tryd.prog W = .ok (.slice Ar n (c - j)) W := fun W => by have := hcutr W; rwa [show n0 - j = n by omega] at this
      have hnc : n ≤ c - j := by have := Hc0.out; omega
      clear hcutr hcutrC hn hjn
      go_wp2
      obtain ⟨wo, rfl⟩ : ∃ wo, wo = wr := ⟨_, rfl⟩
      obtain ⟨g0, rfl⟩ : ∃ g0, g0 = q := ⟨_, rfl⟩
      have hnj : (n0 : Int) - (j : Int) = (n : Int) := by have := HJN.out; omega
      go_loopg [8, 9, 10] 9 (fun f s8 s9 s10 wx => ∃ (p b M : Nat), s8 = .int .i64 b ∧ s9 = .int .i64 M ∧ s10 = .int .i64 p ∧ Hid (p + f = 10 ∧ 1 ≤ p ∧ b ≤ 8 ∧ M ≤ 64) ∧ Hid (∃ o, M = b * o ∧ (b = 0 ∨ (1 ≤ b ∧ b ≤ 8 ∧ 2 ≤ o ∧ o = cntN (rest.map rpl) b)) ∧ bestGo (rest.map rpl) f p b o = blockP (rest.map rpl)) ∧ Hid (Below wo.heap.size wo wx))
      case atStart => exact ⟨1, 0, 0, rfl, rfl, rfl, Lib.hid ⟨by omega, by omega, by omega, by omega⟩, Lib.hid ⟨0, by omega, .inl rfl, rfl⟩, Below.refl _ _⟩
      case round =>
        obtain ⟨p, b, M, rfl, rfl, rfl, HPF, HBO, HBX⟩ := hrel
        obtain ⟨hpf, hp1, hb8, hM64⟩ := HPF.out
        by_cases hc : p ≤ 8 ∧ p ≤ n
        · obtain ⟨hp8, hpn⟩ := hc
          obtain ⟨f, rfl⟩ : ∃ f, gk = f + 1 := ⟨gk - 1, by omega⟩
          have hc1 : decide ((p : Int) ≤ 8) = true := by simp; omega
          have hc2 : decide ((p : Int) ≤ (n : Int)) = true := by simp; omega
          obtain ⟨kk, hkk⟩ : ∃ kk, kk = cntN (rest.map rpl) p := ⟨_, rfl⟩
          have hkl := cntN_le (rest.map rpl) p
          rw [← hkk, List.length_map, ← HN.out.1] at hkl
          have hkk64 : kk ≤ 64 := by
            have : kk * 1 ≤ kk * p := Nat.mul_le_mul_left _ hp1
            omega
          obtain ⟨pk, hpk⟩ : ∃ pk, pk = p * kk := ⟨_, rfl⟩
          have hpkn : pk ≤ 64 := by rw [hpk, Nat.mul_comm]; omega
          have HKK := Lib.hid hkk
          have HPK := Lib.hid hpk
          have HMW := Lib.hid (show wrap64 ((p : Int) * (kk : Int)) = (pk : Int) by rw [wmul p kk (by omega) (by omega), hpk])
          have hge : (decide (2 ≤ (kk : Int)) = true ∧ 2 ≤ kk) ∨ (decide (2 ≤ (kk : Int)) = false ∧ ¬ 2 ≤ kk) := by
            by_cases h : 2 ≤ kk
            · exact .inl ⟨by simp; omega, h⟩
            · exact .inr ⟨by simp; omega, h⟩
          have hgt : (decide ((M : Int) < (pk : Int)) = true ∧ M < pk) ∨ (decide ((M : Int) < (pk : Int)) = false ∧ ¬ M < pk) := by
            by_cases h : M < pk
            · exact .inl ⟨by simp; omega, h⟩
            · exact .inr ⟨by simp; omega, h⟩
          clear hkk hpk hkl hpf
          have hmw := HMW.out
          rcases hge with ⟨hg1, hg2⟩ | ⟨hg1, hg2⟩
          · rcases hgt with ⟨ht1, ht2⟩ | ⟨ht1, ht2⟩
            · go_wp2_with (go_at_call 61; (with_reducible refine (times_n p HN.out.1 (Kd.C_below HCR.out (HB.out.trans (HBX.out.mono HB.out.size))) hnc hn64 hp1 hp8 hpn).mono ?_); rintro e w3 ⟨rfl, hb⟩; rw [← HKK.out]; have HBX3 := Lib.hid (HBX.out.trans (hb.mono HBX.out.size)); clear hb HBX)
              clear hmw
              go_roundg f
              case measure => omega
              case rel => exact ⟨p + 1, p, pk, rfl, congrArg (Value.int .i64) HMW.out, (by go_num), Lib.hid ⟨by have := HPF.out.1; omega, by omega, by omega, by omega⟩, Lib.hid (by
                obtain ⟨o, hMo, hbo, hgo⟩ := HBO.out
                refine ⟨kk, HPK.out, .inr ⟨hp1, hp8, hg2, HKK.out⟩, ?_⟩
                rw [← hgo]
                conv => rhs; unfold bestGo
                rw [List.length_map, ← HN.out.1, if_pos ⟨hp8, hpn⟩, ← HKK.out, ← HPK.out, ← hMo, if_pos ⟨hg2, ht2⟩]), HBX3.out⟩
            · go_wp2_with (go_at_call 61; (with_reducible refine (times_n p HN.out.1 (Kd.C_below HCR.out (HB.out.trans (HBX.out.mono HB.out.size))) hnc hn64 hp1 hp8 hpn).mono ?_); rintro e w3 ⟨rfl, hb⟩; rw [← HKK.out]; have HBX3 := Lib.hid (HBX.out.trans (hb.mono HBX.out.size)); clear hb HBX)
              clear hmw
              go_roundg f
              case measure => omega
              case rel => exact ⟨p + 1, b, M, rfl, rfl, (by go_num), Lib.hid ⟨by have := HPF.out.1; omega, by omega, by omega, by omega⟩, Lib.hid (by
                obtain ⟨o, hMo, hbo, hgo⟩ := HBO.out
                refine ⟨o, hMo, hbo, ?_⟩
                rw [← hgo]
                conv => rhs; unfold bestGo
                rw [List.length_map, ← HN.out.1, if_pos ⟨hp8, hpn⟩, ← HKK.out, ← HPK.out, ← hMo, if_neg (fun h => ht2 h.2)]), HBX3.out⟩
          · clear hgt
            go_wp2_with (go_at_call 61; (with_reducible refine (times_n p HN.out.1 (Kd.C_below HCR.out (HB.out.trans (HBX.out.mono HB.out.size))) hnc hn64 hp1 hp8 hpn).mono ?_); rintro e w3 ⟨rfl, hb⟩; rw [← HKK.out]; have HBX3 := Lib.hid (HBX.out.trans (hb.mono HBX.out.size)); clear hb HBX)
            clear hmw
            go_roundg f
            case measure => omega
            case rel => exact ⟨p + 1, b, M, rfl, rfl, (by go_num), Lib.hid ⟨by have := HPF.out.1; omega, by omega, by omega, by omega⟩, Lib.hid (by
                obtain ⟨o, hMo, hbo, hgo⟩ := HBO.out
                refine ⟨o, hMo, hbo, ?_⟩
                rw [← hgo]
                conv => rhs; unfold bestGo
                rw [List.length_map, ← HN.out.1, if_pos ⟨hp8, hpn⟩, ← HKK.out, ← HPK.out, ← hMo, if_neg (fun h => hg2 h.1)]), HBX3.out⟩
        · obtain ⟨o, hMo, hbo, hgoB⟩ := HBO.out
          have hblk : blockP (rest.map rpl) = (b, o) := by
            rw [← hgoB]
            cases gk with
            | zero => rfl
            | succ f =>
              unfold bestGo
              rw [List.length_map, ← HN.out.1, if_neg hc]
          have HBK := Lib.hid hblk
          have HMO := Lib.hid hMo
          have HBO2 := Lib.hid hbo
          have HC := Lib.hid hc
          have hcc : (decide ((p : Int) ≤ 8) = true ∧ ¬ p ≤ n) ∨ decide ((p : Int) ≤ 8) = false := by
            by_cases h8 : p ≤ 8
            · exact .inl ⟨by simp; omega, by omega⟩
            · exact .inr (by simp; omega)
          have HS3 := Lib.hid (Kd.S_below HS.out HBX.out)
          have HB3 := Lib.hid (HB.out.trans (HBX.out.mono HB.out.size))
          clear hgoB hblk hMo hbo hc HBO HS HB HBX hpf
          by_cases hb0 : 0 < b
          · have hbI : decide ((0 : Int) < (b : Int)) = true := by simp; omega
            have hbI2 : (0 : Int) < (b : Int) := by omega
            rcases hcc with ⟨hcc1, hcc2⟩ | hcc1
            all_goals
              go_wp2
              have hsp : 1 ≤ b ∧ b ≤ 8 ∧ 2 ≤ o ∧ o = cntN (rest.map rpl) b := by rcases HBO2.out with h | h; omega; exact h
              have hle := blockP_le (rest.map rpl)
              rw [HBK.out, List.length_map, ← HN.out.1] at hle
              have hMn : M ≤ n := by rw [HMO.out]; exact hle
              have ho2 := hsp.2.2.1
              have hbM : b ≤ M := by
                have : b * 1 ≤ b * o := Nat.mul_le_mul_left _ (by omega)
                rw [HMO.out]; omega
              have ho64 : o ≤ 64 := by
                have : 1 * o ≤ b * o := Nat.mul_le_mul_right _ hb0
                rw [HMO.out] at hM64; omega
              have hjn : j + n = n0 := HJN.out
              obtain ⟨Am, hcutm, hcutmC⟩ := cut_midR A n0 c j (j + b) l HN0.out (by omega) (by omega) Hc0.out
              have HCM := Lib.hid (show Kd.C k95 w Am b (rest.take b) by
                have h2 := hcutmC w HC0.out
                rw [show j + b - j = b by omega] at h2
                rw [HN.out.2.2]
                have e : (l.take (j + b)).drop j = (l.drop j).take b := by rw [List.drop_take, show j + b - j = b by omega]
                rwa [e] at h2)
              have hcut2 : ∀ W : World, (Instr.slice 29 (.slice A n0 c) (some (.int .i64 (j : Int))) (some (.int .i64 ((j : Int) + (b : Int)))) none).run Tryd.prog W = .ok (.slice Am b (c - j)) W := fun W => by
                have h2 := hcutm W
                rw [show j + b - j = b by omega] at h2
                rw [show ((j : Int) + (b : Int)) = ((j + b : Nat) : Int) by omega]
                exact h2
              have hdiv : Int.tdiv (M : Int) (b : Int) = (o : Int) := by
                rw [HMO.out, ← Int.ofNat_tdiv, Nat.mul_div_cancel_left _ hb0]
              have hbne : ((b : Int) == 0) = false := by simp; omega
              have hbne2 : ¬ b = 0 := by omega
              have hsum : IntKind.i64.wrap ((j : Int) + (b : Int)) = (j : Int) + (b : Int) := by rw [i64_w]; unfold wrap64; omega
              have hsum2 : IntKind.i64.wrap (o : Int) = (o : Int) := by rw [i64_w]; unfold wrap64; omega
              have HSD := Lib.hid (Kd.S_drew HS3.out)
              have HBD := Lib.hid (below_drew1 HB3.out)
              have hmany := HI.out.many
              clear hsp hle hcutm hcutmC hjn HS3 HB3
              refine start_ (n := 16) (S := fun _ => True) (ds := []) #[false, false, false, false, false, false, false, false, false, false, false, false, false, false, false, false] (by kernel_rfl) rfl rfl trivial (fun hHeld => ?_)
              generalize wr.drew = wd at HSD HBD ⊢
              clear hHeld
              refine pure_ (i := 0) (N := some 54) (v := ?_) (a' := ?_) #[true, false, false, false, false, false, false, false, false, false, false, false, false, false, false, false] rfl rfl (by kernel_rfl) (fun _ _ _ h => h) (Or.inl ⟨by rfl, ?_⟩) ?_ ?_
              rotate_left
              · intro w'
                go_simp
                with_reducible rfl
              rotate_left
              · simp only [Act.put, List.setIfInBounds_toArray, List.set_cons_zero, List.set_cons_succ, i64_w, i32_w]
                rfl
              refine pure_ (i := 2) (N := some 56) (v := ?_) (a' := ?_) #[true, false, true, false, false, false, false, false, false, false, false, false, false, false, false, false] rfl rfl (by kernel_rfl) (fun _ _ _ h => h) (Or.inl ⟨by rfl, ?_⟩) ?_ ?_
              rotate_left
              · intro w'
                go_simp
                with_reducible rfl
              rotate_left
              · simp only [Act.put, List.setIfInBounds_toArray, List.set_cons_zero, List.set_cons_succ, i64_w, i32_w]
                rfl
              refine pure_ (i := 3) (N := some 57) (v := ?_) (a' := ?_) #[true, false, true, true, false, false, false, false, false, false, false, false, false, false, false, false] rfl rfl (by kernel_rfl) (fun _ _ _ h => h) (Or.inl ⟨by rfl, ?_⟩) ?_ ?_
              rotate_left
              · intro w'
                go_simp
                with_reducible rfl
              rotate_left
              · simp only [Act.put, List.setIfInBounds_toArray, List.set_cons_zero, List.set_cons_succ, i64_w, i32_w]
                rfl
              refine pure_ (i := 4) (N := some 58) (v := ?_) (a' := ?_) #[true, false, true, true, true, false, false, false, false, false, false, false, false, false, false, false] rfl rfl (by kernel_rfl) (fun _ _ _ h => h) (Or.inl ⟨by rfl, ?_⟩) ?_ ?_
              rotate_left
              · intro w'
                go_simp
                with_reducible rfl
              rotate_left
              · simp only [Act.put, List.setIfInBounds_toArray, List.set_cons_zero, List.set_cons_succ, i64_w, i32_w]
                rfl
              refine pure_ (i := 5) (N := some 59) (v := ?_) (a' := ?_) #[true, false, true, true, true, true, false, false, false, false, false, false, false, false, false, false] rfl rfl (by kernel_rfl) (fun _ _ _ h => h) (Or.inl ⟨by rfl, ?_⟩) ?_ ?_
              rotate_left
              · intro w'
                go_simp
                with_reducible rfl
              rotate_left
              · simp only [Act.put, List.setIfInBounds_toArray, List.set_cons_zero, List.set_cons_succ, i64_w, i32_w]
                rfl
              refine pure_ (i := 6) (N := some 60) (v := ?_) (a' := ?_) #[true, false, true, true, true, true, true, false, false, false, false, false, false, false, false, false] rfl rfl (by kernel_rfl) (fun _ _ _ h => h) (Or.inl ⟨by rfl, ?_⟩) ?_ ?_
              rotate_left
              · intro w'
                go_simp
                with_reducible rfl
              rotate_left
              · simp only [Act.put, List.setIfInBounds_toArray, List.set_cons_zero, List.set_cons_succ, i64_w, i32_w]
                rfl
              refine pure_ (i := 7) (N := some 61) (v := ?_) (a' := ?_) #[true, false, true, true, true, true, true, true, false, false, false, false, false, false, false, false] rfl rfl (by kernel_rfl) (fun _ _ _ h => h) (Or.inl ⟨by rfl, ?_⟩) ?_ ?_
              rotate_left
              · intro w'
                go_simp
                with_reducible rfl
              rotate_left
              · simp only [Act.put, List.setIfInBounds_toArray, List.set_cons_zero, List.set_cons_succ, i64_w, i32_w]
                rfl
              refine pure_ (i := 9) (N := some 63) (v := ?_) (a' := ?_) #[true, false, true, true, true, true, true, true, false, true, false, false, false, false, false, false] rfl rfl (by kernel_rfl) (fun _ _ _ h => h) (Or.inl ⟨by rfl, ?_⟩) ?_ ?_
              rotate_left
              · intro w'
                go_simp
                with_reducible rfl
              rotate_left
              · simp only [Act.put, List.setIfInBounds_toArray, List.set_cons_zero, List.set_cons_succ, i64_w, i32_w]
                rfl
              refine pure_ (i := 10) (N := some 64) (v := ?_) (a' := ?_) #[true, false, true, true, true, true, true, true, false, true, true, false, false, false, false, false] rfl rfl (by kernel_rfl) (fun _ _ _ h => h) (Or.inl ⟨by rfl, ?_⟩) ?_ ?_
              rotate_left
              · intro w'
                go_simp
                with_reducible rfl
              rotate_left
              · simp only [Act.put, List.setIfInBounds_toArray, List.set_cons_zero, List.set_cons_succ, i64_w, i32_w]
                rfl
              refine pure_ (i := 11) (N := some 65) (v := ?_) (a' := ?_) #[true, false, true, true, true, true, true, true, false, true, true, true, false, false, false, false] rfl rfl (by kernel_rfl) (fun _ _ _ h => h) (Or.inl ⟨by rfl, ?_⟩) ?_ ?_
              rotate_left
              · intro w'
                go_simp
                with_reducible rfl
              rotate_left
              · simp only [Act.put, List.setIfInBounds_toArray, List.set_cons_zero, List.set_cons_succ, i64_w, i32_w]
                rfl
              refine one_ (i := 1) (N := some 55) #[true, true, true, true, true, true, true, true, false, true, true, true, false, false, false, false] rfl rfl (by kernel_rfl) (by decide) (fun K hK => ?_)
              refine Kd.R_lit_step k95 (w0 := w) w.heap.size 95 (by rfl) (N := 55) rfl (xs := ([] : List S95)) (inner := []) (ok := fun k => wd.heap.size ≤ k) (okp := fun _ => False) ?hr (Reps.none _ _) (fun _ hk => hk.elim) (Nat.le_refl _) HBD.out HBD.out.size (by simp) ?_
              case hr => first | (go_simp; done) | (go_simp; rfl)
              intro v6 w6 hR6 hb6 hg6 _
              obtain ⟨A6, c6, rfl⟩ := Kd.R_slice hR6
              have HR6 := Lib.hid hR6
              have HB6 := Lib.hid hb6
              have HS6 := Lib.hid (Kd.S_grown (Kd.S_bound HSD.out) hg6 (fun k _ h => by cases h))
              have hz6 := hg6.size
              clear hR6 hb6 hg6 HSD HBD
              refine hK.out _ _ trivial (fun hHeld => ?_)
              clear hK K
              refine norm_ (a' := ?_) ?_ ?_
              rotate_left
              · show Act.put _ (some 55) _ = _
                simp only [Act.put, List.setIfInBounds_toArray, List.set_cons_zero, List.set_cons_succ, i64_w, i32_w]
                rfl
              refine one_ (i := 8) (N := some 62) #[true, true, true, true, true, true, true, true, true, true, true, true, false, false, false, false] rfl rfl (by kernel_rfl) (by decide) (fun K hK => ?_)
              refine Kd.R_append_rows_step k95 (Rr := k95.K w6) (w0 := w) w.heap.size (by rfl) (.tmp 55) (.tmp 61) 29 95 (.agg #[(.string ⟨#[]⟩), (.int .i64 0)]) 24 rfl Tryd.underlying29 info95 rfl (by decide) (by omega) _ ([] : List S95) (rest.take b) Am b (c - j) (fun k => wd.heap.size ≤ k) (fun _ => False) rfl rfl HR6.out (Kd.C_below HCM.out HB6.out) (fun _ _ h => h) (fun _ h => h.elim) (fun k hk => by omega) HB6.out HB6.out.size (by rw [List.length_nil]; omega) ?_
              intro v7 w7 hR7 hb7 hg7 _
              rw [List.nil_append] at hR7
              obtain ⟨A7, c7, rfl⟩ := Kd.R_slice hR7
              have hlb : (rest.take b).length = b := by rw [List.length_take, ← HN.out.1]; omega
              rw [hlb] at hR7 ⊢
              have HS7 := Lib.hid (Kd.S_mono (Kd.S_grown HS6.out hg7 (fun k hk h => by have := HR6.out.1 k h.symm; have := hk.2.2.1; omega)) (fun k hk => (show k < wd.heap.size from hk.2.2.1)))
              have HR7 := Lib.hid (R_winR hR7)
              have HB7 := Lib.hid hb7
              clear hR7 hb7 hg7 hlb HR6 HB6 HS6
              refine hK.out _ _ trivial (fun hHeld => ?_)
              clear hK K
              refine norm_ (a' := ?_) ?_ ?_
              rotate_left
              · show Act.put _ (some 62) _ = _
                simp only [Act.put, List.setIfInBounds_toArray, List.set_cons_zero, List.set_cons_succ, i64_w, i32_w]
                rfl
              refine pure_ (i := 12) (N := some 66) (v := ?_) (a' := ?_) #[true, true, true, true, true, true, true, true, true, true, true, true, true, false, false, false] rfl rfl (by kernel_rfl) (fun _ _ _ h => h) (Or.inl ⟨by rfl, ?_⟩) ?_ ?_
              rotate_left
              · intro w'
                go_simp
                with_reducible rfl
              rotate_left
              · simp only [Act.put, List.setIfInBounds_toArray, List.set_cons_zero, List.set_cons_succ, i64_w, i32_w]
                rfl
              refine one_ (i := 13) (N := some 67) #[true, true, true, true, true, true, true, true, true, true, true, true, true, true, false, false] rfl rfl (by kernel_rfl) (by decide) (fun K hK => ?_)
              refine value_ (w1 := ?_) (v := ?_) (by rfl) rfl ?_ ?_
              rotate_left 2
              · go_simp
                constructor
                · rfl
                · rfl
              refine hK.out _ _ trivial (fun hHeld => ?_)
              clear hK K
              refine norm_ (a' := ?_) ?_ ?_
              rotate_left
              · show Act.put _ (some 67) _ = _
                simp only [Act.put, List.setIfInBounds_toArray, List.set_cons_zero, List.set_cons_succ, i64_w, i32_w]
                rfl
              refine one_ (i := 14) (N := some 68) #[true, true, true, true, true, true, true, true, true, true, true, true, true, true, true, false] rfl rfl (by kernel_rfl) (by decide) (fun K hK => ?_)
              refine Kd.S_append_step k52 (w0 := w) w.heap.size (by rfl) (.tmp 54) (.tmp 67) 46 52 (.agg #[.slice none 0 0, .int .i64 0]) 32 rfl Tryd.underlying46 infoRRun_ rfl (by decide) (by omega) u5 rs (⟨rest.take b, (o : Int)⟩ : S52) [.slice A7 b c7, .int .i64 o] (fun _ => True) (fun k => wd.heap.size ≤ k ∧ k < w7.heap.size) rfl rfl (k52_mkM w7 w.heap.size _ (⟨rest.take b, (o : Int)⟩ : S52) HR7.out) (fun k hk => ⟨trivial, fun he => by have : k < wd.heap.size := (Kd.S_R HS7.out).1 k he.symm; omega⟩) (fun _ _ => trivial) (Kd.S_mono HS7.out (fun k hk => ⟨trivial, fun h2 => by omega⟩)) HB7.out HB7.out.size (by omega) ?_
              intro v8 w8 hS8 hb8 _ _
              have HS8 := Lib.hid hS8
              have HB8 := Lib.hid hb8
              clear hS8 hb8 HS7 HR7 HB7
              refine hK.out _ _ trivial (fun hHeld => ?_)
              clear hK K
              refine norm_ (a' := ?_) ?_ ?_
              rotate_left
              · show Act.put _ (some 68) _ = _
                simp only [Act.put, List.setIfInBounds_toArray, List.set_cons_zero, List.set_cons_succ, i64_w, i32_w]
                rfl
              refine pure_ (i := 15) (N := some 5) (v := ?_) (a' := ?_) #[true, true, true, true, true, true, true, true, true, true, true, true, true, true, true, true] rfl rfl (by kernel_rfl) (fun _ _ _ h => h) (Or.inl ⟨by rfl, ?_⟩) ?_ ?_
              rotate_left
              · intro w'
                go_simp
                with_reducible rfl
              rotate_left
              · simp only [Act.put, List.setIfInBounds_toArray, List.set_cons_zero, List.set_cons_succ, i64_w, i32_w]
                rfl
              refine done_ (by kernel_rfl) ?_
              go_wp2
              clear hcut2 hdiv hbne hbne2 hsum hsum2 hcut hnj hgo hgoN hgoI hbI hbI2
              go_roundg g0
              case measure => omega
              case rel => exact ⟨j + M, n - M, rest.drop M, rs ++ [(⟨rest.take b, (o : Int)⟩ : S52)], false, (by go_num), rfl, Lib.hid ⟨by rw [List.length_drop, ← HN.out.1], by have := HJN.out; omega, by rw [HN.out.2.2, List.drop_drop]⟩, HS8.out, HB8.out,
                HI.out.block (by rw [HBK.out]) (by rw [HBK.out]) HMO.out hb0 (by rw [← HN.out.1]; exact hMn) hbM⟩
          · have hbI : decide ((0 : Int) < (b : Int)) = false := by simp; omega
            have hbN : ¬ 0 < b := hb0
            have hn0 : 0 < n := by have := HJN.out; omega
            have hstep := HI.out.step (by rw [HBK.out]; exact hb0) (by rw [← HN.out.1]; exact hn0)
            have HST := Lib.hid hstep
            obtain ⟨ad0, hA0, hx0, hx1⟩ := at_T95 HC0.out (j : Int) (by omega) (by omega)
            obtain ⟨y, hy⟩ : ∃ y, y = rest.getD 0 z95 := ⟨_, rfl⟩
            have hy' : rd_T95 l (j : Int) = y := by
              rw [hy, HN.out.2.2]
              show l.getD (j : Int).toNat _ = _
              rw [Int.toNat_natCast, List.getD_eq_getElem?_getD, List.getD_eq_getElem?_getD, List.getElem?_drop, Nat.add_zero]
            rw [hy'] at hx0 hx1
            simp only [Int.toNat_natCast] at hx0 hx1
            subst hA0
            have HX := Lib.hid (And.intro hx0 hx1)
            have HY := Lib.hid hy
            have hmany := HI.out.many
            clear hx0 hx1 hy hy' hstep
            rcases hcc with ⟨hcc1, hcc2⟩ | hcc1
            all_goals
              cases single
              · go_wp2_with (first | ((with_reducible refine gate_builtin (b := .append) (xs := #[.tmp 74, .tmp 76]) rfl ?_); at_builtin; refine Kd.S_append k52 (w0 := w) w.heap.size rfl (.tmp 74) (.tmp 76) 46 52 (.agg #[.slice none 0 0, .int .i64 0]) 32 rfl Tryd.underlying46 infoRRun_ rfl (by decide) (by omega) u5 rs (⟨[], 1⟩ : S52) [.slice none 0 0, .int .i64 1] (fun _ => True) (fun _ => False) rfl rfl (k52_mkM wr w.heap.size _ (⟨[], 1⟩ : S52) (Kd.R_nil _ _ _ _ _)) (fun j hj => hj.elim) (fun _ _ => trivial) (Kd.S_mono HS3.out (fun j hj => ⟨trivial, fun h2 => h2⟩)) HB3.out HB3.out.size (by omega) ?_; intro v4 w4 hS4 hb4 _ _; obtain ⟨g, cap, i, rfl, hcapi, hiR, hS5⟩ := S_openR hS4 (by simp); have HS4 := Lib.hid hS5; have HIR := Lib.hid hiR; have HB4 := Lib.hid hb4; have hi64 : i ≤ 64 := (by have := HST.out.2.2.1; have e : (readyR false rs).length = i + 1 := hiR; omega); clear hS4 hS5 hiR hb4 HS3 HB3))
                have HSR := Lib.hid (show Kd.S k52 52 w4 w.heap.size (fun _ => True) (.slice (some ⟨g, 0, none⟩) (i + 1) cap) (readyR false rs) from HS4.out)
                have HIRR := Lib.hid (show (readyR false rs).length = i + 1 from HIR.out)
                clear HS4 HIR
                obtain ⟨R, hR⟩ : ∃ R, R = readyR false rs := ⟨_, rfl⟩
                rw [← hR] at HSR HIRR
                have HRR := Lib.hid hR
                clear hR
                obtain ⟨oki, cs, hcl, hM, hcc0, hfr, hoki, hH⟩ := Kd.S_elem HSR.out z52 (i : Int) (by omega) (by omega)
                obtain ⟨E, hE⟩ : ∃ E, E = R.getD (i : Int).toNat z52 := ⟨_, rfl⟩
                rw [← hE] at hM
                obtain ⟨u, rfl, hRu⟩ := k52_openM hM
                obtain ⟨Au, cu, rfl⟩ := Kd.R_slice hRu
                obtain ⟨pn, hpn⟩ : ∃ pn, pn = E.f0.length := ⟨_, rfl⟩
                rw [← hpn] at hRu hcc0 hH
                have hd0 : w4.drew.cell? ⟨g, i * 2, none⟩ = some (.slice Au pn cu) := by have := hcc0 0 _ rfl; simpa [show k52.sz = 2 from rfl] using this
                have hd1 : w4.drew.cell? (ad0.add (j * 2)) = some (.string y.f0) := (HB4.out.cell (World.block_lt_of_cell? w _ HX.out.1)).trans HX.out.1
                have hd2 : w4.drew.cell? ⟨(ad0.add (j * 2)).block, (ad0.add (j * 2)).off + 1, none⟩ = some (.int .i64 y.f1) := (HB4.out.cell (World.block_lt_of_cell? w _ HX.out.2)).trans HX.out.2
                have hf0 : w4.drew.frozen? ⟨g, i * 2, none⟩ = false := by have := hfr 0; simpa [show k52.sz = 2 from rfl] using this
                have HE := Lib.hid hE
                have HPN := Lib.hid hpn
                have HF0 := Lib.hid hf0
                have HH := Lib.hid (Kd.H_drew hH)
                have HRU := Lib.hid (Kd.R_drew hRu)
                have HOK := Lib.hid hoki
                have HBD := Lib.hid (below_drew1 HB4.out)
                have HGB := Lib.hid (show w.heap.size ≤ g from Kd.S_base HSR.out g rfl)
                have HEL := Lib.hid (show E.f0.length ≤ 64 from (by
                  have h2 := HST.out.2.2.2
                  rw [← HRR.out] at h2
                  have hlt : i < R.length := by rw [HIRR.out]; omega
                  rw [hE, Int.toNat_natCast, List.getD_eq_getElem?_getD, List.getElem?_eq_getElem hlt]
                  exact h2 _ (List.getElem_mem hlt)))
                clear hcl hM hcc0 hfr hoki hH hE hpn hf0 hRu HSR HB4
                refine start_ (n := 14) (S := fun W => W.cell? ⟨g, i * 2, none⟩ = some (.slice Au pn cu) ∧ W.cell? (ad0.add (j * 2)) = some (.string y.f0) ∧ W.cell? ⟨(ad0.add (j * 2)).block, (ad0.add (j * 2)).off + 1, none⟩ = some (.int .i64 y.f1)) (ds := [13]) #[false, false, false, false, false, false, false, false, false, false, false, false, false, false] (by kernel_rfl) rfl rfl ⟨hd0, hd1, hd2⟩ (fun hHeld => ?_)
                have HLD := Lib.hid hHeld
                generalize w4.drew = wd at HF0 HH HRU HBD HLD hHeld ⊢
                clear hd0 hd1 hd2
                refine pure_ (i := 0) (N := some 83) (v := ?_) (a' := ?_) #[true, false, false, false, false, false, false, false, false, false, false, false, false, false] rfl rfl (by kernel_rfl) (fun _ _ _ h => h) (Or.inl ⟨by rfl, ?_⟩) ?_ ?_
                rotate_left
                · intro w'
                  go_simp
                  with_reducible rfl
                rotate_left
                · simp only [Act.put, List.setIfInBounds_toArray, List.set_cons_zero, List.set_cons_succ, i64_w, i32_w]
                  rfl
                refine pure_ (i := 1) (N := some 84) (v := ?_) (a' := ?_) #[true, true, false, false, false, false, false, false, false, false, false, false, false, false] rfl rfl (by kernel_rfl) (fun _ _ _ h => h) (Or.inl ⟨by rfl, ?_⟩) ?_ ?_
                rotate_left
                · intro w'
                  go_simp
                  with_reducible rfl
                rotate_left
                · simp only [Act.put, List.setIfInBounds_toArray, List.set_cons_zero, List.set_cons_succ, i64_w, i32_w]
                  rfl
                refine pure_ (i := 2) (N := some 85) (v := ?_) (a' := ?_) #[true, true, true, false, false, false, false, false, false, false, false, false, false, false] rfl rfl (by kernel_rfl) (fun _ _ _ h => h) (Or.inl ⟨by rfl, ?_⟩) ?_ ?_
                rotate_left
                · intro w'
                  go_simp
                  with_reducible rfl
                rotate_left
                · simp only [Act.put, List.setIfInBounds_toArray, List.set_cons_zero, List.set_cons_succ, i64_w, i32_w]
                  rfl
                refine pure_ (i := 3) (N := some 86) (v := ?_) (a' := ?_) #[true, true, true, true, false, false, false, false, false, false, false, false, false, false] rfl rfl (by kernel_rfl) (fun _ _ _ h => h) (Or.inl ⟨by rfl, ?_⟩) ?_ ?_
                rotate_left
                · intro w'
                  go_simp
                  with_reducible rfl
                rotate_left
                · simp only [Act.put, List.setIfInBounds_toArray, List.set_cons_zero, List.set_cons_succ, i64_w, i32_w]
                  rfl
                refine take_ (i := 4) (N := some 87) (v := ?_) (a' := ?_) #[true, true, true, true, true, false, false, false, false, false, false, false, false, false] rfl rfl (by kernel_rfl) (fun _ _ _ h => h) (Or.inl ⟨by rfl, ?_⟩) hHeld ?_ ?_
                rotate_left
                · rintro w' ⟨s0, s1, s2⟩
                  go_simp
                  with_reducible rfl
                rotate_left
                · simp only [Act.put, List.setIfInBounds_toArray, List.set_cons_zero, List.set_cons_succ, i64_w, i32_w]
                  rfl
                refine pure_ (i := 5) (N := some 88) (v := ?_) (a' := ?_) #[true, true, true, true, true, true, false, false, false, false, false, false, false, false] rfl rfl (by kernel_rfl) (fun _ _ _ h => h) (Or.inl ⟨by rfl, ?_⟩) ?_ ?_
                rotate_left
                · intro w'
                  go_simp
                  with_reducible rfl
                rotate_left
                · simp only [Act.put, List.setIfInBounds_toArray, List.set_cons_zero, List.set_cons_succ, i64_w, i32_w]
                  rfl
                refine pure_ (i := 6) (N := some 89) (v := ?_) (a' := ?_) #[true, true, true, true, true, true, true, false, false, false, false, false, false, false] rfl rfl (by kernel_rfl) (fun _ _ _ h => h) (Or.inl ⟨by rfl, ?_⟩) ?_ ?_
                rotate_left
                · intro w'
                  go_simp
                  with_reducible rfl
                rotate_left
                · simp only [Act.put, List.setIfInBounds_toArray, List.set_cons_zero, List.set_cons_succ, i64_w, i32_w]
                  rfl
                refine pure_ (i := 7) (N := some 90) (v := ?_) (a' := ?_) #[true, true, true, true, true, true, true, true, false, false, false, false, false, false] rfl rfl (by kernel_rfl) (fun _ _ _ h => h) (Or.inl ⟨by rfl, ?_⟩) ?_ ?_
                rotate_left
                · intro w'
                  go_simp
                  with_reducible rfl
                rotate_left
                · simp only [Act.put, List.setIfInBounds_toArray, List.set_cons_zero, List.set_cons_succ, i64_w, i32_w]
                  rfl
                refine take_ (i := 8) (N := some 91) (v := ?_) (a' := ?_) #[true, true, true, true, true, true, true, true, true, false, false, false, false, false] rfl rfl (by kernel_rfl) (fun _ _ _ h => h) (Or.inl ⟨by rfl, ?_⟩) hHeld ?_ ?_
                rotate_left
                · rintro w' ⟨s0, s1, s2⟩
                  go_simp
                  with_reducible rfl
                rotate_left
                · simp only [Act.put, List.setIfInBounds_toArray, List.set_cons_zero, List.set_cons_succ, i64_w, i32_w]
                  rfl
                refine one_ (i := 9) (N := some 92) #[true, true, true, true, true, true, true, true, true, true, false, false, false, false] rfl rfl (by kernel_rfl) (by decide) (fun K hK => ?_)
                refine value_ (w1 := ?_) (v := ?_) (by rfl) rfl ?_ ?_
                rotate_left 2
                · go_simp
                  constructor
                  · rfl
                  · rfl
                refine hK.out _ _ ⟨(World.cell?_alloc_lt _ _ _ (World.block_lt_of_cell? _ _ hHeld.1)).trans hHeld.1, (World.cell?_alloc_lt _ _ _ (World.block_lt_of_cell? _ _ hHeld.2.1)).trans hHeld.2.1, (World.cell?_alloc_lt _ _ _ (World.block_lt_of_cell? _ _ hHeld.2.2)).trans hHeld.2.2⟩ (fun hHeld => ?_)
                clear hK K
                refine norm_ (a' := ?_) ?_ ?_
                rotate_left
                · show Act.put _ (some 92) _ = _
                  simp only [Act.put, List.setIfInBounds_toArray, List.set_cons_zero, List.set_cons_succ, i64_w, i32_w]
                  rfl
                refine one_ (i := 10) (N := some 93) #[true, true, true, true, true, true, true, true, true, true, true, false, false, false] rfl rfl (by kernel_rfl) (by decide) (fun K hK => ?_)
                refine Kd.R_append_step k95 (w0 := w) w.heap.size (by rfl) (.tmp 87) (.tmp 92) 29 95 (.agg #[(.string ⟨#[]⟩), (.int .i64 0)]) 24 rfl Tryd.underlying29 info95 rfl (by decide) (by omega) (.slice Au pn cu) E.f0 y [.string y.f0, .int .i64 y.f1] (fun k => oki k ∨ True ∧ wd.heap.size ≤ k) (fun _ => False) rfl rfl (k95_mkM _ _ _ y) (fun _ hk => hk.elim) (fun k hk => .inr ⟨trivial, hk⟩) (Kd.R_mono HRU.out (fun k hk => .inl hk)) HBD.out HBD.out.size (by have := HEL.out; omega) ?_
                intro v5 w5 hR5 hb5 hg5 _
                obtain ⟨A5, c5, rfl⟩ := Kd.R_slice hR5
                obtain ⟨p5, hp5⟩ : ∃ p5, p5 = (E.f0 ++ [y]).length := ⟨_, rfl⟩
                rw [← hp5] at hR5 ⊢
                clear hp5
                have HGL := Lib.hid (show g < wd.heap.size from World.block_lt_of_cell? _ _ HLD.out.1)
                have HH6 := Lib.hid (Kd.H_grown (Kd.H_widen HH.out) hg5 (fun k hk => .inl (HRU.out.1 k hk)))
                have hat6 := Kd.H_at HH6.out (by omega) (by omega)
                have hd0 : w5.cell? ⟨g, i * 2, none⟩ = some (.slice Au pn cu) := by have := hat6.1 0 _ rfl; simpa [show k52.sz = 2 from rfl] using this
                have hf5 : w5.frozen? ⟨g, i * 2, none⟩ = false := by have := hat6.2 0; simpa [show k52.sz = 2 from rfl] using this
                have HF5 := Lib.hid hf5
                have HR5 := Lib.hid hR5
                have HB5 := Lib.hid hb5
                clear hf5 hR5 hat6 hg5 hHeld HH HRU HF0 HBD
                refine hK.out _ _ ⟨hd0, (hb5.cell (World.block_lt_of_cell? w _ HX.out.1)).trans HX.out.1, (hb5.cell (World.block_lt_of_cell? w _ HX.out.2)).trans HX.out.2⟩ (fun hHeld => ?_)
                clear hb5
                clear hK K
                refine norm_ (a' := ?_) ?_ ?_
                rotate_left
                · show Act.put _ (some 93) _ = _
                  simp only [Act.put, List.setIfInBounds_toArray, List.set_cons_zero, List.set_cons_succ, i64_w, i32_w]
                  rfl
                refine pure_ (i := 11) (N := some 94) (v := ?_) (a' := ?_) #[true, true, true, true, true, true, true, true, true, true, true, true, false, false] rfl rfl (by kernel_rfl) (fun _ _ _ h => h) (Or.inl ⟨by rfl, ?_⟩) ?_ ?_
                rotate_left
                · intro w'
                  go_simp
                  with_reducible rfl
                rotate_left
                · simp only [Act.put, List.setIfInBounds_toArray, List.set_cons_zero, List.set_cons_succ, i64_w, i32_w]
                  rfl
                refine pure_ (i := 12) (N := some 95) (v := ?_) (a' := ?_) #[true, true, true, true, true, true, true, true, true, true, true, true, true, false] rfl rfl (by kernel_rfl) (fun _ _ _ h => h) (Or.inl ⟨by rfl, ?_⟩) ?_ ?_
                rotate_left
                · intro w'
                  go_simp
                  with_reducible rfl
                rotate_left
                · simp only [Act.put, List.setIfInBounds_toArray, List.set_cons_zero, List.set_cons_succ, i64_w, i32_w]
                  rfl
                refine last_ (i := 13) (N := none) #[true, true, true, true, true, true, true, true, true, true, true, true, true, true] rfl rfl (by kernel_rfl) (by decide) (fun K hK => ?_)
                have hs_ := hd0
                have hfs_ := HF5.out
                refine skip_ (w1 := ?_) (by rfl) rfl ?_ ?_
                rotate_left
                · go_simp
                  rfl
                refine hK.out _ _ ?_
                clear hK K hs_ hfs_ hd0 hHeld
                refine done_ (by kernel_rfl) ?_
                go_wp2
                have hgd := World.block_lt_of_cell? _ _ HLD.out.1
                obtain ⟨hcl1, hcl2⟩ := close_runR HH6.out HR5.out (fun k hk => hk) (fun k hk he => by
                  rcases hk with hk | hk
                  · exact (HOK.out k hk).2 he
                  · have := HGL.out; have := hk.2; omega)
                have HS7 := Lib.hid hcl1
                have HB7 := Lib.hid (pw_below_grown HB5.out (some g) HB5.out.size hcl2 (fun k hk => by injection hk with hk; have := HGB.out; omega))
                clear hcl1 hcl2 hgo hgoN hgoI hbI hcut hnj
                go_roundg g0
                case measure => omega
                case rel => exact ⟨j + 1, n - 1, rest.drop 1, pushR R y, true, (by go_num), rfl, Lib.hid ⟨by rw [List.length_drop, ← HN.out.1], by have := HJN.out; omega, by rw [HN.out.2.2, List.drop_drop]⟩, (by
                  have h := HS7.out
                  have e : R.set i ⟨E.f0 ++ [y], E.f1⟩ = pushR R y := by unfold pushR; rw [show R.length - 1 = i by rw [HIRR.out]; omega, HE.out, Int.toNat_natCast]
                  rw [e] at h
                  exact h), HB7.out, Lib.hid (by rw [HRR.out, HY.out]; exact HST.out.1)⟩
              · obtain ⟨g, cap, i, rfl, hcapi, hiR, hS5⟩ := S_openR HS3.out (by have := HST.out.2.1; exact this)
                have hi64 : i ≤ 64 := (by have := HST.out.2.2.1; have e : (readyR true rs).length = i + 1 := hiR; omega)
                obtain ⟨w4, rfl⟩ : ∃ w4, w4 = wr := ⟨_, rfl⟩
                have HSR := Lib.hid (show Kd.S k52 52 w4 w.heap.size (fun _ => True) (.slice (some ⟨g, 0, none⟩) (i + 1) cap) (readyR true rs) from hS5)
                have HIRR := Lib.hid (show (readyR true rs).length = i + 1 from hiR)
                have HB4 := HB3
                clear HS3 hS5 hiR HB3
                go_wp2
                obtain ⟨R, hR⟩ : ∃ R, R = readyR true rs := ⟨_, rfl⟩
                rw [← hR] at HSR HIRR
                have HRR := Lib.hid hR
                clear hR
                obtain ⟨oki, cs, hcl, hM, hcc0, hfr, hoki, hH⟩ := Kd.S_elem HSR.out z52 (i : Int) (by omega) (by omega)
                obtain ⟨E, hE⟩ : ∃ E, E = R.getD (i : Int).toNat z52 := ⟨_, rfl⟩
                rw [← hE] at hM
                obtain ⟨u, rfl, hRu⟩ := k52_openM hM
                obtain ⟨Au, cu, rfl⟩ := Kd.R_slice hRu
                obtain ⟨pn, hpn⟩ : ∃ pn, pn = E.f0.length := ⟨_, rfl⟩
                rw [← hpn] at hRu hcc0 hH
                have hd0 : w4.drew.cell? ⟨g, i * 2, none⟩ = some (.slice Au pn cu) := by have := hcc0 0 _ rfl; simpa [show k52.sz = 2 from rfl] using this
                have hd1 : w4.drew.cell? (ad0.add (j * 2)) = some (.string y.f0) := (HB4.out.cell (World.block_lt_of_cell? w _ HX.out.1)).trans HX.out.1
                have hd2 : w4.drew.cell? ⟨(ad0.add (j * 2)).block, (ad0.add (j * 2)).off + 1, none⟩ = some (.int .i64 y.f1) := (HB4.out.cell (World.block_lt_of_cell? w _ HX.out.2)).trans HX.out.2
                have hf0 : w4.drew.frozen? ⟨g, i * 2, none⟩ = false := by have := hfr 0; simpa [show k52.sz = 2 from rfl] using this
                have HE := Lib.hid hE
                have HPN := Lib.hid hpn
                have HF0 := Lib.hid hf0
                have HH := Lib.hid (Kd.H_drew hH)
                have HRU := Lib.hid (Kd.R_drew hRu)
                have HOK := Lib.hid hoki
                have HBD := Lib.hid (below_drew1 HB4.out)
                have HGB := Lib.hid (show w.heap.size ≤ g from Kd.S_base HSR.out g rfl)
                have HEL := Lib.hid (show E.f0.length ≤ 64 from (by
                  have h2 := HST.out.2.2.2
                  rw [← HRR.out] at h2
                  have hlt : i < R.length := by rw [HIRR.out]; omega
                  rw [hE, Int.toNat_natCast, List.getD_eq_getElem?_getD, List.getElem?_eq_getElem hlt]
                  exact h2 _ (List.getElem_mem hlt)))
                clear hcl hM hcc0 hfr hoki hH hE hpn hf0 hRu HSR HB4
                refine start_ (n := 14) (S := fun W => W.cell? ⟨g, i * 2, none⟩ = some (.slice Au pn cu) ∧ W.cell? (ad0.add (j * 2)) = some (.string y.f0) ∧ W.cell? ⟨(ad0.add (j * 2)).block, (ad0.add (j * 2)).off + 1, none⟩ = some (.int .i64 y.f1)) (ds := [13]) #[false, false, false, false, false, false, false, false, false, false, false, false, false, false] (by kernel_rfl) rfl rfl ⟨hd0, hd1, hd2⟩ (fun hHeld => ?_)
                have HLD := Lib.hid hHeld
                generalize w4.drew = wd at HF0 HH HRU HBD HLD hHeld ⊢
                clear hd0 hd1 hd2
                refine pure_ (i := 0) (N := some 83) (v := ?_) (a' := ?_) #[true, false, false, false, false, false, false, false, false, false, false, false, false, false] rfl rfl (by kernel_rfl) (fun _ _ _ h => h) (Or.inl ⟨by rfl, ?_⟩) ?_ ?_
                rotate_left
                · intro w'
                  go_simp
                  with_reducible rfl
                rotate_left
                · simp only [Act.put, List.setIfInBounds_toArray, List.set_cons_zero, List.set_cons_succ, i64_w, i32_w]
                  rfl
                refine pure_ (i := 1) (N := some 84) (v := ?_) (a' := ?_) #[true, true, false, false, false, false, false, false, false, false, false, false, false, false] rfl rfl (by kernel_rfl) (fun _ _ _ h => h) (Or.inl ⟨by rfl, ?_⟩) ?_ ?_
                rotate_left
                · intro w'
                  go_simp
                  with_reducible rfl
                rotate_left
                · simp only [Act.put, List.setIfInBounds_toArray, List.set_cons_zero, List.set_cons_succ, i64_w, i32_w]
                  rfl
                refine pure_ (i := 2) (N := some 85) (v := ?_) (a' := ?_) #[true, true, true, false, false, false, false, false, false, false, false, false, false, false] rfl rfl (by kernel_rfl) (fun _ _ _ h => h) (Or.inl ⟨by rfl, ?_⟩) ?_ ?_
                rotate_left
                · intro w'
                  go_simp
                  with_reducible rfl
                rotate_left
                · simp only [Act.put, List.setIfInBounds_toArray, List.set_cons_zero, List.set_cons_succ, i64_w, i32_w]
                  rfl
                refine pure_ (i := 3) (N := some 86) (v := ?_) (a' := ?_) #[true, true, true, true, false, false, false, false, false, false, false, false, false, false] rfl rfl (by kernel_rfl) (fun _ _ _ h => h) (Or.inl ⟨by rfl, ?_⟩) ?_ ?_
                rotate_left
                · intro w'
                  go_simp
                  with_reducible rfl
                rotate_left
                · simp only [Act.put, List.setIfInBounds_toArray, List.set_cons_zero, List.set_cons_succ, i64_w, i32_w]
                  rfl
                refine take_ (i := 4) (N := some 87) (v := ?_) (a' := ?_) #[true, true, true, true, true, false, false, false, false, false, false, false, false, false] rfl rfl (by kernel_rfl) (fun _ _ _ h => h) (Or.inl ⟨by rfl, ?_⟩) hHeld ?_ ?_
                rotate_left
                · rintro w' ⟨s0, s1, s2⟩
                  go_simp
                  with_reducible rfl
                rotate_left
                · simp only [Act.put, List.setIfInBounds_toArray, List.set_cons_zero, List.set_cons_succ, i64_w, i32_w]
                  rfl
                refine pure_ (i := 5) (N := some 88) (v := ?_) (a' := ?_) #[true, true, true, true, true, true, false, false, false, false, false, false, false, false] rfl rfl (by kernel_rfl) (fun _ _ _ h => h) (Or.inl ⟨by rfl, ?_⟩) ?_ ?_
                rotate_left
                · intro w'
                  go_simp
                  with_reducible rfl
                rotate_left
                · simp only [Act.put, List.setIfInBounds_toArray, List.set_cons_zero, List.set_cons_succ, i64_w, i32_w]
                  rfl
                refine pure_ (i := 6) (N := some 89) (v := ?_) (a' := ?_) #[true, true, true, true, true, true, true, false, false, false, false, false, false, false] rfl rfl (by kernel_rfl) (fun _ _ _ h => h) (Or.inl ⟨by rfl, ?_⟩) ?_ ?_
                rotate_left
                · intro w'
                  go_simp
                  with_reducible rfl
                rotate_left
                · simp only [Act.put, List.setIfInBounds_toArray, List.set_cons_zero, List.set_cons_succ, i64_w, i32_w]
                  rfl
                refine pure_ (i := 7) (N := some 90) (v := ?_) (a' := ?_) #[true, true, true, true, true, true, true, true, false, false, false, false, false, false] rfl rfl (by kernel_rfl) (fun _ _ _ h => h) (Or.inl ⟨by rfl, ?_⟩) ?_ ?_
                rotate_left
                · intro w'
                  go_simp
                  with_reducible rfl
                rotate_left
                · simp only [Act.put, List.setIfInBounds_toArray, List.set_cons_zero, List.set_cons_succ, i64_w, i32_w]
                  rfl
                refine take_ (i := 8) (N := some 91) (v := ?_) (a' := ?_) #[true, true, true, true, true, true, true, true, true, false, false, false, false, false] rfl rfl (by kernel_rfl) (fun _ _ _ h => h) (Or.inl ⟨by rfl, ?_⟩) hHeld ?_ ?_
                rotate_left
                · rintro w' ⟨s0, s1, s2⟩
                  go_simp
                  with_reducible rfl
                rotate_left
                · simp only [Act.put, List.setIfInBounds_toArray, List.set_cons_zero, List.set_cons_succ, i64_w, i32_w]
                  rfl
                refine one_ (i := 9) (N := some 92) #[true, true, true, true, true, true, true, true, true, true, false, false, false, false] rfl rfl (by kernel_rfl) (by decide) (fun K hK => ?_)
                refine value_ (w1 := ?_) (v := ?_) (by rfl) rfl ?_ ?_
                rotate_left 2
                · go_simp
                  constructor
                  · rfl
                  · rfl
                refine hK.out _ _ ⟨(World.cell?_alloc_lt _ _ _ (World.block_lt_of_cell? _ _ hHeld.1)).trans hHeld.1, (World.cell?_alloc_lt _ _ _ (World.block_lt_of_cell? _ _ hHeld.2.1)).trans hHeld.2.1, (World.cell?_alloc_lt _ _ _ (World.block_lt_of_cell? _ _ hHeld.2.2)).trans hHeld.2.2⟩ (fun hHeld => ?_)
                clear hK K
                refine norm_ (a' := ?_) ?_ ?_
                rotate_left
                · show Act.put _ (some 92) _ = _
                  simp only [Act.put, List.setIfInBounds_toArray, List.set_cons_zero, List.set_cons_succ, i64_w, i32_w]
                  rfl
                refine one_ (i := 10) (N := some 93) #[true, true, true, true, true, true, true, true, true, true, true, false, false, false] rfl rfl (by kernel_rfl) (by decide) (fun K hK => ?_)
                refine Kd.R_append_step k95 (w0 := w) w.heap.size (by rfl) (.tmp 87) (.tmp 92) 29 95 (.agg #[(.string ⟨#[]⟩), (.int .i64 0)]) 24 rfl Tryd.underlying29 info95 rfl (by decide) (by omega) (.slice Au pn cu) E.f0 y [.string y.f0, .int .i64 y.f1] (fun k => oki k ∨ True ∧ wd.heap.size ≤ k) (fun _ => False) rfl rfl (k95_mkM _ _ _ y) (fun _ hk => hk.elim) (fun k hk => .inr ⟨trivial, hk⟩) (Kd.R_mono HRU.out (fun k hk => .inl hk)) HBD.out HBD.out.size (by have := HEL.out; omega) ?_
                intro v5 w5 hR5 hb5 hg5 _
                obtain ⟨A5, c5, rfl⟩ := Kd.R_slice hR5
                obtain ⟨p5, hp5⟩ : ∃ p5, p5 = (E.f0 ++ [y]).length := ⟨_, rfl⟩
                rw [← hp5] at hR5 ⊢
                clear hp5
                have HGL := Lib.hid (show g < wd.heap.size from World.block_lt_of_cell? _ _ HLD.out.1)
                have HH6 := Lib.hid (Kd.H_grown (Kd.H_widen HH.out) hg5 (fun k hk => .inl (HRU.out.1 k hk)))
                have hat6 := Kd.H_at HH6.out (by omega) (by omega)
                have hd0 : w5.cell? ⟨g, i * 2, none⟩ = some (.slice Au pn cu) := by have := hat6.1 0 _ rfl; simpa [show k52.sz = 2 from rfl] using this
                have hf5 : w5.frozen? ⟨g, i * 2, none⟩ = false := by have := hat6.2 0; simpa [show k52.sz = 2 from rfl] using this
                have HF5 := Lib.hid hf5
                have HR5 := Lib.hid hR5
                have HB5 := Lib.hid hb5
                clear hf5 hR5 hat6 hg5 hHeld HH HRU HF0 HBD
                refine hK.out _ _ ⟨hd0, (hb5.cell (World.block_lt_of_cell? w _ HX.out.1)).trans HX.out.1, (hb5.cell (World.block_lt_of_cell? w _ HX.out.2)).trans HX.out.2⟩ (fun hHeld => ?_)
                clear hb5
                clear hK K
                refine norm_ (a' := ?_) ?_ ?_
                rotate_left
                · show Act.put _ (some 93) _ = _
                  simp only [Act.put, List.setIfInBounds_toArray, List.set_cons_zero, List.set_cons_succ, i64_w, i32_w]
                  rfl
                refine pure_ (i := 11) (N := some 94) (v := ?_) (a' := ?_) #[true, true, true, true, true, true, true, true, true, true, true, true, false, false] rfl rfl (by kernel_rfl) (fun _ _ _ h => h) (Or.inl ⟨by rfl, ?_⟩) ?_ ?_
                rotate_left
                · intro w'
                  go_simp
                  with_reducible rfl
                rotate_left
                · simp only [Act.put, List.setIfInBounds_toArray, List.set_cons_zero, List.set_cons_succ, i64_w, i32_w]
                  rfl
                refine pure_ (i := 12) (N := some 95) (v := ?_) (a' := ?_) #[true, true, true, true, true, true, true, true, true, true, true, true, true, false] rfl rfl (by kernel_rfl) (fun _ _ _ h => h) (Or.inl ⟨by rfl, ?_⟩) ?_ ?_
                rotate_left
                · intro w'
                  go_simp
                  with_reducible rfl
                rotate_left
                · simp only [Act.put, List.setIfInBounds_toArray, List.set_cons_zero, List.set_cons_succ, i64_w, i32_w]
                  rfl
                refine last_ (i := 13) (N := none) #[true, true, true, true, true, true, true, true, true, true, true, true, true, true] rfl rfl (by kernel_rfl) (by decide) (fun K hK => ?_)
                have hs_ := hd0
                have hfs_ := HF5.out
                refine skip_ (w1 := ?_) (by rfl) rfl ?_ ?_
                rotate_left
                · go_simp
                  rfl
                refine hK.out _ _ ?_
                clear hK K hs_ hfs_ hd0 hHeld
                refine done_ (by kernel_rfl) ?_
                go_wp2
                have hgd := World.block_lt_of_cell? _ _ HLD.out.1
                obtain ⟨hcl1, hcl2⟩ := close_runR HH6.out HR5.out (fun k hk => hk) (fun k hk he => by
                  rcases hk with hk | hk
                  · exact (HOK.out k hk).2 he
                  · have := HGL.out; have := hk.2; omega)
                have HS7 := Lib.hid hcl1
                have HB7 := Lib.hid (pw_below_grown HB5.out (some g) HB5.out.size hcl2 (fun k hk => by injection hk with hk; have := HGB.out; omega))
                clear hcl1 hcl2 hgo hgoN hgoI hbI hcut hnj
                go_roundg g0
                case measure => omega
                case rel => exact ⟨j + 1, n - 1, rest.drop 1, pushR R y, true, (by go_num), rfl, Lib.hid ⟨by rw [List.length_drop, ← HN.out.1], by have := HJN.out; omega, by rw [HN.out.2.2, List.drop_drop]⟩, (by
                  have h := HS7.out
                  have e : R.set i ⟨E.f0 ++ [y], E.f1⟩ = pushR R y := by unfold pushR; rw [show R.length - 1 = i by rw [HIRR.out]; omega, HE.out, Int.toNat_natCast]
                  rw [e] at h
                  exact h), HB7.out, Lib.hid (by rw [HRR.out, HY.out]; exact HST.out.1)⟩
set_option maxRecDepth 100000 in
set_option maxHeartbeats 4000000 in
theorem rFold_any (A : Option Addr) (c : Nat) (l : List S95) (w : World) (h : Kd.C k95 w A l.length l) (hc : l.length ≤ c) (hl : l.length ≤ 9223372036854775806) :
    Calls Tryd.prog 29 #[.slice A l.length c] w (RFoldIs (l.map rpl) w) := by
  by_cases h0 : checkN (l.map rpl) = 0
  · exact rFold_ok A c l w h hc h0
  · have hchk := rcheck_v h hc hl
    have HC := Lib.hid hchk
    have hne : (checkN (l.map rpl) != 0) = true := by simpa using h0
    have HT := Lib.hid (show foldOf (l.map rpl) = ([], checkN (l.map rpl)) by unfold foldOf; rw [if_neg h0])
    clear hchk h0 h
    go_enter Tryd.func29, Tryd.ntmps29
    go_wp2_with (go_at_call 15; refine (HC.out).mono ?_; rintro e w2 ⟨rfl, hb2⟩)
    go_ret2
    exact ⟨_, [], by rw [HT.out]; rfl, by rw [HT.out]; rfl, Kd.S_nil _ _ _ _ _, hb2⟩
end Go.Proofs.YtmgfdcfbjgokgaaDoor
