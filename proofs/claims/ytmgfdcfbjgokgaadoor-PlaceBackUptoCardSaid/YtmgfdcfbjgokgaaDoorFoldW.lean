/- The walk of 'Fold'. -/
import Derived.Test.YtmgfdcfbjgokgaaDoorFo
import Derived.Test.YtmgfdcfbjgokgaaDoorCom
import Derived.Test.YtmgfdcfbjgokgaaDoorPLx11
import Derived.BigQuiet
namespace Go.Proofs.YtmgfdcfbjgokgaaDoor
open Go Go.RowKit Go.Proofs.YtmgfdcfbjgokgaaDoorW.PrintWords Go.Proofs.YtmgfdcfbjgokgaaDoorW.PrintLast Go.Proofs.YtmgfdcfbjgokgaaDoorW.PrintMore Go.Proofs.YtmgfdcfbjgokgaaDoor.PL
set_option linter.unusedVariables false
set_option linter.unusedSimpArgs false

theorem infoRun_ : (Tryd.prog.info? 50).map (fun i => (i.zero, i.size, i.bytes)) = some (some (.agg #[.slice none 0 0, .int .i64 0]), 2, 32) := by kernel_rfl
/-- What 'Fold' answers. -/
def FoldIs (L : List Pl) (w : World) (e : Ending) (w' : World) : Prop :=
  ∃ v rs, e = .returned (.tuple #[v, .int .i64 (foldOf L).2]) ∧ rs.map run50 = (foldOf L).1 ∧ Kd.S k50 50 w' w.heap.size (fun _ => True) v rs ∧ Below w.heap.size w w'
structure FInv (F : List Rn) (q : Nat) (rest : List S60) (rs : List S50) (single : Bool) : Prop where
  go : goF q (rest.map toPl) (rs.map run50) single = F
  len : rest.length < q
  sing : single = true → rs ≠ []
  many : rs.length + rest.length ≤ 64
  long : ∀ r ∈ rs, r.f0.length + rest.length ≤ 64
theorem FInv.done {F : List Rn} {q : Nat} {rest : List S60} {rs : List S50} {s : Bool} (H : FInv F q rest rs s) (h : rest.length = 0) : rs.map run50 = F := by
  have e : rest = [] := List.eq_nil_of_length_eq_zero h
  subst e
  have := H.go
  rwa [List.map_nil, goF_nil] at this
theorem FInv.block {F : List Rn} {q p k m : Nat} {rest : List S60} {rs : List S50} {s : Bool} (H : FInv F (q + 1) rest rs s) (hp : p = (blockP (rest.map toPl)).1) (hk : k = (blockP (rest.map toPl)).2) (hm : m = p * k) (hp0 : 0 < p) (hmn : m ≤ rest.length) (hpm : p ≤ m) :
    FInv F q (rest.drop m) (rs ++ [⟨rest.take p, (k : Int)⟩]) false := by
  have hne : rest.map toPl ≠ [] := by
    intro e
    have := congrArg List.length e
    simp at this
    subst this
    simp at hmn
    omega
  have hg := H.go
  rw [goF_cons _ _ hne, ← hp, ← hk, if_pos hp0, ← hm] at hg
  have hl := H.len
  have hmany := H.many
  refine ⟨?_, by rw [List.length_drop]; omega, (fun h => by cases h), by rw [List.length_append, List.length_drop, List.length_singleton]; omega, fun r hr => ?_⟩
  · rw [← hg, List.map_drop, List.map_append]
    congr 2
    simp [run50]
  · rcases List.mem_append.1 hr with hr | hr
    · have := H.long r hr
      rw [List.length_drop]; omega
    · rw [List.mem_singleton.1 hr]
      show (rest.take p).length + _ ≤ 64
      rw [List.length_take, List.length_drop]; omega
/-- The runs that the next single place goes into. -/
def ready (s : Bool) (rs : List S50) : List S50 := if s then rs else rs ++ [⟨[], 1⟩]
theorem FInv.step {F : List Rn} {q : Nat} {rest : List S60} {rs : List S50} {s : Bool} (H : FInv F (q + 1) rest rs s) (hp : ¬ 0 < (blockP (rest.map toPl)).1) (hn : 0 < rest.length) :
    FInv F q (rest.drop 1) (pushS (ready s rs) (rest.getD 0 z60)) true ∧ ready s rs ≠ [] ∧ (ready s rs).length ≤ 64 ∧ ∀ r ∈ ready s rs, r.f0.length ≤ 64 := by
  have hne : rest.map toPl ≠ [] := by
    intro e
    have := congrArg List.length e
    simp at this
    subst this
    simp at hn
  have hg := H.go
  rw [goF_cons _ _ hne, if_neg hp] at hg
  have hl := H.len
  have hmany := H.many
  have hrl : (ready s rs).length ≤ rs.length + 1 := by unfold ready; split <;> simp
  have hrb : ∀ r ∈ ready s rs, r.f0.length ≤ 64 - rest.length := by
    intro r hr
    unfold ready at hr
    split at hr
    · have := H.long r hr; omega
    · rcases List.mem_append.1 hr with hr | hr
      · have := H.long r hr; omega
      · rw [List.mem_singleton.1 hr]; simp
  have hrn : ready s rs ≠ [] := by
    unfold ready
    split
    · rename_i h; exact H.sing h
    · simp
  refine ⟨⟨?_, by rw [List.length_drop]; omega, fun _ => ?_, by rw [pushS_len, List.length_drop]; omega, fun r hr => ?_⟩, hrn, by omega, fun r hr => by have := hrb r hr; omega⟩
  · rw [← hg, List.map_drop, pushS_run]
    congr 2
    · unfold ready
      cases s <;> simp [run50]
    · cases rest with
      | nil => simp at hn
      | cons y r => rfl
  · intro e
    have := congrArg List.length e
    rw [pushS_len] at this
    exact hrn (List.eq_nil_of_length_eq_zero (by simpa using this))
  · have := pushS_bd _ _ _ hrb r hr
    rw [List.length_drop]; omega
theorem S_open {W : World} {base : Nat} {ok : Nat → Prop} {v : Value} {R : List S50} (h : Kd.S k50 50 W base ok v R) (hne : R ≠ []) : ∃ g cap i, v = .slice (some ⟨g, 0, none⟩) (i + 1) cap ∧ i + 1 ≤ cap ∧ R.length = i + 1 ∧ Kd.S k50 50 W base ok (.slice (some ⟨g, 0, none⟩) (i + 1) cap) R := by
  have hl : 0 < R.length := List.length_pos_iff.2 hne
  obtain ⟨g, cap, hv, _⟩ := Kd.S_form h hl
  have e : R.length = (R.length - 1) + 1 := by omega
  subst hv
  have := (Kd.S_reads' h).2.1
  refine ⟨g, cap, R.length - 1, by rw [← e], by omega, e, by rw [← e]; exact h⟩
theorem close_run {w5 : World} {base g i cap : Nat} {oki okp : Nat → Prop} {R : List S50} {E : S50} {y : S60} {c0 v5 : Value} (HH : Kd.H k50 50 w5 base (fun _ => True) (.slice (some ⟨g, 0, none⟩) (i + 1) cap) R (i : Int) oki [c0, .int .i64 E.f1])
    (hR : Kd.R k60 60 w5 base okp v5 (E.f0 ++ [y])) (hokp : ∀ k, okp k → oki k) (hne : ∀ k, okp k → k ≠ g) :
    Kd.S k50 50 (w5.setCell ⟨g, i * 2, none⟩ v5) base (fun _ => True) (.slice (some ⟨g, 0, none⟩) (i + 1) cap) (R.set i ⟨E.f0 ++ [y], E.f1⟩) ∧ w5.grownBy (w5.setCell ⟨g, i * 2, none⟩ v5) (some g) := by
  obtain ⟨A5, c5, rfl⟩ := Kd.R_slice hR
  obtain ⟨h1, h2⟩ := Kd.H_seg HH (by omega) (by omega) (seg := [.slice A5 (E.f0 ++ [y]).length c5]) (j := 0) (by show 0 + 1 ≤ 2; omega) (fun q hq => by rw [List.mem_singleton.1 hq]; rfl)
  have e : w5.setCells g ((i : Int).toNat * k50.sz + 0) [.slice A5 (E.f0 ++ [y]).length c5] = w5.setCell ⟨g, i * 2, none⟩ (.slice A5 (E.f0 ++ [y]).length c5) := by
    rw [Int.toNat_natCast]
    rfl
  rw [e] at h1 h2
  have hR2 : Kd.R k60 60 (w5.setCell ⟨g, i * 2, none⟩ (.slice A5 (E.f0 ++ [y]).length c5)) base okp (.slice A5 (E.f0 ++ [y]).length c5) (E.f0 ++ [y]) := Kd.R_far hR (fun k hk => hne k hk) _
  have := Kd.H_back h1 (x' := (⟨E.f0 ++ [y], E.f1⟩ : S50)) (okp := okp) (k50_mkM _ _ _ (⟨E.f0 ++ [y], E.f1⟩ : S50) hR2) hokp
  rw [Int.toNat_natCast] at this
  exact ⟨this, h2⟩
theorem Kd.S_ok {α : Type} {d : Kd α} {e base : Nat} {ok : Nat → Prop} {w : World} {v : Value} {xs : List α} (h : Kd.S d e w base ok v xs) : ∀ k, v.ownBlock = some k → ok k := (Kd.S_R h).1
set_option maxRecDepth 100000 in
theorem clone_n {A : Option Addr} {c p : Nat} {l : List S60} {W : World} (hp : p = l.length) (h : Kd.C k60 W A p l) (hc : p ≤ c) (hb : p ≤ 64) :
    Calls Tryd.prog 58 #[.slice A p c] W fun e w' => ∃ A' c', e = .returned (.slice A' p c') ∧ Kd.R k60 60 w' W.heap.size (fun _ => True) (.slice A' p c') l ∧ Below W.heap.size W w' := by
  subst hp
  have hf : place_Place_58.f l = some l := by
    have hl : l.length < 5864062014805 := by omega
    unfold place_Place_58.f
    rw [Option.bind_some, List.length_nil, Nat.zero_add, if_pos hl, List.nil_append]
  refine (place_Place_58.calls A c l l W h hc hf).mono fun e w' ⟨v, he, hR, hbl⟩ => ?_
  obtain ⟨A', c', rfl⟩ := Kd.R_slice hR
  exact ⟨A', c', he, hR, hbl⟩
theorem block_n {A : Option Addr} {c n : Nat} {l : List S60} {W : World} (hn : n = l.length) (h : Kd.C k60 W A n l) (hc : n ≤ c) (hb : n ≤ 64) :
    Calls Tryd.prog 60 #[.slice A n c] W fun e w' => e = .returned (.tuple #[.int .i64 ((blockP (l.map toPl)).1 : Int), .int .i64 ((blockP (l.map toPl)).2 : Int)]) ∧ Below W.heap.size W w' := by
  subst hn
  exact (place_block.calls _ A c l _ _ W h hc (block_f l hb)).mono fun e w' h => ⟨h.1, h.2.below⟩
/-- A list from some place on. -/
theorem cut_tail (A : Option Addr) (n c m : Nat) (l : List S60) (hn : n = l.length) (hm : m ≤ n) (hc : n ≤ c) : ∃ A2 : Option Addr, (∀ W : World, (Instr.slice 23 (.slice A n c) (some (.int .i64 (m : Int))) none none).run Tryd.prog W = .ok (.slice A2 (n - m) (c - m)) W) ∧
    ∀ W : World, Kd.C k60 W A n l → Kd.C k60 W A2 (n - m) (l.drop m) := by
  subst hn
  obtain ⟨i, hi, _, hz, _⟩ := info_parts infoPl
  refine ⟨if c = m then A else A.map (·.add (m * 2)), fun W => ?_, fun W h => ?_⟩
  · have := cut_from (P := Tryd.prog) 23 60 .i64 Tryd.underlying23 hi 2 hz A l.length c (m : Int) (by omega) (by omega) W
    simpa using this
  · have := Kd.C_drop (k := k60) h hm hc
    rw [List.length_drop] at this
    exact this
theorem cut_head (A : Option Addr) (n c p : Nat) (l : List S60) (hn : n = l.length) (hp : p ≤ n) (hc : n ≤ c) : (∀ W : World, (Instr.slice 23 (.slice A n c) none (some (.int .i64 (p : Int))) none).run Tryd.prog W = .ok (.slice A p c) W) ∧
    ∀ W : World, Kd.C k60 W A n l → Kd.C k60 W A p (l.take p) := by
  subst hn
  obtain ⟨i, hi, _, hz, _⟩ := info_parts infoPl
  refine ⟨fun W => ?_, fun W h => ?_⟩
  · have := cut_to (P := Tryd.prog) 23 60 .i64 Tryd.underlying23 hi A l.length c (p : Int) (by omega) (by omega) hc W
    simpa using this
  · have := Kd.C_take (k := k60) h hp
    rwa [show (l.take p).length = p by rw [List.length_take]; omega] at this
set_option maxRecDepth 100000 in
set_option maxHeartbeats 16000000 in
theorem Fold_ok (A : Option Addr) (c : Nat) (l : List S60) (w : World) (h : Kd.C k60 w A l.length l) (hc : l.length ≤ c) (hs : ∀ x ∈ l, x.f0.size ≤ 9223372036854775807) (h0 : checkN (l.map toPl) = 0) :
    Calls Tryd.prog 28 #[.slice A l.length c] w (FoldIs (l.map toPl) w) := by
  have h64 := (checkN_zero h0).1
  rw [List.length_map] at h64
  have hchk := Check_any A c l w h hc hs (by omega)
  rw [h0] at hchk
  have HCK := Lib.hid hchk
  obtain ⟨F, hF⟩ : ∃ F, F = goF ((l.map toPl).length + 1) (l.map toPl) [] false := ⟨_, rfl⟩
  have HFO := Lib.hid (show foldOf (l.map toPl) = (F, 0) by unfold foldOf; rw [if_pos h0, hF])
  obtain ⟨n0, hn0⟩ : ∃ n, n = l.length := ⟨_, rfl⟩
  have HF := Lib.hid (show FInv F (n0 + 1) l [] false from ⟨by rw [hF, hn0, List.length_map]; rfl, by omega, (fun h => by cases h), (by rw [List.length_nil]; omega), (fun r hr => by cases hr)⟩)
  have HN0 := Lib.hid hn0
  have HC0 := Lib.hid h
  have Hc0 := Lib.hid hc
  rw [← hn0] at HCK HC0 Hc0 h64 ⊢
  clear hF hchk h hc hs h0 hn0
  go_enter Tryd.func28, Tryd.ntmps28
  go_wp2_with (go_at_call 14; (with_reducible refine (HCK.out).mono ?_); rintro e w1 ⟨rfl, hb1⟩; have HB1 := Lib.hid hb1; clear hb1 HCK)
  go_loopg [0, 5, 6] (n0 + 1) (fun q s0 s5 s6 wx => ∃ (A1 : Option Addr) (n c1 : Nat) (rest : List S60) (rs : List S50) (single : Bool), s0 = .slice A1 n c1 ∧ s6 = .bool single ∧ Hid (n = rest.length) ∧ Hid (n ≤ c1) ∧ Hid (Kd.C k60 w A1 n rest) ∧
    Hid (Kd.S k50 50 wx w.heap.size (fun _ => True) s5 rs) ∧ Hid (Below w.heap.size w wx) ∧ Hid (FInv F q rest rs single))
  case atStart => exact ⟨A, n0, c, l, [], false, rfl, rfl, HN0.out, Hc0.out, HC0.out, Kd.S_nil _ _ _ _ _, HB1.out, HF.out⟩
  case round =>
    obtain ⟨A1, n, c1, rest, rs, single, rfl, rfl, HN, HCN, HC, HS, HB, HI⟩ := hrel
    clear HF HN0 HC0 Hc0 HB1 h64
    have hn64 : n ≤ 64 := by have := HI.out.many; have := HN.out; omega
    obtain ⟨q, rfl⟩ : ∃ q, gk = q + 1 := ⟨gk - 1, by have := HI.out.len; omega⟩
    by_cases hn : n = 0
    · have hend : decide ((0 : Int) < (n : Int)) = false := by simp; omega
      have hendN : ¬ 0 < n := by omega
      have HN' := Lib.hid (show rest.length = 0 by rw [← HN.out]; exact hn)
      clear hn
      go_wp2
      go_ret2
      exact ⟨_, rs, by rw [HFO.out]; rfl, by rw [HFO.out]; exact HI.out.done HN'.out, HS.out, HB.out⟩
    · have hgo : decide ((0 : Int) < (n : Int)) = true := by simp; omega
      have hgoN : 0 < n := by omega
      have hgoI : (0 : Int) < (n : Int) := by omega
      clear hn
      obtain ⟨p, hp⟩ : ∃ p, p = (blockP (rest.map toPl)).1 := ⟨_, rfl⟩
      obtain ⟨k, hk⟩ : ∃ k, k = (blockP (rest.map toPl)).2 := ⟨_, rfl⟩
      have HP := Lib.hid hp
      have HK := Lib.hid hk
      clear hp hk
      by_cases hp0 : 0 < p
      · have hpI : decide ((0 : Int) < (p : Int)) = true := by simp; omega
        have hpI2 : (0 : Int) < (p : Int) := by omega
        have hsp := blockP_spec (rest.map toPl)
        have hle := blockP_le (rest.map toPl)
        rw [← HP.out, ← HK.out] at hsp hle
        rw [List.length_map, ← HN.out] at hle
        have hk2 : 2 ≤ k := by rcases hsp with h | ⟨_, _, h, _⟩ <;> omega
        have hp8 : p ≤ 8 := by rcases hsp with h | ⟨_, h, _, _⟩ <;> omega
        have hpn : p ≤ n := by
          have : p * 1 ≤ p * k := Nat.mul_le_mul_left _ (by omega)
          omega
        have hk64 : k ≤ 64 := by
          have : 1 * k ≤ p * k := Nat.mul_le_mul_right _ (by omega)
          omega
        have HPK := Lib.hid hle
        obtain ⟨hcut, hcutC⟩ := cut_head A1 n c1 p rest HN.out hpn HCN.out
        have HCT := Lib.hid hcutC
        obtain ⟨m, hm⟩ : ∃ m, m = p * k := ⟨_, rfl⟩
        have HM := Lib.hid hm
        have hmn : m ≤ n := by omega
        have hmp : p ≤ m := by
          have : p * 1 ≤ p * k := Nat.mul_le_mul_left _ (by omega)
          omega
        obtain ⟨A2, hcut2, hcutC2⟩ := cut_tail A1 n c1 m rest HN.out hmn HCN.out
        have HCT2 := Lib.hid hcutC2
        clear hsp hle hcutC hcutC2
        go_wp2_with (go_at_call 60; (with_reducible refine (block_n HN.out (Kd.C_below HC.out HB.out) HCN.out hn64).mono ?_); rintro e w2 ⟨rfl, hb⟩; rw [← HP.out, ← HK.out]; have HB2 := Lib.hid (HB.out.trans (hb.mono HB.out.size)); have HS2 := Lib.hid (Kd.S_below HS.out hb); clear hb HB HS)
        have hrl := HI.out.many
        have hmw : wrap64 ((p : Int) * (k : Int)) = (m : Int) := by rw [wmul p k (by omega) (by omega), hm]
        clear hm
        go_wp2_with (first | (go_at_call 58; (with_reducible refine (clone_n (show p = (rest.take p).length by rw [List.length_take, ← HN.out]; omega) (HCT.out _ (Kd.C_below HC.out HB2.out)) (Nat.le_trans hpn HCN.out) (by omega)).mono ?_); rintro e w3 ⟨A3, c3, rfl, hR, hb⟩; have HR3 := Lib.hid (R_win hR); have HS3 := Lib.hid (Kd.S_below (Kd.S_bound HS2.out) hb); have HB3 := Lib.hid (HB2.out.trans (hb.mono HB2.out.size)); have hz3 := hb.size; have hz2 := HB2.out.size; clear hR hb HB2 HS2) | ((with_reducible refine gate_builtin (b := .append) (xs := #[.tmp 26, .tmp 33]) rfl ?_); at_builtin; refine Kd.S_append k50 (w0 := w) w.heap.size rfl (.tmp 26) (.tmp 33) 45 50 (.agg #[.slice none 0 0, .int .i64 0]) 32 rfl Tryd.underlying45 infoRun_ rfl (by decide) (by omega) u5 rs (⟨rest.take p, (k : Int)⟩ : S50) [.slice A3 p c3, .int .i64 k] (fun _ => True) (fun j => w2.heap.size ≤ j ∧ j < w3.heap.size) rfl rfl (k50_mkM w3 w.heap.size _ (⟨rest.take p, (k : Int)⟩ : S50) (Kd.R_lower HR3.out hz2)) (fun j hj => ⟨trivial, fun he => by have := Kd.S_lt HS3.out j he.symm; have := (Kd.S_ok HS3.out j he.symm).2.2.1; omega⟩) (fun _ _ => trivial) (Kd.S_mono HS3.out (fun j hj => ⟨trivial, fun h2 => by have := hj.2.2.1; omega⟩)) HB3.out (by omega) (by omega) ?_; intro v4 w4 hS4 hb4 _ _; have HS4 := Lib.hid hS4; have HB4 := Lib.hid hb4; clear hS4 hb4 HS3 HB3 HR3))
        clear hcut hcut2 hmw hgo hgoN hgoI hpI hpI2
        go_roundg q
        case measure => omega
        case rel => exact ⟨A2, n - m, c1 - m, rest.drop m, rs ++ [(⟨rest.take p, (k : Int)⟩ : S50)], false, rfl, rfl, Lib.hid (by rw [List.length_drop, ← HN.out]), Lib.hid (by have := HCN.out; omega), HCT2.out _ HC.out, HS4.out, HB4.out, HI.out.block HP.out HK.out HM.out hp0 (by rw [← HN.out]; exact hmn) hmp⟩
      · have hpI : decide ((0 : Int) < (p : Int)) = false := by simp; omega
        have hpN : ¬ 0 < p := hp0
        have hstep := HI.out.step (by rw [← HP.out]; exact hp0) (by rw [← HN.out]; omega)
        have HST := Lib.hid hstep
        obtain ⟨ad0, hA0, hx0, hx1⟩ := at_T60 HC.out 0 (by omega) (by omega)
        have hx0' : w.cell? ad0 = some (.string (rd_T60 rest 0).f0) := by simpa [Addr.add] using hx0
        have hx1' : w.cell? ⟨ad0.block, ad0.off + 1, none⟩ = some (.int .i64 (rd_T60 rest 0).f1) := by simpa [Addr.add] using hx1
        obtain ⟨y, hy⟩ : ∃ y, y = rest.getD 0 z60 := ⟨_, rfl⟩
        have hy' : rd_T60 rest 0 = y := by rw [hy]; rfl
        rw [hy'] at hx0' hx1'
        subst hA0
        have HX := Lib.hid (And.intro hx0' hx1')
        have HY := Lib.hid hy
        clear hx0 hx1 hx0' hx1' hy hy' hstep
        have hmany := HI.out.many
        cases single
        · go_wp2_with (first | (go_at_call 60; (with_reducible refine (block_n HN.out (Kd.C_below HC.out HB.out) HCN.out hn64).mono ?_); rintro e w2 ⟨rfl, hb⟩; rw [← HP.out, ← HK.out]; have HB2 := Lib.hid (HB.out.trans (hb.mono HB.out.size)); have HS2 := Lib.hid (Kd.S_below HS.out hb); clear hb HB HS) | ((with_reducible refine gate_builtin (b := .append) (xs := #[.tmp 43, .tmp 45]) rfl ?_); at_builtin; refine Kd.S_append k50 (w0 := w) w.heap.size rfl (.tmp 43) (.tmp 45) 45 50 (.agg #[.slice none 0 0, .int .i64 0]) 32 rfl Tryd.underlying45 infoRun_ rfl (by decide) (by omega) u5 rs (⟨[], 1⟩ : S50) [.slice none 0 0, .int .i64 1] (fun _ => True) (fun _ => False) rfl rfl (k50_mkM w2 w.heap.size _ (⟨[], 1⟩ : S50) (Kd.R_nil _ _ _ _ _)) (fun j hj => hj.elim) (fun _ _ => trivial) (Kd.S_mono HS2.out (fun j hj => ⟨trivial, fun h2 => h2⟩)) HB2.out HB2.out.size (by omega) ?_; intro v4 w4 hS4 hb4 _ _; obtain ⟨g, cap, i, rfl, hcapi, hiR, hS5⟩ := S_open hS4 (by simp); have HS4 := Lib.hid hS5; have HIR := Lib.hid hiR; have HB4 := Lib.hid hb4; have hi64 : i ≤ 64 := (by have := HST.out.2.2.1; have e : (ready false rs).length = i + 1 := hiR; omega); clear hS4 hS5 hiR hb4 HS2 HB2))
          have HSR := Lib.hid (show Kd.S k50 50 w4 w.heap.size (fun _ => True) (.slice (some ⟨g, 0, none⟩) (i + 1) cap) (ready false rs) from HS4.out)
          have HIRR := Lib.hid (show (ready false rs).length = i + 1 from HIR.out)
          clear HS4 HIR
          obtain ⟨R, hR⟩ : ∃ R, R = ready false rs := ⟨_, rfl⟩
          rw [← hR] at HSR HIRR
          have HRR := Lib.hid hR
          clear hR
          obtain ⟨oki, cs, hcl, hM, hcc, hfr, hoki, hH⟩ := Kd.S_elem HSR.out z50 (i : Int) (by omega) (by omega)
          obtain ⟨E, hE⟩ : ∃ E, E = R.getD (i : Int).toNat z50 := ⟨_, rfl⟩
          rw [← hE] at hM
          obtain ⟨u, rfl, hRu⟩ := k50_openM hM
          obtain ⟨Au, cu, rfl⟩ := Kd.R_slice hRu
          obtain ⟨pn, hpn⟩ : ∃ pn, pn = E.f0.length := ⟨_, rfl⟩
          rw [← hpn] at hRu hcc hH
          have hd0 : w4.drew.cell? ⟨g, i * 2, none⟩ = some (.slice Au pn cu) := by have := hcc 0 _ rfl; simpa [show k50.sz = 2 from rfl] using this
          have hd1 : w4.drew.cell? ad0 = some (.string y.f0) := (HB4.out.cell (World.block_lt_of_cell? w _ HX.out.1)).trans HX.out.1
          have hd2 : w4.drew.cell? ⟨ad0.block, ad0.off + 1, none⟩ = some (.int .i64 y.f1) := (HB4.out.cell (World.block_lt_of_cell? w _ HX.out.2)).trans HX.out.2
          have hf0 : w4.drew.frozen? ⟨g, i * 2, none⟩ = false := by have := hfr 0; simpa [show k50.sz = 2 from rfl] using this
          have HE := Lib.hid hE
          have HPN := Lib.hid hpn
          have HF0 := Lib.hid hf0
          have HH := Lib.hid (Kd.H_drew hH)
          have HRU := Lib.hid (Kd.R_drew hRu)
          have HOK := Lib.hid hoki
          have HBD := Lib.hid (below_drew1 HB4.out)
          have HGB := Lib.hid (show w.heap.size ≤ g from Kd.S_base HSR.out g rfl)
          have HEL := Lib.hid (show E.f0.length ≤ 64 from (by
            have h2 := HST.out.2.2.2
            rw [← HRR.out] at h2
            have hlt : i < R.length := by rw [HIRR.out]; omega
            rw [hE, Int.toNat_natCast, List.getD_eq_getElem?_getD, List.getElem?_eq_getElem hlt]
            exact h2 _ (List.getElem_mem hlt)))
          obtain ⟨A2, hcut2, hcutC2⟩ := cut_tail (some ad0) n c1 1 rest HN.out (by omega) HCN.out
          have hcut3 : ∀ W : World, (Instr.slice 23 (.slice (some ad0) n c1) (some (.int .i64 1)) none none).run Tryd.prog W = .ok (.slice A2 (n - 1) (c1 - 1)) W := hcut2
          have HCT2 := Lib.hid hcutC2
          clear hcut2 hcutC2
          clear hcl hM hcc hfr hoki hH hE hpn hf0 hRu HSR HB4
          refine start_ (n := 13) (S := fun W => W.cell? ⟨g, i * 2, none⟩ = some (.slice Au pn cu) ∧ W.cell? ad0 = some (.string y.f0) ∧ W.cell? ⟨ad0.block, ad0.off + 1, none⟩ = some (.int .i64 y.f1)) (ds := [12]) #[false, false, false, false, false, false, false, false, false, false, false, false, false] (by kernel_rfl) rfl rfl ⟨hd0, hd1, hd2⟩ (fun hHeld => ?_)
          have HLD := Lib.hid hHeld
          generalize w4.drew = wd at HF0 HH HRU HBD HLD hHeld ⊢
          clear hd0 hd1 hd2
          refine pure_ (i := 0) (N := some 52) (v := ?_) (a' := ?_) #[true, false, false, false, false, false, false, false, false, false, false, false, false] rfl rfl (by kernel_rfl) (fun _ _ _ h => h) (Or.inl ⟨by rfl, ?_⟩) ?_ ?_
          rotate_left
          · intro w'
            go_simp
            with_reducible rfl
          rotate_left
          · simp only [Act.put, List.setIfInBounds_toArray, List.set_cons_zero, List.set_cons_succ, i64_w, i32_w]
            rfl
          refine pure_ (i := 1) (N := some 53) (v := ?_) (a' := ?_) #[true, true, false, false, false, false, false, false, false, false, false, false, false] rfl rfl (by kernel_rfl) (fun _ _ _ h => h) (Or.inl ⟨by rfl, ?_⟩) ?_ ?_
          rotate_left
          · intro w'
            go_simp
            with_reducible rfl
          rotate_left
          · simp only [Act.put, List.setIfInBounds_toArray, List.set_cons_zero, List.set_cons_succ, i64_w, i32_w]
            rfl
          refine pure_ (i := 2) (N := some 54) (v := ?_) (a' := ?_) #[true, true, true, false, false, false, false, false, false, false, false, false, false] rfl rfl (by kernel_rfl) (fun _ _ _ h => h) (Or.inl ⟨by rfl, ?_⟩) ?_ ?_
          rotate_left
          · intro w'
            go_simp
            with_reducible rfl
          rotate_left
          · simp only [Act.put, List.setIfInBounds_toArray, List.set_cons_zero, List.set_cons_succ, i64_w, i32_w]
            rfl
          refine pure_ (i := 3) (N := some 55) (v := ?_) (a' := ?_) #[true, true, true, true, false, false, false, false, false, false, false, false, false] rfl rfl (by kernel_rfl) (fun _ _ _ h => h) (Or.inl ⟨by rfl, ?_⟩) ?_ ?_
          rotate_left
          · intro w'
            go_simp
            with_reducible rfl
          rotate_left
          · simp only [Act.put, List.setIfInBounds_toArray, List.set_cons_zero, List.set_cons_succ, i64_w, i32_w]
            rfl
          refine take_ (i := 4) (N := some 56) (v := ?_) (a' := ?_) #[true, true, true, true, true, false, false, false, false, false, false, false, false] rfl rfl (by kernel_rfl) (fun _ _ _ h => h) (Or.inl ⟨by rfl, ?_⟩) hHeld ?_ ?_
          rotate_left
          · rintro w' ⟨s0, s1, s2⟩
            go_simp
            with_reducible rfl
          rotate_left
          · simp only [Act.put, List.setIfInBounds_toArray, List.set_cons_zero, List.set_cons_succ, i64_w, i32_w]
            rfl
          refine pure_ (i := 5) (N := some 57) (v := ?_) (a' := ?_) #[true, true, true, true, true, true, false, false, false, false, false, false, false] rfl rfl (by kernel_rfl) (fun _ _ _ h => h) (Or.inl ⟨by rfl, ?_⟩) ?_ ?_
          rotate_left
          · intro w'
            go_simp
            with_reducible rfl
          rotate_left
          · simp only [Act.put, List.setIfInBounds_toArray, List.set_cons_zero, List.set_cons_succ, i64_w, i32_w]
            rfl
          refine pure_ (i := 6) (N := some 58) (v := ?_) (a' := ?_) #[true, true, true, true, true, true, true, false, false, false, false, false, false] rfl rfl (by kernel_rfl) (fun _ _ _ h => h) (Or.inl ⟨by rfl, ?_⟩) ?_ ?_
          rotate_left
          · intro w'
            go_simp
            with_reducible rfl
          rotate_left
          · simp only [Act.put, List.setIfInBounds_toArray, List.set_cons_zero, List.set_cons_succ, i64_w, i32_w]
            rfl
          refine take_ (i := 7) (N := some 59) (v := ?_) (a' := ?_) #[true, true, true, true, true, true, true, true, false, false, false, false, false] rfl rfl (by kernel_rfl) (fun _ _ _ h => h) (Or.inl ⟨by rfl, ?_⟩) hHeld ?_ ?_
          rotate_left
          · rintro w' ⟨s0, s1, s2⟩
            go_simp
            with_reducible rfl
          rotate_left
          · simp only [Act.put, List.setIfInBounds_toArray, List.set_cons_zero, List.set_cons_succ, i64_w, i32_w]
            rfl
          refine one_ (i := 8) (N := some 60) #[true, true, true, true, true, true, true, true, true, false, false, false, false] rfl rfl (by kernel_rfl) (by decide) (fun K hK => ?_)
          refine value_ (w1 := ?_) (v := ?_) (by rfl) rfl ?_ ?_
          rotate_left 2
          · go_simp
            constructor
            · rfl
            · rfl
          refine hK.out _ _ ⟨(World.cell?_alloc_lt _ _ _ (World.block_lt_of_cell? _ _ hHeld.1)).trans hHeld.1, (World.cell?_alloc_lt _ _ _ (World.block_lt_of_cell? _ _ hHeld.2.1)).trans hHeld.2.1, (World.cell?_alloc_lt _ _ _ (World.block_lt_of_cell? _ _ hHeld.2.2)).trans hHeld.2.2⟩ (fun hHeld => ?_)
          clear hK K
          refine norm_ (a' := ?_) ?_ ?_
          rotate_left
          · show Act.put _ (some 60) _ = _
            simp only [Act.put, List.setIfInBounds_toArray, List.set_cons_zero, List.set_cons_succ, i64_w, i32_w]
            rfl
          refine one_ (i := 9) (N := some 61) #[true, true, true, true, true, true, true, true, true, true, false, false, false] rfl rfl (by kernel_rfl) (by decide) (fun K hK => ?_)
          refine Kd.R_append_step k60 (w0 := w) w.heap.size (by rfl) (.tmp 56) (.tmp 60) 23 60 (.agg #[(.string ⟨#[]⟩), (.int .i64 0)]) 24 rfl Tryd.underlying23 info60 rfl (by decide) (by omega) (.slice Au pn cu) E.f0 y [.string y.f0, .int .i64 y.f1] (fun k => oki k ∨ True ∧ wd.heap.size ≤ k) (fun _ => False) rfl rfl (k60_mkM _ _ _ y) (fun _ hk => hk.elim) (fun k hk => .inr ⟨trivial, hk⟩) (Kd.R_mono HRU.out (fun k hk => .inl hk)) HBD.out HBD.out.size (by have := HEL.out; omega) ?_
          intro v5 w5 hR5 hb5 hg5 _
          obtain ⟨A5, c5, rfl⟩ := Kd.R_slice hR5
          obtain ⟨p5, hp5⟩ : ∃ p5, p5 = (E.f0 ++ [y]).length := ⟨_, rfl⟩
          rw [← hp5] at hR5 ⊢
          clear hp5
          have HGL := Lib.hid (show g < wd.heap.size from World.block_lt_of_cell? _ _ HLD.out.1)
          have HH6 := Lib.hid (Kd.H_grown (Kd.H_widen HH.out) hg5 (fun k hk => .inl (HRU.out.1 k hk)))
          have hat6 := Kd.H_at HH6.out (by omega) (by omega)
          have hd0 : w5.cell? ⟨g, i * 2, none⟩ = some (.slice Au pn cu) := by have := hat6.1 0 _ rfl; simpa [show k50.sz = 2 from rfl] using this
          have hf5 : w5.frozen? ⟨g, i * 2, none⟩ = false := by have := hat6.2 0; simpa [show k50.sz = 2 from rfl] using this
          have HF5 := Lib.hid hf5
          have HR5 := Lib.hid hR5
          have HB5 := Lib.hid hb5
          clear hf5 hR5 hat6 hg5 hHeld HH HRU HF0 HBD
          refine hK.out _ _ ⟨hd0, (hb5.cell (World.block_lt_of_cell? w _ HX.out.1)).trans HX.out.1, (hb5.cell (World.block_lt_of_cell? w _ HX.out.2)).trans HX.out.2⟩ (fun hHeld => ?_)
          clear hb5
          clear hK K
          refine norm_ (a' := ?_) ?_ ?_
          rotate_left
          · show Act.put _ (some 61) _ = _
            simp only [Act.put, List.setIfInBounds_toArray, List.set_cons_zero, List.set_cons_succ, i64_w, i32_w]
            rfl
          refine pure_ (i := 10) (N := some 62) (v := ?_) (a' := ?_) #[true, true, true, true, true, true, true, true, true, true, true, false, false] rfl rfl (by kernel_rfl) (fun _ _ _ h => h) (Or.inl ⟨by rfl, ?_⟩) ?_ ?_
          rotate_left
          · intro w'
            go_simp
            with_reducible rfl
          rotate_left
          · simp only [Act.put, List.setIfInBounds_toArray, List.set_cons_zero, List.set_cons_succ, i64_w, i32_w]
            rfl
          refine pure_ (i := 11) (N := some 63) (v := ?_) (a' := ?_) #[true, true, true, true, true, true, true, true, true, true, true, true, false] rfl rfl (by kernel_rfl) (fun _ _ _ h => h) (Or.inl ⟨by rfl, ?_⟩) ?_ ?_
          rotate_left
          · intro w'
            go_simp
            with_reducible rfl
          rotate_left
          · simp only [Act.put, List.setIfInBounds_toArray, List.set_cons_zero, List.set_cons_succ, i64_w, i32_w]
            rfl
          refine last_ (i := 12) (N := none) #[true, true, true, true, true, true, true, true, true, true, true, true, true] rfl rfl (by kernel_rfl) (by decide) (fun K hK => ?_)
          have hs_ := hd0
          have hfs_ := HF5.out
          refine skip_ (w1 := ?_) (by rfl) rfl ?_ ?_
          rotate_left
          · go_simp
            rfl
          refine hK.out _ _ ?_
          clear hK K hs_ hfs_ hd0 hHeld
          refine done_ (by kernel_rfl) ?_
          go_wp2
          have hgd := World.block_lt_of_cell? _ _ HLD.out.1
          obtain ⟨hcl1, hcl2⟩ := close_run HH6.out HR5.out (fun k hk => hk) (fun k hk he => by
            rcases hk with hk | hk
            · exact (HOK.out k hk).2 he
            · have := HGL.out; have := hk.2; omega)
          have HS7 := Lib.hid hcl1
          have HB7 := Lib.hid (pw_below_grown HB5.out (some g) HB5.out.size hcl2 (fun k hk => by injection hk with hk; have := HGB.out; omega))
          clear hcl1 hcl2 hcut3 hgo hgoN hgoI hpI
          go_roundg q
          case measure => omega
          case rel => exact ⟨A2, n - 1, c1 - 1, rest.drop 1, pushS R y, true, rfl, rfl, Lib.hid (by rw [List.length_drop, ← HN.out]), Lib.hid (by have := HCN.out; omega), HCT2.out _ HC.out, (by
            have h := HS7.out
            have e : R.set i ⟨E.f0 ++ [y], E.f1⟩ = pushS R y := by unfold pushS; rw [show R.length - 1 = i by rw [HIRR.out]; omega, HE.out, Int.toNat_natCast]
            rw [e] at h
            exact h), HB7.out, Lib.hid (by rw [HRR.out, HY.out]; exact HST.out.1)⟩
        · obtain ⟨g, cap, i, rfl, hcapi, hiR, hS5⟩ := S_open HS.out (by have := HST.out.2.1; exact this)
          have HS' := Lib.hid hS5
          clear HS hS5
          have HS := HS'
          clear HS'
          have HIR := Lib.hid hiR
          have hi64 : i ≤ 64 := (by have := HST.out.2.2.1; have e : (ready true rs).length = i + 1 := hiR; omega)
          clear hiR
          go_wp2_with (first | (go_at_call 60; (with_reducible refine (block_n HN.out (Kd.C_below HC.out HB.out) HCN.out hn64).mono ?_); rintro e w2 ⟨rfl, hb⟩; rw [← HP.out, ← HK.out]; have HB2 := Lib.hid (HB.out.trans (hb.mono HB.out.size)); have HS2 := Lib.hid (Kd.S_below HS.out hb); clear hb HB HS))
          obtain ⟨w4, rfl⟩ : ∃ w4, w4 = w2 := ⟨_, rfl⟩
          have HSR := Lib.hid (show Kd.S k50 50 w4 w.heap.size (fun _ => True) (.slice (some ⟨g, 0, none⟩) (i + 1) cap) (ready true rs) from HS2.out)
          have HIRR := Lib.hid (show (ready true rs).length = i + 1 from HIR.out)
          have HB4 := HB2
          clear HS2 HIR HB2
          obtain ⟨R, hR⟩ : ∃ R, R = ready true rs := ⟨_, rfl⟩
          rw [← hR] at HSR HIRR
          have HRR := Lib.hid hR
          clear hR
          obtain ⟨oki, cs, hcl, hM, hcc, hfr, hoki, hH⟩ := Kd.S_elem HSR.out z50 (i : Int) (by omega) (by omega)
          obtain ⟨E, hE⟩ : ∃ E, E = R.getD (i : Int).toNat z50 := ⟨_, rfl⟩
          rw [← hE] at hM
          obtain ⟨u, rfl, hRu⟩ := k50_openM hM
          obtain ⟨Au, cu, rfl⟩ := Kd.R_slice hRu
          obtain ⟨pn, hpn⟩ : ∃ pn, pn = E.f0.length := ⟨_, rfl⟩
          rw [← hpn] at hRu hcc hH
          have hd0 : w4.drew.cell? ⟨g, i * 2, none⟩ = some (.slice Au pn cu) := by have := hcc 0 _ rfl; simpa [show k50.sz = 2 from rfl] using this
          have hd1 : w4.drew.cell? ad0 = some (.string y.f0) := (HB4.out.cell (World.block_lt_of_cell? w _ HX.out.1)).trans HX.out.1
          have hd2 : w4.drew.cell? ⟨ad0.block, ad0.off + 1, none⟩ = some (.int .i64 y.f1) := (HB4.out.cell (World.block_lt_of_cell? w _ HX.out.2)).trans HX.out.2
          have hf0 : w4.drew.frozen? ⟨g, i * 2, none⟩ = false := by have := hfr 0; simpa [show k50.sz = 2 from rfl] using this
          have HE := Lib.hid hE
          have HPN := Lib.hid hpn
          have HF0 := Lib.hid hf0
          have HH := Lib.hid (Kd.H_drew hH)
          have HRU := Lib.hid (Kd.R_drew hRu)
          have HOK := Lib.hid hoki
          have HBD := Lib.hid (below_drew1 HB4.out)
          have HGB := Lib.hid (show w.heap.size ≤ g from Kd.S_base HSR.out g rfl)
          have HEL := Lib.hid (show E.f0.length ≤ 64 from (by
            have h2 := HST.out.2.2.2
            rw [← HRR.out] at h2
            have hlt : i < R.length := by rw [HIRR.out]; omega
            rw [hE, Int.toNat_natCast, List.getD_eq_getElem?_getD, List.getElem?_eq_getElem hlt]
            exact h2 _ (List.getElem_mem hlt)))
          obtain ⟨A2, hcut2, hcutC2⟩ := cut_tail (some ad0) n c1 1 rest HN.out (by omega) HCN.out
          have hcut3 : ∀ W : World, (Instr.slice 23 (.slice (some ad0) n c1) (some (.int .i64 1)) none none).run Tryd.prog W = .ok (.slice A2 (n - 1) (c1 - 1)) W := hcut2
          have HCT2 := Lib.hid hcutC2
          clear hcut2 hcutC2
          clear hcl hM hcc hfr hoki hH hE hpn hf0 hRu HSR HB4
          refine start_ (n := 13) (S := fun W => W.cell? ⟨g, i * 2, none⟩ = some (.slice Au pn cu) ∧ W.cell? ad0 = some (.string y.f0) ∧ W.cell? ⟨ad0.block, ad0.off + 1, none⟩ = some (.int .i64 y.f1)) (ds := [12]) #[false, false, false, false, false, false, false, false, false, false, false, false, false] (by kernel_rfl) rfl rfl ⟨hd0, hd1, hd2⟩ (fun hHeld => ?_)
          have HLD := Lib.hid hHeld
          generalize w4.drew = wd at HF0 HH HRU HBD HLD hHeld ⊢
          clear hd0 hd1 hd2
          refine pure_ (i := 0) (N := some 52) (v := ?_) (a' := ?_) #[true, false, false, false, false, false, false, false, false, false, false, false, false] rfl rfl (by kernel_rfl) (fun _ _ _ h => h) (Or.inl ⟨by rfl, ?_⟩) ?_ ?_
          rotate_left
          · intro w'
            go_simp
            with_reducible rfl
          rotate_left
          · simp only [Act.put, List.setIfInBounds_toArray, List.set_cons_zero, List.set_cons_succ, i64_w, i32_w]
            rfl
          refine pure_ (i := 1) (N := some 53) (v := ?_) (a' := ?_) #[true, true, false, false, false, false, false, false, false, false, false, false, false] rfl rfl (by kernel_rfl) (fun _ _ _ h => h) (Or.inl ⟨by rfl, ?_⟩) ?_ ?_
          rotate_left
          · intro w'
            go_simp
            with_reducible rfl
          rotate_left
          · simp only [Act.put, List.setIfInBounds_toArray, List.set_cons_zero, List.set_cons_succ, i64_w, i32_w]
            rfl
          refine pure_ (i := 2) (N := some 54) (v := ?_) (a' := ?_) #[true, true, true, false, false, false, false, false, false, false, false, false, false] rfl rfl (by kernel_rfl) (fun _ _ _ h => h) (Or.inl ⟨by rfl, ?_⟩) ?_ ?_
          rotate_left
          · intro w'
            go_simp
            with_reducible rfl
          rotate_left
          · simp only [Act.put, List.setIfInBounds_toArray, List.set_cons_zero, List.set_cons_succ, i64_w, i32_w]
            rfl
          refine pure_ (i := 3) (N := some 55) (v := ?_) (a' := ?_) #[true, true, true, true, false, false, false, false, false, false, false, false, false] rfl rfl (by kernel_rfl) (fun _ _ _ h => h) (Or.inl ⟨by rfl, ?_⟩) ?_ ?_
          rotate_left
          · intro w'
            go_simp
            with_reducible rfl
          rotate_left
          · simp only [Act.put, List.setIfInBounds_toArray, List.set_cons_zero, List.set_cons_succ, i64_w, i32_w]
            rfl
          refine take_ (i := 4) (N := some 56) (v := ?_) (a' := ?_) #[true, true, true, true, true, false, false, false, false, false, false, false, false] rfl rfl (by kernel_rfl) (fun _ _ _ h => h) (Or.inl ⟨by rfl, ?_⟩) hHeld ?_ ?_
          rotate_left
          · rintro w' ⟨s0, s1, s2⟩
            go_simp
            with_reducible rfl
          rotate_left
          · simp only [Act.put, List.setIfInBounds_toArray, List.set_cons_zero, List.set_cons_succ, i64_w, i32_w]
            rfl
          refine pure_ (i := 5) (N := some 57) (v := ?_) (a' := ?_) #[true, true, true, true, true, true, false, false, false, false, false, false, false] rfl rfl (by kernel_rfl) (fun _ _ _ h => h) (Or.inl ⟨by rfl, ?_⟩) ?_ ?_
          rotate_left
          · intro w'
            go_simp
            with_reducible rfl
          rotate_left
          · simp only [Act.put, List.setIfInBounds_toArray, List.set_cons_zero, List.set_cons_succ, i64_w, i32_w]
            rfl
          refine pure_ (i := 6) (N := some 58) (v := ?_) (a' := ?_) #[true, true, true, true, true, true, true, false, false, false, false, false, false] rfl rfl (by kernel_rfl) (fun _ _ _ h => h) (Or.inl ⟨by rfl, ?_⟩) ?_ ?_
          rotate_left
          · intro w'
            go_simp
            with_reducible rfl
          rotate_left
          · simp only [Act.put, List.setIfInBounds_toArray, List.set_cons_zero, List.set_cons_succ, i64_w, i32_w]
            rfl
          refine take_ (i := 7) (N := some 59) (v := ?_) (a' := ?_) #[true, true, true, true, true, true, true, true, false, false, false, false, false] rfl rfl (by kernel_rfl) (fun _ _ _ h => h) (Or.inl ⟨by rfl, ?_⟩) hHeld ?_ ?_
          rotate_left
          · rintro w' ⟨s0, s1, s2⟩
            go_simp
            with_reducible rfl
          rotate_left
          · simp only [Act.put, List.setIfInBounds_toArray, List.set_cons_zero, List.set_cons_succ, i64_w, i32_w]
            rfl
          refine one_ (i := 8) (N := some 60) #[true, true, true, true, true, true, true, true, true, false, false, false, false] rfl rfl (by kernel_rfl) (by decide) (fun K hK => ?_)
          refine value_ (w1 := ?_) (v := ?_) (by rfl) rfl ?_ ?_
          rotate_left 2
          · go_simp
            constructor
            · rfl
            · rfl
          refine hK.out _ _ ⟨(World.cell?_alloc_lt _ _ _ (World.block_lt_of_cell? _ _ hHeld.1)).trans hHeld.1, (World.cell?_alloc_lt _ _ _ (World.block_lt_of_cell? _ _ hHeld.2.1)).trans hHeld.2.1, (World.cell?_alloc_lt _ _ _ (World.block_lt_of_cell? _ _ hHeld.2.2)).trans hHeld.2.2⟩ (fun hHeld => ?_)
          clear hK K
          refine norm_ (a' := ?_) ?_ ?_
          rotate_left
          · show Act.put _ (some 60) _ = _
            simp only [Act.put, List.setIfInBounds_toArray, List.set_cons_zero, List.set_cons_succ, i64_w, i32_w]
            rfl
          refine one_ (i := 9) (N := some 61) #[true, true, true, true, true, true, true, true, true, true, false, false, false] rfl rfl (by kernel_rfl) (by decide) (fun K hK => ?_)
          refine Kd.R_append_step k60 (w0 := w) w.heap.size (by rfl) (.tmp 56) (.tmp 60) 23 60 (.agg #[(.string ⟨#[]⟩), (.int .i64 0)]) 24 rfl Tryd.underlying23 info60 rfl (by decide) (by omega) (.slice Au pn cu) E.f0 y [.string y.f0, .int .i64 y.f1] (fun k => oki k ∨ True ∧ wd.heap.size ≤ k) (fun _ => False) rfl rfl (k60_mkM _ _ _ y) (fun _ hk => hk.elim) (fun k hk => .inr ⟨trivial, hk⟩) (Kd.R_mono HRU.out (fun k hk => .inl hk)) HBD.out HBD.out.size (by have := HEL.out; omega) ?_
          intro v5 w5 hR5 hb5 hg5 _
          obtain ⟨A5, c5, rfl⟩ := Kd.R_slice hR5
          obtain ⟨p5, hp5⟩ : ∃ p5, p5 = (E.f0 ++ [y]).length := ⟨_, rfl⟩
          rw [← hp5] at hR5 ⊢
          clear hp5
          have HGL := Lib.hid (show g < wd.heap.size from World.block_lt_of_cell? _ _ HLD.out.1)
          have HH6 := Lib.hid (Kd.H_grown (Kd.H_widen HH.out) hg5 (fun k hk => .inl (HRU.out.1 k hk)))
          have hat6 := Kd.H_at HH6.out (by omega) (by omega)
          have hd0 : w5.cell? ⟨g, i * 2, none⟩ = some (.slice Au pn cu) := by have := hat6.1 0 _ rfl; simpa [show k50.sz = 2 from rfl] using this
          have hf5 : w5.frozen? ⟨g, i * 2, none⟩ = false := by have := hat6.2 0; simpa [show k50.sz = 2 from rfl] using this
          have HF5 := Lib.hid hf5
          have HR5 := Lib.hid hR5
          have HB5 := Lib.hid hb5
          clear hf5 hR5 hat6 hg5 hHeld HH HRU HF0 HBD
          refine hK.out _ _ ⟨hd0, (hb5.cell (World.block_lt_of_cell? w _ HX.out.1)).trans HX.out.1, (hb5.cell (World.block_lt_of_cell? w _ HX.out.2)).trans HX.out.2⟩ (fun hHeld => ?_)
          clear hb5
          clear hK K
          refine norm_ (a' := ?_) ?_ ?_
          rotate_left
          · show Act.put _ (some 61) _ = _
            simp only [Act.put, List.setIfInBounds_toArray, List.set_cons_zero, List.set_cons_succ, i64_w, i32_w]
            rfl
          refine pure_ (i := 10) (N := some 62) (v := ?_) (a' := ?_) #[true, true, true, true, true, true, true, true, true, true, true, false, false] rfl rfl (by kernel_rfl) (fun _ _ _ h => h) (Or.inl ⟨by rfl, ?_⟩) ?_ ?_
          rotate_left
          · intro w'
            go_simp
            with_reducible rfl
          rotate_left
          · simp only [Act.put, List.setIfInBounds_toArray, List.set_cons_zero, List.set_cons_succ, i64_w, i32_w]
            rfl
          refine pure_ (i := 11) (N := some 63) (v := ?_) (a' := ?_) #[true, true, true, true, true, true, true, true, true, true, true, true, false] rfl rfl (by kernel_rfl) (fun _ _ _ h => h) (Or.inl ⟨by rfl, ?_⟩) ?_ ?_
          rotate_left
          · intro w'
            go_simp
            with_reducible rfl
          rotate_left
          · simp only [Act.put, List.setIfInBounds_toArray, List.set_cons_zero, List.set_cons_succ, i64_w, i32_w]
            rfl
          refine last_ (i := 12) (N := none) #[true, true, true, true, true, true, true, true, true, true, true, true, true] rfl rfl (by kernel_rfl) (by decide) (fun K hK => ?_)
          have hs_ := hd0
          have hfs_ := HF5.out
          refine skip_ (w1 := ?_) (by rfl) rfl ?_ ?_
          rotate_left
          · go_simp
            rfl
          refine hK.out _ _ ?_
          clear hK K hs_ hfs_ hd0 hHeld
          refine done_ (by kernel_rfl) ?_
          go_wp2
          have hgd := World.block_lt_of_cell? _ _ HLD.out.1
          obtain ⟨hcl1, hcl2⟩ := close_run HH6.out HR5.out (fun k hk => hk) (fun k hk he => by
            rcases hk with hk | hk
            · exact (HOK.out k hk).2 he
            · have := HGL.out; have := hk.2; omega)
          have HS7 := Lib.hid hcl1
          have HB7 := Lib.hid (pw_below_grown HB5.out (some g) HB5.out.size hcl2 (fun k hk => by injection hk with hk; have := HGB.out; omega))
          clear hcl1 hcl2 hcut3 hgo hgoN hgoI hpI
          go_roundg q
          case measure => omega
          case rel => exact ⟨A2, n - 1, c1 - 1, rest.drop 1, pushS R y, true, rfl, rfl, Lib.hid (by rw [List.length_drop, ← HN.out]), Lib.hid (by have := HCN.out; omega), HCT2.out _ HC.out, (by
            have h := HS7.out
            have e : R.set i ⟨E.f0 ++ [y], E.f1⟩ = pushS R y := by unfold pushS; rw [show R.length - 1 = i by rw [HIRR.out]; omega, HE.out, Int.toNat_natCast]
            rw [e] at h
            exact h), HB7.out, Lib.hid (by rw [HRR.out, HY.out]; exact HST.out.1)⟩
set_option maxRecDepth 100000 in
set_option maxHeartbeats 4000000 in
theorem Fold_any (A : Option Addr) (c : Nat) (l : List S60) (w : World) (h : Kd.C k60 w A l.length l) (hc : l.length ≤ c) (hs : ∀ x ∈ l, x.f0.size ≤ 9223372036854775807) (hl : l.length ≤ 9223372036854775806) :
    Calls Tryd.prog 28 #[.slice A l.length c] w (FoldIs (l.map toPl) w) := by
  by_cases h0 : checkN (l.map toPl) = 0
  · exact Fold_ok A c l w h hc hs h0
  · have hchk := Check_any A c l w h hc hs hl
    have HC := Lib.hid hchk
    have hne : (checkN (l.map toPl) != 0) = true := by simpa using h0
    have HT := Lib.hid (show foldOf (l.map toPl) = ([], checkN (l.map toPl)) by unfold foldOf; rw [if_neg h0])
    clear hchk h0 h
    go_enter Tryd.func28, Tryd.ntmps28
    go_wp2_with (go_at_call 14; refine (HC.out).mono ?_; rintro e w2 ⟨rfl, hb2⟩)
    go_ret2
    exact ⟨_, [], by rw [HT.out]; rfl, by rw [HT.out]; rfl, Kd.S_nil _ _ _ _ _, hb2⟩
end Go.Proofs.YtmgfdcfbjgokgaaDoor
