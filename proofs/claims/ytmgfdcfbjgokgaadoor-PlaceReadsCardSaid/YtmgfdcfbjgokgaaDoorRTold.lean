/- The reference's 'taken' and 'short' in plain words. The reference's tree in memory, and what only reads it. The reference's 'Told'. -/
import Derived.Test.YtmgfdcfbjgokgaaDoorTreLaw
import Derived.Test.YtmgfdcfbjgokgaaDoorPLx17
import Derived.Test.YtmgfdcfbjgokgaaDoorCom
namespace Go.Proofs.YtmgfdcfbjgokgaaDoor
open Go Go.RowKit Go.Proofs.YtmgfdcfbjgokgaaDoorW.PrintWords Go.Proofs.YtmgfdcfbjgokgaaDoorW.PrintLast Go.Proofs.YtmgfdcfbjgokgaaDoor.PL
set_option linter.unusedVariables false
set_option linter.unusedSimpArgs false

def takenP (s : ByteArray) : Nat × ByteArray :=
  match numG s 3 0 0 with
  | none => (0, ⟨#[]⟩)
  | some (n, j) => (n, s.extract (j + 1) s.size)
theorem tmod_nat (b : Nat) : wrap64 (Int.tmod (b : Int) 128) = ((b % 128 : Nat) : Int) := by
  have h : Int.tmod (b : Int) 128 = ((b % 128 : Nat) : Int) := by
    rw [Int.tmod_eq_emod_of_nonneg (by omega)]
    omega
  rw [h]
  unfold wrap64
  omega
theorem taken_step (acc b i u : Nat) (hb : b < 256) (hi : i < 3) (ha : acc < 128 ^ i) (hu : u = 128 ^ i) : wrap64 ((acc : Int) + wrap64 (wrap64 (Int.tmod (b : Int) 128) * (u : Int))) = ((acc + b % 128 * 128 ^ i : Nat) : Int) := by
  have hm : b % 128 < 128 := Nat.mod_lt _ (by decide)
  rw [tmod_nat, ← hu]
  rw [← hu] at ha
  have hu2 : u ≤ 16384 := by
    rw [hu]
    have : 128 ^ i ≤ 128 ^ 2 := Nat.pow_le_pow_right (by decide) (by omega)
    have h2 : 128 ^ 2 = 16384 := by decide
    omega
  generalize b % 128 = c at hm
  have hc : c * u ≤ 127 * 16384 := Nat.mul_le_mul (by omega) hu2
  rw [← Int.natCast_mul]
  have e1 : wrap64 ((c * u : Nat) : Int) = ((c * u : Nat) : Int) := by unfold wrap64; omega
  rw [e1]
  unfold wrap64
  omega
theorem taken_l0 (s : ByteArray) (hs : s.size ≤ 9223372036854775807) : ∀ (f i acc u k : Nat), i + f = 3 → acc < 128 ^ i → u = 128 ^ i → 2 * f + 2 ≤ k →
    errataref03_taken.l0 k s (acc : Int) (u : Int) (i : Int) = some (match numG s f i acc with | none => (0, (⟨#[]⟩ : ByteArray)) | some (n, j) => ((n : Int), s.extract (j + 1) s.size))
  | 0, i, acc, u, k + 2, hi, ha, hu, hk => by
    have h4 : i = 3 := by omega
    subst h4
    have h2 : decide (((3 : Nat) : Int) < 3) = false := by decide
    simp only [errataref03_taken.l0, errataref03_taken.j1, numG, h2, Bool.false_eq_true, if_false]
    exact ite_self _
  | f + 1, i, acc, u, k + 2, hi, ha, hu, hk => by
    have g2 : decide ((i : Int) < 3) = true := by simp; omega
    have g3 : (0 : Int) ≤ (i : Int) := by omega
    simp only [errataref03_taken.l0, errataref03_taken.j1, numG]
    by_cases hlt : i < s.size
    · have g1 : (i : Int) < (s.size : Int) := by omega
      have hw1 : wrap64 ((i : Int) + 1) = ((i + 1 : Nat) : Int) := by unfold wrap64; omega
      have hst := taken_step acc (bN s i) i u (bN_lt s i) (by omega) ha hu
      have hu2 : u ≤ 16384 := by
        rw [hu]
        have : 128 ^ i ≤ 128 ^ 2 := Nat.pow_le_pow_right (by decide) (by omega)
        have h2 : 128 ^ 2 = 16384 := by decide
        omega
      have hwu : wrap64 (128 * (u : Int)) = ((128 * u : Nat) : Int) := by unfold wrap64; omega
      obtain ⟨V, hV⟩ : ∃ V, V = acc + bN s i % 128 * 128 ^ i := ⟨_, rfl⟩
      rw [← hV] at hst ⊢
      have hj : (0 : Int) ≤ ((i + 1 : Nat) : Int) := by omega
      have hj2 : ((i + 1 : Nat) : Int) ≤ (s.size : Int) := by omega
      simp only [g1, g2, g3, if_true, bN_eq, hst, hw1, hwu, hlt, hj, hj2, Int.toNat_natCast]
      by_cases hb : bN s i < 128
      · rw [if_pos (by omega), if_pos hb]
      · rw [if_neg (by omega), if_neg hb]
        have hlt2 : V < 128 ^ (i + 1) := by
          have h1 : bN s i % 128 ≤ 127 := by omega
          have h2 := Nat.mul_le_mul_right (128 ^ i) h1
          rw [Nat.pow_succ]
          omega
        exact taken_l0 s hs f (i + 1) V (128 * u) k (by omega) hlt2 (by rw [hu, Nat.pow_succ, Nat.mul_comm]) (by omega)
    · have g1 : ¬ (i : Int) < (s.size : Int) := by omega
      simp only [g1, if_false, hlt, Bool.false_eq_true]
theorem taken_f (s : ByteArray) (hs : s.size ≤ 9223372036854775807) : errataref03_taken.f 8 s = some (((takenP s).1 : Int), (takenP s).2) := by
  have := taken_l0 s hs 3 0 0 1 8 rfl (by decide) rfl (by decide)
  unfold errataref03_taken.f takenP
  refine this.trans ?_
  cases numG s 3 0 0 with
  | none => rfl
  | some r => rfl
theorem tdiv_nat (n : Nat) (hn : n < 2097152) : wrap64 (Int.tdiv (n : Int) 128) = ((n / 128 : Nat) : Int) := by
  have h : Int.tdiv (n : Int) 128 = ((n / 128 : Nat) : Int) := by
    rw [Int.tdiv_eq_ediv_of_nonneg (by omega)]
    omega
  rw [h]
  unfold wrap64
  omega
theorem tmod_nat2 (n : Nat) (hn : n < 2097152) : wrap64 (Int.tmod (n : Int) 128 + 128) % 256 = ((n % 128 + 128 : Nat) : Int) := by
  have h : Int.tmod (n : Int) 128 = ((n % 128 : Nat) : Int) := by
    rw [Int.tmod_eq_emod_of_nonneg (by omega)]
    omega
  rw [h]
  unfold wrap64
  omega
theorem rshort_f (n : Nat) (hn : n < 2097152) : errataref03_short.f 4 (n : Int) = some (strOfNums (encS n)) := by
  unfold errataref03_short.f encS
  by_cases h1 : n < 128
  · simp only [errataref03_short.l0]
    rw [if_neg (by omega), if_pos (by simp), if_pos h1]
    congr 3
    simp only [List.nil_append, List.cons.injEq, and_true]
    omega
  · rw [if_neg h1]
    by_cases h2 : n < 16384
    · simp only [errataref03_short.l0]
      rw [if_pos (by omega), if_pos (by simp), tdiv_nat n hn, tmod_nat2 n hn, if_neg (by omega), if_pos (by simp), if_pos h2]
      congr 3
      simp only [List.cons_append, List.nil_append, List.cons.injEq, and_true, true_and]
      omega
    · simp only [errataref03_short.l0]
      rw [if_pos (by omega), if_pos (by simp), tdiv_nat n hn, tmod_nat2 n hn, if_pos (by omega), if_pos (by simp), tdiv_nat (n / 128) (by omega), tmod_nat2 (n / 128) (by omega), if_neg (by omega), if_pos (by simp), if_neg h2]
      congr 3
      simp only [List.cons_append, List.nil_append, List.cons.injEq, and_true, true_and]
      omega
section
variable {w : World}
theorem taken_any (s : ByteArray) (hs : s.size ≤ 9223372036854775807) : Calls Tryd.prog 65 #[.string s] w fun e w2 => e = .returned (.tuple #[.int .i64 (takenP s).1, .string (takenP s).2]) ∧ Below w.heap.size w w2 :=
  (errataref03_taken.calls 8 s _ _ w (taken_f s hs)).mono fun e w2 h => ⟨h.1, h.2.below⟩
theorem rshort_any (n : Nat) (hn : n < 2097152) : Calls Tryd.prog 90 #[.int .i64 n] w fun e w2 => e = .returned (.string (strOfNums (encS n))) ∧ Below w.heap.size w w2 :=
  errataref03_short.calls 4 n _ w (rshort_f n hn)
end
end Go.Proofs.YtmgfdcfbjgokgaaDoor
namespace Go.Proofs.YtmgfdcfbjgokgaaDoor
open Go Go.RowKit Go.Proofs.YtmgfdcfbjgokgaaDoorW.PrintWords Go.Proofs.YtmgfdcfbjgokgaaDoorW.PrintLast Go.Proofs.YtmgfdcfbjgokgaaDoor.PL
set_option linter.unusedVariables false
set_option linter.unusedSimpArgs false

/-- The reference's tree that can be read at block g. -/
structure RefC (W : World) (g : Nat) (T : Tr) (An : Option Addr) (cn : Nat) : Prop where
  c0 : W.cell? ⟨g, 0, none⟩ = some (.slice An (T.nodes.length - 1) cn)
  capn : T.nodes.length - 1 ≤ cn
  nodes : Kd.C kNd W An (T.nodes.length - 1) (T.nodes.drop 1)
theorem R_rdl {α : Type} {d : Kd α} {e : TypeId} {base : Nat} {ok : Nat → Prop} {W : World} {A : Option Addr} {n c : Nat} {xs : List α} (hn : n = xs.length) (h : Kd.R d e W base ok (.slice A n c) xs) : n ≤ c ∧ Kd.C d W A n xs := by
  have := Kd.R_reads' h
  subst hn
  exact ⟨this.2.1, this.2.2⟩
section
variable {W W2 : World} {g : Nat} {T : Tr} {An : Option Addr} {cn : Nat}
theorem RefC.below (h : RefC W g T An cn) (hb : Below W.heap.size W W2) : RefC W2 g T An cn where
  c0 := (hb.cell (World.block_lt_of_cell? W _ h.c0)).trans h.c0
  capn := h.capn
  nodes := Kd.C_below h.nodes hb
theorem RefC.node (h : RefC W g T An cn) {k : Nat} (ha : k + 1 < T.nodes.length) : ∃ ad, An = some ad ∧ W.cell? (ad.add (k * 3)) = some (.int .i64 (upT T (k + 1) : Nat)) ∧ W.cell? ⟨(ad.add (k * 3)).block, (ad.add (k * 3)).off + 1, none⟩ = some (.string (T.nodes.getD (k + 1) (0, (⟨#[]⟩, 0))).2.1) ∧ W.cell? ⟨(ad.add (k * 3)).block, (ad.add (k * 3)).off + 2, none⟩ = some (.int .i64 (T.nodes.getD (k + 1) (0, (⟨#[]⟩, 0))).2.2) := by
  have hl : k < (T.nodes.drop 1).length := by rw [List.length_drop]; omega
  obtain ⟨ad, e, hc, h1, h2⟩ := at_nd h.nodes k (by omega) hl
  have e3 : (T.nodes.drop 1)[k] = T.nodes[k + 1] := by rw [List.getElem_drop]; congr 1; omega
  have e2 : T.nodes.getD (k + 1) (0, (⟨#[]⟩, 0)) = T.nodes[k + 1] := by rw [List.getD_eq_getElem?_getD, List.getElem?_eq_getElem ha]; rfl
  rw [e3] at hc h1 h2
  unfold upT
  rw [e2]
  exact ⟨ad, e, hc, h1, h2⟩
set_option maxRecDepth 100000 in
set_option maxHeartbeats 1600000 in
theorem rthere_any (h : RefC W g T An cn) (hw : T.wf) (n : Int) : Calls Tryd.prog 89 #[.pointer (some ⟨g, 0, none⟩), .int .i64 n] W fun e w' => e = .returned (.bool (thereT T n)) ∧ w' = W := by
  obtain ⟨N, hN⟩ : ∃ N, N = T.nodes.length - 1 := ⟨_, rfl⟩
  have h1 := hw.one
  have h0 := h.c0
  rw [← hN] at h0
  have ht : thereT T n = decide (0 ≤ n ∧ n ≤ (N : Int)) := by
    unfold thereT
    rw [Bool.eq_iff_iff, decide_eq_true_eq, decide_eq_true_eq]
    omega
  rw [ht]
  clear h hN h1 ht hw
  by_cases c1 : 0 ≤ n
  · have d1 : decide (0 ≤ n) = true := decide_eq_true c1
    by_cases c2 : n ≤ (N : Int)
    · have d2 : decide (n ≤ (N : Int)) = true := decide_eq_true c2
      rw [show decide (0 ≤ n ∧ n ≤ (N : Int)) = true from decide_eq_true ⟨c1, c2⟩]
      go_enter Tryd.func89, Tryd.ntmps89
      go_wp2
      go_ret
      exact ⟨rfl, rfl⟩
    · have d2 : decide (n ≤ (N : Int)) = false := decide_eq_false c2
      have d3 : decide (0 ≤ n ∧ n ≤ (N : Int)) = false := decide_eq_false (fun h => c2 h.2)
      go_enter Tryd.func89, Tryd.ntmps89
      go_wp2
      go_ret
      exact ⟨rfl, rfl⟩
  · have d1 : decide (0 ≤ n) = false := decide_eq_false c1
    have d3 : decide (0 ≤ n ∧ n ≤ (N : Int)) = false := decide_eq_false (fun h => c1 h.1)
    go_enter Tryd.func89, Tryd.ntmps89
    go_wp2
    go_ret
    exact ⟨rfl, rfl⟩
set_option maxRecDepth 100000 in
theorem rLen_any (h : RefC W g T An cn) (hw : T.wf) : Calls Tryd.prog 35 #[.pointer (some ⟨g, 0, none⟩)] W fun e w' => e = .returned (.int .i64 T.nodes.length) ∧ w' = W := by
  obtain ⟨N, hN⟩ : ∃ N, N = T.nodes.length - 1 := ⟨_, rfl⟩
  have h1 := hw.one
  have h4 := hw.most
  have h0 := h.c0
  rw [← hN] at h0
  have e : T.nodes.length = N + 1 := by omega
  rw [e]
  have hN4 : N ≤ 4096 := by omega
  have hwr : wrap64 ((N : Int) + 1) = ((N + 1 : Nat) : Int) := by unfold wrap64; omega
  clear h hN h1 h4 e hw
  go_enter Tryd.func35, Tryd.ntmps35
  go_wp2
  go_ret
  exact ⟨rfl, rfl⟩
set_option maxRecDepth 100000 in
set_option maxHeartbeats 1600000 in
theorem rParent_any (h : RefC W g T An cn) (hw : T.wf) (n : Int) : Calls Tryd.prog 70 #[.pointer (some ⟨g, 0, none⟩), .int .i64 n] W fun e w' => e = .returned (.tuple #[.int .i64 (parentT T n).1, .bool (parentT T n).2]) ∧ w' = W := by
  have H := Lib.hid h
  have HW := Lib.hid hw
  have h1 := h.c0
  obtain ⟨M, hM⟩ : ∃ M, M = T.nodes.length - 1 := ⟨_, rfl⟩
  rw [← hM] at h1
  have h4 := hw.most
  have h5 := hw.one
  unfold parentT
  cases ht : thereT T n with
  | false =>
    have HT := Lib.hid ht
    clear h h1 hM ht hw
    go_enter Tryd.func70, Tryd.ntmps70
    go_wp2_with (go_at_call 89; (with_reducible refine (rthere_any H.out HW.out n).mono ?_); rintro e w1 ⟨rfl, rfl⟩; rw [HT.out])
    go_ret2
    exact ⟨rfl, rfl⟩
  | true =>
    have HT := Lib.hid ht
    unfold thereT at ht
    have ht2 := of_decide_eq_true ht
    obtain ⟨i, rfl⟩ : ∃ i : Nat, n = (i : Int) := ⟨n.toNat, by omega⟩
    cases i with
    | zero =>
      rw [show (true && decide (((0 : Nat) : Int) ≠ 0)) = false from rfl]
      have HT0 := Lib.hid (show thereT T 0 = true from HT.out)
      show Calls Tryd.prog 70 #[.pointer (some ⟨g, 0, none⟩), .int .i64 0] W _
      clear h h1 hM ht ht2 hw
      go_enter Tryd.func70, Tryd.ntmps70
      go_wp2_with (go_at_call 89; (with_reducible refine (rthere_any H.out HW.out 0).mono ?_); rintro e w1 ⟨rfl, rfl⟩; rw [HT0.out])
      all_goals first | (rename_i h; exact absurd h (by decide)) | skip
      go_ret2
      exact ⟨rfl, rfl⟩
    | succ k =>
      have hkM : k < M := by omega
      have hltI : decide ((k : Int) < (M : Int)) = true := by simp; omega
      obtain ⟨ad, rfl, hc, hx1, hx2⟩ := h.node (k := k) (by omega)
      have hg : (T.nodes.getD ((k + 1 : Nat) : Int).toNat (0, (⟨#[]⟩, 0))).1 = upT T (k + 1) := by rw [Int.toNat_natCast]; rfl
      rw [hg]
      obtain ⟨V, hV⟩ : ∃ V, V = upT T (k + 1) := ⟨_, rfl⟩
      rw [← hV] at hc ⊢
      have e0 : (((k + 1 : Nat) : Int) == 0) = false := by simp; omega
      have hwr : wrap64 (((k + 1 : Nat) : Int) - 1) = (k : Int) := by unfold wrap64; omega
      rw [show (true && decide (((k + 1 : Nat) : Int) ≠ 0)) = true by simp; omega]
      obtain ⟨z, hz⟩ : ∃ z, z = ((k + 1 : Nat) : Int) := ⟨_, rfl⟩
      rw [← hz] at e0 hwr HT ⊢
      clear hx1 hx2 h hM ht ht2 hg hV hw hz
      go_enter Tryd.func70, Tryd.ntmps70
      go_wp2_with (go_at_call 89; (with_reducible refine (rthere_any H.out HW.out z).mono ?_); rintro e w1 ⟨rfl, rfl⟩; rw [HT.out])
      go_ret2
      exact ⟨rfl, rfl⟩
set_option maxRecDepth 100000 in
set_option maxHeartbeats 1600000 in
theorem rDepth_any (h : RefC W g T An cn) (hw : T.wf) (n : Int) : Calls Tryd.prog 72 #[.pointer (some ⟨g, 0, none⟩), .int .i64 n] W fun e w' => e = .returned (.int .i64 (depthT T n)) ∧ w' = W := by
  have H := Lib.hid h
  have HW := Lib.hid hw
  have h1 := h.c0
  obtain ⟨M, hM⟩ : ∃ M, M = T.nodes.length - 1 := ⟨_, rfl⟩
  rw [← hM] at h1
  have h4 := hw.most
  have h5 := hw.one
  have HM := Lib.hid hM
  unfold depthT
  cases ht : thereT T n with
  | false =>
    have HT := Lib.hid ht
    clear h h1 hM ht hw
    go_enter Tryd.func72, Tryd.ntmps72
    go_wp2_with (go_at_call 89; (with_reducible refine (rthere_any H.out HW.out n).mono ?_); rintro e w1 ⟨rfl, rfl⟩; rw [HT.out])
    go_ret
    exact ⟨rfl, rfl⟩
  | true =>
    have HT := Lib.hid ht
    unfold thereT at ht
    have ht2 := of_decide_eq_true ht
    obtain ⟨n0, rfl⟩ : ∃ i : Nat, n = (i : Int) := ⟨n.toNat, by omega⟩
    have hn0 : n0 < T.nodes.length := by omega
    rw [if_pos rfl, Int.toNat_natCast, deep_eq hw (n0 + 1) n0 (by omega) hn0]
    obtain ⟨D, hD⟩ : ∃ D, D = (stackT T n0).length := ⟨_, rfl⟩
    rw [← hD]
    have hD64 : D ≤ 64 := by
      rw [hD, ← deep_eq hw (n0 + 1) n0 (by omega) hn0, List.getD_eq_getElem?_getD, List.getElem?_eq_getElem (by rw [hw.len]; exact hn0)]
      exact hw.low _ (List.getElem_mem _)
    clear h hM ht hw ht2
    go_enter Tryd.func72, Tryd.ntmps72
    go_wp2_with (go_at_call 89; (with_reducible refine (rthere_any H.out HW.out (n0 : Int)).mono ?_); rintro e w1 ⟨rfl, rfl⟩; rw [HT.out])
    all_goals first | (rename_i h; exact absurd h (by decide)) | skip
    go_loopg [1, 5] (n0 + 1) (fun q s1 s5 wx => ∃ (n d : Nat), s1 = .int .i64 n ∧ s5 = .int .i64 d ∧ wx = w1 ∧ Hid (n < q ∧ n < T.nodes.length ∧ d + (stackT T n).length = D))
    case atStart => exact ⟨n0, 0, rfl, rfl, rfl, Lib.hid ⟨by omega, hn0, by omega⟩⟩
    case round =>
      obtain ⟨n, d, rfl, rfl, rfl, HB⟩ := hrel
      have hbd := HB.out
      obtain ⟨q, rfl⟩ : ∃ q, gk = q + 1 := ⟨gk - 1, by omega⟩
      cases n with
      | zero =>
        have hd : d = D := by have := hbd.2.2; rw [stack_zero] at this; simpa using this
        subst hd
        have d1 : decide (0 < ((0 : Nat) : Int)) = false := by decide
        clear hbd HB hD
        go_wp2
        go_ret
        exact ⟨rfl, rfl⟩
      | succ k =>
        have hkM : k < M := by have := HM.out; omega
        have hltI : decide ((k : Int) < (M : Int)) = true := by simp; omega
        obtain ⟨ad, hAd, hc, hx1, hx2⟩ := H.out.node (k := k) (by omega)
        subst hAd
        have hu := upT_lt HW.out (a := k + 1) (by omega) (by omega)
        have hs := stack_up HW.out (n := k + 1) (by omega) (by omega)
        obtain ⟨V, hV⟩ : ∃ V, V = upT T (k + 1) := ⟨_, rfl⟩
        rw [← hV] at hc hu hs
        have hl : (stackT T (k + 1)).length = (stackT T V).length + 1 := by rw [hs]; simp
        have HB2 := Lib.hid (show V < q ∧ V < T.nodes.length ∧ d + 1 + (stackT T V).length = D by omega)
        have hd64 : d ≤ 64 := by omega
        have hwr : wrap64 (((k + 1 : Nat) : Int) - 1) = (k : Int) := by unfold wrap64; omega
        have hgt : decide (0 < ((k + 1 : Nat) : Int)) = true := decide_eq_true (by omega)
        obtain ⟨z, hz⟩ : ∃ z, z = ((k + 1 : Nat) : Int) := ⟨_, rfl⟩
        rw [← hz] at hwr hgt ⊢
        clear hx1 hx2 hV hz hbd HB hs hl hu
        go_wp2
        go_roundg q
        case measure => omega
        case rel => exact ⟨V, d + 1, rfl, by first | rfl | go_num, rfl, HB2⟩
set_option maxRecDepth 100000 in
set_option maxHeartbeats 1600000 in
theorem rStack_any (h : RefC W g T An cn) (hw : T.wf) (n : Int) : Calls Tryd.prog 71 #[.pointer (some ⟨g, 0, none⟩), .int .i64 n] W fun e w2 => Below W.heap.size W w2 ∧ ∃ v, e = .returned (.tuple #[v, .int .i64 (if thereT T n then 0 else 1)]) ∧
    Kd.R k95 95 w2 W.heap.size (fun _ => True) v ((if thereT T n then stackT T n.toNat else []).map rof) := by
  have H := Lib.hid h
  have HW := Lib.hid hw
  have h0 := h.c0
  obtain ⟨M, hM⟩ : ∃ M, M = T.nodes.length - 1 := ⟨_, rfl⟩
  rw [← hM] at h0
  have h4 := hw.most
  have h5 := hw.one
  have HM := Lib.hid hM
  cases ht : thereT T n with
  | false =>
    have HT := Lib.hid ht
    clear h h0 hM ht hw
    go_enter Tryd.func71, Tryd.ntmps71
    go_wp2_with (go_at_call 89; (with_reducible refine (rthere_any H.out HW.out n).mono ?_); rintro e w1 ⟨rfl, rfl⟩; rw [HT.out])
    go_ret2
    exact ⟨Below.refl _ _, _, rfl, Kd.R_nil _ _ _ _ _⟩
  | true =>
    have HT := Lib.hid ht
    have ht2 := of_decide_eq_true ht
    obtain ⟨n0, rfl⟩ : ∃ i : Nat, n = (i : Int) := ⟨n.toNat, by omega⟩
    have hn0 : n0 < T.nodes.length := by omega
    rw [Int.toNat_natCast, if_pos rfl, if_pos rfl]
    obtain ⟨S, hS⟩ : ∃ S, S = stackT T n0 := ⟨_, rfl⟩
    have HS := Lib.hid hS.symm
    rw [← hS]
    clear h hM ht hw ht2 hS
    go_enter Tryd.func71, Tryd.ntmps71
    go_wp2_with (go_at_call 89; (with_reducible refine (rthere_any H.out HW.out (n0 : Int)).mono ?_); rintro e w1 ⟨rfl, rfl⟩; rw [HT.out])
    go_loopg [1, 6] (n0 + 1) (fun q s1 s6 wx => ∃ (n : Nat) (suf : List Pl), s1 = .int .i64 n ∧ Hid (n < q ∧ n < T.nodes.length ∧ suf.length + n ≤ n0) ∧ Hid (stackT T n ++ suf = S) ∧ Hid (Kd.R k95 95 wx w1.heap.size (fun _ => True) s6 (suf.map rof)) ∧ Hid (Below w1.heap.size w1 wx))
    case atStart => exact ⟨n0, [], rfl, Lib.hid ⟨by omega, hn0, by simp⟩, Lib.hid (by rw [List.append_nil]; exact HS.out), Lib.hid (Kd.R_nil _ _ _ _ _), Lib.hid (Below.refl _ _)⟩
    case round =>
      obtain ⟨n, suf, rfl, HB, HP, HR, HBW⟩ := hrel
      have hbd := HB.out
      obtain ⟨q, rfl⟩ : ∃ q, gk = q + 1 := ⟨gk - 1, by omega⟩
      cases n with
      | zero =>
        have hp := HP.out
        rw [stack_zero, List.nil_append] at hp
        subst hp
        have d1 : decide (0 < ((0 : Nat) : Int)) = false := by decide
        have hR := HR.out
        clear hbd HB HP
        go_wp2
        go_ret2
        exact ⟨HBW.out, _, rfl, hR⟩
      | succ k =>
        have hkM : k < M := by have := HM.out; omega
        have hltI : decide ((k : Int) < (M : Int)) = true := by simp; omega
        obtain ⟨ad, hAd, hx0, hx1, hx2⟩ := H.out.node (k := k) (by omega)
        subst hAd
        have hu := upT_lt HW.out (a := k + 1) (by omega) (by omega)
        have hs := stack_up HW.out (n := k + 1) (by omega) (by omega)
        obtain ⟨V, hV⟩ : ∃ V, V = upT T (k + 1) := ⟨_, rfl⟩
        obtain ⟨X, hX⟩ : ∃ X, X = (T.nodes.getD (k + 1) (0, (⟨#[]⟩, 0))).2 := ⟨_, rfl⟩
        rw [← hV] at hx0 hu hs
        rw [← hX] at hx1 hx2 hs
        have HB2 := Lib.hid (show V < q ∧ V < T.nodes.length ∧ (X :: suf).length + V ≤ n0 by have := hbd.2.2; simp only [List.length_cons]; omega)
        have HP2 := Lib.hid (show stackT T V ++ (X :: suf) = S by have := HP.out; rw [hs, List.append_assoc] at this; exact this)
        have hsl : suf.length ≤ 4096 := by omega
        have c0 := (HBW.out.cell (World.block_lt_of_cell? w1 _ h0)).trans h0
        have y0 := (HBW.out.cell (World.block_lt_of_cell? w1 _ hx0)).trans hx0
        have y1 := (HBW.out.cell (World.block_lt_of_cell? w1 _ hx1)).trans hx1
        have y2 := (HBW.out.cell (World.block_lt_of_cell? w1 _ hx2)).trans hx2
        have HX0 := Lib.hid hx0
        have HC0 := Lib.hid h0
        have hwr : wrap64 (((k + 1 : Nat) : Int) - 1) = (k : Int) := by unfold wrap64; omega
        have hgt : decide (0 < ((k + 1 : Nat) : Int)) = true := decide_eq_true (by omega)
        obtain ⟨z, hz⟩ : ∃ z, z = ((k + 1 : Nat) : Int) := ⟨_, rfl⟩
        rw [← hz] at hwr hgt ⊢
        obtain ⟨A6, c6, rfl⟩ := Kd.R_slice HR.out
        obtain ⟨m, hm⟩ : ∃ m, m = (suf.map rof).length := ⟨_, rfl⟩
        have hR := HR.out
        rw [← hm] at hR ⊢
        have HR2 := Lib.hid hR
        have HMM := Lib.hid hm
        have hm4 : m ≤ 4096 := by rw [hm, List.length_map]; exact hsl
        clear hV hX hz hbd HB hs hu HP hx0 hx1 hx2 h0 HR hR hm
        go_wp2_with (first | ((with_reducible refine gate_dst (N := 24) rfl ?_); refine Kd.R_lit k95 (w0 := w1) w1.heap.size 95 ?hg (N := 24) ?hd (xs := [rof X]) (inner := [.string X.1, .int .i64 X.2]) (ok := fun _ => True) (okp := fun _ => True) ?hr ((Reps.none _ _).snoc (k95_mkM _ _ _ (rof X)) rfl) (fun _ hk => hk) trivial HBW.out HBW.out.size (by simp) ?_; (case hd => rfl); (case hg => rfl); (case hr => first | (go_simp; done) | (go_simp; rfl)); intro v24 w4 ho hb hg _; have HO := Lib.hid ho; have HB4 := Lib.hid hb; have HR4 := Lib.hid (Kd.R_grown HR2.out hg (fun _ _ => by simp)); have HRD := Lib.hid (R_rdl HMM.out HR4.out); clear ho hb hg) | ((with_reducible refine gate_builtin (b := .append) (xs := #[.tmp 24, .tmp 25]) rfl ?_); at_builtin; refine Kd.R_append_rows k95 (Rr := k95.K w4) (w0 := w1) w1.heap.size rfl (.tmp 24) (.tmp 25) 29 95 (.agg #[(.string ⟨#[]⟩), (.int .i64 0)]) 24 rfl Tryd.underlying29 info95 rfl (by decide) (by omega) v24 [rof X] (suf.map rof) A6 m c6 (fun _ => True) (fun _ => False) rfl rfl HO.out HRD.out.2 (fun _ _ h => h) (fun _ h => h.elim) (fun k hk => trivial) HB4.out HB4.out.size (by rw [List.length_singleton]; omega) ?_; intro v26 w6 ho6 hb6 hg6 _; have HO6 := Lib.hid ho6; have HB6 := Lib.hid hb6; have c6 := (HB6.out.cell (World.block_lt_of_cell? w1 _ HC0.out)).trans HC0.out; have y6 := (HB6.out.cell (World.block_lt_of_cell? w1 _ HX0.out)).trans HX0.out; clear ho6 hb6 hg6))
        go_roundg q
        case measure => omega
        case rel => exact ⟨V, X :: suf, rfl, HB2, HP2, HO6, HB6⟩
end
end Go.Proofs.YtmgfdcfbjgokgaaDoor
namespace Go.Proofs.YtmgfdcfbjgokgaaDoor
open Go Go.RowKit Go.Proofs.YtmgfdcfbjgokgaaDoorW.PrintWords Go.Proofs.YtmgfdcfbjgokgaaDoorW.PrintLast Go.Proofs.YtmgfdcfbjgokgaaDoor.PL
set_option linter.unusedVariables false
set_option linter.unusedSimpArgs false

theorem strOfNums_append (a b : List Int) : strOfNums (a ++ b) = strOfNums a ++ strOfNums b := by
  apply ByteArray.ext
  apply Array.ext'
  rw [ByteArray.data_append, Array.toList_append, nums_data, nums_data, nums_data, List.map_append]
theorem wrap_sub {k U D : Nat} (h : k + 1 = U + D) (hk : k ≤ 4096) : wrap64 (wrap64 ((k : Int) + 1) - (U : Int)) = (D : Int) := by
  unfold wrap64
  omega
theorem rshort_z {w : World} (z : Int) (n : Nat) (hz : z = (n : Int)) (hn : n < 2097152) : Calls Tryd.prog 90 #[.int .i64 z] w fun e w2 => e = .returned (.string (strOfNums (encS n))) ∧ Below w.heap.size w w2 := by
  subst hz
  exact rshort_any n hn
section
variable {W : World} {g : Nat} {T : Tr} {An : Option Addr} {cn : Nat}
set_option maxRecDepth 100000 in
set_option maxHeartbeats 3200000 in
theorem rTold_any (h : RefC W g T An cn) (hw : T.wf) : Calls Tryd.prog 68 #[.pointer (some ⟨g, 0, none⟩)] W fun e w2 => e = .returned (.string (strOfNums (toldI T))) ∧ Below W.heap.size W w2 := by
  have H := Lib.hid h
  have HW := Lib.hid hw
  have h0 := h.c0
  obtain ⟨L, hL⟩ : ∃ L, L = T.nodes.length - 1 := ⟨_, rfl⟩
  rw [← hL] at h0
  have h1 := hw.one
  have h4 := hw.most
  have HL := Lib.hid hL
  have hL4 : L ≤ 4095 := by omega
  have hdl : (T.nodes.drop 1).length = L := by rw [List.length_drop, ← hL]
  have HDL := Lib.hid hdl
  have HT0 := Lib.hid (show toldI T = encS L ++ toldGo (T.nodes.drop 1) 0 by unfold toldI; rw [← hL])
  clear h hw h1 h4 hL hdl
  go_enter Tryd.func68, Tryd.ntmps68
  go_wp2_with (go_at_call 90; (with_reducible refine (rshort_z (L : Int) L rfl (by omega)).mono ?_); rintro e w1 ⟨rfl, hb⟩; have HB0 := Lib.hid hb; have c1 := (hb.cell (World.block_lt_of_cell? W _ h0)).trans h0; clear hb)
  go_loopg [3, 4] (L + 1) (fun q s3 s4 wx => ∃ k : Nat, k + q = L + 1 ∧ 1 ≤ q ∧ s4 = .int .i64 k ∧ Hid (s3 = .string (strOfNums (encS L ++ toldGo ((T.nodes.drop 1).take k) 0))) ∧ Hid ((encS L ++ toldGo ((T.nodes.drop 1).take k) 0).length ≤ 3 + 129 * k) ∧ Hid (Below W.heap.size W wx))
  case atStart => exact ⟨0, by omega, by omega, rfl, Lib.hid (by rw [List.take_zero]; simp only [toldGo, List.append_nil]), Lib.hid (by rw [List.take_zero]; simp only [toldGo, List.append_nil]; have := encS_len L; omega), HB0⟩
  case round =>
    clear c1 HB0
    obtain ⟨k, hkq, hq1, rfl, HS3, HLN, HBW⟩ := hrel
    obtain ⟨q, rfl⟩ : ∃ q, gk = q + 1 := ⟨gk - 1, by omega⟩
    obtain ⟨X3, hX3⟩ : ∃ X3, X3 = strOfNums (encS L ++ toldGo ((T.nodes.drop 1).take k) 0) := ⟨_, rfl⟩
    have hs3 := HS3.out
    rw [← hX3] at hs3
    subst hs3
    have HX3 := Lib.hid hX3
    have hln := HLN.out
    rw [← strOfNums_size, ← hX3] at hln
    have HLN := Lib.hid hln
    have c2 := (HBW.out.cell (World.block_lt_of_cell? W _ h0)).trans h0
    clear HS3 hX3 hln
    by_cases hlt : k < L
    · have d1 : decide ((k : Int) < (L : Int)) = true := decide_eq_true (by omega)
      have hkl : k < (T.nodes.drop 1).length := by rw [HDL.out]; exact hlt
      obtain ⟨ad, hAd, y0, y1, y2⟩ := at_nd (Kd.C_below H.out.nodes HBW.out) k (by have := HL.out; omega) hkl
      subst hAd
      obtain ⟨X, hX⟩ : ∃ X, X = (T.nodes.drop 1)[k] := ⟨_, rfl⟩
      rw [← hX] at y0 y1 y2
      have hX2 : X = T.nodes[k + 1]'(by have := HL.out; omega) := by rw [hX, List.getElem_drop]; congr 1; omega
      obtain ⟨o1, o2, _⟩ := HW.out.ok (k + 1) (by omega) (by have := HL.out; omega)
      rw [← hX2] at o1 o2
      have hmay := may_parts o1.may
      have hsn : (T.nodes.drop 1).take (k + 1) = (T.nodes.drop 1).take k ++ [X] := by rw [List.take_succ_eq_append_getElem hkl, hX]
      obtain ⟨U, S, Z⟩ := X
      simp only at y0 y1 y2 o2 hmay
      obtain ⟨Y, rfl⟩ : ∃ Y : Nat, Z = (Y : Int) := ⟨Z.toNat, by omega⟩
      obtain ⟨Dd, hDd⟩ : ∃ Dd, k + 1 = U + Dd := ⟨k + 1 - U, by omega⟩
      have htn : strOfNums (encS L ++ toldGo ((T.nodes.drop 1).take (k + 1)) 0) = X3 ++ strOfNums (encS Dd) ++ strOfNums (encS S.size) ++ S ++ strOfNums (encS Y) := by
        rw [hsn, toldGo_snoc, ← List.append_assoc, strOfNums_append, ← HX3.out]
        unfold toldN
        simp only [Int.toNat_natCast]
        rw [show 0 + ((T.nodes.drop 1).take k).length + 1 - U = Dd by rw [List.length_take, Nat.min_eq_left (by omega)]; omega]
        rw [strOfNums_append, strOfNums_append, strOfNums_append, nums_bytesOf]
        simp only [ByteArray.append_assoc]
      have hS : S.size ≤ 120 := hmay.2.1
      have hY : Y ≤ 1048576 := by omega
      have hU : U ≤ 4096 := by omega
      have hDb : Dd ≤ 4096 := by omega
      obtain ⟨s1, hs1⟩ : ∃ s1, s1 = strOfNums (encS Dd) := ⟨_, rfl⟩
      obtain ⟨s2, hs2⟩ : ∃ s2, s2 = strOfNums (encS S.size) := ⟨_, rfl⟩
      obtain ⟨s5, hs5⟩ : ∃ s5, s5 = strOfNums (encS Y) := ⟨_, rfl⟩
      have hl1 : s1.size ≤ 3 := by rw [hs1, strOfNums_size]; exact (encS_len _).2
      have hl2 : s2.size ≤ 3 := by rw [hs2, strOfNums_size]; exact (encS_len _).2
      have hl5 : s5.size ≤ 3 := by rw [hs5, strOfNums_size]; exact (encS_len _).2
      have hx3 := HLN.out
      rw [← hs1, ← hs2, ← hs5] at htn
      have ht1 : (X3 ++ s1 ++ s2 ++ S ++ s5).size ≤ 3 + 129 * (k + 1) := by simp only [ByteArray.size_append]; omega
      have HTN := Lib.hid htn
      have HE1 := Lib.hid hs1.symm
      have HE2 := Lib.hid hs2.symm
      have HE5 := Lib.hid hs5.symm
      have HT1 := Lib.hid ht1
      have f1 : ¬ 9223372036854775807 < X3.size + s1.size := by omega
      have f2 : ¬ 9223372036854775807 < (X3 ++ s1).size + s2.size := by simp only [ByteArray.size_append]; omega
      have f3 : ¬ 9223372036854775807 < (X3 ++ s1 ++ s2).size + S.size := by simp only [ByteArray.size_append]; omega
      have f4 : ¬ 9223372036854775807 < (X3 ++ s1 ++ s2 ++ S).size + s5.size := by simp only [ByteArray.size_append]; omega
      have g2 : ¬ 9223372036854775807 < X3.size + s1.size + s2.size := by omega
      have g3 : ¬ 9223372036854775807 < X3.size + s1.size + s2.size + S.size := by omega
      have g4 : ¬ 9223372036854775807 < X3.size + s1.size + s2.size + S.size + s5.size := by omega
      clear htn hsn hX hX2 o1 o2 hmay hkl hs1 hs2 hs5 ht1 hx3
      go_wp2
      refine start_ (n := 24) (S := fun W => W.cell? ⟨wr.heap.size, 0, none⟩ = some (.int .i64 (U : Nat)) ∧ W.cell? ⟨wr.heap.size, 1, none⟩ = some (.string S) ∧ W.cell? ⟨wr.heap.size, 2, none⟩ = some (.int .i64 (Y : Nat))) (ds := []) #[false, false, false, false, false, false, false, false, false, false, false, false, false, false, false, false, false, false, false, false, false, false, false, false] (by kernel_rfl) rfl rfl ⟨(cell_of_row _ _ 0 _ _ _ (heap_alloc_new wr (.cells #[.int .i64 (U : Nat), .string S, .int .i64 (Y : Nat)] 149))).trans rfl, (cell_of_row _ _ 1 _ _ _ (heap_alloc_new wr (.cells #[.int .i64 (U : Nat), .string S, .int .i64 (Y : Nat)] 149))).trans rfl, (cell_of_row _ _ 2 _ _ _ (heap_alloc_new wr (.cells #[.int .i64 (U : Nat), .string S, .int .i64 (Y : Nat)] 149))).trans rfl⟩ (fun hHeld => ?_)
      have HB1 := Lib.hid (show Below W.heap.size W (wr.alloc (.cells #[.int .i64 (U : Nat), .string S, .int .i64 (Y : Nat)] 149)).drew from (HBW.out.alloc HBW.out.size _).drew)
      generalize World.drew _ = wd at hHeld HB1 ⊢
      refine pure_ (i := 0) (N := some 30) (v := ?_) (a' := ?_) #[true, false, false, false, false, false, false, false, false, false, false, false, false, false, false, false, false, false, false, false, false, false, false, false] rfl rfl (by kernel_rfl) (fun _ _ _ h => h) (Or.inl ⟨by rfl, ?_⟩) ?_ ?_
      rotate_left
      · intro w'
        go_simp
        with_reducible rfl
      rotate_left
      · simp only [Act.put, List.setIfInBounds_toArray, List.set_cons_zero, List.set_cons_succ, i64_w, i32_w]
        rfl
      refine pure_ (i := 1) (N := some 31) (v := ?_) (a' := ?_) #[true, true, false, false, false, false, false, false, false, false, false, false, false, false, false, false, false, false, false, false, false, false, false, false] rfl rfl (by kernel_rfl) (fun _ _ _ h => h) (Or.inl ⟨by rfl, ?_⟩) ?_ ?_
      rotate_left
      · intro w'
        go_simp
        with_reducible rfl
      rotate_left
      · simp only [Act.put, List.setIfInBounds_toArray, List.set_cons_zero, List.set_cons_succ, i64_w, i32_w]
        rfl
      refine pure_ (i := 2) (N := some 32) (v := ?_) (a' := ?_) #[true, true, true, false, false, false, false, false, false, false, false, false, false, false, false, false, false, false, false, false, false, false, false, false] rfl rfl (by kernel_rfl) (fun _ _ _ h => h) (Or.inl ⟨by rfl, ?_⟩) ?_ ?_
      rotate_left
      · intro w'
        go_simp
        with_reducible rfl
      rotate_left
      · simp only [Act.put, List.setIfInBounds_toArray, List.set_cons_zero, List.set_cons_succ, i64_w, i32_w]
        rfl
      refine pure_ (i := 3) (N := some 33) (v := ?_) (a' := ?_) #[true, true, true, true, false, false, false, false, false, false, false, false, false, false, false, false, false, false, false, false, false, false, false, false] rfl rfl (by kernel_rfl) (fun _ _ _ h => h) (Or.inl ⟨by rfl, ?_⟩) ?_ ?_
      rotate_left
      · intro w'
        go_simp
        with_reducible rfl
      rotate_left
      · simp only [Act.put, List.setIfInBounds_toArray, List.set_cons_zero, List.set_cons_succ, i64_w, i32_w]
        rfl
      refine take_ (i := 4) (N := some 34) (v := ?_) (a' := ?_) #[true, true, true, true, true, false, false, false, false, false, false, false, false, false, false, false, false, false, false, false, false, false, false, false] rfl rfl (by kernel_rfl) (fun _ _ _ h => h) (Or.inl ⟨by rfl, ?_⟩) hHeld ?_ ?_
      rotate_left
      · rintro w' ⟨s0, s1, s2⟩
        go_simp
        with_reducible rfl
      rotate_left
      · simp only [Act.put, List.setIfInBounds_toArray, List.set_cons_zero, List.set_cons_succ, i64_w, i32_w]
        rfl
      refine pure_ (i := 5) (N := some 35) (v := ?_) (a' := ?_) #[true, true, true, true, true, true, false, false, false, false, false, false, false, false, false, false, false, false, false, false, false, false, false, false] rfl rfl (by kernel_rfl) (fun _ _ _ h => h) (Or.inl ⟨by rfl, ?_⟩) ?_ ?_
      rotate_left
      · intro w'
        go_simp
        with_reducible rfl
      rotate_left
      · simp only [Act.put, List.setIfInBounds_toArray, List.set_cons_zero, List.set_cons_succ, i64_w, i32_w]
        rfl
      refine pure_ (i := 8) (N := some 38) (v := ?_) (a' := ?_) #[true, true, true, true, true, true, false, false, true, false, false, false, false, false, false, false, false, false, false, false, false, false, false, false] rfl rfl (by kernel_rfl) (fun _ _ _ h => h) (Or.inl ⟨by rfl, ?_⟩) ?_ ?_
      rotate_left
      · intro w'
        go_simp
        with_reducible rfl
      rotate_left
      · simp only [Act.put, List.setIfInBounds_toArray, List.set_cons_zero, List.set_cons_succ, i64_w, i32_w]
        rfl
      refine pure_ (i := 9) (N := some 39) (v := ?_) (a' := ?_) #[true, true, true, true, true, true, false, false, true, true, false, false, false, false, false, false, false, false, false, false, false, false, false, false] rfl rfl (by kernel_rfl) (fun _ _ _ h => h) (Or.inl ⟨by rfl, ?_⟩) ?_ ?_
      rotate_left
      · intro w'
        go_simp
        with_reducible rfl
      rotate_left
      · simp only [Act.put, List.setIfInBounds_toArray, List.set_cons_zero, List.set_cons_succ, i64_w, i32_w]
        rfl
      refine take_ (i := 10) (N := some 40) (v := ?_) (a' := ?_) #[true, true, true, true, true, true, false, false, true, true, true, false, false, false, false, false, false, false, false, false, false, false, false, false] rfl rfl (by kernel_rfl) (fun _ _ _ h => h) (Or.inl ⟨by rfl, ?_⟩) hHeld ?_ ?_
      rotate_left
      · rintro w' ⟨s0, s1, s2⟩
        go_simp
        with_reducible rfl
      rotate_left
      · simp only [Act.put, List.setIfInBounds_toArray, List.set_cons_zero, List.set_cons_succ, i64_w, i32_w]
        rfl
      refine pure_ (i := 11) (N := some 41) (v := ?_) (a' := ?_) #[true, true, true, true, true, true, false, false, true, true, true, true, false, false, false, false, false, false, false, false, false, false, false, false] rfl rfl (by kernel_rfl) (fun _ _ _ h => h) (Or.inl ⟨by rfl, ?_⟩) ?_ ?_
      rotate_left
      · intro w'
        go_simp
        with_reducible rfl
      rotate_left
      · simp only [Act.put, List.setIfInBounds_toArray, List.set_cons_zero, List.set_cons_succ, i64_w, i32_w]
        rfl
      refine pure_ (i := 14) (N := some 44) (v := ?_) (a' := ?_) #[true, true, true, true, true, true, false, false, true, true, true, true, false, false, true, false, false, false, false, false, false, false, false, false] rfl rfl (by kernel_rfl) (fun _ _ _ h => h) (Or.inl ⟨by rfl, ?_⟩) ?_ ?_
      rotate_left
      · intro w'
        go_simp
        with_reducible rfl
      rotate_left
      · simp only [Act.put, List.setIfInBounds_toArray, List.set_cons_zero, List.set_cons_succ, i64_w, i32_w]
        rfl
      refine pure_ (i := 15) (N := some 45) (v := ?_) (a' := ?_) #[true, true, true, true, true, true, false, false, true, true, true, true, false, false, true, true, false, false, false, false, false, false, false, false] rfl rfl (by kernel_rfl) (fun _ _ _ h => h) (Or.inl ⟨by rfl, ?_⟩) ?_ ?_
      rotate_left
      · intro w'
        go_simp
        with_reducible rfl
      rotate_left
      · simp only [Act.put, List.setIfInBounds_toArray, List.set_cons_zero, List.set_cons_succ, i64_w, i32_w]
        rfl
      refine take_ (i := 16) (N := some 46) (v := ?_) (a' := ?_) #[true, true, true, true, true, true, false, false, true, true, true, true, false, false, true, true, true, false, false, false, false, false, false, false] rfl rfl (by kernel_rfl) (fun _ _ _ h => h) (Or.inl ⟨by rfl, ?_⟩) hHeld ?_ ?_
      rotate_left
      · rintro w' ⟨s0, s1, s2⟩
        go_simp
        with_reducible rfl
      rotate_left
      · simp only [Act.put, List.setIfInBounds_toArray, List.set_cons_zero, List.set_cons_succ, i64_w, i32_w]
        rfl
      refine pure_ (i := 18) (N := some 48) (v := ?_) (a' := ?_) #[true, true, true, true, true, true, false, false, true, true, true, true, false, false, true, true, true, false, true, false, false, false, false, false] rfl rfl (by kernel_rfl) (fun _ _ _ h => h) (Or.inl ⟨by rfl, ?_⟩) ?_ ?_
      rotate_left
      · intro w'
        go_simp
        with_reducible rfl
      rotate_left
      · simp only [Act.put, List.setIfInBounds_toArray, List.set_cons_zero, List.set_cons_succ, i64_w, i32_w]
        rfl
      refine pure_ (i := 19) (N := some 49) (v := ?_) (a' := ?_) #[true, true, true, true, true, true, false, false, true, true, true, true, false, false, true, true, true, false, true, true, false, false, false, false] rfl rfl (by kernel_rfl) (fun _ _ _ h => h) (Or.inl ⟨by rfl, ?_⟩) ?_ ?_
      rotate_left
      · intro w'
        go_simp
        with_reducible rfl
      rotate_left
      · simp only [Act.put, List.setIfInBounds_toArray, List.set_cons_zero, List.set_cons_succ, i64_w, i32_w]
        rfl
      refine take_ (i := 20) (N := some 50) (v := ?_) (a' := ?_) #[true, true, true, true, true, true, false, false, true, true, true, true, false, false, true, true, true, false, true, true, true, false, false, false] rfl rfl (by kernel_rfl) (fun _ _ _ h => h) (Or.inl ⟨by rfl, ?_⟩) hHeld ?_ ?_
      rotate_left
      · rintro w' ⟨s0, s1, s2⟩
        go_simp
        with_reducible rfl
      rotate_left
      · simp only [Act.put, List.setIfInBounds_toArray, List.set_cons_zero, List.set_cons_succ, i64_w, i32_w]
        rfl
      generalize hz35 : wrap64 (wrap64 ((k : Int) + 1) - (U : Int)) = z35
      refine one_ (i := 6) (N := some 36) #[true, true, true, true, true, true, true, false, true, true, true, true, false, false, true, true, true, false, true, true, true, false, false, false] rfl rfl (by kernel_rfl) (by decide) (fun K hK => ?_)
      refine goes_ Tryd.func90 (by kernel_rfl) (by kernel_rfl) #[.int .i64 (z35)] (by rfl) rfl rfl (by (try simp only [List.map_toArray, List.map_cons, List.map_nil]); first | done | rfl) ?_
      refine (rshort_z _ Dd (by rw [← hz35]; exact wrap_sub hDd (by omega)) (by omega)).mono ?_
      rintro e w2 ⟨rfl, hb⟩
      rw [HE1.out]
      have HBw2 := Lib.hid (HB1.out.trans (hb.mono HB1.out.size))
      have y0 := (hb.cell (World.block_lt_of_cell? _ _ hHeld.1)).trans hHeld.1
      have y1 := (hb.cell (World.block_lt_of_cell? _ _ hHeld.2.1)).trans hHeld.2.1
      have y2 := (hb.cell (World.block_lt_of_cell? _ _ hHeld.2.2)).trans hHeld.2.2
      clear hb hHeld
      refine ⟨_, rfl, ?_⟩
      refine hK.out _ _ ⟨y0, y1, y2⟩ (fun hHeld => ?_)
      clear y0 y1 y2 hK K
      refine norm_ (a' := ?_) ?_ ?_
      rotate_left
      · show Act.put _ (some 36) _ = _
        simp only [Act.put, List.setIfInBounds_toArray, List.set_cons_zero, List.set_cons_succ, i64_w, i32_w]
        rfl
      refine pure_ (i := 7) (N := some 37) (v := ?_) (a' := ?_) #[true, true, true, true, true, true, true, true, true, true, true, true, false, false, true, true, true, false, true, true, true, false, false, false] rfl rfl (by kernel_rfl) (fun _ _ _ h => h) (Or.inl ⟨by rfl, ?_⟩) ?_ ?_
      rotate_left
      · intro w'
        go_simp
        with_reducible rfl
      rotate_left
      · simp only [Act.put, List.setIfInBounds_toArray, List.set_cons_zero, List.set_cons_succ, i64_w, i32_w]
        rfl
      refine one_ (i := 12) (N := some 42) #[true, true, true, true, true, true, true, true, true, true, true, true, true, false, true, true, true, false, true, true, true, false, false, false] rfl rfl (by kernel_rfl) (by decide) (fun K hK => ?_)
      refine goes_ Tryd.func90 (by kernel_rfl) (by kernel_rfl) #[.int .i64 ((S.size : Int))] (by rfl) rfl rfl (by (try simp only [List.map_toArray, List.map_cons, List.map_nil]); first | done | rfl) ?_
      refine (rshort_z _ S.size rfl (by omega)).mono ?_
      rintro e w3 ⟨rfl, hb⟩
      rw [HE2.out]
      have HBw3 := Lib.hid (HBw2.out.trans (hb.mono HBw2.out.size))
      have y0 := (hb.cell (World.block_lt_of_cell? _ _ hHeld.1)).trans hHeld.1
      have y1 := (hb.cell (World.block_lt_of_cell? _ _ hHeld.2.1)).trans hHeld.2.1
      have y2 := (hb.cell (World.block_lt_of_cell? _ _ hHeld.2.2)).trans hHeld.2.2
      clear hb hHeld
      refine ⟨_, rfl, ?_⟩
      refine hK.out _ _ ⟨y0, y1, y2⟩ (fun hHeld => ?_)
      clear y0 y1 y2 hK K
      refine norm_ (a' := ?_) ?_ ?_
      rotate_left
      · show Act.put _ (some 42) _ = _
        simp only [Act.put, List.setIfInBounds_toArray, List.set_cons_zero, List.set_cons_succ, i64_w, i32_w]
        rfl
      refine pure_ (i := 13) (N := some 43) (v := ?_) (a' := ?_) #[true, true, true, true, true, true, true, true, true, true, true, true, true, true, true, true, true, false, true, true, true, false, false, false] rfl rfl (by kernel_rfl) (fun _ _ _ h => h) (Or.inl ⟨by rfl, ?_⟩) ?_ ?_
      rotate_left
      · intro w'
        go_simp
        with_reducible rfl
      rotate_left
      · simp only [Act.put, List.setIfInBounds_toArray, List.set_cons_zero, List.set_cons_succ, i64_w, i32_w]
        rfl
      refine pure_ (i := 17) (N := some 47) (v := ?_) (a' := ?_) #[true, true, true, true, true, true, true, true, true, true, true, true, true, true, true, true, true, true, true, true, true, false, false, false] rfl rfl (by kernel_rfl) (fun _ _ _ h => h) (Or.inl ⟨by rfl, ?_⟩) ?_ ?_
      rotate_left
      · intro w'
        go_simp
        with_reducible rfl
      rotate_left
      · simp only [Act.put, List.setIfInBounds_toArray, List.set_cons_zero, List.set_cons_succ, i64_w, i32_w]
        rfl
      refine one_ (i := 21) (N := some 51) #[true, true, true, true, true, true, true, true, true, true, true, true, true, true, true, true, true, true, true, true, true, true, false, false] rfl rfl (by kernel_rfl) (by decide) (fun K hK => ?_)
      refine goes_ Tryd.func90 (by kernel_rfl) (by kernel_rfl) #[.int .i64 ((Y : Int))] (by rfl) rfl rfl (by (try simp only [List.map_toArray, List.map_cons, List.map_nil]); first | done | rfl) ?_
      refine (rshort_z _ Y rfl (by omega)).mono ?_
      rintro e w4 ⟨rfl, hb⟩
      rw [HE5.out]
      have HBw4 := Lib.hid (HBw3.out.trans (hb.mono HBw3.out.size))
      have y0 := (hb.cell (World.block_lt_of_cell? _ _ hHeld.1)).trans hHeld.1
      have y1 := (hb.cell (World.block_lt_of_cell? _ _ hHeld.2.1)).trans hHeld.2.1
      have y2 := (hb.cell (World.block_lt_of_cell? _ _ hHeld.2.2)).trans hHeld.2.2
      clear hb hHeld
      refine ⟨_, rfl, ?_⟩
      refine hK.out _ _ ⟨y0, y1, y2⟩ (fun hHeld => ?_)
      clear y0 y1 y2 hK K
      refine norm_ (a' := ?_) ?_ ?_
      rotate_left
      · show Act.put _ (some 51) _ = _
        simp only [Act.put, List.setIfInBounds_toArray, List.set_cons_zero, List.set_cons_succ, i64_w, i32_w]
        rfl
      refine pure_ (i := 22) (N := some 52) (v := ?_) (a' := ?_) #[true, true, true, true, true, true, true, true, true, true, true, true, true, true, true, true, true, true, true, true, true, true, true, false] rfl rfl (by kernel_rfl) (fun _ _ _ h => h) (Or.inl ⟨by rfl, ?_⟩) ?_ ?_
      rotate_left
      · intro w'
        go_simp
        with_reducible rfl
      rotate_left
      · simp only [Act.put, List.setIfInBounds_toArray, List.set_cons_zero, List.set_cons_succ, i64_w, i32_w]
        rfl
      refine pure_ (i := 23) (N := some 3) (v := ?_) (a' := ?_) #[true, true, true, true, true, true, true, true, true, true, true, true, true, true, true, true, true, true, true, true, true, true, true, true] rfl rfl (by kernel_rfl) (fun _ _ _ h => h) (Or.inl ⟨by rfl, ?_⟩) ?_ ?_
      rotate_left
      · intro w'
        go_simp
        with_reducible rfl
      rotate_left
      · simp only [Act.put, List.setIfInBounds_toArray, List.set_cons_zero, List.set_cons_succ, i64_w, i32_w]
        rfl
      refine done_ (by kernel_rfl) ?_

      have he := HTN.out
      have hlen := HT1.out
      clear HTN HT1 f1 f2 f3 f4 g2 g3 g4 hHeld HE1 HE2 HE5
      obtain ⟨X9, hX9⟩ : ∃ X9, X9 = X3 ++ s1 ++ s2 ++ S ++ s5 := ⟨_, rfl⟩
      rw [← hX9] at he hlen ⊢
      clear hX9 hl1 hl2 hl5
      go_wp2
      go_roundg q
      case measure => omega
      case rel => exact ⟨k + 1, by omega, by omega, by first | rfl | go_num, Lib.hid (by rw [he]), Lib.hid (by rw [← strOfNums_size, he]; exact hlen), HBw4⟩
    · obtain rfl : k = L := by omega
      have d1 : decide ((k : Int) < (k : Int)) = false := by simp
      have hx := HX3.out
      rw [List.take_of_length_le (by rw [HDL.out]; exact Nat.le_refl _), ← HT0.out] at hx
      clear HLN HX3 HDL HT0
      go_wp2
      go_ret
      subst hx
      exact ⟨rfl, HBW.out⟩
end
end Go.Proofs.YtmgfdcfbjgokgaaDoor
