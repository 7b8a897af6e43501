/- The tree of stacks, II: a tree in memory, and what only reads it. -/
import Derived.Test.YtmgfdcfbjgokgaaTre
namespace Go.Proofs.Ytmgfdcfbjgokgaa
open Go Go.RowKit Go.Proofs.YtmgfdcfbjgokgaaW.PrintWords Go.Proofs.YtmgfdcfbjgokgaaW.PrintLast Go.Proofs.Ytmgfdcfbjgokgaa.PL
set_option linter.unusedVariables false
set_option linter.unusedSimpArgs false

/-- A node in a row. -/
def kNd : Kd Nd := Kd.iso (Kd.pair (Kd.int .i64) k24) (fun x : Nd => ((x.1 : Int), ofPl x.2))
def kDp : Kd Nat := Kd.iso (Kd.int .i64) (fun n : Nat => (n : Int))
theorem kNd_open {w : World} {x : Nd} {cs : List Value} (h : kNd.K w x cs) : cs = [.int .i64 x.1, .string x.2.1, .int .i64 x.2.2] := by
  obtain ⟨_, _, rfl, rfl, s1⟩ := h
  obtain rfl := k24_open s1
  exact rfl
theorem kNd_mk (w : World) (x : Nd) : kNd.K w x [.int .i64 x.1, .string x.2.1, .int .i64 x.2.2] := ⟨[.int .i64 x.1], [.string x.2.1, .int .i64 x.2.2], rfl, rfl, (k24_mk w (ofPl x.2))⟩
theorem kNd_mkM (w : World) (base : Nat) (ok : Nat → Prop) (x : Nd) : kNd.M w base ok x [.int .i64 x.1, .string x.2.1, .int .i64 x.2.2] := ⟨[.int .i64 x.1], [.string x.2.1, .int .i64 x.2.2], rfl, rfl, (k24_mkM w base ok (ofPl x.2))⟩
theorem kDp_open {w : World} {x : Nat} {cs : List Value} (h : kDp.K w x cs) : cs = [.int .i64 x] := h
theorem kDp_mk (w : World) (x : Nat) : kDp.K w x [.int .i64 x] := rfl
theorem at_nd {w : World} {A : Option Addr} {n : Nat} {xs : List Nd} (h : Kd.C kNd w A n xs) (i : Nat) (h1 : i < n) (hx : i < xs.length) : ∃ ad , A = some ad ∧ w.cell? (ad.add (i * 3)) = some (.int .i64 (xs[i].1 : Nat)) ∧ w.cell? ⟨(ad.add (i * 3)).block, (ad.add (i * 3)).off + 1, none⟩ = some (.string xs[i].2.1) ∧ w.cell? ⟨(ad.add (i * 3)).block, (ad.add (i * 3)).off + 2, none⟩ = some (.int .i64 xs[i].2.2) := by
  obtain ⟨ad, c, e, _, hK, hc0⟩ := Kd.C_get h (0, (⟨#[]⟩, 0)) (i : Int) (by omega) (by omega)
  rw [Int.toNat_natCast, List.getD_eq_getElem?_getD, List.getElem?_eq_getElem hx] at hK
  have hc : ∀ j u, c[j]? = some u → w.cell? (ad.add (i * 3 + j)) = some u := fun j u hj => by have := hc0 j u hj; rwa [Int.toNat_natCast] at this
  obtain rfl := kNd_open hK
  exact ⟨ad, e, hc 0 _ rfl, by rw [← add_field _ _ 1 (by omega)]; exact hc 1 _ rfl, by rw [← add_field _ _ 2 (by omega)]; exact hc 2 _ rfl⟩
theorem at_dp {w : World} {A : Option Addr} {n : Nat} {xs : List Nat} (h : Kd.C kDp w A n xs) (i : Nat) (h1 : i < n) (hx : i < xs.length) : ∃ ad , A = some ad ∧ w.cell? (ad.add i) = some (.int .i64 (xs[i] : Nat)) := by
  obtain ⟨ad, c, e, _, hK, hc0⟩ := Kd.C_get h 0 (i : Int) (by omega) (by omega)
  rw [Int.toNat_natCast, List.getD_eq_getElem?_getD, List.getElem?_eq_getElem hx] at hK
  have hc : ∀ j u, c[j]? = some u → w.cell? (ad.add (i * 1 + j)) = some u := fun j u hj => by have := hc0 j u hj; rwa [Int.toNat_natCast] at this
  obtain rfl := kDp_open hK
  have := hc 0 _ rfl
  rw [Nat.mul_one] at this
  exact ⟨ad, e, this⟩
/-- A tree that can be read at block g. -/
structure TreC (W : World) (g : Nat) (T : Tr) (An : Option Addr) (cn : Nat) (Ad : Option Addr) (cd mb : Nat) : Prop where
  c0 : W.cell? ⟨g, 0, none⟩ = some (.slice An T.nodes.length cn)
  c1 : W.cell? ⟨g, 1, none⟩ = some (.slice Ad T.deep.length cd)
  c2 : W.cell? ⟨g, 2, none⟩ = some (.map (some mb))
  capn : T.nodes.length ≤ cn
  capd : T.deep.length ≤ cd
  nodes : Kd.C kNd W An T.nodes.length T.nodes
  deep : Kd.C kDp W Ad T.deep.length T.deep
section
variable {W : World} {g : Nat} {T : Tr} {An Ad : Option Addr} {cn cd mb : Nat}
def thereT (T : Tr) (n : Int) : Bool := decide (0 ≤ n ∧ n < T.nodes.length)
set_option maxRecDepth 100000 in
set_option maxHeartbeats 1600000 in
theorem there_any (h : TreC W g T An cn Ad cd mb) (n : Int) : Calls Try.prog 15 #[.pointer (some ⟨g, 0, none⟩), .int .i64 n] W fun e w' => e = .returned (.bool (thereT T n)) ∧ w' = W := by
  obtain ⟨N, hN⟩ : ∃ N, N = T.nodes.length := ⟨_, rfl⟩
  have h0 := h.c0
  rw [← hN] at h0
  unfold thereT
  rw [← hN]
  clear h hN
  by_cases c1 : 0 ≤ n
  · have d1 : decide (0 ≤ n) = true := decide_eq_true c1
    by_cases c2 : n < (N : Int)
    · have d2 : decide (n < (N : Int)) = true := decide_eq_true c2
      rw [show decide (0 ≤ n ∧ n < (N : Int)) = true from decide_eq_true ⟨c1, c2⟩]
      go_enter Try.func15, Try.ntmps15
      go_wp2
      go_ret
      exact ⟨rfl, rfl⟩
    · have d2 : decide (n < (N : Int)) = false := decide_eq_false c2
      have d3 : decide (0 ≤ n ∧ n < (N : Int)) = false := decide_eq_false (fun h => c2 h.2)
      go_enter Try.func15, Try.ntmps15
      go_wp2
      go_ret
      exact ⟨rfl, rfl⟩
  · have d1 : decide (0 ≤ n) = false := decide_eq_false c1
    have d3 : decide (0 ≤ n ∧ n < (N : Int)) = false := decide_eq_false (fun h => c1 h.1)
    go_enter Try.func15, Try.ntmps15
    go_wp2
    go_ret
    exact ⟨rfl, rfl⟩
set_option maxRecDepth 100000 in
theorem TLen_any (h : TreC W g T An cn Ad cd mb) : Calls Try.prog 9 #[.pointer (some ⟨g, 0, none⟩)] W fun e w' => e = .returned (.int .i64 T.nodes.length) ∧ w' = W := by
  obtain ⟨N, hN⟩ : ∃ N, N = T.nodes.length := ⟨_, rfl⟩
  have h0 := h.c0
  rw [← hN] at h0 ⊢
  clear h hN
  go_enter Try.func9, Try.ntmps9
  go_wp2
  go_ret
  exact ⟨rfl, rfl⟩
def depthT (T : Tr) (n : Int) : Int := if thereT T n then (T.deep.getD n.toNat 0 : Nat) else 0
set_option maxRecDepth 100000 in
set_option maxHeartbeats 1600000 in
theorem Depth_any (h : TreC W g T An cn Ad cd mb) (hw : T.deep.length = T.nodes.length) (n : Int) : Calls Try.prog 10 #[.pointer (some ⟨g, 0, none⟩), .int .i64 n] W fun e w' => e = .returned (.int .i64 (depthT T n)) ∧ w' = W := by
  have H := Lib.hid h
  have h1 := h.c1
  have hd := h.deep
  obtain ⟨M, hM⟩ : ∃ M, M = T.deep.length := ⟨_, rfl⟩
  rw [← hM] at h1 hd hw
  unfold depthT
  cases ht : thereT T n with
  | false =>
    have HT := Lib.hid ht
    clear h h1 hd hM ht hw
    go_enter Try.func10, Try.ntmps10
    go_wp2_with (go_at_call 15; (with_reducible refine (there_any H.out n).mono ?_); rintro e w1 ⟨rfl, rfl⟩; rw [HT.out])
    go_ret
    exact ⟨rfl, rfl⟩
  | true =>
    have HT := Lib.hid ht
    unfold thereT at ht
    have ht2 := of_decide_eq_true ht
    obtain ⟨i, rfl⟩ : ∃ i : Nat, n = (i : Int) := ⟨n.toNat, by omega⟩
    have hi : i < T.deep.length := by omega
    have hiM : i < M := by omega
    have hltI : decide ((i : Int) < (M : Int)) = true := by simp; omega
    obtain ⟨ad, rfl, hc⟩ := at_dp hd i hiM hi
    have hg : T.deep.getD (i : Int).toNat 0 = T.deep[i] := by rw [Int.toNat_natCast, List.getD_eq_getElem?_getD, List.getElem?_eq_getElem hi]; rfl
    rw [if_pos rfl, hg]
    obtain ⟨V, hV⟩ : ∃ V, V = T.deep[i] := ⟨_, rfl⟩
    rw [← hV] at hc ⊢
    clear h hd hM ht hw ht2 hi hg hV
    go_enter Try.func10, Try.ntmps10
    go_wp2_with (go_at_call 15; (with_reducible refine (there_any H.out (i : Int)).mono ?_); rintro e w1 ⟨rfl, rfl⟩; rw [HT.out])
    go_ret
    exact ⟨rfl, rfl⟩
def parentT (T : Tr) (n : Int) : Int × Bool := if thereT T n && decide (n ≠ 0) then ((T.nodes.getD n.toNat (0, (⟨#[]⟩, 0))).1, true) else (0, false)
set_option maxRecDepth 100000 in
set_option maxHeartbeats 1600000 in
theorem Parent_any (h : TreC W g T An cn Ad cd mb) (n : Int) : Calls Try.prog 8 #[.pointer (some ⟨g, 0, none⟩), .int .i64 n] W fun e w' => e = .returned (.tuple #[.int .i64 (parentT T n).1, .bool (parentT T n).2]) ∧ w' = W := by
  have H := Lib.hid h
  have h1 := h.c0
  have hd := h.nodes
  obtain ⟨M, hM⟩ : ∃ M, M = T.nodes.length := ⟨_, rfl⟩
  rw [← hM] at h1 hd
  unfold parentT
  cases ht : thereT T n with
  | false =>
    have HT := Lib.hid ht
    clear h h1 hd hM ht
    go_enter Try.func8, Try.ntmps8
    go_wp2_with (go_at_call 15; (with_reducible refine (there_any H.out n).mono ?_); rintro e w1 ⟨rfl, rfl⟩; rw [HT.out])
    go_ret2
    exact ⟨rfl, rfl⟩
  | true =>
    have HT := Lib.hid ht
    unfold thereT at ht
    have ht2 := of_decide_eq_true ht
    obtain ⟨i, rfl⟩ : ∃ i : Nat, n = (i : Int) := ⟨n.toNat, by omega⟩
    have hi : i < T.nodes.length := by omega
    have hiM : i < M := by omega
    have hltI : decide ((i : Int) < (M : Int)) = true := by simp; omega
    obtain ⟨ad, rfl, hc, hx1, hx2⟩ := at_nd hd i hiM hi
    have hg : (T.nodes.getD (i : Int).toNat (0, (⟨#[]⟩, 0))) = T.nodes[i] := by rw [Int.toNat_natCast, List.getD_eq_getElem?_getD, List.getElem?_eq_getElem hi]; rfl
    rw [hg]
    obtain ⟨V, hV⟩ : ∃ V, V = T.nodes[i].1 := ⟨_, rfl⟩
    rw [← hV] at hc ⊢
    clear hx1 hx2 h hd hM ht ht2 hi hg hV
    by_cases h0 : i = 0
    · subst h0
      rw [show (true && decide (((0 : Nat) : Int) ≠ 0)) = false from rfl]
      have HT0 := Lib.hid (show thereT T 0 = true from HT.out)
      show Calls Try.prog 8 #[.pointer (some ⟨g, 0, none⟩), .int .i64 0] W _
      go_enter Try.func8, Try.ntmps8
      go_wp2_with (go_at_call 15; (with_reducible refine (there_any H.out 0).mono ?_); rintro e w1 ⟨rfl, rfl⟩; rw [HT0.out])
      go_ret2
      exact ⟨rfl, rfl⟩
    · have e0 : ((i : Int) == 0) = false := by simp; omega
      rw [show (true && decide ((i : Int) ≠ 0)) = true by simp; omega]
      go_enter Try.func8, Try.ntmps8
      go_wp2_with (go_at_call 15; (with_reducible refine (there_any H.out (i : Int)).mono ?_); rintro e w1 ⟨rfl, rfl⟩; rw [HT.out])
      go_ret2
      exact ⟨rfl, rfl⟩
end
end Go.Proofs.Ytmgfdcfbjgokgaa
