/- The tree of stacks, I: a node as a key of the map; the tree in plain words; what the map must hold. The tree of stacks, II: a tree in memory, and what only reads it. -/
import Derived.Test.YtmgfdcfbjgokgaaDoorLst
import Derived.Maps.OwnSet
import Derived.DeepKeys4
import Derived.Test.YtmgfdcfbjgokgaaDoorParse
namespace Go.Proofs.YtmgfdcfbjgokgaaDoor
open Go Go.RowKit Go.Maps Go.WideMaps Go.Proofs.YtmgfdcfbjgokgaaDoorW.PrintWords Go.Proofs.YtmgfdcfbjgokgaaDoorW.PrintLast Go.Proofs.YtmgfdcfbjgokgaaDoor.PL
set_option linter.unusedVariables false
set_option linter.unusedSimpArgs false

/-- A node: the stack that it stands on, its place. -/
abbrev Nd := Nat × Pl
def ndV (x : Nd) : Value := .agg #[.int .i64 x.1, .string x.2.1, .int .i64 x.2.2]
theorem tre_laid : laidOutB Tryd.prog = true := by kernel_rfl
theorem tre_row : (136 : TypeId) < Tryd.prog.types.size := of_decide_eq_true (by kernel_rfl)
theorem tre_cells : Tryd.prog.cellsOf 136 = 3 := by kernel_rfl
theorem tre_wide : (match Tryd.prog.underlying 136 with | some (.array _ _) | some (.struct _) => true | _ => false) = true := by rw [Tryd.underlying136]
set_option maxRecDepth 100000 in
theorem tre_law : KeyLaw Tryd.prog 136 := deep_law_laid tre_laid (m := 4) (by omega) tre_row (by kernel_rfl) tre_wide
theorem tre_keyed : Keyed Tryd.prog 136 := Keyed.of_law tre_law
theorem tre_type : Tryd.prog.keyType 136 = true := by kernel_rfl
theorem tre_size : ∃ k, Tryd.prog.types.size = k + 4 := ⟨Tryd.prog.types.size - 4, by
  have : 4 ≤ Tryd.prog.types.size := of_decide_eq_true (by kernel_rfl)
  omega⟩
/-- What a node may be, so that it is a key. -/
structure NdOk (x : Nd) : Prop where
  up : x.1 ≤ 4096
  may : mayB x.2.1 x.2.2 = true
theorem may_parts {s : ByteArray} {n : Int} (h : mayB s n = true) : 1 ≤ s.size ∧ s.size ≤ 120 ∧ 0 ≤ n ∧ n ≤ 1048576 := by
  unfold mayB at h
  rw [Bool.and_eq_true, Bool.and_eq_true, Bool.and_eq_true, Bool.and_eq_true] at h
  exact ⟨of_decide_eq_true h.1.1.1.1, of_decide_eq_true h.1.1.1.2, of_decide_eq_true h.1.1.2, of_decide_eq_true h.1.2⟩
theorem wf_small {n : Int} (h0 : 0 ≤ n) (h1 : n ≤ 1048576) : (Lit.int .i64 n).wf = true := by
  simp [Lit.wf, IntKind.min, IntKind.max, IntKind.bits, IntKind.signed]
  omega
theorem nd_key {x : Nd} (h : NdOk x) : ∃ kl, keyOf Tryd.prog 136 (ndV x) = some kl := by
  obtain ⟨k, hk⟩ := tre_size
  obtain ⟨h1, h2, h3, h4⟩ := may_parts h.may
  have hu := h.up
  have w1 : (Lit.int .i64 (x.1 : Int)).wf = true := wf_small (by omega) (by omega)
  have w2 : (Lit.int .i64 x.2.2).wf = true := wf_small h3 h4
  have hf : (ndV x).formed Tryd.prog 136 = true := by simp [ndV, Value.formed, Tryd.underlying136, tre_cells]
  have hs : x.2.1.size ≤ maxLen := by simp only [maxLen]; omega
  have c60 : Tryd.prog.cellsOf 60 = 2 := by kernel_rfl
  have c3 : Tryd.prog.cellsOf 3 = 1 := by kernel_rfl
  have c9 : Tryd.prog.cellsOf 9 = 1 := by kernel_rfl
  have l3 : ∀ (d : Nat) (n : Int), (Lit.int .i64 n).wf = true → Tryd.prog.keyLits (d + 1) 3 [.int .i64 n] = some [.int .i64 n] := fun d n hn => by
    simp [Program.keyLits, Tryd.underlying3, hn]
  have l9 : ∀ (d : Nat) (s : ByteArray), s.size ≤ maxLen → Tryd.prog.keyLits (d + 1) 9 [.string s] = some [.string s.data.toList] := fun d s hn => by
    simp [Program.keyLits, Tryd.underlying9, hn]
  have l60 : ∀ (d : Nat), Tryd.prog.keyLits (d + 2) 60 [.string x.2.1, .int .i64 x.2.2] = some [.string x.2.1.data.toList, .int .i64 x.2.2] := fun d => by
    rw [Program.keyLits.eq_def]
    simp [Tryd.underlying60, c60, c3, c9, l9 _ _ hs, l3 _ _ w2]
  have hl : Tryd.prog.keyLits (Tryd.prog.types.size + 1) 136 [.int .i64 x.1, .string x.2.1, .int .i64 x.2.2] = some [.int .i64 x.1, .string x.2.1.data.toList, .int .i64 x.2.2] := by
    rw [hk, Program.keyLits.eq_def]
    simp [Tryd.underlying136, tre_cells, c60, c3, l60, l3 _ _ w1]
  refine ⟨.string (keyBytes [.int .i64 x.1, .string x.2.1.data.toList, .int .i64 x.2.2]), ?_⟩
  unfold keyOf
  rw [Tryd.underlying136]
  simp only
  rw [tre_type, hf]
  simp only [Bool.and_self, if_true]
  rw [show (ndV x).cells.toList = [.int .i64 x.1, .string x.2.1, .int .i64 x.2.2] from rfl, hl]
  rfl
noncomputable def ndKey (x : Nd) : Lit := (keyOf Tryd.prog 136 (ndV x)).getD .nil
theorem ndKey_eq {x : Nd} (h : NdOk x) : keyOf Tryd.prog 136 (ndV x) = some (ndKey x) := by
  obtain ⟨kl, hk⟩ := nd_key h
  unfold ndKey
  rw [hk]
  rfl
theorem ndV_inj {x y : Nd} (h : ndV x = ndV y) : x = y := by
  obtain ⟨a, b, c⟩ := x
  obtain ⟨d, e, f⟩ := y
  simp only [ndV, Value.agg.injEq, Array.mk.injEq, List.cons.injEq, Value.int.injEq, Value.string.injEq, true_and, and_true] at h
  obtain ⟨h1, h2, h3⟩ := h
  have : a = d := by omega
  rw [this, h2, h3]
theorem ndKey_inj {x y : Nd} (hx : NdOk x) (hy : NdOk y) (h : ndKey x = ndKey y) : x = y := by
  have h1 := ndKey_eq hx
  have h2 := ndKey_eq hy
  rw [← h] at h2
  exact ndV_inj (tre_keyed.inj h1 h2)
set_option maxRecDepth 100000 in
theorem nd_isKey {x : Nd} (h : NdOk x) : WideAt.IsKeyLit (ndKey x) := tre_keyed.key (ndKey_eq h)
theorem getD_low {α : Type} (l : List α) (a d : α) {i : Nat} (h : i < l.length) : (l ++ [a]).getD i d = l.getD i d := by
  rw [List.getD_eq_getElem?_getD, List.getElem?_append_left h, ← List.getD_eq_getElem?_getD]
theorem getD_last {α : Type} (l : List α) (a d : α) : (l ++ [a]).getD l.length d = a := by
  rw [List.getD_eq_getElem?_getD, List.getElem?_concat_length]
  rfl
/-! #### What the map holds -/
def findN (nodes : List Nd) (x : Nd) : Option Nat := nodes.findIdx? (fun y => decide (y = x))
theorem findN_snoc (nodes : List Nd) (x y : Nd) : findN (nodes ++ [y]) x = (findN nodes x).or (if y = x then some nodes.length else none) := by
  unfold findN
  rw [List.findIdx?_append]
  congr 1
  by_cases h : y = x
  · simp [h]
  · simp [h]
theorem findN_some {nodes : List Nd} {x : Nd} {i : Nat} (h : findN nodes x = some i) : nodes[i]? = some x := by
  unfold findN at h
  obtain ⟨hi, h1, _⟩ := List.findIdx?_eq_some_iff_getElem.1 h
  rw [List.getElem?_eq_getElem hi, of_decide_eq_true h1]
theorem findN_none {nodes : List Nd} {x : Nd} (h : findN nodes x = none) : x ∉ nodes := fun hm => by
  unfold findN at h
  have := List.findIdx?_eq_none_iff.1 h x hm
  simp at this
section
variable {H : Type}
abbrev lit0 : DataW H := .lit (.int .i64 0)
/-- The map tells of each node that is there its number, and knows no other. -/
structure MapIs (D : DataW H) (nodes : List Nd) : Prop where
  isMap : IsMap D
  has : ∀ x, NdOk x → has D (ndKey x) = (findN nodes x).isSome
  at_ : ∀ x i, NdOk x → findN nodes x = some i → D.atKey (ndKey x) lit0 = .lit (.int .i64 (i : Nat))
theorem mapIs_new (nodes : List Nd) (h : ∀ x ∈ nodes, ¬ NdOk x) : MapIs (.map [] : DataW H) nodes where
  isMap := isMap_empty
  has := fun x hx => by
    cases hf : findN nodes x with
    | none => rfl
    | some i => exact absurd hx (h x (List.mem_of_getElem? (findN_some hf)))
  at_ := fun x i hx hf => absurd hx (h x (List.mem_of_getElem? (findN_some hf)))
set_option maxRecDepth 100000 in
theorem MapIs.put {D : DataW H} {nodes : List Nd} (M : MapIs D nodes) {y : Nd} (hy : NdOk y) (hn : findN nodes y = none) : MapIs (D.put (ndKey y) (.lit (.int .i64 (nodes.length : Nat)))) (nodes ++ [y]) where
  isMap := M.isMap.put _ _
  has := fun x hx => by
    rw [findN_snoc]
    by_cases e : y = x
    · subst e
      have hk := nd_isKey hx
      have h1 := has_put_same M.isMap hk (.lit (.int .i64 (nodes.length : Nat)))
      rw [h1, hn, if_pos rfl]
      rfl
    · rw [has_put_other (fun h => e (ndKey_inj hx hy h).symm), M.has x hx, if_neg e, Option.or_none]
  at_ := fun x i hx hf => by
    rw [findN_snoc] at hf
    by_cases e : y = x
    · subst e
      rw [hn, if_pos rfl] at hf
      cases hf
      have hk := nd_isKey hx
      exact atKey_put_same M.isMap hk (.lit (.int .i64 (nodes.length : Nat))) lit0
    · rw [if_neg e, Option.or_none] at hf
      rw [atKey_put_other (fun h => e (ndKey_inj hx hy h).symm), M.at_ x i hx hf]
end
/-! #### The tree in plain words -/
structure Tr where
  nodes : List Nd
  deep : List Nat
def newT : Tr := ⟨[(0, (⟨#[]⟩, 0))], [0]⟩
/-- 'Push': the number, the sign, the tree. -/
def pushT (T : Tr) (at_ : Int) (p : Pl) : (Int × Int) × Tr :=
  if ¬ (0 ≤ at_ ∧ at_ < T.nodes.length) then ((0, 1), T)
  else if mayB p.1 p.2 = false then ((0, 30), T)
  else if 64 ≤ T.deep.getD at_.toNat 0 then ((0, 31), T)
  else match findN T.nodes (at_.toNat, p) with
  | some i => (((i : Nat), 0), T)
  | none => if 4096 ≤ T.nodes.length then ((0, 3), T)
  else ((T.nodes.length, 0), ⟨T.nodes ++ [(at_.toNat, p)], T.deep ++ [T.deep.getD at_.toNat 0 + 1]⟩)
structure Tr.wf (T : Tr) : Prop where
  len : T.deep.length = T.nodes.length
  one : 1 ≤ T.nodes.length
  most : T.nodes.length ≤ 4096
  root : T.nodes.getD 0 (0, (⟨#[]⟩, 0)) = (0, (⟨#[]⟩, 0))
  ok : ∀ i, 1 ≤ i → (h : i < T.nodes.length) → NdOk T.nodes[i] ∧ (T.nodes[i]).1 < i ∧ T.deep.getD i 0 = T.deep.getD (T.nodes[i]).1 0 + 1
  low : ∀ d ∈ T.deep, d ≤ 64
  nodup : T.nodes.Nodup
  deep0 : T.deep.getD 0 0 = 0
theorem newT_wf : newT.wf where
  len := rfl
  one := by decide
  most := by decide
  root := rfl
  ok := fun i h1 h => by simp [newT] at h; omega
  low := fun d h => by simp [newT] at h; omega
  nodup := by simp [newT]
  deep0 := rfl
theorem push_wf {T : Tr} (W : T.wf) (at_ : Int) (p : Pl) : (pushT T at_ p).2.wf := by
  unfold pushT
  split
  · exact W
  rename_i h1
  split
  · exact W
  rename_i h2
  split
  · exact W
  rename_i h3
  split
  · exact W
  split
  · exact W
  rename_i h4 h5
  have hat : at_.toNat < T.nodes.length := by omega
  have hl := W.len
  have hm := W.most
  have h1' := W.one
  refine ⟨by simp [hl], by simp, by simp; omega, ?_, ?_, ?_, ?_, by rw [getD_low _ _ _ (by omega)]; exact W.deep0⟩
  · rw [getD_low _ _ _ (by omega)]
    exact W.root
  · intro i hi h
    have h' : i < T.nodes.length + 1 := by simpa using h
    by_cases e : i < T.nodes.length
    · obtain ⟨o1, o2, o3⟩ := W.ok i hi e
      simp only [List.getElem_append_left e]
      refine ⟨o1, o2, ?_⟩
      rw [getD_low _ _ _ (by omega), getD_low _ _ _ (by omega)]
      exact o3
    · obtain rfl : i = T.nodes.length := by omega
      simp only [List.getElem_concat_length]
      refine ⟨⟨by simp only; omega, by simp only; cases hb : mayB p.1 p.2; exact absurd hb h2; rfl⟩, hat, ?_⟩
      rw [← hl, getD_last, getD_low _ _ _ (by omega)]
  · intro d hd
    rcases List.mem_append.1 hd with hd | hd
    · exact W.low d hd
    · rw [List.mem_singleton.1 hd]; omega
  · rw [List.nodup_append]
    refine ⟨W.nodup, by simp, ?_⟩
    intro a ha b hb e
    rw [List.mem_singleton.1 hb] at e
    exact findN_none h4 (e ▸ ha)
end Go.Proofs.YtmgfdcfbjgokgaaDoor
namespace Go.Proofs.YtmgfdcfbjgokgaaDoor
open Go Go.RowKit Go.Proofs.YtmgfdcfbjgokgaaDoorW.PrintWords Go.Proofs.YtmgfdcfbjgokgaaDoorW.PrintLast Go.Proofs.YtmgfdcfbjgokgaaDoor.PL
set_option linter.unusedVariables false
set_option linter.unusedSimpArgs false

/-- A node in a row. -/
def kNd : Kd Nd := Kd.iso (Kd.pair (Kd.int .i64) k60) (fun x : Nd => ((x.1 : Int), ofPl x.2))
def kDp : Kd Nat := Kd.iso (Kd.int .i64) (fun n : Nat => (n : Int))
theorem kNd_open {w : World} {x : Nd} {cs : List Value} (h : kNd.K w x cs) : cs = [.int .i64 x.1, .string x.2.1, .int .i64 x.2.2] := by
  obtain ⟨_, _, rfl, rfl, s1⟩ := h
  obtain rfl := k60_open s1
  exact rfl
theorem kNd_mk (w : World) (x : Nd) : kNd.K w x [.int .i64 x.1, .string x.2.1, .int .i64 x.2.2] := ⟨[.int .i64 x.1], [.string x.2.1, .int .i64 x.2.2], rfl, rfl, (k60_mk w (ofPl x.2))⟩
theorem kNd_mkM (w : World) (base : Nat) (ok : Nat → Prop) (x : Nd) : kNd.M w base ok x [.int .i64 x.1, .string x.2.1, .int .i64 x.2.2] := ⟨[.int .i64 x.1], [.string x.2.1, .int .i64 x.2.2], rfl, rfl, (k60_mkM w base ok (ofPl x.2))⟩
theorem kDp_open {w : World} {x : Nat} {cs : List Value} (h : kDp.K w x cs) : cs = [.int .i64 x] := h
theorem kDp_mk (w : World) (x : Nat) : kDp.K w x [.int .i64 x] := rfl
theorem at_nd {w : World} {A : Option Addr} {n : Nat} {xs : List Nd} (h : Kd.C kNd w A n xs) (i : Nat) (h1 : i < n) (hx : i < xs.length) : ∃ ad , A = some ad ∧ w.cell? (ad.add (i * 3)) = some (.int .i64 (xs[i].1 : Nat)) ∧ w.cell? ⟨(ad.add (i * 3)).block, (ad.add (i * 3)).off + 1, none⟩ = some (.string xs[i].2.1) ∧ w.cell? ⟨(ad.add (i * 3)).block, (ad.add (i * 3)).off + 2, none⟩ = some (.int .i64 xs[i].2.2) := by
  obtain ⟨ad, c, e, _, hK, hc0⟩ := Kd.C_get h (0, (⟨#[]⟩, 0)) (i : Int) (by omega) (by omega)
  rw [Int.toNat_natCast, List.getD_eq_getElem?_getD, List.getElem?_eq_getElem hx] at hK
  have hc : ∀ j u, c[j]? = some u → w.cell? (ad.add (i * 3 + j)) = some u := fun j u hj => by have := hc0 j u hj; rwa [Int.toNat_natCast] at this
  obtain rfl := kNd_open hK
  exact ⟨ad, e, hc 0 _ rfl, by rw [← add_field _ _ 1 (by omega)]; exact hc 1 _ rfl, by rw [← add_field _ _ 2 (by omega)]; exact hc 2 _ rfl⟩
theorem at_dp {w : World} {A : Option Addr} {n : Nat} {xs : List Nat} (h : Kd.C kDp w A n xs) (i : Nat) (h1 : i < n) (hx : i < xs.length) : ∃ ad , A = some ad ∧ w.cell? (ad.add i) = some (.int .i64 (xs[i] : Nat)) := by
  obtain ⟨ad, c, e, _, hK, hc0⟩ := Kd.C_get h 0 (i : Int) (by omega) (by omega)
  rw [Int.toNat_natCast, List.getD_eq_getElem?_getD, List.getElem?_eq_getElem hx] at hK
  have hc : ∀ j u, c[j]? = some u → w.cell? (ad.add (i * 1 + j)) = some u := fun j u hj => by have := hc0 j u hj; rwa [Int.toNat_natCast] at this
  obtain rfl := kDp_open hK
  have := hc 0 _ rfl
  rw [Nat.mul_one] at this
  exact ⟨ad, e, this⟩
/-- A tree that can be read at block g. -/
structure TreC (W : World) (g : Nat) (T : Tr) (An : Option Addr) (cn : Nat) (Ad : Option Addr) (cd mb : Nat) : Prop where
  c0 : W.cell? ⟨g, 0, none⟩ = some (.slice An T.nodes.length cn)
  c1 : W.cell? ⟨g, 1, none⟩ = some (.slice Ad T.deep.length cd)
  c2 : W.cell? ⟨g, 2, none⟩ = some (.map (some mb))
  capn : T.nodes.length ≤ cn
  capd : T.deep.length ≤ cd
  nodes : Kd.C kNd W An T.nodes.length T.nodes
  deep : Kd.C kDp W Ad T.deep.length T.deep
section
variable {W : World} {g : Nat} {T : Tr} {An Ad : Option Addr} {cn cd mb : Nat}
def thereT (T : Tr) (n : Int) : Bool := decide (0 ≤ n ∧ n < T.nodes.length)
set_option maxRecDepth 100000 in
set_option maxHeartbeats 1600000 in
theorem there_any (h : TreC W g T An cn Ad cd mb) (n : Int) : Calls Tryd.prog 74 #[.pointer (some ⟨g, 0, none⟩), .int .i64 n] W fun e w' => e = .returned (.bool (thereT T n)) ∧ w' = W := by
  obtain ⟨N, hN⟩ : ∃ N, N = T.nodes.length := ⟨_, rfl⟩
  have h0 := h.c0
  rw [← hN] at h0
  unfold thereT
  rw [← hN]
  clear h hN
  by_cases c1 : 0 ≤ n
  · have d1 : decide (0 ≤ n) = true := decide_eq_true c1
    by_cases c2 : n < (N : Int)
    · have d2 : decide (n < (N : Int)) = true := decide_eq_true c2
      rw [show decide (0 ≤ n ∧ n < (N : Int)) = true from decide_eq_true ⟨c1, c2⟩]
      go_enter Tryd.func74, Tryd.ntmps74
      go_wp2
      go_ret
      exact ⟨rfl, rfl⟩
    · have d2 : decide (n < (N : Int)) = false := decide_eq_false c2
      have d3 : decide (0 ≤ n ∧ n < (N : Int)) = false := decide_eq_false (fun h => c2 h.2)
      go_enter Tryd.func74, Tryd.ntmps74
      go_wp2
      go_ret
      exact ⟨rfl, rfl⟩
  · have d1 : decide (0 ≤ n) = false := decide_eq_false c1
    have d3 : decide (0 ≤ n ∧ n < (N : Int)) = false := decide_eq_false (fun h => c1 h.1)
    go_enter Tryd.func74, Tryd.ntmps74
    go_wp2
    go_ret
    exact ⟨rfl, rfl⟩
set_option maxRecDepth 100000 in
theorem TLen_any (h : TreC W g T An cn Ad cd mb) : Calls Tryd.prog 37 #[.pointer (some ⟨g, 0, none⟩)] W fun e w' => e = .returned (.int .i64 T.nodes.length) ∧ w' = W := by
  obtain ⟨N, hN⟩ : ∃ N, N = T.nodes.length := ⟨_, rfl⟩
  have h0 := h.c0
  rw [← hN] at h0 ⊢
  clear h hN
  go_enter Tryd.func37, Tryd.ntmps37
  go_wp2
  go_ret
  exact ⟨rfl, rfl⟩
def depthT (T : Tr) (n : Int) : Int := if thereT T n then (T.deep.getD n.toNat 0 : Nat) else 0
set_option maxRecDepth 100000 in
set_option maxHeartbeats 1600000 in
theorem Depth_any (h : TreC W g T An cn Ad cd mb) (hw : T.deep.length = T.nodes.length) (n : Int) : Calls Tryd.prog 41 #[.pointer (some ⟨g, 0, none⟩), .int .i64 n] W fun e w' => e = .returned (.int .i64 (depthT T n)) ∧ w' = W := by
  have H := Lib.hid h
  have h1 := h.c1
  have hd := h.deep
  obtain ⟨M, hM⟩ : ∃ M, M = T.deep.length := ⟨_, rfl⟩
  rw [← hM] at h1 hd hw
  unfold depthT
  cases ht : thereT T n with
  | false =>
    have HT := Lib.hid ht
    clear h h1 hd hM ht hw
    go_enter Tryd.func41, Tryd.ntmps41
    go_wp2_with (go_at_call 74; (with_reducible refine (there_any H.out n).mono ?_); rintro e w1 ⟨rfl, rfl⟩; rw [HT.out])
    go_ret
    exact ⟨rfl, rfl⟩
  | true =>
    have HT := Lib.hid ht
    unfold thereT at ht
    have ht2 := of_decide_eq_true ht
    obtain ⟨i, rfl⟩ : ∃ i : Nat, n = (i : Int) := ⟨n.toNat, by omega⟩
    have hi : i < T.deep.length := by omega
    have hiM : i < M := by omega
    have hltI : decide ((i : Int) < (M : Int)) = true := by simp; omega
    obtain ⟨ad, rfl, hc⟩ := at_dp hd i hiM hi
    have hg : T.deep.getD (i : Int).toNat 0 = T.deep[i] := by rw [Int.toNat_natCast, List.getD_eq_getElem?_getD, List.getElem?_eq_getElem hi]; rfl
    rw [if_pos rfl, hg]
    obtain ⟨V, hV⟩ : ∃ V, V = T.deep[i] := ⟨_, rfl⟩
    rw [← hV] at hc ⊢
    clear h hd hM ht hw ht2 hi hg hV
    go_enter Tryd.func41, Tryd.ntmps41
    go_wp2_with (go_at_call 74; (with_reducible refine (there_any H.out (i : Int)).mono ?_); rintro e w1 ⟨rfl, rfl⟩; rw [HT.out])
    go_ret
    exact ⟨rfl, rfl⟩
def parentT (T : Tr) (n : Int) : Int × Bool := if thereT T n && decide (n ≠ 0) then ((T.nodes.getD n.toNat (0, (⟨#[]⟩, 0))).1, true) else (0, false)
set_option maxRecDepth 100000 in
set_option maxHeartbeats 1600000 in
theorem Parent_any (h : TreC W g T An cn Ad cd mb) (n : Int) : Calls Tryd.prog 69 #[.pointer (some ⟨g, 0, none⟩), .int .i64 n] W fun e w' => e = .returned (.tuple #[.int .i64 (parentT T n).1, .bool (parentT T n).2]) ∧ w' = W := by
  have H := Lib.hid h
  have h1 := h.c0
  have hd := h.nodes
  obtain ⟨M, hM⟩ : ∃ M, M = T.nodes.length := ⟨_, rfl⟩
  rw [← hM] at h1 hd
  unfold parentT
  cases ht : thereT T n with
  | false =>
    have HT := Lib.hid ht
    clear h h1 hd hM ht
    go_enter Tryd.func69, Tryd.ntmps69
    go_wp2_with (go_at_call 74; (with_reducible refine (there_any H.out n).mono ?_); rintro e w1 ⟨rfl, rfl⟩; rw [HT.out])
    go_ret2
    exact ⟨rfl, rfl⟩
  | true =>
    have HT := Lib.hid ht
    unfold thereT at ht
    have ht2 := of_decide_eq_true ht
    obtain ⟨i, rfl⟩ : ∃ i : Nat, n = (i : Int) := ⟨n.toNat, by omega⟩
    have hi : i < T.nodes.length := by omega
    have hiM : i < M := by omega
    have hltI : decide ((i : Int) < (M : Int)) = true := by simp; omega
    obtain ⟨ad, rfl, hc, hx1, hx2⟩ := at_nd hd i hiM hi
    have hg : (T.nodes.getD (i : Int).toNat (0, (⟨#[]⟩, 0))) = T.nodes[i] := by rw [Int.toNat_natCast, List.getD_eq_getElem?_getD, List.getElem?_eq_getElem hi]; rfl
    rw [hg]
    obtain ⟨V, hV⟩ : ∃ V, V = T.nodes[i].1 := ⟨_, rfl⟩
    rw [← hV] at hc ⊢
    clear hx1 hx2 h hd hM ht ht2 hi hg hV
    by_cases h0 : i = 0
    · subst h0
      rw [show (true && decide (((0 : Nat) : Int) ≠ 0)) = false from rfl]
      have HT0 := Lib.hid (show thereT T 0 = true from HT.out)
      show Calls Tryd.prog 69 #[.pointer (some ⟨g, 0, none⟩), .int .i64 0] W _
      go_enter Tryd.func69, Tryd.ntmps69
      go_wp2_with (go_at_call 74; (with_reducible refine (there_any H.out 0).mono ?_); rintro e w1 ⟨rfl, rfl⟩; rw [HT0.out])
      go_ret2
      exact ⟨rfl, rfl⟩
    · have e0 : ((i : Int) == 0) = false := by simp; omega
      rw [show (true && decide ((i : Int) ≠ 0)) = true by simp; omega]
      go_enter Tryd.func69, Tryd.ntmps69
      go_wp2_with (go_at_call 74; (with_reducible refine (there_any H.out (i : Int)).mono ?_); rintro e w1 ⟨rfl, rfl⟩; rw [HT.out])
      go_ret2
      exact ⟨rfl, rfl⟩
end
end Go.Proofs.YtmgfdcfbjgokgaaDoor
