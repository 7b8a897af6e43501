/- The tree of stacks, I: a node as a key of the map; the tree in plain words; what the map must hold. -/
import Derived.Test.YtmgfdcfbjgokgaaLst
import Derived.Maps.OwnSet
import Derived.DeepKeys4
namespace Go.Proofs.Ytmgfdcfbjgokgaa
open Go Go.RowKit Go.Maps Go.WideMaps Go.Proofs.YtmgfdcfbjgokgaaW.PrintWords Go.Proofs.YtmgfdcfbjgokgaaW.PrintLast Go.Proofs.Ytmgfdcfbjgokgaa.PL
set_option linter.unusedVariables false
set_option linter.unusedSimpArgs false

/-- A node: the stack that it stands on, its place. -/
abbrev Nd := Nat × Pl
def ndV (x : Nd) : Value := .agg #[.int .i64 x.1, .string x.2.1, .int .i64 x.2.2]
theorem tre_laid : laidOutB Try.prog = true := by kernel_rfl
theorem tre_row : (51 : TypeId) < Try.prog.types.size := of_decide_eq_true (by kernel_rfl)
theorem tre_cells : Try.prog.cellsOf 51 = 3 := by kernel_rfl
theorem tre_wide : (match Try.prog.underlying 51 with | some (.array _ _) | some (.struct _) => true | _ => false) = true := by rw [Try.underlying51]
set_option maxRecDepth 100000 in
theorem tre_law : KeyLaw Try.prog 51 := deep_law_laid tre_laid (m := 4) (by omega) tre_row (by kernel_rfl) tre_wide
theorem tre_keyed : Keyed Try.prog 51 := Keyed.of_law tre_law
theorem tre_type : Try.prog.keyType 51 = true := by kernel_rfl
theorem tre_size : ∃ k, Try.prog.types.size = k + 4 := ⟨Try.prog.types.size - 4, by
  have : 4 ≤ Try.prog.types.size := of_decide_eq_true (by kernel_rfl)
  omega⟩
/-- What a node may be, so that it is a key. -/
structure NdOk (x : Nd) : Prop where
  up : x.1 ≤ 4096
  may : mayB x.2.1 x.2.2 = true
theorem may_parts {s : ByteArray} {n : Int} (h : mayB s n = true) : 1 ≤ s.size ∧ s.size ≤ 120 ∧ 0 ≤ n ∧ n ≤ 1048576 := by
  unfold mayB at h
  rw [Bool.and_eq_true, Bool.and_eq_true, Bool.and_eq_true, Bool.and_eq_true] at h
  exact ⟨of_decide_eq_true h.1.1.1.1, of_decide_eq_true h.1.1.1.2, of_decide_eq_true h.1.1.2, of_decide_eq_true h.1.2⟩
theorem wf_small {n : Int} (h0 : 0 ≤ n) (h1 : n ≤ 1048576) : (Lit.int .i64 n).wf = true := by
  simp [Lit.wf, IntKind.min, IntKind.max, IntKind.bits, IntKind.signed]
  omega
theorem nd_key {x : Nd} (h : NdOk x) : ∃ kl, keyOf Try.prog 51 (ndV x) = some kl := by
  obtain ⟨k, hk⟩ := tre_size
  obtain ⟨h1, h2, h3, h4⟩ := may_parts h.may
  have hu := h.up
  have w1 : (Lit.int .i64 (x.1 : Int)).wf = true := wf_small (by omega) (by omega)
  have w2 : (Lit.int .i64 x.2.2).wf = true := wf_small h3 h4
  have hf : (ndV x).formed Try.prog 51 = true := by simp [ndV, Value.formed, Try.underlying51, tre_cells]
  have hs : x.2.1.size ≤ maxLen := by simp only [maxLen]; omega
  have c60 : Try.prog.cellsOf 24 = 2 := by kernel_rfl
  have c3 : Try.prog.cellsOf 3 = 1 := by kernel_rfl
  have c9 : Try.prog.cellsOf 9 = 1 := by kernel_rfl
  have l3 : ∀ (d : Nat) (n : Int), (Lit.int .i64 n).wf = true → Try.prog.keyLits (d + 1) 3 [.int .i64 n] = some [.int .i64 n] := fun d n hn => by
    simp [Program.keyLits, Try.underlying3, hn]
  have l9 : ∀ (d : Nat) (s : ByteArray), s.size ≤ maxLen → Try.prog.keyLits (d + 1) 9 [.string s] = some [.string s.data.toList] := fun d s hn => by
    simp [Program.keyLits, Try.underlying9, hn]
  have l60 : ∀ (d : Nat), Try.prog.keyLits (d + 2) 24 [.string x.2.1, .int .i64 x.2.2] = some [.string x.2.1.data.toList, .int .i64 x.2.2] := fun d => by
    rw [Program.keyLits.eq_def]
    simp [Try.underlying24, c60, c3, c9, l9 _ _ hs, l3 _ _ w2]
  have hl : Try.prog.keyLits (Try.prog.types.size + 1) 51 [.int .i64 x.1, .string x.2.1, .int .i64 x.2.2] = some [.int .i64 x.1, .string x.2.1.data.toList, .int .i64 x.2.2] := by
    rw [hk, Program.keyLits.eq_def]
    simp [Try.underlying51, tre_cells, c60, c3, l60, l3 _ _ w1]
  refine ⟨.string (keyBytes [.int .i64 x.1, .string x.2.1.data.toList, .int .i64 x.2.2]), ?_⟩
  unfold keyOf
  rw [Try.underlying51]
  simp only
  rw [tre_type, hf]
  simp only [Bool.and_self, if_true]
  rw [show (ndV x).cells.toList = [.int .i64 x.1, .string x.2.1, .int .i64 x.2.2] from rfl, hl]
  rfl
noncomputable def ndKey (x : Nd) : Lit := (keyOf Try.prog 51 (ndV x)).getD .nil
theorem ndKey_eq {x : Nd} (h : NdOk x) : keyOf Try.prog 51 (ndV x) = some (ndKey x) := by
  obtain ⟨kl, hk⟩ := nd_key h
  unfold ndKey
  rw [hk]
  rfl
theorem ndV_inj {x y : Nd} (h : ndV x = ndV y) : x = y := by
  obtain ⟨a, b, c⟩ := x
  obtain ⟨d, e, f⟩ := y
  simp only [ndV, Value.agg.injEq, Array.mk.injEq, List.cons.injEq, Value.int.injEq, Value.string.injEq, true_and, and_true] at h
  obtain ⟨h1, h2, h3⟩ := h
  have : a = d := by omega
  rw [this, h2, h3]
theorem ndKey_inj {x y : Nd} (hx : NdOk x) (hy : NdOk y) (h : ndKey x = ndKey y) : x = y := by
  have h1 := ndKey_eq hx
  have h2 := ndKey_eq hy
  rw [← h] at h2
  exact ndV_inj (tre_keyed.inj h1 h2)
set_option maxRecDepth 100000 in
theorem nd_isKey {x : Nd} (h : NdOk x) : WideAt.IsKeyLit (ndKey x) := tre_keyed.key (ndKey_eq h)
theorem getD_low {α : Type} (l : List α) (a d : α) {i : Nat} (h : i < l.length) : (l ++ [a]).getD i d = l.getD i d := by
  rw [List.getD_eq_getElem?_getD, List.getElem?_append_left h, ← List.getD_eq_getElem?_getD]
theorem getD_last {α : Type} (l : List α) (a d : α) : (l ++ [a]).getD l.length d = a := by
  rw [List.getD_eq_getElem?_getD, List.getElem?_concat_length]
  rfl
/-! #### What the map holds -/
def findN (nodes : List Nd) (x : Nd) : Option Nat := nodes.findIdx? (fun y => decide (y = x))
theorem findN_snoc (nodes : List Nd) (x y : Nd) : findN (nodes ++ [y]) x = (findN nodes x).or (if y = x then some nodes.length else none) := by
  unfold findN
  rw [List.findIdx?_append]
  congr 1
  by_cases h : y = x
  · simp [h]
  · simp [h]
theorem findN_some {nodes : List Nd} {x : Nd} {i : Nat} (h : findN nodes x = some i) : nodes[i]? = some x := by
  unfold findN at h
  obtain ⟨hi, h1, _⟩ := List.findIdx?_eq_some_iff_getElem.1 h
  rw [List.getElem?_eq_getElem hi, of_decide_eq_true h1]
theorem findN_none {nodes : List Nd} {x : Nd} (h : findN nodes x = none) : x ∉ nodes := fun hm => by
  unfold findN at h
  have := List.findIdx?_eq_none_iff.1 h x hm
  simp at this
section
variable {H : Type}
abbrev lit0 : DataW H := .lit (.int .i64 0)
/-- The map tells of each node that is there its number, and knows no other. -/
structure MapIs (D : DataW H) (nodes : List Nd) : Prop where
  isMap : IsMap D
  has : ∀ x, NdOk x → has D (ndKey x) = (findN nodes x).isSome
  at_ : ∀ x i, NdOk x → findN nodes x = some i → D.atKey (ndKey x) lit0 = .lit (.int .i64 (i : Nat))
theorem mapIs_new (nodes : List Nd) (h : ∀ x ∈ nodes, ¬ NdOk x) : MapIs (.map [] : DataW H) nodes where
  isMap := isMap_empty
  has := fun x hx => by
    cases hf : findN nodes x with
    | none => rfl
    | some i => exact absurd hx (h x (List.mem_of_getElem? (findN_some hf)))
  at_ := fun x i hx hf => absurd hx (h x (List.mem_of_getElem? (findN_some hf)))
set_option maxRecDepth 100000 in
theorem MapIs.put {D : DataW H} {nodes : List Nd} (M : MapIs D nodes) {y : Nd} (hy : NdOk y) (hn : findN nodes y = none) : MapIs (D.put (ndKey y) (.lit (.int .i64 (nodes.length : Nat)))) (nodes ++ [y]) where
  isMap := M.isMap.put _ _
  has := fun x hx => by
    rw [findN_snoc]
    by_cases e : y = x
    · subst e
      have hk := nd_isKey hx
      have h1 := has_put_same M.isMap hk (.lit (.int .i64 (nodes.length : Nat)))
      rw [h1, hn, if_pos rfl]
      rfl
    · rw [has_put_other (fun h => e (ndKey_inj hx hy h).symm), M.has x hx, if_neg e, Option.or_none]
  at_ := fun x i hx hf => by
    rw [findN_snoc] at hf
    by_cases e : y = x
    · subst e
      rw [hn, if_pos rfl] at hf
      cases hf
      have hk := nd_isKey hx
      exact atKey_put_same M.isMap hk (.lit (.int .i64 (nodes.length : Nat))) lit0
    · rw [if_neg e, Option.or_none] at hf
      rw [atKey_put_other (fun h => e (ndKey_inj hx hy h).symm), M.at_ x i hx hf]
end
/-! #### The tree in plain words -/
structure Tr where
  nodes : List Nd
  deep : List Nat
def newT : Tr := ⟨[(0, (⟨#[]⟩, 0))], [0]⟩
/-- 'Push': the number, the sign, the tree. -/
def pushT (T : Tr) (at_ : Int) (p : Pl) : (Int × Int) × Tr :=
  if ¬ (0 ≤ at_ ∧ at_ < T.nodes.length) then ((0, 1), T)
  else if mayB p.1 p.2 = false then ((0, 30), T)
  else if 64 ≤ T.deep.getD at_.toNat 0 then ((0, 31), T)
  else match findN T.nodes (at_.toNat, p) with
  | some i => (((i : Nat), 0), T)
  | none => if 4096 ≤ T.nodes.length then ((0, 3), T)
  else ((T.nodes.length, 0), ⟨T.nodes ++ [(at_.toNat, p)], T.deep ++ [T.deep.getD at_.toNat 0 + 1]⟩)
structure Tr.wf (T : Tr) : Prop where
  len : T.deep.length = T.nodes.length
  one : 1 ≤ T.nodes.length
  most : T.nodes.length ≤ 4096
  root : T.nodes.getD 0 (0, (⟨#[]⟩, 0)) = (0, (⟨#[]⟩, 0))
  ok : ∀ i, 1 ≤ i → (h : i < T.nodes.length) → NdOk T.nodes[i] ∧ (T.nodes[i]).1 < i ∧ T.deep.getD i 0 = T.deep.getD (T.nodes[i]).1 0 + 1
  low : ∀ d ∈ T.deep, d ≤ 64
  nodup : T.nodes.Nodup
  deep0 : T.deep.getD 0 0 = 0
theorem newT_wf : newT.wf where
  len := rfl
  one := by decide
  most := by decide
  root := rfl
  ok := fun i h1 h => by simp [newT] at h; omega
  low := fun d h => by simp [newT] at h; omega
  nodup := by simp [newT]
  deep0 := rfl
theorem push_wf {T : Tr} (W : T.wf) (at_ : Int) (p : Pl) : (pushT T at_ p).2.wf := by
  unfold pushT
  split
  · exact W
  rename_i h1
  split
  · exact W
  rename_i h2
  split
  · exact W
  rename_i h3
  split
  · exact W
  split
  · exact W
  rename_i h4 h5
  have hat : at_.toNat < T.nodes.length := by omega
  have hl := W.len
  have hm := W.most
  have h1' := W.one
  refine ⟨by simp [hl], by simp, by simp; omega, ?_, ?_, ?_, ?_, by rw [getD_low _ _ _ (by omega)]; exact W.deep0⟩
  · rw [getD_low _ _ _ (by omega)]
    exact W.root
  · intro i hi h
    have h' : i < T.nodes.length + 1 := by simpa using h
    by_cases e : i < T.nodes.length
    · obtain ⟨o1, o2, o3⟩ := W.ok i hi e
      simp only [List.getElem_append_left e]
      refine ⟨o1, o2, ?_⟩
      rw [getD_low _ _ _ (by omega), getD_low _ _ _ (by omega)]
      exact o3
    · obtain rfl : i = T.nodes.length := by omega
      simp only [List.getElem_concat_length]
      refine ⟨⟨by simp only; omega, by simp only; cases hb : mayB p.1 p.2; exact absurd hb h2; rfl⟩, hat, ?_⟩
      rw [← hl, getD_last, getD_low _ _ _ (by omega)]
  · intro d hd
    rcases List.mem_append.1 hd with hd | hd
    · exact W.low d hd
    · rw [List.mem_singleton.1 hd]; omega
  · rw [List.nodup_append]
    refine ⟨W.nodup, by simp, ?_⟩
    intro a ha b hb e
    rw [List.mem_singleton.1 hb] at e
    exact findN_none h4 (e ▸ ha)
end Go.Proofs.Ytmgfdcfbjgokgaa
