/- The ends of a tree in plain words: a stack of 64, a tree of 4096. No program. -/
import Derived.Test.YtmgfdcfbjgokgaaTreLaw
import Derived.Test.YtmgfdcfbjgokgaaTreNil
namespace Go.Proofs.Ytmgfdcfbjgokgaa
open Go Go.RowKit Go.Maps Go.Proofs.YtmgfdcfbjgokgaaW.PrintWords Go.Proofs.YtmgfdcfbjgokgaaW.PrintLast Go.Proofs.YtmgfdcfbjgokgaaW.PrintMore Go.Proofs.Ytmgfdcfbjgokgaa.PL
set_option linter.unusedVariables false
set_option linter.unusedSimpArgs false

theorem may_f {n : Int} (h0 : 0 ≤ n) (h1 : n ≤ 1048576) : mayB ⟨#[102]⟩ n = true := by
  unfold mayB
  rw [decide_eq_true h0, decide_eq_true h1]
  rfl
theorem may_g {n : Int} (h0 : 0 ≤ n) (h1 : n ≤ 1048576) : mayB ⟨#[103]⟩ n = true := by
  unfold mayB
  rw [decide_eq_true h0, decide_eq_true h1]
  rfl
/-- The first i of the 65 places. -/
def fs (i : Nat) : List S24 := (List.range i).map fun (k : Nat) => (⟨⟨#[102]⟩, 1048576 - (k : Int)⟩ : S24)
theorem fs_len (i : Nat) : (fs i).length = i := by simp [fs]
theorem fs_succ (i : Nat) : fs (i + 1) = fs i ++ [⟨⟨#[102]⟩, 1048576 - (i : Int)⟩] := by simp [fs, List.range_succ]
theorem fs_take {i j : Nat} (h : j ≤ i) : (fs i).take j = fs j := by
  unfold fs
  rw [← List.map_take, List.take_range, Nat.min_eq_left h]
theorem fs_mem {i : Nat} {p : Pl} (hi : i ≤ 65) (h : p ∈ (fs i).map toPl) : p.1 = ⟨#[102]⟩ ∧ 1048512 ≤ p.2 ∧ p.2 ≤ 1048576 := by
  unfold fs at h
  rw [List.map_map] at h
  obtain ⟨k, hk, rfl⟩ := List.mem_map.1 h
  have := List.mem_range.1 hk
  exact ⟨rfl, by show (1048512 : Int) ≤ 1048576 - (k : Int); omega, by show (1048576 : Int) - (k : Int) ≤ 1048576; omega⟩
theorem fs_may {i : Nat} (hi : i ≤ 65) : ∀ p ∈ (fs i).map toPl, mayB p.1 p.2 = true := fun p hp => by
  obtain ⟨h1, h2, h3⟩ := fs_mem hi hp
  rw [h1]
  exact may_f (by omega) h3
theorem check_fs {i : Nat} (hi : i ≤ 65) : checkN ((fs i).map toPl) = if i > 64 then 31 else 0 := by
  unfold checkN
  rw [if_pos (List.all_eq_true.2 (fun p hp => fs_may hi p hp)), List.length_map, fs_len]
theorem check_one (s : ByteArray) (n : Int) : checkN [(s, n)] = if mayB s n then 0 else 30 := by
  unfold checkN
  simp only [List.all_cons, List.all_nil, Bool.and_true, List.length_cons, List.length_nil]
  cases mayB s n <;> rfl
theorem findN_not {nodes : List Nd} {x : Nd} (h : x ∉ nodes) : findN nodes x = none := by
  cases hf : findN nodes x with
  | none => rfl
  | some i => exact absurd (List.mem_of_getElem? (findN_some hf)) h
/-- Places pushed behind the last node, one behind the other. -/
theorem addGo_chain : ∀ (l : List Pl) (T : Tr) (a : Nat), T.wf → a + 1 = T.nodes.length → (∀ p ∈ l, mayB p.1 p.2 = true) → T.deep.getD a 0 + l.length ≤ 64 → T.nodes.length + l.length ≤ 4096 →
    ∃ T2, addGo l (a : Int) T = ((((a + l.length : Nat) : Int), (0 : Int)), T2) ∧ T2.wf ∧ T2.nodes.length = T.nodes.length + l.length ∧ T2.deep.getD (a + l.length) 0 = T.deep.getD a 0 + l.length ∧ ∀ x ∈ T2.nodes, x ∈ T.nodes ∨ x.2 ∈ l
  | [], T, a, hw, ha, _, _, _ => ⟨T, rfl, hw, rfl, rfl, fun x hx => .inl hx⟩
  | p :: l, T, a, hw, ha, hp, hd, hf => by
    simp only [List.length_cons] at hd hf
    have hm := hp p (List.mem_cons_self ..)
    have hno : (a, p) ∉ T.nodes := fun h => by
      obtain ⟨j, hj, e⟩ := List.mem_iff_getElem.1 h
      rcases Nat.eq_zero_or_pos j with h0 | h0
      · subst h0
        have hr := hw.root
        rw [List.getD_eq_getElem?_getD, List.getElem?_eq_getElem hj, e] at hr
        simp only [Option.getD_some, Prod.mk.injEq] at hr
        rw [hr.2] at hm
        exact absurd hm (by decide)
      · have := (hw.ok j h0 hj).2.1
        rw [e] at this
        simp only at this
        omega
    have hpush : pushT T (a : Int) p = ((((T.nodes.length : Nat) : Int), (0 : Int)), (⟨T.nodes ++ [(a, p)], T.deep ++ [T.deep.getD a 0 + 1]⟩ : Tr)) := by
      unfold pushT
      rw [if_neg (by omega), if_neg (by rw [hm]; decide), Int.toNat_natCast, if_neg (by omega), findN_not hno]
      simp only
      rw [if_neg (by omega)]
    have hw2 := push_wf hw (a : Int) p
    rw [hpush] at hw2
    have hdl : a < T.deep.length := by rw [hw.len]; omega
    have e2 : (T.deep ++ [T.deep.getD a 0 + 1]).getD (a + 1) 0 = T.deep.getD a 0 + 1 := by
      have : a + 1 = T.deep.length := by rw [hw.len]; exact ha
      rw [this, getD_last]
    obtain ⟨T2, h1, h2, h3, h4, h5⟩ := addGo_chain l _ (a + 1) hw2 (by simp; omega) (fun q hq => hp q (List.mem_cons_of_mem _ hq)) (by rw [e2]; omega) (by simp; omega)
    refine ⟨T2, ?_, h2, by simp at h3; simp; omega, by rw [e2] at h4; simp only [List.length_cons]; rw [show a + (l.length + 1) = a + 1 + l.length by omega]; omega, fun x hx => ?_⟩
    · unfold addGo
      rw [hpush, if_neg (by simp)]
      simp only
      rw [← ha]
      refine h1.trans ?_
      simp only [List.length_cons]
      congr 3
      omega
    · rcases h5 x hx with h | h
      · rcases List.mem_append.1 h with h | h
        · exact .inl h
        · rw [List.mem_singleton.1 h]
          exact .inr (List.mem_cons_self ..)
      · exact .inr (List.mem_cons_of_mem _ h)
/-- The tree of the 64 places. -/
theorem add_64 : ∃ T, addT newT ((fs 64).map toPl) = (((64 : Int), (0 : Int)), T) ∧ T.wf ∧ T.nodes.length = 65 ∧ T.deep.getD 64 0 = 64 ∧ (∀ x ∈ T.nodes, x.2.1 ≠ ⟨#[103]⟩) ∧ (0, ((⟨#[102]⟩, 1) : Pl)) ∉ T.nodes := by
  have hl : ((fs 64).map toPl).length = 64 := by rw [List.length_map, fs_len]
  obtain ⟨T, h1, h2, h3, h4, h5⟩ := addGo_chain ((fs 64).map toPl) newT 0 newT_wf rfl (fs_may (by decide)) (by rw [hl]; decide) (by rw [hl]; decide)
  rw [hl] at h1 h3 h4
  have hx : ∀ x ∈ T.nodes, x = (0, (⟨#[]⟩, 0)) ∨ (x.2.1 = ⟨#[102]⟩ ∧ 1048512 ≤ x.2.2) := fun x hx => by
    rcases h5 x hx with h | h
    · exact .inl (List.mem_singleton.1 h)
    · have := fs_mem (by decide) h
      exact .inr ⟨this.1, this.2.1⟩
  refine ⟨T, ?_, h2, h3, h4, fun x hm => ?_, fun hm => ?_⟩
  · unfold addT
    rw [check_fs (by decide), if_neg (by decide)]
    exact h1
  · rcases hx x hm with rfl | ⟨h, _⟩
    · decide
    · rw [h]; decide
  · rcases hx _ hm with h | ⟨_, h⟩
    · exact absurd (congrArg (fun y : Nd => y.2.1) h) (by decide)
    · exact absurd h (by decide)
def gN (k : Nat) : Nd := (0, (⟨#[103]⟩, (k : Int)))
/-- The tree with k places at the root behind it. -/
def gT (T : Tr) (k : Nat) : Tr := ⟨T.nodes ++ (List.range k).map gN, T.deep ++ List.replicate k 1⟩
theorem gT_zero (T : Tr) : gT T 0 = T := by simp [gT]
theorem gT_len {T : Tr} (h : T.nodes.length = 65) (k : Nat) : (gT T k).nodes.length = 65 + k := by simp [gT, h]
theorem gN_mem {T : Tr} (hno : ∀ x ∈ T.nodes, x.2.1 ≠ ⟨#[103]⟩) {k : Nat} {n : Int} (h : ((0, (⟨#[103]⟩, n)) : Nd) ∈ (gT T k).nodes) : n < k := by
  rcases List.mem_append.1 h with h | h
  · exact absurd rfl (hno _ h)
  · obtain ⟨j, hj, e⟩ := List.mem_map.1 h
    have := List.mem_range.1 hj
    simp only [gN, Prod.mk.injEq, true_and] at e
    omega
theorem push_gT {T : Tr} (hw : T.wf) (h65 : T.nodes.length = 65) (hno : ∀ x ∈ T.nodes, x.2.1 ≠ ⟨#[103]⟩) {k : Nat} (hk : k < 4031) : pushT (gT T k) 0 (⟨#[103]⟩, (k : Int)) = ((((65 + k : Nat) : Int), (0 : Int)), gT T (k + 1)) := by
  have hl := gT_len h65 k
  have hd : (gT T k).deep.getD 0 0 = 0 := by
    have h1 : 0 < T.deep.length := by rw [hw.len]; omega
    have h2 := hw.deep0
    unfold gT
    rw [List.getD_eq_getElem?_getD, List.getElem?_append_left h1, ← List.getD_eq_getElem?_getD]
    exact h2
  have hn : findN (gT T k).nodes (0, (⟨#[103]⟩, (k : Int))) = none := findN_not (fun h => by have := gN_mem hno h; omega)
  unfold pushT
  rw [if_neg (by omega), if_neg (by rw [may_g (by omega) (by omega)]; decide), show (0 : Int).toNat = 0 from rfl, if_neg (by rw [hd]; decide), hn]
  simp only
  rw [if_neg (by omega), hl, hd]
  simp [gT, List.range_succ, gN, List.replicate_succ']
theorem gT_wf {T : Tr} (hw : T.wf) (h65 : T.nodes.length = 65) (hno : ∀ x ∈ T.nodes, x.2.1 ≠ ⟨#[103]⟩) : ∀ k, k ≤ 4031 → (gT T k).wf
  | 0, _ => by rw [gT_zero]; exact hw
  | k + 1, hk => by
    have := push_wf (gT_wf hw h65 hno k (by omega)) 0 (⟨#[103]⟩, (k : Int))
    rw [push_gT hw h65 hno (by omega)] at this
    exact this
theorem push_f_full {T : Tr} (hw : T.wf) (h65 : T.nodes.length = 65) (hno : ∀ x ∈ T.nodes, x.2.1 ≠ ⟨#[103]⟩) (hf : (0, ((⟨#[102]⟩, 1) : Pl)) ∉ T.nodes) : pushT (gT T 4031) 0 (⟨#[102]⟩, 1) = (((0 : Int), (3 : Int)), gT T 4031) := by
  have hl := gT_len h65 4031
  have hd := (gT_wf hw h65 hno 4031 (Nat.le_refl _)).deep0
  have hn : findN (gT T 4031).nodes (0, (⟨#[102]⟩, 1)) = none := findN_not (fun h => by
    rcases List.mem_append.1 h with h | h
    · exact hf h
    · obtain ⟨j, _, e⟩ := List.mem_map.1 h
      exact absurd (congrArg (fun y : Nd => y.2.1) e) (by simp only [gN]; decide))
  unfold pushT
  rw [if_neg (by omega), if_neg (by rw [may_f (by decide) (by decide)]; decide), show (0 : Int).toNat = 0 from rfl, if_neg (by rw [hd]; decide), hn]
  exact if_pos (by omega)
theorem push_g_found {T : Tr} (hw : T.wf) (h65 : T.nodes.length = 65) (hno : ∀ x ∈ T.nodes, x.2.1 ≠ ⟨#[103]⟩) : pushT (gT T 4031) 0 (⟨#[103]⟩, 9) = (((74 : Int), (0 : Int)), gT T 4031) := by
  have hl := gT_len h65 4031
  have hw2 := gT_wf hw h65 hno 4031 (Nat.le_refl _)
  have hd := hw2.deep0
  have h74 : (gT T 4031).nodes[74]? = some (0, (⟨#[103]⟩, 9)) := by
    unfold gT
    rw [List.getElem?_append_right (by omega), h65, List.getElem?_map, List.getElem?_range (by decide)]
    rfl
  have hn : findN (gT T 4031).nodes (0, (⟨#[103]⟩, 9)) = some 74 := by
    cases hf : findN (gT T 4031).nodes (0, (⟨#[103]⟩, 9)) with
    | none => exact absurd (List.mem_of_getElem? h74) (findN_none hf)
    | some j =>
      obtain ⟨j1, e1⟩ := List.getElem?_eq_some_iff.1 (findN_some hf)
      obtain ⟨j2, e2⟩ := List.getElem?_eq_some_iff.1 h74
      have hp := List.pairwise_iff_getElem.1 hw2.nodup
      rcases Nat.lt_trichotomy j 74 with hlt | he | hlt
      · exact absurd (e1.trans e2.symm) (hp j 74 j1 j2 hlt)
      · rw [he]
      · exact absurd (e2.trans e1.symm) (hp 74 j j2 j1 hlt)
  unfold pushT
  rw [if_neg (by omega), if_neg (by rw [may_g (by decide) (by decide)]; decide), show (0 : Int).toNat = 0 from rfl, if_neg (by rw [hd]; decide), hn]
  rfl
end Go.Proofs.Ytmgfdcfbjgokgaa
