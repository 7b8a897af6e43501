/- The tree of stacks in plain words: paths, what is added is told again, where two meet. No program. -/
import Derived.Test.YtmgfdcfbjgokgaaTreAdd
import Derived.Test.YtmgfdcfbjgokgaaTreC
namespace Go.Proofs.Ytmgfdcfbjgokgaa
open Go Go.RowKit Go.Proofs.YtmgfdcfbjgokgaaW.PrintWords Go.Proofs.YtmgfdcfbjgokgaaW.PrintLast Go.Proofs.Ytmgfdcfbjgokgaa.PL
set_option linter.unusedVariables false
set_option linter.unusedSimpArgs false

def upT (T : Tr) (a : Nat) : Nat := (T.nodes.getD a (0, (⟨#[]⟩, 0))).1
theorem upT_lt {T : Tr} (hw : T.wf) {a : Nat} (h0 : 0 < a) (ha : a < T.nodes.length) : upT T a < a := by
  have := (hw.ok a h0 ha).2.1
  unfold upT
  rw [List.getD_eq_getElem?_getD, List.getElem?_eq_getElem ha]
  exact this
/-- The places of a node, the innermost first. -/
def pathUp (T : Tr) : Nat → Nat → List Pl
  | 0, _ => []
  | f + 1, n => if n = 0 then [] else (T.nodes.getD n (0, (⟨#[]⟩, 0))).2 :: pathUp T f (upT T n)
def stackT (T : Tr) (n : Nat) : List Pl := (pathUp T n n).reverse
theorem pathUp_fuel {T : Tr} (hw : T.wf) : ∀ (f n : Nat), n < T.nodes.length → n ≤ f → pathUp T f n = pathUp T n n
  | 0, n, _, h => by
    obtain rfl : n = 0 := by omega
    rfl
  | f + 1, n, hn, h => by
    by_cases h0 : n = 0
    · subst h0; rfl
    · obtain ⟨k, rfl⟩ : ∃ k, n = k + 1 := ⟨n - 1, by omega⟩
      have hu := upT_lt hw (a := k + 1) (by omega) hn
      show (if k + 1 = 0 then [] else _) = (if k + 1 = 0 then [] else _)
      rw [if_neg (by omega), if_neg (by omega), pathUp_fuel hw f _ (by omega) (by omega), pathUp_fuel hw k (upT T (k + 1)) (by omega) (by omega)]
theorem stack_zero (T : Tr) : stackT T 0 = [] := rfl
theorem stack_up {T : Tr} (hw : T.wf) {n : Nat} (h0 : 0 < n) (hn : n < T.nodes.length) : stackT T n = stackT T (upT T n) ++ [(T.nodes.getD n (0, (⟨#[]⟩, 0))).2] := by
  obtain ⟨k, rfl⟩ : ∃ k, n = k + 1 := ⟨n - 1, by omega⟩
  have hu := upT_lt hw (a := k + 1) (by omega) hn
  unfold stackT
  show (if k + 1 = 0 then [] else _ :: pathUp T k (upT T (k + 1))).reverse = _
  rw [if_neg (by omega), List.reverse_cons, pathUp_fuel hw k _ (by omega) (by omega)]
theorem deep_eq {T : Tr} (hw : T.wf) : ∀ (b n : Nat), n < b → n < T.nodes.length → T.deep.getD n 0 = (stackT T n).length
  | 0, _, h, _ => by omega
  | b + 1, n, hb, hn => by
    by_cases h0 : n = 0
    · subst h0; exact hw.deep0
    · have hu := upT_lt hw (a := n) (by omega) hn
      rw [stack_up hw (by omega) hn, List.length_append, ← deep_eq hw b (upT T n) (by omega) (by omega), (hw.ok n (by omega) hn).2.2]
      unfold upT
      rw [List.getD_eq_getElem?_getD (l := T.nodes), List.getElem?_eq_getElem hn]
      rfl
theorem stack_inj {T : Tr} (hw : T.wf) : ∀ (a b : Nat), a < T.nodes.length → b < T.nodes.length → stackT T a = stackT T b → a = b := by
  intro a
  induction a using Nat.strongRecOn with
  | _ a ih =>
    intro b ha hb h
    by_cases h0 : a = 0
    · subst h0
      by_cases h1 : b = 0
      · exact h1.symm
      · rw [stack_up hw (n := b) (by omega) hb, stack_zero] at h
        simp at h
    · by_cases h1 : b = 0
      · subst h1
        rw [stack_up hw (n := a) (by omega) ha, stack_zero] at h
        simp at h
      · have hua := upT_lt hw (a := a) (by omega) ha
        have hub := upT_lt hw (a := b) (by omega) hb
        rw [stack_up hw (n := a) (by omega) ha, stack_up hw (n := b) (by omega) hb] at h
        obtain ⟨h2, h3⟩ := List.append_inj' h rfl
        have e := ih (upT T a) hua (upT T b) (by omega) (by omega) h2
        have e2 : T.nodes[a] = T.nodes[b] := by
          unfold upT at e
          simp only [List.getD_eq_getElem?_getD, List.getElem?_eq_getElem ha, List.getElem?_eq_getElem hb, Option.getD_some, List.cons.injEq, and_true] at e h3
          exact Prod.ext e h3
        have hp := List.pairwise_iff_getElem.1 hw.nodup
        rcases Nat.lt_trichotomy a b with hlt | he | hlt
        · exact absurd e2 (hp a b ha hb hlt)
        · exact he
        · exact absurd e2.symm (hp b a hb ha hlt)
/-- T2 has what T has, and more behind it. -/
def Ext (T T2 : Tr) : Prop := (∃ m, T2.nodes = T.nodes ++ m) ∧ ∃ m, T2.deep = T.deep ++ m
theorem Ext.refl (T : Tr) : Ext T T := ⟨⟨[], by simp⟩, ⟨[], by simp⟩⟩
theorem Ext.trans {T T2 T3 : Tr} (h : Ext T T2) (h2 : Ext T2 T3) : Ext T T3 := by
  obtain ⟨⟨m, e⟩, ⟨n, e2⟩⟩ := h
  obtain ⟨⟨m2, e3⟩, ⟨n2, e4⟩⟩ := h2
  exact ⟨⟨m ++ m2, by rw [e3, e, List.append_assoc]⟩, ⟨n ++ n2, by rw [e4, e2, List.append_assoc]⟩⟩
theorem Ext.len {T T2 : Tr} (h : Ext T T2) : T.nodes.length ≤ T2.nodes.length := by obtain ⟨⟨m, e⟩, _⟩ := h; rw [e]; simp
theorem Ext.get {T T2 : Tr} (h : Ext T T2) {n : Nat} (hn : n < T.nodes.length) (d : Nd) : T2.nodes.getD n d = T.nodes.getD n d := by
  obtain ⟨⟨m, e⟩, _⟩ := h
  rw [e, List.getD_eq_getElem?_getD, List.getElem?_append_left hn, ← List.getD_eq_getElem?_getD]
theorem Ext.stack {T T2 : Tr} (h : Ext T T2) (hw : T.wf) (hw2 : T2.wf) : ∀ (n : Nat), n < T.nodes.length → stackT T2 n = stackT T n := by
  intro n
  induction n using Nat.strongRecOn with
  | _ n ih =>
    intro hn
    by_cases h0 : n = 0
    · subst h0; rfl
    · have hu := upT_lt hw (a := n) (by omega) hn
      have e : upT T2 n = upT T n := by unfold upT; rw [h.get hn]
      rw [stack_up hw2 (by omega) (by have := h.len; omega), stack_up hw (by omega) hn, e, ih _ hu (by omega), h.get hn]
theorem push_ext (T : Tr) (a : Int) (p : Pl) : Ext T (pushT T a p).2 := by
  unfold pushT
  split
  · exact Ext.refl T
  split
  · exact Ext.refl T
  split
  · exact Ext.refl T
  split
  · exact Ext.refl T
  split
  · exact Ext.refl T
  exact ⟨⟨_, rfl⟩, ⟨_, rfl⟩⟩
theorem push_len (T : Tr) (a : Int) (p : Pl) : (pushT T a p).2.nodes.length ≤ T.nodes.length + 1 := by
  unfold pushT
  split
  · simp
  split
  · simp
  split
  · simp
  split
  · simp
  split
  · simp
  simp
/-- A push that is well. -/
theorem push_ok {T : Tr} (hw : T.wf) {a : Nat} {p : Pl} (ha : a < T.nodes.length) (hp : mayB p.1 p.2 = true) (hd : (stackT T a).length < 64) (hf : T.nodes.length < 4096) :
    ∃ m, (pushT T a p).1 = (((m : Nat) : Int), (0 : Int)) ∧ m < (pushT T a p).2.nodes.length ∧ stackT (pushT T a p).2 m = stackT T a ++ [p] := by
  have hw2 := push_wf hw a p
  have hx := push_ext T a p
  have key : ∃ m, (pushT T a p).1 = (((m : Nat) : Int), (0 : Int)) ∧ (pushT T a p).2.nodes[m]? = some (a, p) := by
    unfold pushT
    rw [if_neg (by omega), if_neg (by rw [hp]; decide), Int.toNat_natCast, if_neg (by rw [deep_eq hw (a + 1) a (by omega) ha]; omega)]
    cases hn : findN T.nodes (a, p) with
    | some i => exact ⟨i, rfl, findN_some hn⟩
    | none => 
      simp only
      rw [if_neg (by omega)]
      exact ⟨T.nodes.length, rfl, by simp⟩
  obtain ⟨m, h1, h2⟩ := key
  obtain ⟨hm, h3⟩ := List.getElem?_eq_some_iff.1 h2
  refine ⟨m, h1, hm, ?_⟩
  have h0 : 0 < m := by
    rcases Nat.eq_zero_or_pos m with h0 | h0
    · subst h0
      have hr := hw2.root
      rw [List.getD_eq_getElem?_getD, h2] at hr
      simp only [Option.getD_some] at hr
      rw [Prod.mk.injEq] at hr
      rw [hr.2] at hp
      exact absurd hp (by decide)
    · exact h0
  rw [stack_up hw2 h0 hm]
  have e : (pushT T a p).2.nodes.getD m (0, (⟨#[]⟩, 0)) = (a, p) := by rw [List.getD_eq_getElem?_getD, h2]; rfl
  unfold upT
  rw [e, hx.stack hw hw2 a ha]
/-! #### 'Add' -/
theorem addGo_wf : ∀ (l : List Pl) (a : Int) {T : Tr}, T.wf → (addGo l a T).2.wf
  | [], a, T, h => h
  | p :: l, a, T, h => by
    unfold addGo
    split
    · exact push_wf h _ _
    · exact addGo_wf l _ (push_wf h _ _)
theorem add_wf {T : Tr} (h : T.wf) (l : List Pl) : (addT T l).2.wf := by
  unfold addT
  split
  · exact h
  · exact addGo_wf l 0 h
theorem addGo_ext : ∀ (l : List Pl) (a : Int) (T : Tr), Ext T (addGo l a T).2
  | [], a, T => Ext.refl T
  | p :: l, a, T => by
    unfold addGo
    split
    · exact push_ext _ _ _
    · exact (push_ext _ _ _).trans (addGo_ext l _ _)
theorem add_ext (T : Tr) (l : List Pl) : Ext T (addT T l).2 := by
  unfold addT
  split
  · exact Ext.refl T
  · exact addGo_ext l 0 T
theorem addGo_ok : ∀ (l : List Pl) (a : Nat) {T : Tr} (hw : T.wf), a < T.nodes.length → (∀ p ∈ l, mayB p.1 p.2 = true) → (stackT T a).length + l.length ≤ 64 → T.nodes.length + l.length ≤ 4096 →
    ∃ n, (addGo l a T).1 = (((n : Nat) : Int), (0 : Int)) ∧ n < (addGo l a T).2.nodes.length ∧ stackT (addGo l a T).2 n = stackT T a ++ l ∧ (addGo l a T).2.nodes.length ≤ T.nodes.length + l.length
  | [], a, T, hw, ha, _, _, _ => ⟨a, rfl, ha, by simp [addGo], by simp [addGo]⟩
  | p :: l, a, T, hw, ha, hp, hd, hf => by
    simp only [List.length_cons] at hd hf
    obtain ⟨m, h1, h2, h3⟩ := push_ok hw ha (hp p (List.mem_cons_self ..)) (by omega) (by omega)
    have hl := push_len T a p
    obtain ⟨n, h4, h5, h6, h7⟩ := addGo_ok l m (push_wf hw a p) h2 (fun q hq => hp q (List.mem_cons_of_mem _ hq)) (by rw [h3]; simp; omega) (by omega)
    unfold addGo
    rw [if_neg (by rw [h1]; simp), h1]
    exact ⟨n, h4, h5, by rw [h6, h3, List.append_assoc]; rfl, by simp only [List.length_cons]; omega⟩
theorem add_ok {T : Tr} (hw : T.wf) {l : List Pl} (hc : checkN l = 0) (hf : T.nodes.length + l.length ≤ 4096) :
    ∃ n, (addT T l).1 = (((n : Nat) : Int), (0 : Int)) ∧ n < (addT T l).2.nodes.length ∧ stackT (addT T l).2 n = l ∧ (addT T l).2.nodes.length ≤ T.nodes.length + l.length := by
  have hp : (∀ p ∈ l, mayB p.1 p.2 = true) ∧ l.length ≤ 64 := by
    unfold checkN at hc
    split at hc
    · rename_i h
      split at hc
      · cases hc
      · exact ⟨fun p hp => List.all_eq_true.1 h p hp, by omega⟩
    · cases hc
  unfold addT
  rw [if_neg (by rw [hc]; decide)]
  obtain ⟨n, h1, h2, h3, h4⟩ := addGo_ok l 0 hw hw.one hp.1 (by rw [stack_zero]; simp; exact hp.2) hf
  exact ⟨n, h1, h2, h3, h4⟩
/-- Added again: the same node. -/
theorem add_again {T : Tr} (hw : T.wf) {l : List Pl} (hc : checkN l = 0) (hf : T.nodes.length + l.length + l.length ≤ 4096) : (addT (addT T l).2 l).1 = (addT T l).1 := by
  obtain ⟨n, h1, h2, h3, h4⟩ := add_ok hw hc (by omega)
  obtain ⟨n2, g1, g2, g3, g4⟩ := add_ok (add_wf hw l) hc (by omega)
  have hx := add_ext (addT T l).2 l
  have e := stack_inj (add_wf (add_wf hw l) l) n n2 (by have := hx.len; omega) g2 (by rw [hx.stack (add_wf hw l) (add_wf (add_wf hw l) l) n h2, h3, g3])
  rw [g1, h1, e]
end Go.Proofs.Ytmgfdcfbjgokgaa
