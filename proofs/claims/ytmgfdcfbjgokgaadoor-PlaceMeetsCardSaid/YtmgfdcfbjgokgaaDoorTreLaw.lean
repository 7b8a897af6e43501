/- The tree of stacks in plain words: paths, what is added is told again, where two meet. No program. The tree of stacks in plain words: what is told is read as the tree. No program. -/
import Derived.Test.YtmgfdcfbjgokgaaDoorTreAdd
import Derived.Test.YtmgfdcfbjgokgaaDoorTreStk
import Derived.Test.YtmgfdcfbjgokgaaDoorFitS
import Derived.Test.YtmgfdcfbjgokgaaDoorTreTold
import Derived.Test.YtmgfdcfbjgokgaaDoorTreFrom
namespace Go.Proofs.YtmgfdcfbjgokgaaDoor
open Go Go.RowKit Go.Proofs.YtmgfdcfbjgokgaaDoorW.PrintWords Go.Proofs.YtmgfdcfbjgokgaaDoorW.PrintLast Go.Proofs.YtmgfdcfbjgokgaaDoor.PL
set_option linter.unusedVariables false
set_option linter.unusedSimpArgs false

theorem stack_zero (T : Tr) : stackT T 0 = [] := rfl
theorem stack_up {T : Tr} (hw : T.wf) {n : Nat} (h0 : 0 < n) (hn : n < T.nodes.length) : stackT T n = stackT T (upT T n) ++ [(T.nodes.getD n (0, (⟨#[]⟩, 0))).2] := by
  obtain ⟨k, rfl⟩ : ∃ k, n = k + 1 := ⟨n - 1, by omega⟩
  have hu := upT_lt hw (a := k + 1) (by omega) hn
  unfold stackT
  show (if k + 1 = 0 then [] else _ :: pathUp T k (upT T (k + 1))).reverse = _
  rw [if_neg (by omega), List.reverse_cons, pathUp_fuel hw k _ (by omega) (by omega)]
theorem deep_eq {T : Tr} (hw : T.wf) : ∀ (b n : Nat), n < b → n < T.nodes.length → T.deep.getD n 0 = (stackT T n).length
  | 0, _, h, _ => by omega
  | b + 1, n, hb, hn => by
    by_cases h0 : n = 0
    · subst h0; exact hw.deep0
    · have hu := upT_lt hw (a := n) (by omega) hn
      rw [stack_up hw (by omega) hn, List.length_append, ← deep_eq hw b (upT T n) (by omega) (by omega), (hw.ok n (by omega) hn).2.2]
      unfold upT
      rw [List.getD_eq_getElem?_getD (l := T.nodes), List.getElem?_eq_getElem hn]
      rfl
theorem stack_inj {T : Tr} (hw : T.wf) : ∀ (a b : Nat), a < T.nodes.length → b < T.nodes.length → stackT T a = stackT T b → a = b := by
  intro a
  induction a using Nat.strongRecOn with
  | _ a ih =>
    intro b ha hb h
    by_cases h0 : a = 0
    · subst h0
      by_cases h1 : b = 0
      · exact h1.symm
      · rw [stack_up hw (n := b) (by omega) hb, stack_zero] at h
        simp at h
    · by_cases h1 : b = 0
      · subst h1
        rw [stack_up hw (n := a) (by omega) ha, stack_zero] at h
        simp at h
      · have hua := upT_lt hw (a := a) (by omega) ha
        have hub := upT_lt hw (a := b) (by omega) hb
        rw [stack_up hw (n := a) (by omega) ha, stack_up hw (n := b) (by omega) hb] at h
        obtain ⟨h2, h3⟩ := List.append_inj' h rfl
        have e := ih (upT T a) hua (upT T b) (by omega) (by omega) h2
        have e2 : T.nodes[a] = T.nodes[b] := by
          unfold upT at e
          simp only [List.getD_eq_getElem?_getD, List.getElem?_eq_getElem ha, List.getElem?_eq_getElem hb, Option.getD_some, List.cons.injEq, and_true] at e h3
          exact Prod.ext e h3
        have hp := List.pairwise_iff_getElem.1 hw.nodup
        rcases Nat.lt_trichotomy a b with hlt | he | hlt
        · exact absurd e2 (hp a b ha hb hlt)
        · exact he
        · exact absurd e2.symm (hp b a hb ha hlt)
/-- T2 has what T has, and more behind it. -/
def Ext (T T2 : Tr) : Prop := (∃ m, T2.nodes = T.nodes ++ m) ∧ ∃ m, T2.deep = T.deep ++ m
theorem Ext.refl (T : Tr) : Ext T T := ⟨⟨[], by simp⟩, ⟨[], by simp⟩⟩
theorem Ext.trans {T T2 T3 : Tr} (h : Ext T T2) (h2 : Ext T2 T3) : Ext T T3 := by
  obtain ⟨⟨m, e⟩, ⟨n, e2⟩⟩ := h
  obtain ⟨⟨m2, e3⟩, ⟨n2, e4⟩⟩ := h2
  exact ⟨⟨m ++ m2, by rw [e3, e, List.append_assoc]⟩, ⟨n ++ n2, by rw [e4, e2, List.append_assoc]⟩⟩
theorem Ext.len {T T2 : Tr} (h : Ext T T2) : T.nodes.length ≤ T2.nodes.length := by obtain ⟨⟨m, e⟩, _⟩ := h; rw [e]; simp
theorem Ext.get {T T2 : Tr} (h : Ext T T2) {n : Nat} (hn : n < T.nodes.length) (d : Nd) : T2.nodes.getD n d = T.nodes.getD n d := by
  obtain ⟨⟨m, e⟩, _⟩ := h
  rw [e, List.getD_eq_getElem?_getD, List.getElem?_append_left hn, ← List.getD_eq_getElem?_getD]
theorem Ext.stack {T T2 : Tr} (h : Ext T T2) (hw : T.wf) (hw2 : T2.wf) : ∀ (n : Nat), n < T.nodes.length → stackT T2 n = stackT T n := by
  intro n
  induction n using Nat.strongRecOn with
  | _ n ih =>
    intro hn
    by_cases h0 : n = 0
    · subst h0; rfl
    · have hu := upT_lt hw (a := n) (by omega) hn
      have e : upT T2 n = upT T n := by unfold upT; rw [h.get hn]
      rw [stack_up hw2 (by omega) (by have := h.len; omega), stack_up hw (by omega) hn, e, ih _ hu (by omega), h.get hn]
theorem push_ext (T : Tr) (a : Int) (p : Pl) : Ext T (pushT T a p).2 := by
  unfold pushT
  split
  · exact Ext.refl T
  split
  · exact Ext.refl T
  split
  · exact Ext.refl T
  split
  · exact Ext.refl T
  split
  · exact Ext.refl T
  exact ⟨⟨_, rfl⟩, ⟨_, rfl⟩⟩
theorem push_len (T : Tr) (a : Int) (p : Pl) : (pushT T a p).2.nodes.length ≤ T.nodes.length + 1 := by
  unfold pushT
  split
  · simp
  split
  · simp
  split
  · simp
  split
  · simp
  split
  · simp
  simp
/-- A push that is well. -/
theorem push_ok {T : Tr} (hw : T.wf) {a : Nat} {p : Pl} (ha : a < T.nodes.length) (hp : mayB p.1 p.2 = true) (hd : (stackT T a).length < 64) (hf : T.nodes.length < 4096) :
    ∃ m, (pushT T a p).1 = (((m : Nat) : Int), (0 : Int)) ∧ m < (pushT T a p).2.nodes.length ∧ stackT (pushT T a p).2 m = stackT T a ++ [p] := by
  have hw2 := push_wf hw a p
  have hx := push_ext T a p
  have key : ∃ m, (pushT T a p).1 = (((m : Nat) : Int), (0 : Int)) ∧ (pushT T a p).2.nodes[m]? = some (a, p) := by
    unfold pushT
    rw [if_neg (by omega), if_neg (by rw [hp]; decide), Int.toNat_natCast, if_neg (by rw [deep_eq hw (a + 1) a (by omega) ha]; omega)]
    cases hn : findN T.nodes (a, p) with
    | some i => exact ⟨i, rfl, findN_some hn⟩
    | none => 
      simp only
      rw [if_neg (by omega)]
      exact ⟨T.nodes.length, rfl, by simp⟩
  obtain ⟨m, h1, h2⟩ := key
  obtain ⟨hm, h3⟩ := List.getElem?_eq_some_iff.1 h2
  refine ⟨m, h1, hm, ?_⟩
  have h0 : 0 < m := by
    rcases Nat.eq_zero_or_pos m with h0 | h0
    · subst h0
      have hr := hw2.root
      rw [List.getD_eq_getElem?_getD, h2] at hr
      simp only [Option.getD_some] at hr
      rw [Prod.mk.injEq] at hr
      rw [hr.2] at hp
      exact absurd hp (by decide)
    · exact h0
  rw [stack_up hw2 h0 hm]
  have e : (pushT T a p).2.nodes.getD m (0, (⟨#[]⟩, 0)) = (a, p) := by rw [List.getD_eq_getElem?_getD, h2]; rfl
  unfold upT
  rw [e, hx.stack hw hw2 a ha]
/-! #### 'Add' -/
theorem addGo_wf : ∀ (l : List Pl) (a : Int) {T : Tr}, T.wf → (addGo l a T).2.wf
  | [], a, T, h => h
  | p :: l, a, T, h => by
    unfold addGo
    split
    · exact push_wf h _ _
    · exact addGo_wf l _ (push_wf h _ _)
theorem add_wf {T : Tr} (h : T.wf) (l : List Pl) : (addT T l).2.wf := by
  unfold addT
  split
  · exact h
  · exact addGo_wf l 0 h
theorem addGo_ext : ∀ (l : List Pl) (a : Int) (T : Tr), Ext T (addGo l a T).2
  | [], a, T => Ext.refl T
  | p :: l, a, T => by
    unfold addGo
    split
    · exact push_ext _ _ _
    · exact (push_ext _ _ _).trans (addGo_ext l _ _)
theorem add_ext (T : Tr) (l : List Pl) : Ext T (addT T l).2 := by
  unfold addT
  split
  · exact Ext.refl T
  · exact addGo_ext l 0 T
theorem addGo_ok : ∀ (l : List Pl) (a : Nat) {T : Tr} (hw : T.wf), a < T.nodes.length → (∀ p ∈ l, mayB p.1 p.2 = true) → (stackT T a).length + l.length ≤ 64 → T.nodes.length + l.length ≤ 4096 →
    ∃ n, (addGo l a T).1 = (((n : Nat) : Int), (0 : Int)) ∧ n < (addGo l a T).2.nodes.length ∧ stackT (addGo l a T).2 n = stackT T a ++ l ∧ (addGo l a T).2.nodes.length ≤ T.nodes.length + l.length
  | [], a, T, hw, ha, _, _, _ => ⟨a, rfl, ha, by simp [addGo], by simp [addGo]⟩
  | p :: l, a, T, hw, ha, hp, hd, hf => by
    simp only [List.length_cons] at hd hf
    obtain ⟨m, h1, h2, h3⟩ := push_ok hw ha (hp p (List.mem_cons_self ..)) (by omega) (by omega)
    have hl := push_len T a p
    obtain ⟨n, h4, h5, h6, h7⟩ := addGo_ok l m (push_wf hw a p) h2 (fun q hq => hp q (List.mem_cons_of_mem _ hq)) (by rw [h3]; simp; omega) (by omega)
    unfold addGo
    rw [if_neg (by rw [h1]; simp), h1]
    exact ⟨n, h4, h5, by rw [h6, h3, List.append_assoc]; rfl, by simp only [List.length_cons]; omega⟩
theorem add_ok {T : Tr} (hw : T.wf) {l : List Pl} (hc : checkN l = 0) (hf : T.nodes.length + l.length ≤ 4096) :
    ∃ n, (addT T l).1 = (((n : Nat) : Int), (0 : Int)) ∧ n < (addT T l).2.nodes.length ∧ stackT (addT T l).2 n = l ∧ (addT T l).2.nodes.length ≤ T.nodes.length + l.length := by
  have hp : (∀ p ∈ l, mayB p.1 p.2 = true) ∧ l.length ≤ 64 := by
    unfold checkN at hc
    split at hc
    · rename_i h
      split at hc
      · cases hc
      · exact ⟨fun p hp => List.all_eq_true.1 h p hp, by omega⟩
    · cases hc
  unfold addT
  rw [if_neg (by rw [hc]; decide)]
  obtain ⟨n, h1, h2, h3, h4⟩ := addGo_ok l 0 hw hw.one hp.1 (by rw [stack_zero]; simp; exact hp.2) hf
  exact ⟨n, h1, h2, h3, h4⟩
/-- Added again: the same node. -/
theorem add_again {T : Tr} (hw : T.wf) {l : List Pl} (hc : checkN l = 0) (hf : T.nodes.length + l.length + l.length ≤ 4096) : (addT (addT T l).2 l).1 = (addT T l).1 := by
  obtain ⟨n, h1, h2, h3, h4⟩ := add_ok hw hc (by omega)
  obtain ⟨n2, g1, g2, g3, g4⟩ := add_ok (add_wf hw l) hc (by omega)
  have hx := add_ext (addT T l).2 l
  have e := stack_inj (add_wf (add_wf hw l) l) n n2 (by have := hx.len; omega) g2 (by rw [hx.stack (add_wf hw l) (add_wf (add_wf hw l) l) n h2, h3, g3])
  rw [g1, h1, e]
/-! #### 'Meet' -/
theorem pre_le {T : Tr} (hw : T.wf) : ∀ (b a : Nat), a < T.nodes.length → b < T.nodes.length → stackT T a <+: stackT T b → a ≤ b := by
  intro b
  induction b using Nat.strongRecOn with
  | _ b ih =>
    intro a ha hb h
    by_cases h0 : b = 0
    · subst h0
      rw [stack_zero] at h
      have := List.prefix_nil.1 h
      have := stack_inj hw a 0 ha hb (by rw [this]; rfl)
      omega
    · have hu := upT_lt hw (a := b) (by omega) hb
      rw [stack_up hw (by omega) hb] at h
      rcases List.prefix_concat_iff.1 h with h | h
      · have := stack_inj hw a b ha hb (by rw [h, ← stack_up hw (by omega) hb])
        omega
      · have := ih _ hu a ha (by omega) h
        omega
theorem commN_self (a : List Pl) : commN a a = a.length := by
  induction a with
  | nil => rfl
  | cons x a ih => simp [commN, ih]
theorem commN_snoc : ∀ (a b : List Pl) (x : Pl), ¬ (a ++ [x] <+: b) → commN (a ++ [x]) b = commN a b
  | [], [], x, h => by simp [commN]
  | [], y :: b, x, h => by
    have hne : x ≠ y := fun e => h (by subst e; exact ⟨b, rfl⟩)
    simp [commN, hne]
  | z :: a, [], x, h => by simp [commN]
  | z :: a, y :: b, x, h => by
    by_cases e : z = y
    · subst e
      have ih := commN_snoc a b x (fun hp => h (by simpa using hp))
      simp [commN, ih]
    · simp [commN, e]
theorem commN_symm : ∀ (a b : List Pl), commN a b = commN b a
  | [], [] => rfl
  | [], y :: b => by simp [commN]
  | z :: a, [] => by simp [commN]
  | z :: a, y :: b => by
    by_cases e : z = y
    · subst e; simp [commN, commN_symm a b]
    · simp [commN, e, Ne.symm e]
theorem commN_take : ∀ (a b : List Pl), a.take (commN a b) = b.take (commN a b)
  | [], b => by cases b <;> simp [commN]
  | z :: a, [] => by simp [commN]
  | z :: a, y :: b => by
    by_cases e : z = y
    · subst e; simp [commN, commN_take a b]
    · simp [commN, e]
theorem meetGo_stack {T : Tr} (hw : T.wf) : ∀ (f a b : Nat), a < T.nodes.length → b < T.nodes.length → a + b < f → meetGo T f a b < T.nodes.length ∧ stackT T (meetGo T f a b) = (stackT T a).take (commN (stackT T a) (stackT T b))
  | 0, a, b, _, _, h => by omega
  | f + 1, a, b, ha, hb, h => by
    unfold meetGo
    split
    · rename_i e
      subst e
      exact ⟨ha, by rw [commN_self, List.take_length]⟩
    · rename_i hne
      split
      · rename_i hlt
        have hu := upT_lt hw (a := a) (by omega) ha
        obtain ⟨h1, h2⟩ := meetGo_stack hw f (upT T a) b (by omega) hb (by omega)
        refine ⟨h1, ?_⟩
        have hs := stack_up hw (n := a) (by omega) ha
        have hc : commN (stackT T a) (stackT T b) = commN (stackT T (upT T a)) (stackT T b) := by
          rw [hs]
          refine commN_snoc _ _ _ (fun hp => ?_)
          rw [← hs] at hp
          have := pre_le hw b a ha hb hp
          omega
        rw [h2, hc]
        have e : (stackT T a).take (commN (stackT T (upT T a)) (stackT T b)) = (stackT T b).take (commN (stackT T (upT T a)) (stackT T b)) := by
          have := commN_take (stackT T a) (stackT T b)
          rw [hc] at this
          exact this
        rw [e, commN_take]
      · rename_i hlt
        have hu := upT_lt hw (a := b) (by omega) hb
        obtain ⟨h1, h2⟩ := meetGo_stack hw f a (upT T b) ha (by omega) (by omega)
        refine ⟨h1, ?_⟩
        have hs := stack_up hw (n := b) (by omega) hb
        have hc : commN (stackT T a) (stackT T b) = commN (stackT T a) (stackT T (upT T b)) := by
          rw [commN_symm, hs, commN_symm (stackT T a)]
          refine commN_snoc _ _ _ (fun hp => ?_)
          rw [← hs] at hp
          have := pre_le hw a b hb ha hp
          omega
        rw [h2, hc]
end Go.Proofs.YtmgfdcfbjgokgaaDoor
namespace Go.Proofs.YtmgfdcfbjgokgaaDoor
open Go Go.RowKit Go.Proofs.YtmgfdcfbjgokgaaDoorW.PrintWords Go.Proofs.YtmgfdcfbjgokgaaDoorW.PrintLast Go.Proofs.YtmgfdcfbjgokgaaDoor.PL
set_option linter.unusedVariables false
set_option linter.unusedSimpArgs false

theorem nums_data (xs : List Int) : (strOfNums xs).data.toList = xs.map fun n => UInt8.ofNat n.toNat := strOfNums_data xs
theorem nums_extract (xs : List Int) (a b : Nat) : (strOfNums xs).extract a b = strOfNums ((xs.take b).drop a) := by
  apply bs_ext
  rw [nums_data, ByteArray.data_extract, Array.toList_extract, nums_data, List.extract_eq_take_drop, List.map_drop, List.map_take]
  rw [List.take_drop]
  rcases Nat.le_total a b with h | h
  · rw [show a + (b - a) = b by omega]
  · rw [show a + (b - a) = a by omega, List.drop_eq_nil_of_le (by rw [List.length_take]; omega), List.drop_eq_nil_of_le (by rw [List.length_take]; omega)]
theorem nums_bytesOf (s : ByteArray) : strOfNums (bytesOf s) = s := by
  apply bs_ext
  rw [nums_data]
  unfold bytesOf
  rw [List.map_map]
  refine (List.map_congr_left (fun b _ => ?_)).trans (List.map_id _)
  show UInt8.ofNat ((b.toNat : Nat) : Int).toNat = b
  rw [Int.toNat_natCast, UInt8.ofNat_toNat]
theorem bN_nums (xs : List Int) (i : Nat) (n : Nat) (h : xs[i]? = some (n : Int)) (hn : n < 256) : bN (strOfNums xs) i = n := by
  obtain ⟨hl, he⟩ := List.getElem?_eq_some_iff.1 h
  have hs : i < (strOfNums xs).size := by rw [strOfNums_size]; exact hl
  have h1 := bt_at (strOfNums xs) (i : Int) (by rw [Int.toNat_natCast]; exact hs)
  unfold bN
  rw [← h1]
  simp only [Int.toNat_natCast]
  have h2 : (strOfNums xs)[i]'hs = (strOfNums xs).data.toList[i]'(by rw [nums_data, List.length_map]; exact hl) := by simp [ByteArray.getElem_eq_getElem_data]
  rw [h2]
  simp only [nums_data, List.getElem_map, he, Int.toNat_natCast, UInt8.toNat_ofNat']
  omega
theorem numP_enc (n most : Nat) (bad : Bool) (r : List Int) (hn : n < 2097152) : numP (strOfNums (encS n ++ r)) bad most = (n, strOfNums r, bad || decide (most < n)) := by
  have hx : ∀ (j : Nat) (a : List Int), a.length = j + 1 → (strOfNums (a ++ r)).extract (j + 1) (strOfNums (a ++ r)).size = strOfNums r := fun j a ha => by
    rw [nums_extract, strOfNums_size, List.take_length, ← ha, List.drop_left]
  unfold encS
  by_cases h1 : n < 128
  · rw [if_pos h1]
    have b0 := bN_nums ([(n : Int)] ++ r) 0 n rfl (by omega)
    have hz : 0 < (strOfNums ([(n : Int)] ++ r)).size := by rw [strOfNums_size]; simp
    have hg : numG (strOfNums ([(n : Int)] ++ r)) 4 0 0 = some (n, 0) := by
      unfold numG
      rw [if_pos hz, b0, if_pos h1]
      congr 2
      omega
    unfold numP
    rw [hg]
    simp only
    rw [hx 0 [(n : Int)] rfl]
    simp
  · rw [if_neg h1]
    by_cases h2 : n < 16384
    · rw [if_pos h2]
      obtain ⟨a, ha⟩ : ∃ a, a = n % 128 + 128 := ⟨_, rfl⟩
      obtain ⟨b, hb⟩ : ∃ b, b = n / 128 := ⟨_, rfl⟩
      rw [← ha, ← hb]
      have b0 := bN_nums ([(a : Int), (b : Int)] ++ r) 0 a rfl (by omega)
      have b1 := bN_nums ([(a : Int), (b : Int)] ++ r) 1 b rfl (by omega)
      have hz : 1 < (strOfNums ([(a : Int), (b : Int)] ++ r)).size := by rw [strOfNums_size]; simp
      have hg : numG (strOfNums ([(a : Int), (b : Int)] ++ r)) 4 0 0 = some (n, 1) := by
        unfold numG
        rw [if_pos (by omega), b0, if_neg (by omega)]
        unfold numG
        rw [if_pos hz, b1, if_pos (by omega)]
        congr 2
        omega
      unfold numP
      rw [hg]
      simp only
      rw [hx 1 [(a : Int), (b : Int)] rfl, b1]
      rw [decide_eq_false (show ¬ b = 0 by omega)]
      simp
    · rw [if_neg h2]
      obtain ⟨a, ha⟩ : ∃ a, a = n % 128 + 128 := ⟨_, rfl⟩
      obtain ⟨b, hb⟩ : ∃ b, b = n / 128 % 128 + 128 := ⟨_, rfl⟩
      obtain ⟨c, hc⟩ : ∃ c, c = n / 16384 := ⟨_, rfl⟩
      rw [← ha, ← hb, ← hc]
      have b0 := bN_nums ([(a : Int), (b : Int), (c : Int)] ++ r) 0 a rfl (by omega)
      have b1 := bN_nums ([(a : Int), (b : Int), (c : Int)] ++ r) 1 b rfl (by omega)
      have b2 := bN_nums ([(a : Int), (b : Int), (c : Int)] ++ r) 2 c rfl (by omega)
      have hz : 2 < (strOfNums ([(a : Int), (b : Int), (c : Int)] ++ r)).size := by rw [strOfNums_size]; simp
      have hg : numG (strOfNums ([(a : Int), (b : Int), (c : Int)] ++ r)) 4 0 0 = some (n, 2) := by
        unfold numG
        rw [if_pos (by omega), b0, if_neg (by omega)]
        unfold numG
        rw [if_pos (by omega), b1, if_neg (by omega)]
        unfold numG
        rw [if_pos hz, b2, if_pos (by omega)]
        congr 2
        omega
      unfold numP
      rw [hg]
      simp only
      rw [hx 2 [(a : Int), (b : Int), (c : Int)] rfl, b2]
      rw [decide_eq_false (show ¬ c = 0 by omega)]
      simp
theorem textP_enc (s : ByteArray) (r : List Int) : textP (strOfNums (bytesOf s ++ r)) false s.size = (s, strOfNums r, false) := by
  have hl := bytesOf_length s
  unfold textP
  rw [if_neg (by decide), if_neg (by rw [strOfNums_size, List.length_append, hl]; omega), nums_extract, nums_extract, strOfNums_size, List.take_length, List.drop_zero, ← hl, List.take_left, List.drop_left, nums_bytesOf]
theorem gotP_enc (i : Nat) (x : Nd) (r : List Int) (hi : i < 4096) (h1 : x.1 ≤ i) (hm : mayB x.2.1 x.2.2 = true) : gotP i (strOfNums (toldN i x ++ r)) false = ⟨(x.1 : Int), x.2.1, x.2.2.toNat, strOfNums r, false⟩ := by
  have hp := may_parts hm
  unfold toldN
  have e1 : numP (strOfNums (encS (i + 1 - x.1) ++ encS x.2.1.size ++ bytesOf x.2.1 ++ encS x.2.2.toNat ++ r)) false (i + 1) = (i + 1 - x.1, strOfNums (encS x.2.1.size ++ (bytesOf x.2.1 ++ (encS x.2.2.toNat ++ r))), false) := by
    rw [List.append_assoc, List.append_assoc, List.append_assoc, numP_enc _ _ _ _ (by omega)]
    rw [decide_eq_false (show ¬ i + 1 < i + 1 - x.1 by omega)]
    rfl
  have e2 : numP (strOfNums (encS x.2.1.size ++ (bytesOf x.2.1 ++ (encS x.2.2.toNat ++ r)))) false 120 = (x.2.1.size, strOfNums (bytesOf x.2.1 ++ (encS x.2.2.toNat ++ r)), false) := by
    rw [numP_enc _ _ _ _ (by omega), decide_eq_false (show ¬ 120 < x.2.1.size by omega)]
    rfl
  have e3 := textP_enc x.2.1 (encS x.2.2.toNat ++ r)
  have e4 : numP (strOfNums (encS x.2.2.toNat ++ r)) false 1048576 = (x.2.2.toNat, strOfNums r, false) := by
    rw [numP_enc _ _ _ _ (by omega), decide_eq_false (show ¬ 1048576 < x.2.2.toNat by omega)]
    rfl
  rw [gotP_eq e1 e2 e3 e4]
  congr 1
  omega
theorem from_go {T : Tr} (hw : T.wf) : ∀ (f i : Nat), i + f + 1 = T.nodes.length → fromGo f i ⟨T.nodes.take (i + 1), T.deep.take (i + 1)⟩ (strOfNums (toldGo (T.nodes.drop (i + 1)) i)) false = some T
  | 0, i, h => by
    unfold fromGo
    rw [List.drop_eq_nil_of_le (by omega), List.take_of_length_le (by omega), List.take_of_length_le (by rw [hw.len]; omega)]
    rfl
  | f + 1, i, h => by
    have hi : i + 1 < T.nodes.length := by omega
    have hmost := hw.most
    obtain ⟨o1, o2, o3⟩ := hw.ok (i + 1) (by omega) hi
    rw [List.drop_eq_getElem_cons hi]
    obtain ⟨x, hx⟩ : ∃ x, x = T.nodes[i + 1] := ⟨_, rfl⟩
    rw [← hx] at o1 o2 o3 ⊢
    have hmp := may_parts o1.may
    have hgot := gotP_enc i x (toldGo (T.nodes.drop (i + 1 + 1)) (i + 1)) (by omega) (by omega) o1.may
    have hdl : i + 1 < T.deep.length := by rw [hw.len]; exact hi
    have htl : (T.nodes.take (i + 1)).length = i + 1 := by rw [List.length_take]; omega
    have hd1 : (T.deep.take (i + 1)).getD x.1 0 = T.deep.getD x.1 0 := by
      rw [List.getD_eq_getElem?_getD, List.getElem?_take, if_pos o2, ← List.getD_eq_getElem?_getD]
    have hdi : T.deep.getD (i + 1) 0 = T.deep[i + 1] := by rw [List.getD_eq_getElem?_getD, List.getElem?_eq_getElem hdl]; rfl
    have hlow := hw.low T.deep[i + 1] (List.getElem_mem _)
    have hfind : findN (T.nodes.take (i + 1)) (x.1, x.2) = none := by
      cases hf : findN (T.nodes.take (i + 1)) (x.1, x.2) with
      | none => rfl
      | some j =>
        have hj := findN_some hf
        obtain ⟨hjl, hje⟩ := List.getElem?_eq_some_iff.1 hj
        rw [htl] at hjl
        rw [List.getElem_take] at hje
        exact absurd (hje.trans hx) (List.pairwise_iff_getElem.1 hw.nodup j (i + 1) (by omega) hi hjl)
    have hZ : ((x.2.2.toNat : Nat) : Int) = x.2.2 := by omega
    have hpush : pushT ⟨T.nodes.take (i + 1), T.deep.take (i + 1)⟩ (x.1 : Int) (x.2.1, ((x.2.2.toNat : Nat) : Int)) = (((i : Int) + 1, 0), (⟨T.nodes.take (i + 1 + 1), T.deep.take (i + 1 + 1)⟩ : Tr)) := by
      rw [hZ]
      unfold pushT
      rw [if_neg (by simp only [htl]; omega), if_neg (by rw [o1.may]; decide), Int.toNat_natCast, if_neg (by simp only; rw [hd1]; omega)]
      simp only
      rw [hfind]
      simp only
      rw [if_neg (by rw [htl]; omega), htl, hd1, List.take_succ_eq_append_getElem hi, List.take_succ_eq_append_getElem hdl, ← hx, ← hdi, o3]
      rfl
    have htg : toldGo (x :: T.nodes.drop (i + 1 + 1)) i = toldN i x ++ toldGo (T.nodes.drop (i + 1 + 1)) (i + 1) := rfl
    unfold fromGo
    rw [htg, hgot, if_neg (by simp)]
    simp only
    rw [hpush, if_neg (by simp)]
    exact from_go hw f (i + 1) (by omega)
/-- What is told of a tree is read as the tree. -/
theorem from_told {T : Tr} (hw : T.wf) : fromT (strOfNums (toldI T)) = some T := by
  have h1 := hw.one
  have hm := hw.most
  have hN : numP (strOfNums (toldI T)) false 4095 = (T.nodes.length - 1, strOfNums (toldGo (T.nodes.drop 1) 0), false) := by
    unfold toldI
    rw [numP_enc _ _ _ _ (by omega), decide_eq_false (show ¬ 4095 < T.nodes.length - 1 by omega)]
    rfl
  unfold fromT
  rw [hN]
  have e : newT = (⟨T.nodes.take (0 + 1), T.deep.take (0 + 1)⟩ : Tr) := by
    have hr := hw.root
    have hd := hw.deep0
    have hl := hw.len
    unfold newT
    rw [List.take_succ_eq_append_getElem (by omega), List.take_succ_eq_append_getElem (by omega)]
    rw [List.getD_eq_getElem?_getD, List.getElem?_eq_getElem (by omega)] at hr hd
    simp only [Option.getD_some] at hr hd
    rw [hr, hd]
    rfl
  rw [e]
  exact from_go hw (T.nodes.length - 1) 0 (by omega)
end Go.Proofs.YtmgfdcfbjgokgaaDoor
