/- Lists of kids that grow, where the world about them turns in between. -/
import Derived.Test.YtbbpngoffpegbaaGreatDoorVaQ
namespace Go.Proofs.YtbbpngoffpegbaaGreatDoor
open Go.RowKit
set_option linter.unusedVariables false
set_option linter.unusedSimpArgs false
/-- Behind an append of kids that lie elsewhere. -/
theorem Kids.push2 {sz : Nat} {e : TypeId} {base n : Nat} {w1 w' : World} {v v' : Value} {ts us : List Tr} {xs cs : List Value} {F G : List Nat} (h : Kids sz e base w1 v ts xs F) (hF : ∀ b ∈ F, b < n) (hv : ∀ g, v.ownBlock = some g → g < n) (hb : base ≤ n)
    (k : Tr.ownL sz w1 us cs G) (hG : Apart n G) (hsoft : Soft w1 G) (hown : w'.ownsRow base e sz v' (ts.length + us.length) (xs ++ cs)) (hg : w1.grownBy w' v.ownBlock) (hat : v'.ownBlock = v.ownBlock ∨ v'.ownBlock = some w1.heap.size) :
    Kids sz e base w' v' (ts ++ us) (xs ++ cs) (F ++ G) := by
  have hlt := Tr.ownL_lt ts xs F h.own
  have hlt1 := Tr.ownL_lt us cs G k
  have hF' : ∀ b ∈ F, w'.heap[b]? = w1.heap[b]? := fun b hm => hg.block b (hlt b hm) fun e => h.far b e.symm hm
  have hGs : ∀ b ∈ G, w'.heap[b]? = w1.heap[b]? := fun b hm => hg.block b (hlt1 b hm) fun e => by
    have := hG.2 b hm
    have := hv b e.symm
    omega
  refine ⟨by rw [List.length_append]; exact hown, Tr.ownL_app (Tr.ownL_same ts xs F hF' h.own) (Tr.ownL_same us cs G hGs k), h.apart.app hF hG hb, fun g hg' hm => ?_, (h.soft.same hF').app (hsoft.same hGs)⟩
  · rcases hat with hat | hat
    · rw [hat] at hg'
      rcases List.mem_append.1 hm with hm | hm
      · exact h.far g hg' hm
      · have := hG.2 g hm
        have := hv g hg'
        omega
    · rw [hat] at hg'
      injection hg' with hg'
      rcases List.mem_append.1 hm with hm | hm
      · have := hlt g hm
        omega
      · have := hlt1 g hm
        omega
section
variable {P : Program} {ops : Array Oper} {o : Oper} {a : Act} {Q : Exit → Act → World → Prop}
theorem wp_push2 {K : Act → World → Prop} {w1 : World} (s x : Operand) (t : TypeId) (ho : o.op = .call { callee := .builtin .append, args := #[s, x], argTypes := #[t, t] })
    (base n : Nat) (e : TypeId) (i : TypeInfo) (z : Value) (size bytes : Nat) (ht : P.underlying t = some (.slice e)) (hi : P.info? e = some i) (hz : i.zero = some z)
    (hsize : i.size = size) (hby : i.bytes = bytes) (hzs : z.cells.size = size) (hsz : 0 < size)
    (v : Value) (ts : List Tr) (xs : List Value) (F : List Nat) (hs : a.eval s = v) (hk : Kids size e base w1 v ts xs F) (hF : ∀ b ∈ F, b < n) (hv : ∀ g, v.ownBlock = some g → g < n) (hb : base ≤ n) (hn : n ≤ w1.heap.size)
    (tr : Tr) (c : List Value) (G : List Nat) (hown : tr.own size w1 c G) (hG : Apart n G) (hsoft : Soft w1 G) (hx : a.eval x = .slice (some ⟨w1.heap.size, 0, none⟩) 1 1) (hbytes : (ts.length + 1) * bytes ≤ 140737488355328) (hb0 : 0 < bytes)
    (h : ∀ g cap w', Kids size e base w' (.slice (some ⟨g, 0, none⟩) (ts.length + 1) cap) (ts ++ [tr]) (xs ++ c) (F ++ G) → w1.grownBy w' v.ownBlock → base ≤ g → g < w'.heap.size → K (a.put o.dst (.slice (some ⟨g, 0, none⟩) (ts.length + 1) cap)) w') :
    o.wp P a (w1.alloc (.cells c.toArray e)) K Q := by
  have hlen : ts.length + 1 ≤ 140737488355328 := Nat.le_trans (Nat.le_mul_of_pos_right _ hb0) hbytes
  have hc := Tr.own_len hown
  have hba : Below w1.heap.size w1 (w1.alloc (.cells c.toArray e)) := (Below.refl _ _).alloc (Nat.le_refl _) _
  refine wp_append_lies (w1.alloc (.cells c.toArray e)) s x t ho base e i z size bytes ht hi hz hsize hby hzs hsz v ts.length xs hs (hk.row.alloc _) ⟨w1.heap.size, 0, none⟩ 1 1 c hx (by omega)
    (World.news_of_block (cs := c.toArray) (t := e) (fr := (0, 0)) (heap_alloc_new w1 _)) (Tr.own_one hown) (by omega) (by simp only [maxLen]; omega) hbytes (by simp; omega) (w1.heap.size + 1) (by simp) ?_
  intro g cap w' hown' hg hat hlt
  have hkids : Kids size e base w' (.slice (some ⟨g, 0, none⟩) (ts.length + 1) cap) (ts ++ [tr]) (xs ++ c) (F ++ G) :=
    (hk.below hba).push2 (n := n) (us := [tr]) hF hv hb (Tr.ownL_single (Tr.own_below hown hba)) hG (hsoft.same fun b hb => hba.block b (Tr.own_lt _ _ _ hown b hb)) (by simpa using hown') hg (by
      rcases hat with hat | hat
      · exact .inl hat.symm
      · exact .inr (by simp [Value.ownBlock, hat]))
  exact h g cap w' hkids (World.grownBy.trans (World.grownBy_alloc w1 _ _) hg) (hkids.block g rfl).1 hlt
theorem wpList_push2 {rest : List Oper} {w1 : World} (hgd : o.guard = none) (s x : Operand) (t : TypeId) (ho : o.op = .call { callee := .builtin .append, args := #[s, x], argTypes := #[t, t] })
    (base n : Nat) (e : TypeId) (i : TypeInfo) (z : Value) (size bytes : Nat) (ht : P.underlying t = some (.slice e)) (hi : P.info? e = some i) (hz : i.zero = some z)
    (hsize : i.size = size) (hby : i.bytes = bytes) (hzs : z.cells.size = size) (hsz : 0 < size)
    (v : Value) (ts : List Tr) (xs : List Value) (F : List Nat) (hs : a.eval s = v) (hk : Kids size e base w1 v ts xs F) (hF : ∀ b ∈ F, b < n) (hv : ∀ g, v.ownBlock = some g → g < n) (hb : base ≤ n) (hn : n ≤ w1.heap.size)
    (tr : Tr) (c : List Value) (G : List Nat) (hown : tr.own size w1 c G) (hG : Apart n G) (hsoft : Soft w1 G) (hx : a.eval x = .slice (some ⟨w1.heap.size, 0, none⟩) 1 1) (hbytes : (ts.length + 1) * bytes ≤ 140737488355328) (hb0 : 0 < bytes)
    (h : ∀ g cap w', Kids size e base w' (.slice (some ⟨g, 0, none⟩) (ts.length + 1) cap) (ts ++ [tr]) (xs ++ c) (F ++ G) → w1.grownBy w' v.ownBlock → base ≤ g → g < w'.heap.size → wpList P ops Q rest (a.put o.dst (.slice (some ⟨g, 0, none⟩) (ts.length + 1) cap)) w') :
    wpList P ops Q (o :: rest) a (w1.alloc (.cells c.toArray e)) :=
  wpList_plain hgd fun _ hK => wp_push2 s x t ho base n e i z size bytes ht hi hz hsize hby hzs hsz v ts xs F hs hk hF hv hb hn tr c G hown hG hsoft hx hbytes hb0 fun g cap w' h1 h2 h3 h4 => hK _ _ (h g cap w' h1 h2 h3 h4)
theorem step_push2 {K : Act → World → Prop} {E : Prop} {w1 : World} (hgd : o.guard = none) (s x : Operand) (t : TypeId) (ho : o.op = .call { callee := .builtin .append, args := #[s, x], argTypes := #[t, t] })
    (base n : Nat) (e : TypeId) (i : TypeInfo) (z : Value) (size bytes : Nat) (ht : P.underlying t = some (.slice e)) (hi : P.info? e = some i) (hz : i.zero = some z)
    (hsize : i.size = size) (hby : i.bytes = bytes) (hzs : z.cells.size = size) (hsz : 0 < size)
    (v : Value) (ts : List Tr) (xs : List Value) (F : List Nat) (hs : a.eval s = v) (hk : Kids size e base w1 v ts xs F) (hF : ∀ b ∈ F, b < n) (hv : ∀ g, v.ownBlock = some g → g < n) (hb : base ≤ n) (hn : n ≤ w1.heap.size)
    (tr : Tr) (c : List Value) (G : List Nat) (hown : tr.own size w1 c G) (hG : Apart n G) (hsoft : Soft w1 G) (hx : a.eval x = .slice (some ⟨w1.heap.size, 0, none⟩) 1 1) (hbytes : (ts.length + 1) * bytes ≤ 140737488355328) (hb0 : 0 < bytes)
    (h : ∀ g cap w', Kids size e base w' (.slice (some ⟨g, 0, none⟩) (ts.length + 1) cap) (ts ++ [tr]) (xs ++ c) (F ++ G) → w1.grownBy w' v.ownBlock → base ≤ g → g < w'.heap.size → K (a.put o.dst (.slice (some ⟨g, 0, none⟩) (ts.length + 1) cap)) w') :
    if Region.wanted o (yielded ops a.tmps) = true then Oper.wp P o a (w1.alloc (.cells c.toArray e)) K Q else E := by
  have hw : Region.wanted o (yielded ops a.tmps) = true := by simp [Region.wanted, hgd]
  rw [if_pos hw]
  exact wp_push2 s x t ho base n e i z size bytes ht hi hz hsize hby hzs hsz v ts xs F hs hk hF hv hb hn tr c G hown hG hsoft hx hbytes hb0 h
end
theorem Va.trs_snoc (rs : List Va) (r : Va) : Va.trs (rs ++ [r]) = Va.trs rs ++ [r.tr] := by simp [Va.trs_eq]
end Go.Proofs.YtbbpngoffpegbaaGreatDoor
