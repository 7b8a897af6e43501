/- The tree of stacks, III b: an append onto a row that is owned, whose old cells stay; two rows that grow one behind the other. -/
import Derived.Test.YtmgfdcfbjgokgaaTreW
import Derived.Deep.AppendLies
import Derived.Deep.RegionHeld3
namespace Go.Proofs.Ytmgfdcfbjgokgaa
open Go Go.RowKit Go.Maps Go.Proofs.YtmgfdcfbjgokgaaW.PrintWords Go.Proofs.YtmgfdcfbjgokgaaW.PrintLast Go.Proofs.Ytmgfdcfbjgokgaa.PL
set_option linter.unusedVariables false
set_option linter.unusedSimpArgs false

section
variable {α : Type} {P : Program}
theorem run_app (d : Kd α) (hE : d.E = []) (t ty e : TypeId) (i : TypeInfo) (z : Value) (bytes : Nat) (ht : P.underlying t = some (.slice e)) (hi : P.info? e = some i) (hz : i.zero = some z) (hsz : i.size = d.sz) (hby : i.bytes = bytes) (hzs : z.cells.size = d.sz) (hs0 : 0 < d.sz) (hb0 : 0 < bytes)
    {W : World} {base g c n : Nat} {xs : List α} {p : α} {cs : List Value} {b : Nat} {fr : Nat × Nat} (hn : n = xs.length)
    (HO : d.R e W base (fun k => k = g) (.slice (some ⟨g, 0, none⟩) n c) xs) (hp : d.M W base (fun _ => False) p cs)
    (hb : W.heap[b]? = some (.cells cs.toArray e fr)) (hbase : base ≤ W.heap.size) (hl : (n + 1) * bytes ≤ 140737488355328) :
    ∃ g1 c1 w1, (Builtin.append_ #[t, t] ty #[.slice (some ⟨g, 0, none⟩) n c, .slice (some ⟨b, 0, none⟩) 1 1]).run P W = .ok (.slice (some ⟨g1, 0, none⟩) (n + 1) c1) w1 ∧
      d.R e w1 base (fun k => k = g1) (.slice (some ⟨g1, 0, none⟩) (n + 1) c1) (xs ++ [p]) ∧ W.grownBy w1 (some g) ∧ (g1 = g ∨ g1 = W.heap.size) ∧ g1 < w1.heap.size ∧
      ∀ j, j < n * d.sz → w1.cell? ⟨g, j, none⟩ = W.cell? ⟨g, j, none⟩ := by
  subst hn
  obtain ⟨h0, inner, hown, hr⟩ := HO
  have hcl : cs.length = 1 * d.sz := by rw [d.K_len (d.K_of_M hp), Nat.one_mul]
  have hnews := World.news_of_block hb
  simp only [List.toList_toArray] at hnews
  have h1 := d.K_one (d.K_of_M hp)
  have h63 : xs.length + 1 ≤ maxLen := by
    have := Nat.le_mul_of_pos_right (xs.length + 1) hb0
    simp only [maxLen]
    omega
  obtain ⟨v', w', hrun, ho, hg, _, hat⟩ := run_append_own_at (P := P) W base t ty e i z d.sz bytes ht hi hz hsz hby hzs hs0 _ xs.length inner hown ⟨b, 0, none⟩ 1 1 cs hcl hnews h1 h63 hl hbase
  obtain ⟨g1, c1, rfl, _, hlt⟩ := ho.form (by omega)
  have hR := Kd.R_appended (ok := fun k => k = g ∨ W.heap.size ≤ k) (okp := fun _ => False) (fun k hk => .inl (h0 k hk)) (hr.imp_ (fun _ _ hq => d.M_mono (fun k hk => ⟨.inl hk.1, hk.2⟩) hq)) hp (fun _ hk => hk.elim) (fun k hk => .inr hk) ho hg (hat.imp id (fun h => ⟨_, h, Nat.le_refl _⟩))
  refine ⟨g1, c1, w', hrun, Kd.R_mono (Kd.R_tight hE hR) (fun k hk => by simpa [Value.ownBlock] using hk), hg, ?_, hlt, ?_⟩
  · rcases hat with hat | hat
    · exact .inl (by simpa [Value.ownBlock] using hat)
    · exact .inr (by simpa [Value.ownBlock] using hat)
  · intro j hj
    rcases hown.2 with ⟨hnil, _⟩ | ⟨g', cap, cur, hv, hbg, hgg, hnc, hcm, hcs, htake⟩
    · cases hnil
    · cases hv
      have hgl := (Array.getElem?_eq_some_iff.1 hgg).1
      by_cases hroom : xs.length + 1 ≤ c
      · have hfit : xs.length * i.size + cs.length ≤ cur.size := by
          rw [hcl, hcs, hsz, ← Nat.add_mul]
          exact Nat.mul_le_mul_right _ hroom
        have hr2 := run_append_room (P := P) W t ty e i ht hi g xs.length c cur hgg ⟨b, 0, none⟩ 1 1 cs (by rw [hcl, hsz]) hnews h1 hroom hfit
        rw [hr2] at hrun
        injection hrun with _ hw
        subst hw
        have hh := setRow_heap W g cur (cur.toList.take (xs.length * i.size) ++ cs ++ cur.toList.drop (xs.length * i.size + cs.length)).toArray e (0, 0) hgg
        simp only [World.cell?, hh, hgg]
        have hjl : j < xs.length * i.size := by rw [hsz]; exact hj
        have hje : (cur.toList.take (xs.length * i.size) ++ cs ++ cur.toList.drop (xs.length * i.size + cs.length)).toArray[j]? = cur[j]? := by
          rw [List.getElem?_toArray, List.append_assoc, List.getElem?_append_left (by simp; omega), List.getElem?_take, if_pos hjl]
          simp
        simp only [hje]
      · have holds : ∀ j u, inner[j]? = some u → W.cell? ((⟨g, 0, none⟩ : Addr).add j) = some u := hown.cells (g := g) rfl
        have hr2 := run_append_grow (P := P) W t ty e i z ht hi hz ⟨g, 0, none⟩ xs.length c inner (by rw [hsz]; exact hown.1) holds ⟨b, 0, none⟩ 1 1 cs (by rw [hcl, hsz]) hnews (by omega) (by simp only [maxLen] at h63; omega) (growslice_fits (by omega) (by rw [hby]; exact hl))
        rw [hr2] at hrun
        injection hrun with _ hw
        subst hw
        exact World.cell?_of_block (heap_alloc_old W.drew _ (by exact hgl))
theorem app_step {ops : Array Oper} {o : Oper} {a : Act} {Q : Exit → Act → World → Prop} {Kc : Act → World → Prop} {E : Prop} (d : Kd α) (hE : d.E = []) (hw : Region.wanted o (yielded ops a.tmps) = true) (s x : Operand) (t e : TypeId) (z : Value) (bytes : Nat)
    (ho : o.op = .call { callee := .builtin .append, args := #[s, x], argTypes := #[t, t] })
    (ht : P.underlying t = some (.slice e)) (hinfo : (P.info? e).map (fun i => (i.zero, i.size, i.bytes)) = some (some z, d.sz, bytes)) (hzs : z.cells.size = d.sz) (hs0 : 0 < d.sz) (hb0 : 0 < bytes)
    {W : World} {base g c n : Nat} {xs : List α} {p : α} {cs : List Value} {b : Nat} {fr : Nat × Nat} (hn : n = xs.length) (hs : a.eval s = .slice (some ⟨g, 0, none⟩) n c) (hx : a.eval x = .slice (some ⟨b, 0, none⟩) 1 1)
    (HO : d.R e W base (fun k => k = g) (.slice (some ⟨g, 0, none⟩) n c) xs) (hp : d.M W base (fun _ => False) p cs)
    (hb : W.heap[b]? = some (.cells cs.toArray e fr)) (hbase : base ≤ W.heap.size) (hl : (n + 1) * bytes ≤ 140737488355328)
    (h : ∀ g1 c1 w1, d.R e w1 base (fun k => k = g1) (.slice (some ⟨g1, 0, none⟩) (n + 1) c1) (xs ++ [p]) → W.grownBy w1 (some g) → (g1 = g ∨ g1 = W.heap.size) → g1 < w1.heap.size →
      (∀ j, j < n * d.sz → w1.cell? ⟨g, j, none⟩ = W.cell? ⟨g, j, none⟩) → Kc (a.put o.dst (.slice (some ⟨g1, 0, none⟩) (n + 1) c1)) w1) :
    if Region.wanted o (yielded ops a.tmps) = true then Oper.wp P o a W Kc Q else E := by
  obtain ⟨i, hi, hzz⟩ := Option.map_eq_some_iff.1 hinfo
  simp only [Prod.mk.injEq] at hzz
  obtain ⟨hz0, hz1, hz2⟩ := hzz
  obtain ⟨g1, c1, w1, hr, h1, h2, h3, h4, h5⟩ := run_app (P := P) d hE t o.type e i z bytes ht hi hz0 hz1 hz2 hzs hs0 hb0 hn HO hp hb hbase hl
  rw [if_pos hw]
  unfold Oper.wp execOp
  simp only [ho, resolve, invoke, builtin, Sem.run_bind, Sem.run_pure, Result.andThen_ok, List.map_toArray, List.map_cons, List.map_nil, hs, hx, hr]
  exact h g1 c1 w1 h1 h2 h3 h4 h5
end
/-- Two rows, each in a block of its own, that grow behind wa; a cell of the second's first block stays. -/
structure Two (wa w : World) (base gn gd i V : Nat) (g1 c1 g2 c2 n m : Nat) (xs : List Nd) (ys : List Nat) : Prop where
  below : Below base wa w
  N : Kd.R kNd 51 w base (fun k => k = g1) (.slice (some ⟨g1, 0, none⟩) n c1) xs
  D : Kd.R kDp 3 w base (fun k => k = g2) (.slice (some ⟨g2, 0, none⟩) m c2) ys
  ln : n = xs.length
  lm : m = ys.length
  ne : g1 ≠ g2
  lt1 : g1 < w.heap.size
  lt2 : g2 < w.heap.size
  o1 : g1 = gn ∨ wa.heap.size ≤ g1
  o2 : g2 = gd ∨ wa.heap.size ≤ g2
  keep : ∀ k, k < wa.heap.size → k ≠ gn → k ≠ gd → w.heap[k]? = wa.heap[k]?
  cell : w.cell? ⟨gd, i, none⟩ = some (.int .i64 V)
  hi : i < ys.length
  hb : base ≤ wa.heap.size ∧ base ≤ gn ∧ base ≤ gd ∧ gn < wa.heap.size ∧ gd < wa.heap.size ∧ gn ≠ gd
section
variable {wa w : World} {base gn gd i V g1 c1 g2 c2 n m : Nat} {xs : List Nd} {ys : List Nat}
theorem Two.size (h : Two wa w base gn gd i V g1 c1 g2 c2 n m xs ys) : wa.heap.size ≤ w.heap.size := h.below.size
theorem Two.alloc (h : Two wa w base gn gd i V g1 c1 g2 c2 n m xs ys) (o : Obj) : Two wa (w.alloc o) base gn gd i V g1 c1 g2 c2 n m xs ys :=
  have hz := h.size
  have hb := h.hb
  { below := h.below.alloc (by omega) _
    N := Kd.R_alloc h.N _
    D := Kd.R_alloc h.D _
    ln := h.ln, lm := h.lm, ne := h.ne
    lt1 := by have := h.lt1; simp; omega
    lt2 := by have := h.lt2; simp; omega
    o1 := h.o1, o2 := h.o2
    keep := fun k hk h1 h2 => by rw [heap_alloc_old w _ (by omega)]; exact h.keep k hk h1 h2
    cell := (World.cell?_alloc_lt _ _ _ (World.block_lt_of_cell? _ _ h.cell)).trans h.cell
    hi := h.hi, hb := hb }
theorem Two.appN (h : Two wa w base gn gd i V g1 c1 g2 c2 n m xs ys) {p : Nd} {g1' c1' : Nat} {w1 : World} (hR : Kd.R kNd 51 w1 base (fun k => k = g1') (.slice (some ⟨g1', 0, none⟩) (n + 1) c1') (xs ++ [p])) (hg : w.grownBy w1 (some g1)) (hat : g1' = g1 ∨ g1' = w.heap.size) (hlt : g1' < w1.heap.size) :
    Two wa w1 base gn gd i V g1' c1' g2 c2 (n + 1) m (xs ++ [p]) ys :=
  have hz := h.size
  have hb := h.hb
  have ho1 := h.o1
  have ho2 := h.o2
  { below := h.below.grown hg (by omega) (fun k hk => by injection hk with hk; omega)
    N := hR
    D := Kd.R_grown h.D hg (fun k hk => by have := h.ne; intro e; injection e with e; omega)
    ln := by have := h.ln; simp; omega
    lm := h.lm
    ne := by have := h.ne; have := h.lt2; omega
    lt1 := hlt
    lt2 := by have := h.lt2; have := hg.size; omega
    o1 := by omega
    o2 := ho2
    keep := fun k hk h1 h2 => by
      rw [hg.block k (by omega) (by intro e; injection e with e; omega)]
      exact h.keep k hk h1 h2
    cell := by
      refine (World.cell?_of_block (hg.block gd (by omega) ?_)).trans h.cell
      intro e
      injection e with e
      omega
    hi := h.hi, hb := hb }
theorem Two.appD (h : Two wa w base gn gd i V g1 c1 g2 c2 n m xs ys) {p : Nat} {g2' c2' : Nat} {w1 : World} (hR : Kd.R kDp 3 w1 base (fun k => k = g2') (.slice (some ⟨g2', 0, none⟩) (m + 1) c2') (ys ++ [p])) (hg : w.grownBy w1 (some g2)) (hat : g2' = g2 ∨ g2' = w.heap.size) (hlt : g2' < w1.heap.size)
    (hc : ∀ j, j < m * kDp.sz → w1.cell? ⟨g2, j, none⟩ = w.cell? ⟨g2, j, none⟩) :
    Two wa w1 base gn gd i V g1 c1 g2' c2' n (m + 1) xs (ys ++ [p]) :=
  have hz := h.size
  have hb := h.hb
  have ho1 := h.o1
  have ho2 := h.o2
  { below := h.below.grown hg (by omega) (fun k hk => by injection hk with hk; omega)
    N := Kd.R_grown h.N hg (fun k hk => by have := h.ne; intro e; injection e with e; omega)
    D := hR
    ln := h.ln
    lm := by have := h.lm; simp; omega
    ne := by have := h.ne; have := h.lt1; omega
    lt1 := by have := h.lt1; have := hg.size; omega
    lt2 := hlt
    o1 := ho1
    o2 := by omega
    keep := fun k hk h1 h2 => by
      rw [hg.block k (by omega) (by intro e; injection e with e; omega)]
      exact h.keep k hk h1 h2
    cell := by
      by_cases e : g2 = gd
      · subst e
        rw [hc i (by have := h.hi; rw [h.lm, show kDp.sz = 1 from rfl]; omega)]
        exact h.cell
      · refine (World.cell?_of_block (hg.block gd (by omega) ?_)).trans h.cell
        intro e2
        injection e2 with e2
        omega
    hi := by have := h.hi; simp; omega
    hb := hb }
/-- A block beside the two stays through an append. -/
theorem Two.block1 (h : Two wa w base gn gd i V g1 c1 g2 c2 n m xs ys) {w1 : World} {b : Nat} {o : Obj} (hg : w.grownBy w1 (some g1)) (hb : w.heap[b]? = some o) (hne : b ≠ g1) : w1.heap[b]? = some o := by
  rw [hg.block b (Array.getElem?_eq_some_iff.1 hb).1 (by intro e; injection e with e; omega)]
  exact hb
theorem Two.cellK (h : Two wa w base gn gd i V g1 c1 g2 c2 n m xs ys) {b j : Nat} {v : Value} (hc : wa.cell? ⟨b, j, none⟩ = some v) (h1 : b ≠ gn) (h2 : b ≠ gd) : w.cell? ⟨b, j, none⟩ = some v :=
  (World.cell?_of_block (h.keep b (World.block_lt_of_cell? wa _ hc) h1 h2)).trans hc
end
end Go.Proofs.Ytmgfdcfbjgokgaa
