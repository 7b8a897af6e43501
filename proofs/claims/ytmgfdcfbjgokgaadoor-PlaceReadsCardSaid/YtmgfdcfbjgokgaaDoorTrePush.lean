/- The tree of stacks, III b: an append onto a row that is owned, whose old cells stay; two rows that grow one behind the other. The tree of stacks, III c: 'Push' where the node is new. (Printed by genpush.py.) -/
import Derived.Test.YtmgfdcfbjgokgaaDoorTreW
import Derived.Deep.AppendLies
import Derived.Deep.RegionHeld3
namespace Go.Proofs.YtmgfdcfbjgokgaaDoor
open Go Go.RowKit Go.Maps Go.Proofs.YtmgfdcfbjgokgaaDoorW.PrintWords Go.Proofs.YtmgfdcfbjgokgaaDoorW.PrintLast Go.Proofs.YtmgfdcfbjgokgaaDoor.PL
set_option linter.unusedVariables false
set_option linter.unusedSimpArgs false

section
variable {α : Type} {P : Program}
theorem run_app (d : Kd α) (hE : d.E = []) (t ty e : TypeId) (i : TypeInfo) (z : Value) (bytes : Nat) (ht : P.underlying t = some (.slice e)) (hi : P.info? e = some i) (hz : i.zero = some z) (hsz : i.size = d.sz) (hby : i.bytes = bytes) (hzs : z.cells.size = d.sz) (hs0 : 0 < d.sz) (hb0 : 0 < bytes)
    {W : World} {base g c n : Nat} {xs : List α} {p : α} {cs : List Value} {b : Nat} {fr : Nat × Nat} (hn : n = xs.length)
    (HO : d.R e W base (fun k => k = g) (.slice (some ⟨g, 0, none⟩) n c) xs) (hp : d.M W base (fun _ => False) p cs)
    (hb : W.heap[b]? = some (.cells cs.toArray e fr)) (hbase : base ≤ W.heap.size) (hl : (n + 1) * bytes ≤ 140737488355328) :
    ∃ g1 c1 w1, (Builtin.append_ #[t, t] ty #[.slice (some ⟨g, 0, none⟩) n c, .slice (some ⟨b, 0, none⟩) 1 1]).run P W = .ok (.slice (some ⟨g1, 0, none⟩) (n + 1) c1) w1 ∧
      d.R e w1 base (fun k => k = g1) (.slice (some ⟨g1, 0, none⟩) (n + 1) c1) (xs ++ [p]) ∧ W.grownBy w1 (some g) ∧ (g1 = g ∨ g1 = W.heap.size) ∧ g1 < w1.heap.size ∧
      ∀ j, j < n * d.sz → w1.cell? ⟨g, j, none⟩ = W.cell? ⟨g, j, none⟩ := by
  subst hn
  obtain ⟨h0, inner, hown, hr⟩ := HO
  have hcl : cs.length = 1 * d.sz := by rw [d.K_len (d.K_of_M hp), Nat.one_mul]
  have hnews := World.news_of_block hb
  simp only [List.toList_toArray] at hnews
  have h1 := d.K_one (d.K_of_M hp)
  have h63 : xs.length + 1 ≤ maxLen := by
    have := Nat.le_mul_of_pos_right (xs.length + 1) hb0
    simp only [maxLen]
    omega
  obtain ⟨v', w', hrun, ho, hg, _, hat⟩ := run_append_own_at (P := P) W base t ty e i z d.sz bytes ht hi hz hsz hby hzs hs0 _ xs.length inner hown ⟨b, 0, none⟩ 1 1 cs hcl hnews h1 h63 hl hbase
  obtain ⟨g1, c1, rfl, _, hlt⟩ := ho.form (by omega)
  have hR := Kd.R_appended (ok := fun k => k = g ∨ W.heap.size ≤ k) (okp := fun _ => False) (fun k hk => .inl (h0 k hk)) (hr.imp_ (fun _ _ hq => d.M_mono (fun k hk => ⟨.inl hk.1, hk.2⟩) hq)) hp (fun _ hk => hk.elim) (fun k hk => .inr hk) ho hg (hat.imp id (fun h => ⟨_, h, Nat.le_refl _⟩))
  refine ⟨g1, c1, w', hrun, Kd.R_mono (Kd.R_tight hE hR) (fun k hk => by simpa [Value.ownBlock] using hk), hg, ?_, hlt, ?_⟩
  · rcases hat with hat | hat
    · exact .inl (by simpa [Value.ownBlock] using hat)
    · exact .inr (by simpa [Value.ownBlock] using hat)
  · intro j hj
    rcases hown.2 with ⟨hnil, _⟩ | ⟨g', cap, cur, hv, hbg, hgg, hnc, hcm, hcs, htake⟩
    · cases hnil
    · cases hv
      have hgl := (Array.getElem?_eq_some_iff.1 hgg).1
      by_cases hroom : xs.length + 1 ≤ c
      · have hfit : xs.length * i.size + cs.length ≤ cur.size := by
          rw [hcl, hcs, hsz, ← Nat.add_mul]
          exact Nat.mul_le_mul_right _ hroom
        have hr2 := run_append_room (P := P) W t ty e i ht hi g xs.length c cur hgg ⟨b, 0, none⟩ 1 1 cs (by rw [hcl, hsz]) hnews h1 hroom hfit
        rw [hr2] at hrun
        injection hrun with _ hw
        subst hw
        have hh := setRow_heap W g cur (cur.toList.take (xs.length * i.size) ++ cs ++ cur.toList.drop (xs.length * i.size + cs.length)).toArray e (0, 0) hgg
        simp only [World.cell?, hh, hgg]
        have hjl : j < xs.length * i.size := by rw [hsz]; exact hj
        have hje : (cur.toList.take (xs.length * i.size) ++ cs ++ cur.toList.drop (xs.length * i.size + cs.length)).toArray[j]? = cur[j]? := by
          rw [List.getElem?_toArray, List.append_assoc, List.getElem?_append_left (by simp; omega), List.getElem?_take, if_pos hjl]
          simp
        simp only [hje]
      · have holds : ∀ j u, inner[j]? = some u → W.cell? ((⟨g, 0, none⟩ : Addr).add j) = some u := hown.cells (g := g) rfl
        have hr2 := run_append_grow (P := P) W t ty e i z ht hi hz ⟨g, 0, none⟩ xs.length c inner (by rw [hsz]; exact hown.1) holds ⟨b, 0, none⟩ 1 1 cs (by rw [hcl, hsz]) hnews (by omega) (by simp only [maxLen] at h63; omega) (growslice_fits (by omega) (by rw [hby]; exact hl))
        rw [hr2] at hrun
        injection hrun with _ hw
        subst hw
        exact World.cell?_of_block (heap_alloc_old W.drew _ (by exact hgl))
theorem app_step {ops : Array Oper} {o : Oper} {a : Act} {Q : Exit → Act → World → Prop} {Kc : Act → World → Prop} {E : Prop} (d : Kd α) (hE : d.E = []) (hw : Region.wanted o (yielded ops a.tmps) = true) (s x : Operand) (t e : TypeId) (z : Value) (bytes : Nat)
    (ho : o.op = .call { callee := .builtin .append, args := #[s, x], argTypes := #[t, t] })
    (ht : P.underlying t = some (.slice e)) (hinfo : (P.info? e).map (fun i => (i.zero, i.size, i.bytes)) = some (some z, d.sz, bytes)) (hzs : z.cells.size = d.sz) (hs0 : 0 < d.sz) (hb0 : 0 < bytes)
    {W : World} {base g c n : Nat} {xs : List α} {p : α} {cs : List Value} {b : Nat} {fr : Nat × Nat} (hn : n = xs.length) (hs : a.eval s = .slice (some ⟨g, 0, none⟩) n c) (hx : a.eval x = .slice (some ⟨b, 0, none⟩) 1 1)
    (HO : d.R e W base (fun k => k = g) (.slice (some ⟨g, 0, none⟩) n c) xs) (hp : d.M W base (fun _ => False) p cs)
    (hb : W.heap[b]? = some (.cells cs.toArray e fr)) (hbase : base ≤ W.heap.size) (hl : (n + 1) * bytes ≤ 140737488355328)
    (h : ∀ g1 c1 w1, d.R e w1 base (fun k => k = g1) (.slice (some ⟨g1, 0, none⟩) (n + 1) c1) (xs ++ [p]) → W.grownBy w1 (some g) → (g1 = g ∨ g1 = W.heap.size) → g1 < w1.heap.size →
      (∀ j, j < n * d.sz → w1.cell? ⟨g, j, none⟩ = W.cell? ⟨g, j, none⟩) → Kc (a.put o.dst (.slice (some ⟨g1, 0, none⟩) (n + 1) c1)) w1) :
    if Region.wanted o (yielded ops a.tmps) = true then Oper.wp P o a W Kc Q else E := by
  obtain ⟨i, hi, hzz⟩ := Option.map_eq_some_iff.1 hinfo
  simp only [Prod.mk.injEq] at hzz
  obtain ⟨hz0, hz1, hz2⟩ := hzz
  obtain ⟨g1, c1, w1, hr, h1, h2, h3, h4, h5⟩ := run_app (P := P) d hE t o.type e i z bytes ht hi hz0 hz1 hz2 hzs hs0 hb0 hn HO hp hb hbase hl
  rw [if_pos hw]
  unfold Oper.wp execOp
  simp only [ho, resolve, invoke, builtin, Sem.run_bind, Sem.run_pure, Result.andThen_ok, List.map_toArray, List.map_cons, List.map_nil, hs, hx, hr]
  exact h g1 c1 w1 h1 h2 h3 h4 h5
end
/-- Two rows, each in a block of its own, that grow behind wa; a cell of the second's first block stays. -/
structure Two (wa w : World) (base gn gd i V : Nat) (g1 c1 g2 c2 n m : Nat) (xs : List Nd) (ys : List Nat) : Prop where
  below : Below base wa w
  N : Kd.R kNd 136 w base (fun k => k = g1) (.slice (some ⟨g1, 0, none⟩) n c1) xs
  D : Kd.R kDp 3 w base (fun k => k = g2) (.slice (some ⟨g2, 0, none⟩) m c2) ys
  ln : n = xs.length
  lm : m = ys.length
  ne : g1 ≠ g2
  lt1 : g1 < w.heap.size
  lt2 : g2 < w.heap.size
  o1 : g1 = gn ∨ wa.heap.size ≤ g1
  o2 : g2 = gd ∨ wa.heap.size ≤ g2
  keep : ∀ k, k < wa.heap.size → k ≠ gn → k ≠ gd → w.heap[k]? = wa.heap[k]?
  cell : w.cell? ⟨gd, i, none⟩ = some (.int .i64 V)
  hi : i < ys.length
  hb : base ≤ wa.heap.size ∧ base ≤ gn ∧ base ≤ gd ∧ gn < wa.heap.size ∧ gd < wa.heap.size ∧ gn ≠ gd
section
variable {wa w : World} {base gn gd i V g1 c1 g2 c2 n m : Nat} {xs : List Nd} {ys : List Nat}
theorem Two.size (h : Two wa w base gn gd i V g1 c1 g2 c2 n m xs ys) : wa.heap.size ≤ w.heap.size := h.below.size
theorem Two.alloc (h : Two wa w base gn gd i V g1 c1 g2 c2 n m xs ys) (o : Obj) : Two wa (w.alloc o) base gn gd i V g1 c1 g2 c2 n m xs ys :=
  have hz := h.size
  have hb := h.hb
  { below := h.below.alloc (by omega) _
    N := Kd.R_alloc h.N _
    D := Kd.R_alloc h.D _
    ln := h.ln, lm := h.lm, ne := h.ne
    lt1 := by have := h.lt1; simp; omega
    lt2 := by have := h.lt2; simp; omega
    o1 := h.o1, o2 := h.o2
    keep := fun k hk h1 h2 => by rw [heap_alloc_old w _ (by omega)]; exact h.keep k hk h1 h2
    cell := (World.cell?_alloc_lt _ _ _ (World.block_lt_of_cell? _ _ h.cell)).trans h.cell
    hi := h.hi, hb := hb }
theorem Two.appN (h : Two wa w base gn gd i V g1 c1 g2 c2 n m xs ys) {p : Nd} {g1' c1' : Nat} {w1 : World} (hR : Kd.R kNd 136 w1 base (fun k => k = g1') (.slice (some ⟨g1', 0, none⟩) (n + 1) c1') (xs ++ [p])) (hg : w.grownBy w1 (some g1)) (hat : g1' = g1 ∨ g1' = w.heap.size) (hlt : g1' < w1.heap.size) :
    Two wa w1 base gn gd i V g1' c1' g2 c2 (n + 1) m (xs ++ [p]) ys :=
  have hz := h.size
  have hb := h.hb
  have ho1 := h.o1
  have ho2 := h.o2
  { below := h.below.grown hg (by omega) (fun k hk => by injection hk with hk; omega)
    N := hR
    D := Kd.R_grown h.D hg (fun k hk => by have := h.ne; intro e; injection e with e; omega)
    ln := by have := h.ln; simp; omega
    lm := h.lm
    ne := by have := h.ne; have := h.lt2; omega
    lt1 := hlt
    lt2 := by have := h.lt2; have := hg.size; omega
    o1 := by omega
    o2 := ho2
    keep := fun k hk h1 h2 => by
      rw [hg.block k (by omega) (by intro e; injection e with e; omega)]
      exact h.keep k hk h1 h2
    cell := by
      refine (World.cell?_of_block (hg.block gd (by omega) ?_)).trans h.cell
      intro e
      injection e with e
      omega
    hi := h.hi, hb := hb }
theorem Two.appD (h : Two wa w base gn gd i V g1 c1 g2 c2 n m xs ys) {p : Nat} {g2' c2' : Nat} {w1 : World} (hR : Kd.R kDp 3 w1 base (fun k => k = g2') (.slice (some ⟨g2', 0, none⟩) (m + 1) c2') (ys ++ [p])) (hg : w.grownBy w1 (some g2)) (hat : g2' = g2 ∨ g2' = w.heap.size) (hlt : g2' < w1.heap.size)
    (hc : ∀ j, j < m * kDp.sz → w1.cell? ⟨g2, j, none⟩ = w.cell? ⟨g2, j, none⟩) :
    Two wa w1 base gn gd i V g1 c1 g2' c2' n (m + 1) xs (ys ++ [p]) :=
  have hz := h.size
  have hb := h.hb
  have ho1 := h.o1
  have ho2 := h.o2
  { below := h.below.grown hg (by omega) (fun k hk => by injection hk with hk; omega)
    N := Kd.R_grown h.N hg (fun k hk => by have := h.ne; intro e; injection e with e; omega)
    D := hR
    ln := h.ln
    lm := by have := h.lm; simp; omega
    ne := by have := h.ne; have := h.lt1; omega
    lt1 := by have := h.lt1; have := hg.size; omega
    lt2 := hlt
    o1 := ho1
    o2 := by omega
    keep := fun k hk h1 h2 => by
      rw [hg.block k (by omega) (by intro e; injection e with e; omega)]
      exact h.keep k hk h1 h2
    cell := by
      by_cases e : g2 = gd
      · subst e
        rw [hc i (by have := h.hi; rw [h.lm, show kDp.sz = 1 from rfl]; omega)]
        exact h.cell
      · refine (World.cell?_of_block (hg.block gd (by omega) ?_)).trans h.cell
        intro e2
        injection e2 with e2
        omega
    hi := by have := h.hi; simp; omega
    hb := hb }
/-- A block beside the two stays through an append. -/
theorem Two.block1 (h : Two wa w base gn gd i V g1 c1 g2 c2 n m xs ys) {w1 : World} {b : Nat} {o : Obj} (hg : w.grownBy w1 (some g1)) (hb : w.heap[b]? = some o) (hne : b ≠ g1) : w1.heap[b]? = some o := by
  rw [hg.block b (Array.getElem?_eq_some_iff.1 hb).1 (by intro e; injection e with e; omega)]
  exact hb
theorem Two.cellK (h : Two wa w base gn gd i V g1 c1 g2 c2 n m xs ys) {b j : Nat} {v : Value} (hc : wa.cell? ⟨b, j, none⟩ = some v) (h1 : b ≠ gn) (h2 : b ≠ gd) : w.cell? ⟨b, j, none⟩ = some v :=
  (World.cell?_of_block (h.keep b (World.block_lt_of_cell? wa _ hc) h1 h2)).trans hc
end
end Go.Proofs.YtmgfdcfbjgokgaaDoor
namespace Go.Proofs.YtmgfdcfbjgokgaaDoor
open Go Go.RowKit Go.Maps Go.Proofs.YtmgfdcfbjgokgaaDoorW.PrintWords Go.Proofs.YtmgfdcfbjgokgaaDoorW.PrintLast Go.Proofs.YtmgfdcfbjgokgaaDoor.PL
set_option linter.unusedVariables false
set_option linter.unusedSimpArgs false

theorem info_nd : (Tryd.prog.info? 136).map (fun i => (i.zero, i.size, i.bytes)) = some (some (.agg #[.int .i64 0, .string ⟨#[]⟩, .int .i64 0]), 3, 32) := by kernel_rfl
theorem info_dp : (Tryd.prog.info? 3).map (fun i => (i.zero, i.size, i.bytes)) = some (some (.int .i64 0), 1, 8) := by kernel_rfl
section
variable {H : Type} {W : World} {base g gn gd mb cn cd : Nat} {D : DataW H} {T : Tr} {p : Pl}
set_option maxRecDepth 100000 in
set_option maxHeartbeats 1600000 in
theorem push_new (h : TreeW W base g gn gd mb cn cd D T) (i : Nat) (h1 : thereT T i = true) (h2 : mayB p.1 p.2 = true) (h3 : ¬ 64 ≤ T.deep.getD i 0) (h4 : findN T.nodes (i, p) = none) (h5 : ¬ 4096 ≤ T.nodes.length) (hsz : p.1.size ≤ 9223372036854775807) (hbase : base ≤ W.heap.size) :
    Calls Tryd.prog 64 #[.pointer (some ⟨g, 0, none⟩), .int .i64 i, .agg #[.string p.1, .int .i64 p.2]] W (PushIs (H := H) base g gn gd mb T i p W) := by
  have hi := of_decide_eq_true h1
  have HP : pushT T i p = (((T.nodes.length : Int), 0), (⟨T.nodes ++ [(i, p)], T.deep ++ [T.deep.getD i 0 + 1]⟩ : Tr)) := by
    unfold pushT
    rw [if_neg (fun hn => hn hi), if_neg (by rw [h2]; decide), Int.toNat_natCast, if_neg h3, h4]
    exact if_neg h5
  have HPW := Lib.hid (show Tr.wf ⟨T.nodes ++ [(i, p)], T.deep ++ [T.deep.getD i 0 + 1]⟩ from by have := push_wf h.wf (i : Int) p; rw [HP] at this; exact this)
  unfold PushIs
  rw [HP]
  have hw := h.wf
  obtain ⟨M, hM⟩ : ∃ M, M = T.deep.length := ⟨_, rfl⟩
  have hltN : i < M := by rw [hM, hw.len]; omega
  have hM64 : M ≤ 4096 := by rw [hM, hw.len]; exact hw.most
  obtain ⟨V, hV⟩ : ∃ V, V = T.deep.getD i 0 := ⟨_, rfl⟩
  have hge : decide (64 ≤ (V : Int)) = false := by simp; omega
  have hlt : decide ((i : Int) < (M : Int)) = true := by simp; omega
  have HX := Lib.hid (show NdOk (i, p) from ⟨by simp only; omega, h2⟩)
  have HI := Lib.hid hi
  have HT := Lib.hid h1
  have HF := Lib.hid h4
  have H5 := Lib.hid h5
  have HMy := Lib.hid h2
  have HZ := Lib.hid hsz
  have HMV := Lib.hid (And.intro hM hV)
  have H' := Lib.hid (h.alloc (.cells #[.string p.1, .int .i64 p.2] 60))
  clear h HP h1 h2 hsz h3 h4 h5 hM hV hw hi
  go_enter Tryd.func64, Tryd.ntmps64
  go_wp2_with (first | (go_at_call 74; (with_reducible refine (there_any H'.out.C (i : Int)).mono ?_); rintro e w1 ⟨rfl, rfl⟩; rw [HT.out]) | (go_at_call 49; (with_reducible refine (may_any p.1 p.2 _ HZ.out).mono ?_); rintro e w2 ⟨rfl, hb⟩; have HB := Lib.hid hb; have hat := (H'.out.below hb).at_ (i := i) (by have := HI.out.2; omega); obtain ⟨hp0, hp1, hpz⟩ := box_at hb; clear hb; rw [← HMV.out.1, ← HMV.out.2] at hat; obtain ⟨hc1, hcd, hc2, hc0⟩ := hat; rw [HMy.out]))
  have HW := Lib.hid ((H'.out.below HB.out).alloc (.cells #[.int .i64 (i : Nat), .string p.1, .int .i64 p.2] 136))
  have hrun : ∀ q, (Instr.lookup 131 (.map (some mb)) (.agg #[.int .i64 (i : Nat), .string p.1, .int .i64 p.2]) true).run Tryd.prog ((w2.alloc (.cells #[.int .i64 (i : Nat), .string p.1, .int .i64 p.2] 136)).drewN q) = .ok (.tuple #[.int .i64 0, .bool false]) ((w2.alloc (.cells #[.int .i64 (i : Nat), .string p.1, .int .i64 p.2] 136)).drewN q) := fun q => by
    obtain ⟨cc, hrun, hcv⟩ := (HW.out.drewN q).look HX.out
    obtain rfl := hcv.2 HF.out
    rw [HF.out] at hrun
    simpa only [ndV, Option.isSome_none] using hrun
  have hl0 := HW.out.C.c0
  obtain ⟨N, hN⟩ : ∃ N, N = T.nodes.length := ⟨_, rfl⟩
  have hfull : decide (4096 ≤ (N : Int)) = false := by have := H5.out; simp; omega
  rw [← hN] at hl0
  have HNN := Lib.hid hN
  clear hN
  have ha2 := HW.out.C.c2
  obtain ⟨hn0, hn1, hn2⟩ : (w2.alloc (.cells #[.int .i64 (i : Nat), .string p.1, .int .i64 p.2] 136)).cell? ⟨w2.heap.size, 0, none⟩ = some (.int .i64 (i : Nat)) ∧ (w2.alloc (.cells #[.int .i64 (i : Nat), .string p.1, .int .i64 p.2] 136)).cell? ⟨w2.heap.size, 1, none⟩ = some (.string p.1) ∧ (w2.alloc (.cells #[.int .i64 (i : Nat), .string p.1, .int .i64 p.2] 136)).cell? ⟨w2.heap.size, 2, none⟩ = some (.int .i64 p.2) := by
    refine ⟨?_, ?_, ?_⟩ <;> (simp only [World.cell?, heap_alloc_new]; rfl)
  have HBA := Lib.hid (show Below W.heap.size W (w2.alloc (.cells #[.int .i64 (i : Nat), .string p.1, .int .i64 p.2] 136)) from (((Below.refl _ _).alloc (Nat.le_refl _) _).trans (HB.out.mono (by simp))).alloc (by omega) _)
  generalize w2.alloc (.cells #[.int .i64 (i : Nat), .string p.1, .int .i64 p.2] 136) = wa at HW hrun hl0 ha2 hn0 hn1 hn2 HBA ⊢
  clear hp0 hp1 hc1 hcd hc2 hc0
  go_quiet (fail)
  go_wp2
  have hat := HW.out.at_ (i := i) (by have := HI.out.2; omega)
  rw [← HMV.out.1, ← HMV.out.2] at hat
  obtain ⟨hl1, hcd, _, _⟩ := hat
  have hVs : V < 64 := by have := of_decide_eq_false hge; omega
  have hwv : wrap64 ((V : Int) + 1) = ((V + 1 : Nat) : Int) := by unfold wrap64; omega
  have HWV := Lib.hid hwv
  clear hwv
  refine start_ (n := 29) (S := fun W => W.cell? ⟨g, 0, none⟩ = some (.slice (some ⟨gn, 0, none⟩) N cn) ∧ W.cell? ⟨g, 1, none⟩ = some (.slice (some ⟨gd, 0, none⟩) M cd) ∧ W.cell? ⟨gd, i, none⟩ = some (.int .i64 V) ∧ W.cell? ⟨w2.heap.size, 0, none⟩ = some (.int .i64 i) ∧ W.cell? ⟨w2.heap.size, 1, none⟩ = some (.string p.1) ∧ W.cell? ⟨w2.heap.size, 2, none⟩ = some (.int .i64 p.2)) (ds := [25, 28]) #[false, false, false, false, false, false, false, false, false, false, false, false, false, false, false, false, false, false, false, false, false, false, false, false, false, false, false, false, false] (by kernel_rfl) rfl rfl ⟨hl0, hl1, hcd, hn0, hn1, hn2⟩ (fun hHeld => ?_)
  refine pure_ (i := 0) (N := some 54) (v := ?_) (a' := ?_) #[true, false, false, false, false, false, false, false, false, false, false, false, false, false, false, false, false, false, false, false, false, false, false, false, false, false, false, false, false] rfl rfl (by kernel_rfl) (fun _ _ _ h => h) (Or.inl ⟨by rfl, ?_⟩) ?_ ?_
  rotate_left
  · intro w'
    go_simp
    with_reducible rfl
  rotate_left
  · simp only [Act.put, List.setIfInBounds_toArray, List.set_cons_zero, List.set_cons_succ, i64_w, i32_w]
    rfl
  refine pure_ (i := 1) (N := some 55) (v := ?_) (a' := ?_) #[true, true, false, false, false, false, false, false, false, false, false, false, false, false, false, false, false, false, false, false, false, false, false, false, false, false, false, false, false] rfl rfl (by kernel_rfl) (fun _ _ _ h => h) (Or.inl ⟨by rfl, ?_⟩) ?_ ?_
  rotate_left
  · intro w'
    go_simp
    with_reducible rfl
  rotate_left
  · simp only [Act.put, List.setIfInBounds_toArray, List.set_cons_zero, List.set_cons_succ, i64_w, i32_w]
    rfl
  refine pure_ (i := 2) (N := some 56) (v := ?_) (a' := ?_) #[true, true, true, false, false, false, false, false, false, false, false, false, false, false, false, false, false, false, false, false, false, false, false, false, false, false, false, false, false] rfl rfl (by kernel_rfl) (fun _ _ _ h => h) (Or.inl ⟨by rfl, ?_⟩) ?_ ?_
  rotate_left
  · intro w'
    go_simp
    with_reducible rfl
  rotate_left
  · simp only [Act.put, List.setIfInBounds_toArray, List.set_cons_zero, List.set_cons_succ, i64_w, i32_w]
    rfl
  refine pure_ (i := 3) (N := some 57) (v := ?_) (a' := ?_) #[true, true, true, true, false, false, false, false, false, false, false, false, false, false, false, false, false, false, false, false, false, false, false, false, false, false, false, false, false] rfl rfl (by kernel_rfl) (fun _ _ _ h => h) (Or.inl ⟨by rfl, ?_⟩) ?_ ?_
  rotate_left
  · intro w'
    go_simp
    with_reducible rfl
  rotate_left
  · simp only [Act.put, List.setIfInBounds_toArray, List.set_cons_zero, List.set_cons_succ, i64_w, i32_w]
    rfl
  refine pure_ (i := 4) (N := some 58) (v := ?_) (a' := ?_) #[true, true, true, true, true, false, false, false, false, false, false, false, false, false, false, false, false, false, false, false, false, false, false, false, false, false, false, false, false] rfl rfl (by kernel_rfl) (fun _ _ _ h => h) (Or.inl ⟨by rfl, ?_⟩) ?_ ?_
  rotate_left
  · intro w'
    go_simp
    with_reducible rfl
  rotate_left
  · simp only [Act.put, List.setIfInBounds_toArray, List.set_cons_zero, List.set_cons_succ, i64_w, i32_w]
    rfl
  refine take_ (i := 5) (N := some 59) (v := ?_) (a' := ?_) #[true, true, true, true, true, true, false, false, false, false, false, false, false, false, false, false, false, false, false, false, false, false, false, false, false, false, false, false, false] rfl rfl (by kernel_rfl) (fun _ _ _ h => h) (Or.inl ⟨by rfl, ?_⟩) hHeld ?_ ?_
  rotate_left
  · rintro w' ⟨s0, s1, s2, s3, s4, s5⟩
    go_simp
    with_reducible rfl
  rotate_left
  · simp only [Act.put, List.setIfInBounds_toArray, List.set_cons_zero, List.set_cons_succ, i64_w, i32_w]
    rfl
  refine take_ (i := 6) (N := some 60) (v := ?_) (a' := ?_) #[true, true, true, true, true, true, true, false, false, false, false, false, false, false, false, false, false, false, false, false, false, false, false, false, false, false, false, false, false] rfl rfl (by kernel_rfl) (fun _ _ _ h => h) (Or.inl ⟨by rfl, ?_⟩) hHeld ?_ ?_
  rotate_left
  · rintro w' ⟨s0, s1, s2, s3, s4, s5⟩
    go_simp
    with_reducible rfl
  rotate_left
  · simp only [Act.put, List.setIfInBounds_toArray, List.set_cons_zero, List.set_cons_succ, i64_w, i32_w]
    rfl
  refine pure_ (i := 9) (N := some 63) (v := ?_) (a' := ?_) #[true, true, true, true, true, true, true, false, false, true, false, false, false, false, false, false, false, false, false, false, false, false, false, false, false, false, false, false, false] rfl rfl (by kernel_rfl) (fun _ _ _ h => h) (Or.inl ⟨by rfl, ?_⟩) ?_ ?_
  rotate_left
  · intro w'
    go_simp
    with_reducible rfl
  rotate_left
  · simp only [Act.put, List.setIfInBounds_toArray, List.set_cons_zero, List.set_cons_succ, i64_w, i32_w]
    rfl
  refine pure_ (i := 10) (N := some 64) (v := ?_) (a' := ?_) #[true, true, true, true, true, true, true, false, false, true, true, false, false, false, false, false, false, false, false, false, false, false, false, false, false, false, false, false, false] rfl rfl (by kernel_rfl) (fun _ _ _ h => h) (Or.inl ⟨by rfl, ?_⟩) ?_ ?_
  rotate_left
  · intro w'
    go_simp
    with_reducible rfl
  rotate_left
  · simp only [Act.put, List.setIfInBounds_toArray, List.set_cons_zero, List.set_cons_succ, i64_w, i32_w]
    rfl
  refine pure_ (i := 11) (N := some 65) (v := ?_) (a' := ?_) #[true, true, true, true, true, true, true, false, false, true, true, true, false, false, false, false, false, false, false, false, false, false, false, false, false, false, false, false, false] rfl rfl (by kernel_rfl) (fun _ _ _ h => h) (Or.inl ⟨by rfl, ?_⟩) ?_ ?_
  rotate_left
  · intro w'
    go_simp
    with_reducible rfl
  rotate_left
  · simp only [Act.put, List.setIfInBounds_toArray, List.set_cons_zero, List.set_cons_succ, i64_w, i32_w]
    rfl
  refine take_ (i := 12) (N := some 66) (v := ?_) (a' := ?_) #[true, true, true, true, true, true, true, false, false, true, true, true, true, false, false, false, false, false, false, false, false, false, false, false, false, false, false, false, false] rfl rfl (by kernel_rfl) (fun _ _ _ h => h) (Or.inl ⟨by rfl, ?_⟩) hHeld ?_ ?_
  rotate_left
  · rintro w' ⟨s0, s1, s2, s3, s4, s5⟩
    go_simp
    with_reducible rfl
  rotate_left
  · simp only [Act.put, List.setIfInBounds_toArray, List.set_cons_zero, List.set_cons_succ, i64_w, i32_w]
    rfl
  refine pure_ (i := 13) (N := some 67) (v := ?_) (a' := ?_) #[true, true, true, true, true, true, true, false, false, true, true, true, true, true, false, false, false, false, false, false, false, false, false, false, false, false, false, false, false] rfl rfl (by kernel_rfl) (fun _ _ _ h => h) (Or.inl ⟨by rfl, ?_⟩) ?_ ?_
  rotate_left
  · intro w'
    go_simp
    with_reducible rfl
  rotate_left
  · simp only [Act.put, List.setIfInBounds_toArray, List.set_cons_zero, List.set_cons_succ, i64_w, i32_w]
    rfl
  refine pure_ (i := 14) (N := some 68) (v := ?_) (a' := ?_) #[true, true, true, true, true, true, true, false, false, true, true, true, true, true, true, false, false, false, false, false, false, false, false, false, false, false, false, false, false] rfl rfl (by kernel_rfl) (fun _ _ _ h => h) (Or.inl ⟨by rfl, ?_⟩) ?_ ?_
  rotate_left
  · intro w'
    go_simp
    with_reducible rfl
  rotate_left
  · simp only [Act.put, List.setIfInBounds_toArray, List.set_cons_zero, List.set_cons_succ, i64_w, i32_w]
    rfl
  refine pure_ (i := 15) (N := some 69) (v := ?_) (a' := ?_) #[true, true, true, true, true, true, true, false, false, true, true, true, true, true, true, true, false, false, false, false, false, false, false, false, false, false, false, false, false] rfl rfl (by kernel_rfl) (fun _ _ _ h => h) (Or.inl ⟨by rfl, ?_⟩) ?_ ?_
  rotate_left
  · intro w'
    go_simp
    with_reducible rfl
  rotate_left
  · simp only [Act.put, List.setIfInBounds_toArray, List.set_cons_zero, List.set_cons_succ, i64_w, i32_w]
    rfl
  refine take_ (i := 16) (N := some 70) (v := ?_) (a' := ?_) #[true, true, true, true, true, true, true, false, false, true, true, true, true, true, true, true, true, false, false, false, false, false, false, false, false, false, false, false, false] rfl rfl (by kernel_rfl) (fun _ _ _ h => h) (Or.inl ⟨by rfl, ?_⟩) hHeld ?_ ?_
  rotate_left
  · rintro w' ⟨s0, s1, s2, s3, s4, s5⟩
    go_simp
    with_reducible rfl
  rotate_left
  · simp only [Act.put, List.setIfInBounds_toArray, List.set_cons_zero, List.set_cons_succ, i64_w, i32_w]
    rfl
  refine pure_ (i := 17) (N := some 71) (v := ?_) (a' := ?_) #[true, true, true, true, true, true, true, false, false, true, true, true, true, true, true, true, true, true, false, false, false, false, false, false, false, false, false, false, false] rfl rfl (by kernel_rfl) (fun _ _ _ h => h) (Or.inl ⟨by rfl, ?_⟩) ?_ ?_
  rotate_left
  · intro w'
    go_simp
    with_reducible rfl
  rotate_left
  · simp only [Act.put, List.setIfInBounds_toArray, List.set_cons_zero, List.set_cons_succ, i64_w, i32_w]
    rfl
  refine pure_ (i := 18) (N := some 72) (v := ?_) (a' := ?_) #[true, true, true, true, true, true, true, false, false, true, true, true, true, true, true, true, true, true, true, false, false, false, false, false, false, false, false, false, false] rfl rfl (by kernel_rfl) (fun _ _ _ h => h) (Or.inl ⟨by rfl, ?_⟩) ?_ ?_
  rotate_left
  · intro w'
    go_simp
    with_reducible rfl
  rotate_left
  · simp only [Act.put, List.setIfInBounds_toArray, List.set_cons_zero, List.set_cons_succ, i64_w, i32_w]
    rfl
  refine take_ (i := 19) (N := some 73) (v := ?_) (a' := ?_) #[true, true, true, true, true, true, true, false, false, true, true, true, true, true, true, true, true, true, true, true, false, false, false, false, false, false, false, false, false] rfl rfl (by kernel_rfl) (fun _ _ _ h => h) (Or.inl ⟨by rfl, ?_⟩) hHeld ?_ ?_
  rotate_left
  · rintro w' ⟨s0, s1, s2, s3, s4, s5⟩
    go_simp
    with_reducible rfl
  rotate_left
  · simp only [Act.put, List.setIfInBounds_toArray, List.set_cons_zero, List.set_cons_succ, i64_w, i32_w]
    rfl
  refine pure_ (i := 20) (N := some 74) (v := .int .i64 ((V + 1 : Nat) : Int)) (a' := ?_) #[true, true, true, true, true, true, true, false, false, true, true, true, true, true, true, true, true, true, true, true, true, false, false, false, false, false, false, false, false] rfl rfl (by kernel_rfl) (fun _ _ _ h => h) (Or.inl ⟨by rfl, ?_⟩) ?_ ?_
  · intro w'
    go_simp
    rw [i64_w]
    exact HWV.out
  rotate_left
  · simp only [Act.put, List.setIfInBounds_toArray, List.set_cons_zero, List.set_cons_succ, i64_w, i32_w]
    rfl
  obtain ⟨wd, hwd⟩ : ∃ wd, wd = (wa.drewN nq).drew := ⟨_, rfl⟩
  have HWd := Lib.hid (show TreeW wd base g gn gd mb cn cd D T by rw [hwd]; exact (HW.out.drewN nq).drew)
  have HBd := Lib.hid (show Below W.heap.size W wd by rw [hwd]; exact (pw_below_drewN HBA.out nq).drew)
  have hw2 : w2.heap.size < wd.heap.size := by rw [hwd]; exact World.block_lt_of_cell? wa _ hn0
  rw [← hwd] at hHeld ⊢
  have hNodes := HWd.out.nodes
  have hDeep := HWd.out.deep
  rw [← HNN.out] at hNodes
  rw [← HMV.out.1] at hDeep
  have hap := HWd.out.apart
  have hlow := HWd.out.low
  have hwn : w2.heap.size ≠ gn ∧ w2.heap.size ≠ gd ∧ w2.heap.size ≠ g ∧ w2.heap.size ≠ mb := by
    have := HB.out.size
    have h1 := Kd.R_lt H'.out.nodes gn rfl
    have h2 := Kd.R_lt H'.out.deep gd rfl
    have h3 := (Array.getElem?_eq_some_iff.1 H'.out.box).1
    obtain ⟨_, _, h4, _⟩ := H'.out.map
    have h4 := (Array.getElem?_eq_some_iff.1 h4).1
    exact ⟨by omega, by omega, by omega, by omega⟩
  have HTd := Lib.hid (show Two wd wd base gn gd i V gn cn gd cd N M T.nodes T.deep from
    { below := Below.refl _ _, N := hNodes, D := hDeep, ln := HNN.out, lm := HMV.out.1, ne := hap.2.2.2.1,
      lt1 := Kd.R_lt hNodes gn rfl, lt2 := World.block_lt_of_cell? wd _ hHeld.2.2.1, o1 := .inl rfl, o2 := .inl rfl, keep := fun _ _ _ _ => rfl, cell := hHeld.2.2.1,
      hi := by have := HI.out.2; rw [HWd.out.wf.len]; omega, hb := ⟨Nat.le_trans hbase HBd.out.size, hlow.2.1, hlow.2.2.1, Kd.R_lt hNodes gn rfl, Kd.R_lt hDeep gd rfl, hap.2.2.2.1⟩ })
  have HSs := Lib.hid hHeld
  have hSof : ∀ (w : World) (g1 c1 g2 c2 n m : Nat) (xs : List Nd) (ys : List Nat), Two wd w base gn gd i V g1 c1 g2 c2 n m xs ys → w.cell? ⟨g, 0, none⟩ = some (.slice (some ⟨gn, 0, none⟩) N cn) ∧ w.cell? ⟨g, 1, none⟩ = some (.slice (some ⟨gd, 0, none⟩) M cd) ∧ w.cell? ⟨gd, i, none⟩ = some (.int .i64 V) ∧ w.cell? ⟨w2.heap.size, 0, none⟩ = some (.int .i64 i) ∧ w.cell? ⟨w2.heap.size, 1, none⟩ = some (.string p.1) ∧ w.cell? ⟨w2.heap.size, 2, none⟩ = some (.int .i64 p.2) := fun w g1 c1 g2 c2 n m xs ys hT =>
    ⟨hT.cellK HSs.out.1 hap.1 hap.2.1, hT.cellK HSs.out.2.1 hap.1 hap.2.1, hT.cell, hT.cellK HSs.out.2.2.2.1 hwn.1 hwn.2.1, hT.cellK HSs.out.2.2.2.2.1 hwn.1 hwn.2.1, hT.cellK HSs.out.2.2.2.2.2 hwn.1 hwn.2.1⟩
  have HSof := Lib.hid hSof
  have HWN := Lib.hid hwn
  have hN4 : N < 4096 := by have := H5.out; have := HNN.out; omega
  clear hwd hSof hNodes hDeep hwn hap hlow hw2 hl0 hl1 hcd ha2 hn0 hn1 hn2 hrun
  refine join_ (σ := Nat × Nat × Nat × Nat × Nat × Nat) 6 #[true, true, true, true, true, true, true, true, true, true, true, true, true, true, true, true, true, true, true, true, true, true, true, false, false, false, false, false, false] (fun s => [(61, .slice (some ⟨s.1, 0, none⟩) 1 1), (62, .slice (some ⟨s.2.1, 0, none⟩) (N + 1) s.2.2.1), (75, .slice (some ⟨s.2.2.2.1, 0, none⟩) 1 1), (76, .slice (some ⟨s.2.2.2.2.1, 0, none⟩) (M + 1) s.2.2.2.2.2)]) (fun s w => Two wd w base gn gd i V s.2.1 s.2.2.1 s.2.2.2.2.1 s.2.2.2.2.2 (N + 1) (M + 1) (T.nodes ++ [(i, p)]) (T.deep ++ [V + 1]) ∧ (True) ∧ (True)) ?_ ?_
  rotate_left
  · intro hJ22
    refine join_ (σ := Nat × Nat × Nat × Nat × Nat × Nat) 7 #[true, true, true, true, true, true, true, true, true, true, true, true, true, true, true, true, true, true, true, true, true, true, false, false, false, false, false, false, false] (fun s => [(61, .slice (some ⟨s.1, 0, none⟩) 1 1), (62, .slice (some ⟨s.2.1, 0, none⟩) (N + 1) s.2.2.1), (75, .slice (some ⟨s.2.2.2.1, 0, none⟩) 1 1)]) (fun s w => Two wd w base gn gd i V s.2.1 s.2.2.1 gd cd (N + 1) M (T.nodes ++ [(i, p)]) T.deep ∧ (True) ∧ (w.heap[s.2.2.2.1]? = some (.cells #[.int .i64 ((V + 1 : Nat) : Int)] 3) ∧ wd.heap.size ≤ s.2.2.2.1 ∧ s.2.2.2.1 ≠ s.2.1 ∧ s.2.2.2.1 ≠ gd)) ?_ ?_
    rotate_left
    · intro hJ21
      refine join_ (σ := Nat × Nat × Nat × Nat × Nat × Nat) 8 #[true, true, true, true, true, true, true, true, true, true, true, true, true, true, true, true, true, true, true, true, true, false, false, false, false, false, false, false, false] (fun s => [(61, .slice (some ⟨s.1, 0, none⟩) 1 1), (62, .slice (some ⟨s.2.1, 0, none⟩) (N + 1) s.2.2.1)]) (fun s w => Two wd w base gn gd i V s.2.1 s.2.2.1 gd cd (N + 1) M (T.nodes ++ [(i, p)]) T.deep ∧ (True) ∧ (True)) ?_ ?_
      rotate_left
      · intro hJ20
        refine join_ (σ := Nat × Nat × Nat × Nat × Nat × Nat) 8 #[true, true, true, true, true, true, true, true, false, true, true, true, true, true, true, true, true, true, true, true, true, true, false, false, false, false, false, false, false] (fun s => [(61, .slice (some ⟨s.1, 0, none⟩) 1 1), (75, .slice (some ⟨s.2.2.2.1, 0, none⟩) 1 1)]) (fun s w => Two wd w base gn gd i V gn cn gd cd N M T.nodes T.deep ∧ (w.heap[s.1]? = some (.cells #[.int .i64 (i : Nat), .string p.1, .int .i64 p.2] 136) ∧ wd.heap.size ≤ s.1 ∧ s.1 ≠ gn ∧ s.1 ≠ gd) ∧ (w.heap[s.2.2.2.1]? = some (.cells #[.int .i64 ((V + 1 : Nat) : Int)] 3) ∧ wd.heap.size ≤ s.2.2.2.1 ∧ s.2.2.2.1 ≠ gn ∧ s.2.2.2.1 ≠ gd)) ?_ ?_
        rotate_left
        · intro hJ11
          refine join_ (σ := Nat × Nat × Nat × Nat × Nat × Nat) 9 #[true, true, true, true, true, true, true, true, false, true, true, true, true, true, true, true, true, true, true, true, true, false, false, false, false, false, false, false, false] (fun s => [(61, .slice (some ⟨s.1, 0, none⟩) 1 1)]) (fun s w => Two wd w base gn gd i V gn cn gd cd N M T.nodes T.deep ∧ (w.heap[s.1]? = some (.cells #[.int .i64 (i : Nat), .string p.1, .int .i64 p.2] 136) ∧ wd.heap.size ≤ s.1 ∧ s.1 ≠ gn ∧ s.1 ≠ gd) ∧ (True)) ?_ ?_
          rotate_left
          · intro hJ10
            refine join_ (σ := Nat × Nat × Nat × Nat × Nat × Nat) 9 #[true, true, true, true, true, true, true, false, false, true, true, true, true, true, true, true, true, true, true, true, true, true, false, false, false, false, false, false, false] (fun s => [(75, .slice (some ⟨s.2.2.2.1, 0, none⟩) 1 1)]) (fun s w => Two wd w base gn gd i V gn cn gd cd N M T.nodes T.deep ∧ (True) ∧ (w.heap[s.2.2.2.1]? = some (.cells #[.int .i64 ((V + 1 : Nat) : Int)] 3) ∧ wd.heap.size ≤ s.2.2.2.1 ∧ s.2.2.2.1 ≠ gn ∧ s.2.2.2.1 ≠ gd)) ?_ ?_
            rotate_left
            · intro hJ01
              have HTw := HTd
              refine two_ (i := 7) (j := 21) (Ni := some 61) (Nj := some 75) #[true, true, true, true, true, true, true, true, false, true, true, true, true, true, true, true, true, true, true, true, true, false, false, false, false, false, false, false, false] #[true, true, true, true, true, true, true, false, false, true, true, true, true, true, true, true, true, true, true, true, true, true, false, false, false, false, false, false, false] rfl rfl rfl rfl (by kernel_rfl) (by decide) (by decide) (fun K hK => ?_) (fun K hK => ?_)
              · skip
                have HT2 := Lib.hid (HTw.out.alloc (.cells #[.int .i64 (i : Nat), .string p.1, .int .i64 p.2] 136))
                refine value_ (w1 := ?_) (v := ?_) (by rfl) rfl ?_ ?_
                rotate_left 2
                · go_simp
                  first | (constructor <;> rfl) | (rw [HWV.out]; constructor <;> rfl)
                refine hK.out _ _ (HSof.out _ _ _ _ _ _ _ _ _ HT2.out) (fun hHeld => ?_)
                clear hK K
                refine norm_ (a' := ?_) ?_ ?_
                rotate_left
                · show Act.put _ (some 61) _ = _
                  simp only [Act.put, List.setIfInBounds_toArray, List.set_cons_zero, List.set_cons_succ, i64_w, i32_w]
                  rfl
                exact norm_ (by first | (simp only [putAll, Act.put, List.setIfInBounds_toArray, List.set_cons_zero, List.set_cons_succ]; done) | (simp only [putAll, Act.put, List.setIfInBounds_toArray, List.set_cons_zero, List.set_cons_succ]; rfl)) (hJ10 (wd.heap.size, 0, 0, 0, 0, 0) _ ⟨HT2.out, ⟨(heap_alloc_new wd _), HTw.out.size, by have := HTw.out.lt1; (try dsimp only); omega, by have := HTw.out.lt2; (try dsimp only); omega⟩, trivial⟩)
              · skip
                have HT2 := Lib.hid (HTw.out.alloc (.cells #[.int .i64 ((V + 1 : Nat) : Int)] 3))
                skip
                refine value_ (w1 := ?_) (v := ?_) (by rfl) rfl ?_ ?_
                rotate_left 2
                · go_simp
                  first | (constructor <;> rfl) | (rw [HWV.out]; constructor <;> rfl)
                refine hK.out _ _ (HSof.out _ _ _ _ _ _ _ _ _ HT2.out) (fun hHeld => ?_)
                clear hK K
                refine norm_ (a' := ?_) ?_ ?_
                rotate_left
                · show Act.put _ (some 75) _ = _
                  simp only [Act.put, List.setIfInBounds_toArray, List.set_cons_zero, List.set_cons_succ, i64_w, i32_w]
                  rfl
                exact norm_ (by first | (simp only [putAll, Act.put, List.setIfInBounds_toArray, List.set_cons_zero, List.set_cons_succ]; done) | (simp only [putAll, Act.put, List.setIfInBounds_toArray, List.set_cons_zero, List.set_cons_succ]; rfl)) (hJ01 (0, 0, 0, wd.heap.size, 0, 0) _ ⟨HT2.out, trivial, ⟨(heap_alloc_new wd _), HTw.out.size, by have := HTw.out.lt1; (try dsimp only); omega, by have := HTw.out.lt2; (try dsimp only); omega⟩⟩)
            · skip
              rintro ⟨b7, q1, e1, b8, q2, e2⟩ w ⟨hTw, hR7, hR8⟩
              dsimp only at hTw hR7 hR8
              have HTw := Lib.hid hTw
              have HR7 := Lib.hid hR7
              have HR8 := Lib.hid hR8
              clear hTw hR7 hR8
              refine norm_ (a' := ?_) ?_ ?_
              rotate_left
              · simp only [putAll, Act.put, List.setIfInBounds_toArray, List.set_cons_zero, List.set_cons_succ]
                rfl
              refine one_ (i := 7) (N := some 61) #[true, true, true, true, true, true, true, true, false, true, true, true, true, true, true, true, true, true, true, true, true, true, false, false, false, false, false, false, false] rfl rfl (by kernel_rfl) (by decide) (fun K hK => ?_)
              have HT2 := Lib.hid (HTw.out.alloc (.cells #[.int .i64 (i : Nat), .string p.1, .int .i64 p.2] 136))
              refine value_ (w1 := ?_) (v := ?_) (by rfl) rfl ?_ ?_
              rotate_left 2
              · go_simp
                first | (constructor <;> rfl) | (rw [HWV.out]; constructor <;> rfl)
              refine hK.out _ _ (HSof.out _ _ _ _ _ _ _ _ _ HT2.out) (fun hHeld => ?_)
              clear hK K
              refine norm_ (a' := ?_) ?_ ?_
              rotate_left
              · show Act.put _ (some 61) _ = _
                simp only [Act.put, List.setIfInBounds_toArray, List.set_cons_zero, List.set_cons_succ, i64_w, i32_w]
                rfl
              exact norm_ (by first | (simp only [putAll, Act.put, List.setIfInBounds_toArray, List.set_cons_zero, List.set_cons_succ]; done) | (simp only [putAll, Act.put, List.setIfInBounds_toArray, List.set_cons_zero, List.set_cons_succ]; rfl)) (hJ11 (w.heap.size, 0, 0, b8, 0, 0) _ ⟨HT2.out, ⟨(heap_alloc_new w _), HTw.out.size, by have := HTw.out.lt1; (try dsimp only); omega, by have := HTw.out.lt2; (try dsimp only); omega⟩, ⟨by rw [heap_alloc_old _ _ (Array.getElem?_eq_some_iff.1 HR8.out.1).1]; exact HR8.out.1, HR8.out.2⟩⟩)
          · skip
            rintro ⟨b7, q1, e1, b8, q2, e2⟩ w ⟨hTw, hR7, hR8⟩
            dsimp only at hTw hR7 hR8
            have HTw := Lib.hid hTw
            have HR7 := Lib.hid hR7
            have HR8 := Lib.hid hR8
            clear hTw hR7 hR8
            refine norm_ (a' := ?_) ?_ ?_
            rotate_left
            · simp only [putAll, Act.put, List.setIfInBounds_toArray, List.set_cons_zero, List.set_cons_succ]
              rfl
            refine two_ (i := 8) (j := 21) (Ni := some 62) (Nj := some 75) #[true, true, true, true, true, true, true, true, true, true, true, true, true, true, true, true, true, true, true, true, true, false, false, false, false, false, false, false, false] #[true, true, true, true, true, true, true, true, false, true, true, true, true, true, true, true, true, true, true, true, true, true, false, false, false, false, false, false, false] rfl rfl rfl rfl (by kernel_rfl) (by decide) (by decide) (fun K hK => ?_) (fun K hK => ?_)
            · skip
              refine app_step kNd rfl (by rfl) (.tmp 59) (.tmp 61) 130 136 (.agg #[.int .i64 0, .string ⟨#[]⟩, .int .i64 0]) 32 rfl Tryd.underlying130 info_nd rfl (by decide) (by decide) (b := b7) (cs := [.int .i64 (i : Nat), .string p.1, .int .i64 p.2]) (p := ((i, p) : Nd)) (fr := (0, 0)) HTw.out.ln rfl rfl HTw.out.N (kNd_mkM _ _ _ ((i, p) : Nd)) HR7.out.1 (by have := HTw.out.size; have := HTw.out.hb; omega) (by omega) ?_
              intro q1 e1 w5 hR5 hg5 hat5 hlt5 hc5
              have HT2 := Lib.hid (HTw.out.appN hR5 hg5 hat5 hlt5)
              have HG5 := Lib.hid hg5
              have HA5 := Lib.hid hat5
              clear hR5 hg5 hat5 hlt5 hc5
              refine hK.out _ _ (HSof.out _ _ _ _ _ _ _ _ _ HT2.out) (fun hHeld => ?_)
              clear hK K
              refine norm_ (a' := ?_) ?_ ?_
              rotate_left
              · show Act.put _ (some 62) _ = _
                simp only [Act.put, List.setIfInBounds_toArray, List.set_cons_zero, List.set_cons_succ, i64_w, i32_w]
                rfl
              exact norm_ (by first | (simp only [putAll, Act.put, List.setIfInBounds_toArray, List.set_cons_zero, List.set_cons_succ]; done) | (simp only [putAll, Act.put, List.setIfInBounds_toArray, List.set_cons_zero, List.set_cons_succ]; rfl)) (hJ20 (b7, q1, e1, 0, 0, 0) _ ⟨HT2.out, trivial, trivial⟩)
            · skip
              have HT2 := Lib.hid (HTw.out.alloc (.cells #[.int .i64 ((V + 1 : Nat) : Int)] 3))
              skip
              refine value_ (w1 := ?_) (v := ?_) (by rfl) rfl ?_ ?_
              rotate_left 2
              · go_simp
                first | (constructor <;> rfl) | (rw [HWV.out]; constructor <;> rfl)
              refine hK.out _ _ (HSof.out _ _ _ _ _ _ _ _ _ HT2.out) (fun hHeld => ?_)
              clear hK K
              refine norm_ (a' := ?_) ?_ ?_
              rotate_left
              · show Act.put _ (some 75) _ = _
                simp only [Act.put, List.setIfInBounds_toArray, List.set_cons_zero, List.set_cons_succ, i64_w, i32_w]
                rfl
              exact norm_ (by first | (simp only [putAll, Act.put, List.setIfInBounds_toArray, List.set_cons_zero, List.set_cons_succ]; done) | (simp only [putAll, Act.put, List.setIfInBounds_toArray, List.set_cons_zero, List.set_cons_succ]; rfl)) (hJ11 (b7, 0, 0, w.heap.size, 0, 0) _ ⟨HT2.out, ⟨by rw [heap_alloc_old _ _ (Array.getElem?_eq_some_iff.1 HR7.out.1).1]; exact HR7.out.1, HR7.out.2⟩, ⟨(heap_alloc_new w _), HTw.out.size, by have := HTw.out.lt1; (try dsimp only); omega, by have := HTw.out.lt2; (try dsimp only); omega⟩⟩)
        · skip
          rintro ⟨b7, q1, e1, b8, q2, e2⟩ w ⟨hTw, hR7, hR8⟩
          dsimp only at hTw hR7 hR8
          have HTw := Lib.hid hTw
          have HR7 := Lib.hid hR7
          have HR8 := Lib.hid hR8
          clear hTw hR7 hR8
          refine norm_ (a' := ?_) ?_ ?_
          rotate_left
          · simp only [putAll, Act.put, List.setIfInBounds_toArray, List.set_cons_zero, List.set_cons_succ]
            rfl
          refine one_ (i := 8) (N := some 62) #[true, true, true, true, true, true, true, true, true, true, true, true, true, true, true, true, true, true, true, true, true, true, false, false, false, false, false, false, false] rfl rfl (by kernel_rfl) (by decide) (fun K hK => ?_)
          refine app_step kNd rfl (by rfl) (.tmp 59) (.tmp 61) 130 136 (.agg #[.int .i64 0, .string ⟨#[]⟩, .int .i64 0]) 32 rfl Tryd.underlying130 info_nd rfl (by decide) (by decide) (b := b7) (cs := [.int .i64 (i : Nat), .string p.1, .int .i64 p.2]) (p := ((i, p) : Nd)) (fr := (0, 0)) HTw.out.ln rfl rfl HTw.out.N (kNd_mkM _ _ _ ((i, p) : Nd)) HR7.out.1 (by have := HTw.out.size; have := HTw.out.hb; omega) (by omega) ?_
          intro q1 e1 w5 hR5 hg5 hat5 hlt5 hc5
          have HT2 := Lib.hid (HTw.out.appN hR5 hg5 hat5 hlt5)
          have HG5 := Lib.hid hg5
          have HA5 := Lib.hid hat5
          clear hR5 hg5 hat5 hlt5 hc5
          refine hK.out _ _ (HSof.out _ _ _ _ _ _ _ _ _ HT2.out) (fun hHeld => ?_)
          clear hK K
          refine norm_ (a' := ?_) ?_ ?_
          rotate_left
          · show Act.put _ (some 62) _ = _
            simp only [Act.put, List.setIfInBounds_toArray, List.set_cons_zero, List.set_cons_succ, i64_w, i32_w]
            rfl
          exact norm_ (by first | (simp only [putAll, Act.put, List.setIfInBounds_toArray, List.set_cons_zero, List.set_cons_succ]; done) | (simp only [putAll, Act.put, List.setIfInBounds_toArray, List.set_cons_zero, List.set_cons_succ]; rfl)) (hJ21 (b7, q1, e1, b8, 0, 0) _ ⟨HT2.out, trivial, ⟨by rw [HG5.out.block _ (Array.getElem?_eq_some_iff.1 HR8.out.1).1 (by intro e; injection e with e; have := HR8.out.2; omega)]; exact HR8.out.1, HR8.out.2.1, by have := HR8.out.2; have := (Array.getElem?_eq_some_iff.1 HR8.out.1).1; have := HA5.out; (try dsimp only); omega, by have := HR8.out.2; have := (Array.getElem?_eq_some_iff.1 HR8.out.1).1; have := HA5.out; (try dsimp only); omega⟩⟩)
      · skip
        rintro ⟨b7, q1, e1, b8, q2, e2⟩ w ⟨hTw, hR7, hR8⟩
        dsimp only at hTw hR7 hR8
        have HTw := Lib.hid hTw
        have HR7 := Lib.hid hR7
        have HR8 := Lib.hid hR8
        clear hTw hR7 hR8
        refine norm_ (a' := ?_) ?_ ?_
        rotate_left
        · simp only [putAll, Act.put, List.setIfInBounds_toArray, List.set_cons_zero, List.set_cons_succ]
          rfl
        refine one_ (i := 21) (N := some 75) #[true, true, true, true, true, true, true, true, true, true, true, true, true, true, true, true, true, true, true, true, true, true, false, false, false, false, false, false, false] rfl rfl (by kernel_rfl) (by decide) (fun K hK => ?_)
        have HT2 := Lib.hid (HTw.out.alloc (.cells #[.int .i64 ((V + 1 : Nat) : Int)] 3))
        skip
        refine value_ (w1 := ?_) (v := ?_) (by rfl) rfl ?_ ?_
        rotate_left 2
        · go_simp
          first | (constructor <;> rfl) | (rw [HWV.out]; constructor <;> rfl)
        refine hK.out _ _ (HSof.out _ _ _ _ _ _ _ _ _ HT2.out) (fun hHeld => ?_)
        clear hK K
        refine norm_ (a' := ?_) ?_ ?_
        rotate_left
        · show Act.put _ (some 75) _ = _
          simp only [Act.put, List.setIfInBounds_toArray, List.set_cons_zero, List.set_cons_succ, i64_w, i32_w]
          rfl
        exact norm_ (by first | (simp only [putAll, Act.put, List.setIfInBounds_toArray, List.set_cons_zero, List.set_cons_succ]; done) | (simp only [putAll, Act.put, List.setIfInBounds_toArray, List.set_cons_zero, List.set_cons_succ]; rfl)) (hJ21 (b7, q1, e1, w.heap.size, 0, 0) _ ⟨HT2.out, trivial, ⟨(heap_alloc_new w _), HTw.out.size, by have := HTw.out.lt1; (try dsimp only); omega, by have := HTw.out.lt2; (try dsimp only); omega⟩⟩)
    · skip
      rintro ⟨b7, q1, e1, b8, q2, e2⟩ w ⟨hTw, hR7, hR8⟩
      dsimp only at hTw hR7 hR8
      have HTw := Lib.hid hTw
      have HR7 := Lib.hid hR7
      have HR8 := Lib.hid hR8
      clear hTw hR7 hR8
      refine norm_ (a' := ?_) ?_ ?_
      rotate_left
      · simp only [putAll, Act.put, List.setIfInBounds_toArray, List.set_cons_zero, List.set_cons_succ]
        rfl
      refine one_ (i := 22) (N := some 76) #[true, true, true, true, true, true, true, true, true, true, true, true, true, true, true, true, true, true, true, true, true, true, true, false, false, false, false, false, false] rfl rfl (by kernel_rfl) (by decide) (fun K hK => ?_)
      refine app_step kDp rfl (by rfl) (.tmp 66) (.tmp 75) 83 3 (.int .i64 0) 8 rfl Tryd.underlying83 info_dp rfl (by decide) (by decide) (b := b8) (cs := [.int .i64 ((V + 1 : Nat) : Int)]) (p := (V + 1)) (fr := (0, 0)) HTw.out.lm rfl rfl HTw.out.D (rfl) HR8.out.1 (by have := HTw.out.size; have := HTw.out.hb; omega) (by omega) ?_
      intro q2 e2 w5 hR5 hg5 hat5 hlt5 hc5
      have HT2 := Lib.hid (HTw.out.appD hR5 hg5 hat5 hlt5 hc5)
      have HG5 := Lib.hid hg5
      have HA5 := Lib.hid hat5
      clear hR5 hg5 hat5 hlt5 hc5
      refine hK.out _ _ (HSof.out _ _ _ _ _ _ _ _ _ HT2.out) (fun hHeld => ?_)
      clear hK K
      refine norm_ (a' := ?_) ?_ ?_
      rotate_left
      · show Act.put _ (some 76) _ = _
        simp only [Act.put, List.setIfInBounds_toArray, List.set_cons_zero, List.set_cons_succ, i64_w, i32_w]
        rfl
      exact norm_ (by first | (simp only [putAll, Act.put, List.setIfInBounds_toArray, List.set_cons_zero, List.set_cons_succ]; done) | (simp only [putAll, Act.put, List.setIfInBounds_toArray, List.set_cons_zero, List.set_cons_succ]; rfl)) (hJ22 (b7, q1, e1, b8, q2, e2) _ ⟨HT2.out, trivial, trivial⟩)
  rintro ⟨b7, q1, e1, b8, q2, e2⟩ w ⟨hTw, hR7, hR8⟩
  dsimp only at hTw hR7 hR8
  have HTw := Lib.hid hTw
  have HR7 := Lib.hid hR7
  have HR8 := Lib.hid hR8
  clear hTw hR7 hR8
  refine norm_ (a' := ?_) ?_ ?_
  rotate_left
  · simp only [putAll, Act.put, List.setIfInBounds_toArray, List.set_cons_zero, List.set_cons_succ]
    rfl
  have HBX := Lib.hid (show w.heap[g]? = some (.cells #[.slice (some ⟨gn, 0, none⟩) N cn, .slice (some ⟨gd, 0, none⟩) M cd, .map (some mb)] 133) by
    have h1 := HWd.out.box
    rw [← HNN.out, ← HMV.out.1] at h1
    rw [HTw.out.keep g (Array.getElem?_eq_some_iff.1 HWd.out.box).1 HWd.out.apart.1 HWd.out.apart.2.1]
    exact h1)
  have hs0 : w.cell? ⟨g, 0, none⟩ = some (.slice (some ⟨gn, 0, none⟩) N cn) := by simp [World.cell?, HBX.out]
  have hf0 : w.frozen? ⟨g, 0, none⟩ = false := frozen_of_row w g 0 _ _ HBX.out
  have HB3 := Lib.hid (heap_setCell_same w g 0 _ _ (.slice (some ⟨q1, 0, none⟩) (N + 1) e1) HBX.out)
  have hs1 : (w.setCell ⟨g, 0, none⟩ (.slice (some ⟨q1, 0, none⟩) (N + 1) e1)).cell? ⟨g, 1, none⟩ = some (.slice (some ⟨gd, 0, none⟩) M cd) := by simp [World.cell?, HB3.out]
  have hf1 : (w.setCell ⟨g, 0, none⟩ (.slice (some ⟨q1, 0, none⟩) (N + 1) e1)).frozen? ⟨g, 1, none⟩ = false := frozen_of_row _ g 1 _ _ HB3.out
  have HB4 := Lib.hid (heap_setCell_same _ g 1 _ _ (.slice (some ⟨q2, 0, none⟩) (M + 1) e2) HB3.out)
  clear hHeld
  refine pure_ (i := 23) (N := some 77) (v := ?_) (a' := ?_) #[true, true, true, true, true, true, true, true, true, true, true, true, true, true, true, true, true, true, true, true, true, true, true, true, false, false, false, false, false] rfl rfl (by kernel_rfl) (fun _ _ _ h => h) (Or.inl ⟨by rfl, ?_⟩) ?_ ?_
  rotate_left
  · intro w'
    go_simp
    with_reducible rfl
  rotate_left
  · simp only [Act.put, List.setIfInBounds_toArray, List.set_cons_zero, List.set_cons_succ, i64_w, i32_w]
    rfl
  refine pure_ (i := 24) (N := some 78) (v := ?_) (a' := ?_) #[true, true, true, true, true, true, true, true, true, true, true, true, true, true, true, true, true, true, true, true, true, true, true, true, true, false, false, false, false] rfl rfl (by kernel_rfl) (fun _ _ _ h => h) (Or.inl ⟨by rfl, ?_⟩) ?_ ?_
  rotate_left
  · intro w'
    go_simp
    with_reducible rfl
  rotate_left
  · simp only [Act.put, List.setIfInBounds_toArray, List.set_cons_zero, List.set_cons_succ, i64_w, i32_w]
    rfl
  refine last_ (i := 25) (N := none) #[true, true, true, true, true, true, true, true, true, true, true, true, true, true, true, true, true, true, true, true, true, true, true, true, true, true, false, false, false] rfl rfl (by kernel_rfl) (by decide) (fun K hK => ?_)
  refine skip_ (w1 := w.setCell ⟨g, 0, none⟩ (.slice (some ⟨q1, 0, none⟩) (N + 1) e1)) (by rfl) rfl ?_ ?_
  · go_simp
    first | done | rfl
  refine hK.out _ _ ?_
  clear hK K
  refine pure_ (i := 26) (N := some 79) (v := ?_) (a' := ?_) #[true, true, true, true, true, true, true, true, true, true, true, true, true, true, true, true, true, true, true, true, true, true, true, true, true, true, true, false, false] rfl rfl (by kernel_rfl) (fun _ _ _ h => h) (Or.inl ⟨by rfl, ?_⟩) ?_ ?_
  rotate_left
  · intro w'
    go_simp
    with_reducible rfl
  rotate_left
  · simp only [Act.put, List.setIfInBounds_toArray, List.set_cons_zero, List.set_cons_succ, i64_w, i32_w]
    rfl
  refine pure_ (i := 27) (N := some 80) (v := ?_) (a' := ?_) #[true, true, true, true, true, true, true, true, true, true, true, true, true, true, true, true, true, true, true, true, true, true, true, true, true, true, true, true, false] rfl rfl (by kernel_rfl) (fun _ _ _ h => h) (Or.inl ⟨by rfl, ?_⟩) ?_ ?_
  rotate_left
  · intro w'
    go_simp
    with_reducible rfl
  rotate_left
  · simp only [Act.put, List.setIfInBounds_toArray, List.set_cons_zero, List.set_cons_succ, i64_w, i32_w]
    rfl
  refine last_ (i := 28) (N := none) #[true, true, true, true, true, true, true, true, true, true, true, true, true, true, true, true, true, true, true, true, true, true, true, true, true, true, true, true, true] rfl rfl (by kernel_rfl) (by decide) (fun K hK => ?_)
  refine skip_ (w1 := (w.setCell ⟨g, 0, none⟩ (.slice (some ⟨q1, 0, none⟩) (N + 1) e1)).setCell ⟨g, 1, none⟩ (.slice (some ⟨q2, 0, none⟩) (M + 1) e2)) (by rfl) rfl ?_ ?_
  · go_simp
    first | done | rfl
  refine hK.out _ _ ?_
  clear hK K
  refine done_ (by kernel_rfl) ?_
  have hq : q1 ≠ g ∧ q2 ≠ g := by
    have h1 := HTw.out.o1
    have h2 := HTw.out.o2
    have h3 := (Array.getElem?_eq_some_iff.1 HWd.out.box).1
    have h4 := HWd.out.apart
    omega
  obtain ⟨w4, hw4⟩ : ∃ w4, w4 = (w.setCell ⟨g, 0, none⟩ (.slice (some ⟨q1, 0, none⟩) (N + 1) e1)).setCell ⟨g, 1, none⟩ (.slice (some ⟨q2, 0, none⟩) (M + 1) e2) := ⟨_, rfl⟩
  have hN4 : Kd.R kNd 136 w4 base (fun k => k = q1) (.slice (some ⟨q1, 0, none⟩) (N + 1) e1) (T.nodes ++ [(i, p)]) := by
    rw [hw4]
    exact Kd.R_far (Kd.R_far HTw.out.N (fun k hk => by have := hq.1; show k ≠ g; omega) _) (fun k hk => by have := hq.1; show k ≠ g; omega) _
  have hD4 : Kd.R kDp 3 w4 base (fun k => k = q2) (.slice (some ⟨q2, 0, none⟩) (M + 1) e2) (T.deep ++ [V + 1]) := by
    rw [hw4]
    exact Kd.R_far (Kd.R_far HTw.out.D (fun k hk => by have := hq.2; show k ≠ g; omega) _) (fun k hk => by have := hq.2; show k ≠ g; omega) _
  have ho4 : ∀ k, k ≠ g → w4.heap[k]? = w.heap[k]? := fun k hk => by
    rw [hw4, heap_setCell_other _ _ k _ (by exact hk), heap_setCell_other _ _ k _ (by exact hk)]
  have hz4 : w4.heap.size = w.heap.size := by rw [hw4, World.size_setCell, World.size_setCell]
  have hm4 : w4.ownsMap Tryd.prog 136 (plainElem Tryd.prog 3) mb N D := by
    have hm := HWd.out.map
    rw [← HNN.out] at hm
    have hml := hm.lt
    obtain ⟨es, clock, h1, h2⟩ := hm
    refine ⟨es, clock, ?_, h2⟩
    have hap := HWd.out.apart
    rw [ho4 mb (by omega), HTw.out.keep mb hml (by omega) (by omega)]
    exact h1
  have hb4 : w4.heap[g]? = some (.cells #[(.slice (some ⟨q1, 0, none⟩) (N + 1) e1), (.slice (some ⟨q2, 0, none⟩) (M + 1) e2), .map (some mb)] 133) := by rw [hw4]; exact HB4.out
  have hBl4 : Below base wd w4 := by
    rw [hw4]
    exact (HTw.out.below.setCell (show base ≤ g from HWd.out.low.1) _).setCell (show base ≤ g from HWd.out.low.1) _
  have hc2 : w4.cell? ⟨g, 2, none⟩ = some (.map (some mb)) := by simp [World.cell?, hb4]
  have hnd : w4.cell? ⟨w2.heap.size, 0, none⟩ = some (.int .i64 i) ∧ w4.cell? ⟨w2.heap.size, 1, none⟩ = some (.string p.1) ∧ w4.cell? ⟨w2.heap.size, 2, none⟩ = some (.int .i64 p.2) := by
    have hsf := HSof.out _ _ _ _ _ _ _ _ _ HTw.out
    have hbk := World.cell?_of_block (a := ⟨w2.heap.size, 0, none⟩) (ho4 w2.heap.size HWN.out.2.2.1)
    exact ⟨(World.cell?_of_block (ho4 w2.heap.size HWN.out.2.2.1)).trans hsf.2.2.2.1, (World.cell?_of_block (ho4 w2.heap.size HWN.out.2.2.1)).trans hsf.2.2.2.2.1, (World.cell?_of_block (ho4 w2.heap.size HWN.out.2.2.1)).trans hsf.2.2.2.2.2⟩
  rw [← hw4]
  clear hw4 hs0 hf0 hs1 hf1 HB3 HB4 HBX
  have HN4 := Lib.hid hN4
  have HD4 := Lib.hid hD4
  have HO4 := Lib.hid ho4
  have HM4 := Lib.hid hm4
  have HB4 := Lib.hid hb4
  have HL4 := Lib.hid hBl4
  have HQ := Lib.hid hq
  clear hN4 hD4 ho4 hm4 hb4 hBl4 hq HSof
  go_wp2
  have hput := MapIs.put HWd.out.told HX.out HF.out
  obtain ⟨w5, hrun5, hm5, ht5⟩ := (HM4.out.drew).store tre_keyed Tryd.underlying131 (by have := hN4; simp only [maxLen]; omega) (ndKey_eq HX.out) (plainElem_int (H := H) Tryd.underlying3 (a := (N : Int)) (wf_small (by omega) (by omega)))
  have hg5 := ht5.grown
  have hN5 : Kd.R kNd 136 w5 base (fun k => k = q1) (.slice (some ⟨q1, 0, none⟩) (N + 1) e1) (T.nodes ++ [(i, p)]) := Kd.R_grown (Kd.R_drew HN4.out) hg5 (fun k hk => by
    have h1 := HTw.out.o1; have h2 := HWd.out.apart; have h3 := HWd.out.map.lt
    intro e; injection e with e; omega)
  have hD5 : Kd.R kDp 3 w5 base (fun k => k = q2) (.slice (some ⟨q2, 0, none⟩) (M + 1) e2) (T.deep ++ [V + 1]) := Kd.R_grown (Kd.R_drew HD4.out) hg5 (fun k hk => by
    have h1 := HTw.out.o2; have h2 := HWd.out.apart; have h3 := HWd.out.map.lt
    intro e; injection e with e; omega)
  have hnl : N + 1 = (T.nodes ++ [(i, p)]).length := by rw [List.length_append, ← HNN.out]; rfl
  have hdl : M + 1 = (T.deep ++ [V + 1]).length := by rw [List.length_append, ← HMV.out.1]; rfl
  have hT5 : TreeW w5 base g q1 q2 mb e1 e2 (D.put (ndKey (i, p)) (.lit (.int .i64 N))) ⟨T.nodes ++ [(i, p)], T.deep ++ [V + 1]⟩ :=
    { box := by
        rw [hg5.block g (Array.getElem?_eq_some_iff.1 (show w4.drew.heap[g]? = _ from HB4.out)).1 (by have := HWd.out.apart; intro e; injection e with e; omega)]
        rw [← hnl, ← hdl]
        exact HB4.out
      nodes := by rw [← hnl]; exact hN5
      deep := by rw [← hdl]; exact hD5
      map := by rw [← hnl]; exact hm5
      told := by rw [← HNN.out] at hput; exact hput
      wf := by have := HPW.out; rw [← HMV.out.2] at this; exact this
      low := ⟨HWd.out.low.1, by have := HTw.out.o1; have := HWd.out.low; have := HTw.out.hb; omega, by have := HTw.out.o2; have := HWd.out.low; have := HTw.out.hb; omega, HWd.out.low.2.2.2⟩
      apart := by
        have h1 := HTw.out.o1; have h2 := HTw.out.o2; have h3 := HTw.out.ne; have h4 := HWd.out.apart; have h5 := HWd.out.map.lt
        have h6 := (Array.getElem?_eq_some_iff.1 HWd.out.box).1
        omega }
  have HT5 := Lib.hid hT5
  have HFIN := Lib.hid (show Below base W w5 ∧ ∀ k, k < W.heap.size → k ≠ g → k ≠ gn → k ≠ gd → k ≠ mb → (k ≠ q1 ∧ k ≠ q2) ∧ w5.heap[k]? = W.heap[k]? from by
    have hsz := HBd.out.size
    refine ⟨((HBd.out.mono hbase).trans HL4.out).trans ((Below.refl _ w4).drew.grown hg5 (by have := HL4.out.size; show base ≤ w4.heap.size; omega) (fun k hk => by injection hk with hk; have := HWd.out.low; omega)), fun k hk h1 h2 h3 h4 => ?_⟩
    have o1 := HTw.out.o1
    have o2 := HTw.out.o2
    refine ⟨by omega, ?_⟩
    have hz := HL4.out.size
    rw [hg5.block k (by show k < w4.heap.size; omega) (by intro e; injection e with e; omega)]
    show w4.heap[k]? = _
    rw [HO4.out k h1, HTw.out.keep k (by omega) h2 h3]
    exact HBd.out.block k hk)
  clear hN5 hD5 hT5 hm5 ht5 hg5 hput
  refine start_ (n := 7) (S := fun W => W = w4.drew ∧ (W.cell? ⟨g, 2, none⟩ = some (.map (some mb)) ∧ W.cell? ⟨w2.heap.size, 0, none⟩ = some (.int .i64 i) ∧ W.cell? ⟨w2.heap.size, 1, none⟩ = some (.string p.1) ∧ W.cell? ⟨w2.heap.size, 2, none⟩ = some (.int .i64 p.2))) (ds := [6]) #[false, false, false, false, false, false, false] (by kernel_rfl) rfl rfl ⟨rfl, hc2, hnd⟩ (fun hHeld => ?_)
  have hrun6 : (Instr.mapUpdate 131 (.map (some mb)) (.agg #[.int .i64 (i : Nat), .string p.1, .int .i64 p.2]) (.int .i64 N)).run Tryd.prog w4.drew = .ok () w5 := hrun5
  clear hrun5
  refine pure_ (i := 0) (N := some 81) (v := ?_) (a' := ?_) #[true, false, false, false, false, false, false] rfl rfl (by kernel_rfl) (fun _ _ _ h => h) (Or.inl ⟨by rfl, ?_⟩) ?_ ?_
  rotate_left
  · intro w'
    go_simp
    with_reducible rfl
  rotate_left
  · simp only [Act.put, List.setIfInBounds_toArray, List.set_cons_zero, List.set_cons_succ, i64_w, i32_w]
    rfl
  refine pure_ (i := 1) (N := some 82) (v := ?_) (a' := ?_) #[true, true, false, false, false, false, false] rfl rfl (by kernel_rfl) (fun _ _ _ h => h) (Or.inl ⟨by rfl, ?_⟩) ?_ ?_
  rotate_left
  · intro w'
    go_simp
    with_reducible rfl
  rotate_left
  · simp only [Act.put, List.setIfInBounds_toArray, List.set_cons_zero, List.set_cons_succ, i64_w, i32_w]
    rfl
  refine pure_ (i := 2) (N := some 83) (v := ?_) (a' := ?_) #[true, true, true, false, false, false, false] rfl rfl (by kernel_rfl) (fun _ _ _ h => h) (Or.inl ⟨by rfl, ?_⟩) ?_ ?_
  rotate_left
  · intro w'
    go_simp
    with_reducible rfl
  rotate_left
  · simp only [Act.put, List.setIfInBounds_toArray, List.set_cons_zero, List.set_cons_succ, i64_w, i32_w]
    rfl
  refine take_ (i := 3) (N := some 84) (v := ?_) (a' := ?_) #[true, true, true, true, false, false, false] rfl rfl (by kernel_rfl) (fun _ _ _ h => h) (Or.inl ⟨by rfl, ?_⟩) hHeld ?_ ?_
  rotate_left
  · rintro w' ⟨-, s0, s1, s2, s3⟩
    go_simp
    with_reducible rfl
  rotate_left
  · simp only [Act.put, List.setIfInBounds_toArray, List.set_cons_zero, List.set_cons_succ, i64_w, i32_w]
    rfl
  refine take_ (i := 4) (N := some 85) (v := ?_) (a' := ?_) #[true, true, true, true, true, false, false] rfl rfl (by kernel_rfl) (fun _ _ _ h => h) (Or.inl ⟨by rfl, ?_⟩) hHeld ?_ ?_
  rotate_left
  · rintro w' ⟨-, s0, s1, s2, s3⟩
    go_simp
    with_reducible rfl
  rotate_left
  · simp only [Act.put, List.setIfInBounds_toArray, List.set_cons_zero, List.set_cons_succ, i64_w, i32_w]
    rfl
  refine pure_ (i := 5) (N := some 86) (v := ?_) (a' := ?_) #[true, true, true, true, true, true, false] rfl rfl (by kernel_rfl) (fun _ _ _ h => h) (Or.inl ⟨by rfl, ?_⟩) ?_ ?_
  rotate_left
  · intro w'
    go_simp
    with_reducible rfl
  rotate_left
  · simp only [Act.put, List.setIfInBounds_toArray, List.set_cons_zero, List.set_cons_succ, i64_w, i32_w]
    rfl
  refine last_ (i := 6) (N := none) #[true, true, true, true, true, true, true] rfl rfl (by kernel_rfl) (by decide) (fun K hK => ?_)
  refine skip_ (w1 := w5) (by rfl) rfl ?_ ?_
  · simp [execOp, Act.eval, hrun6, Result.andThen]
  refine hK.out _ _ ?_
  clear hK K hHeld hrun6 hc2 hnd
  refine done_ (by kernel_rfl) ?_
  go_wp2
  go_ret2
  rw [← HNN.out, ← HMV.out.2]
  exact ⟨q1, q2, e1, e2, _, rfl, HT5.out, HFIN.out⟩
theorem Push_any (h : TreeW W base g gn gd mb cn cd D T) (n : Int) (hsz : p.1.size ≤ 9223372036854775807) (hbase : base ≤ W.heap.size) :
    Calls Tryd.prog 64 #[.pointer (some ⟨g, 0, none⟩), .int .i64 n, .agg #[.string p.1, .int .i64 p.2]] W (PushIs (H := H) base g gn gd mb T n p W) := by
  cases h1 : thereT T n with
  | false => exact push_away h n h1 hbase
  | true =>
    cases h2 : mayB p.1 p.2 with
    | false => exact push_name h n h1 h2 hsz hbase
    | true =>
      have ht := of_decide_eq_true h1
      obtain ⟨i, rfl⟩ : ∃ i : Nat, n = (i : Int) := ⟨n.toNat, by omega⟩
      by_cases h3 : 64 ≤ T.deep.getD i 0
      · exact push_deep h i h1 h2 h3 hsz hbase
      · cases h4 : findN T.nodes (i, p) with
        | some j => exact push_found h i j h1 h2 h3 h4 hsz hbase
        | none =>
          by_cases h5 : 4096 ≤ T.nodes.length
          · exact push_full h i h1 h2 h3 h4 h5 hsz hbase
          · exact push_new h i h1 h2 h3 h4 h5 hsz hbase
end
end Go.Proofs.YtmgfdcfbjgokgaaDoor
