/- The walk of 'ValueChecks'. (Printed by genchecks.py.) The walk of 'apart'. -/
import Derived.Test.YtaglklcjolcgeaaAsked
import Derived.Test.YtaglklcjolcgeaaWLast
import Derived.Test.YtaglklcjolcgeaaWWords
import Derived.Test.YtaglklcjolcgeaaGrow
namespace Go.Proofs.Ytaglklcjolcgeaa
open Go Go.RowKit Go.Proofs.YtaglklcjolcgeaaW.PrintWords Go.Proofs.YtaglklcjolcgeaaW.PrintLast
set_option linter.unusedVariables false
set_option linter.unusedSimpArgs false
attribute [local go_sem] run_store_float
/-- A value that was lent: it may be read; if it may be, its lists are one's own. -/
structure Lt (r : Va) (n0 lo hi : Nat) (W : World) (c : List Value) (F : List Nat) : Prop where
  own : r.tr.own 6 W c F
  no : r.okV = false → ∀ i ∈ F, i < n0
  ok : r.okV = true → r.ltr.own 6 W c F ∧ F.Nodup ∧ Soft W F ∧ ∀ i ∈ F, lo ≤ i ∧ i < hi
theorem Lt.same {r : Va} {n0 lo hi : Nat} {W W' : World} {c : List Value} {F : List Nat} (h : Lt r n0 lo hi W c F) (hb : ∀ i ∈ F, W'.heap[i]? = W.heap[i]?) : Lt r n0 lo hi W' c F :=
  ⟨Tr.own_same _ _ _ hb h.own, h.no, fun ho => by
    obtain ⟨h1, h2, h3, h4⟩ := h.ok ho
    exact ⟨Tr.own_same _ _ _ hb h1, h2, h3.same hb, h4⟩⟩
theorem Lt.below {r : Va} {n0 lo hi : Nat} {W W' : World} {c : List Value} {F : List Nat} (h : Lt r n0 lo hi W c F) (hb : Below W.heap.size W W') : Lt r n0 lo hi W' c F := h.same fun i hi => hb.block i (Tr.own_lt _ _ _ h.own i hi)
theorem lent_x (r : Va) (c : List Value) (F : List Nat) (w : World) (n0 : Nat) (hF : ∀ i ∈ F, i < n0) (hr : r.tr.own 6 w c F) :
    Calls Try.prog 5 #[.agg c.toArray] w fun e w' => ∃ x0 x1 x2 x3 x4 x5 F', e = .returned (.agg #[x0, x1, x2, x3, x4, x5]) ∧ Lt r n0 w.heap.size w'.heap.size w' [x0, x1, x2, x3, x4, x5] F' ∧ Below w.heap.size w w' := by
  obtain ⟨v0, v1, v2, v3, v4, v5, rfl⟩ := Va.shape hr
  refine (lent_N _ r (Nat.le_refl _) _ F w hr).mono ?_
  rintro e w' (⟨ho, rfl, hb⟩ | ⟨ho, x0, x1, x2, x3, x4, x5, F', rfl, h1, h2, h3, h4⟩)
  · exact ⟨v0, v1, v2, v3, v4, v5, F, rfl, ⟨Tr.own_below hr hb, fun _ => hF, fun h => by rw [ho] at h; cases h⟩, hb⟩
  · exact ⟨x0, x1, x2, x3, x4, x5, F', rfl, ⟨Va.own_ltr _ _ _ h1, (fun h => by rw [ho] at h; cases h), fun _ => ⟨h1, h2.1, h3, fun i hi => ⟨h2.2 i hi, Tr.own_lt _ _ _ h1 i hi⟩⟩⟩, h4⟩
theorem kept_x (r : Va) (hwf : r.wf) {n0 lo hi : Nat} {W : World} {c c2 : List Value} {F F2 : List Nat} (h : Lt r n0 lo hi W c F) (h2 : r.tr.own 6 W c2 F2) : Calls Try.prog 7 #[.agg c.toArray, .agg c2.toArray] W (LikeIs true W) := by
  cases ho : r.okV
  · exact kept_bad r ho c c2 F2 W (Tr.own_len h.own) h2
  · exact kept_N _ r (Nat.le_refl _) ho hwf c c2 F F2 W (h.ok ho).1 h2
/-- What a value is behind 'over'. -/
def ovr (r : Va) (m : Int) : Va := if r.okV then overV r m else r
def OverX (r : Va) (m : Int) (c : List Value) (F : List Nat) (w : World) (e : Ending) (w' : World) : Prop := e = .returned (.tuple #[]) ∧ (ovr r m).tr.own 6 w' c F ∧ Wr (fun i => r.okV = true ∧ i ∈ F) w w'
theorem over_x (r : Va) (m : Int) (m0 : 0 ≤ m) (m1 : m ≤ 10) {n0 lo hi : Nat} {W : World} {c : List Value} {F : List Nat} (h : Lt r n0 lo hi W c F) : Calls Try.prog 8 #[.agg c.toArray, .int .i64 m] W (OverX r m c F W) := by
  cases ho : r.okV
  · refine (over_bad r ho m c F W h.own).mono ?_
    rintro e w' ⟨rfl, hb⟩
    refine ⟨rfl, ?_, Wr.of_below hb _⟩
    unfold ovr
    rw [ho]
    exact Tr.own_below h.own hb
  · obtain ⟨h1, h2, h3, _⟩ := h.ok ho
    refine (over_N _ r (Nat.le_refl _) ho m m0 m1 c F W h1 h2 h3).mono ?_
    rintro e w' ⟨rfl, k1, k2, _⟩
    refine ⟨rfl, ?_, k2.mono fun i _ hi => ⟨ho, hi⟩⟩
    unfold ovr
    rw [ho]
    exact Va.own_ltr _ _ _ k1
mutual
theorem overV_wf : ∀ (r : Va) (m : Int), 0 ≤ m → m ≤ 10 → r.size ≤ 2000 → r.wf → (overV r m).wf
  | .mk kd n x y s rs, m => fun h0 h1 hs h => by
    unfold Va.wf at h
    unfold Va.size at hs
    unfold overV Va.wf
    exact ⟨h.1, h.2.1, h.2.2.1, h.2.2.2.1, h.2.2.2.2.1, h.2.2.2.2.2.1, overL_wf rs m 0 h0 h1 (by omega) h.2.2.2.2.2.2⟩
theorem overL_wf : ∀ (rs : List Va) (m : Int) (i : Nat), 0 ≤ m → m ≤ 10 → Va.sizes rs + i ≤ 2000 → Va.wfs rs → Va.wfs (overL rs m i)
  | [], m, i => fun _ _ _ _ => by unfold overL Va.wfs; trivial
  | r :: rs, m, i => fun h0 h1 hs h => by
    unfold Va.wfs at h
    unfold Va.sizes at hs
    have := r.size_pos
    unfold overL Va.wfs
    refine ⟨?_, overL_wf rs m (i + 1) h0 h1 (by omega) h.2⟩
    split
    · exact overV_wf r m h0 h1 (by omega) h.1
    · unfold Va.wf Va.wfs
      exact ⟨by omega, by omega, by omega, by omega, by omega, by omega, trivial⟩
end
theorem ovr_wf (r : Va) (m : Int) (h0 : 0 ≤ m) (h1 : m ≤ 10) (h : r.wf) : (ovr r m).wf := by
  unfold ovr
  split
  · rename_i ho
    have := Va.ok_size ho
    exact overV_wf r m h0 h1 (by omega) h
  · exact h
theorem twin_x (r : Va) (c : List Value) (F : List Nat) (w : World) (hr : r.tr.own 6 w c F) :
    Calls Try.prog 9 #[.agg c.toArray] w fun e w' => ∃ x0 x1 x2 x3 x4 x5 F', e = .returned (.agg #[x0, x1, x2, x3, x4, x5]) ∧ r.tr.own 6 w' [x0, x1, x2, x3, x4, x5] F' ∧ Below w.heap.size w w' := by
  obtain ⟨v0, v1, v2, v3, v4, v5, rfl⟩ := Va.shape hr
  refine (twin_N _ r (Nat.le_refl _) _ F w hr).mono ?_
  rintro e w' (⟨ho, rfl, hb⟩ | ⟨ho, x0, x1, x2, x3, x4, x5, F', rfl, h1, h2, h3, h4⟩)
  · exact ⟨v0, v1, v2, v3, v4, v5, F, rfl, Tr.own_below hr hb, hb⟩
  · exact ⟨x0, x1, x2, x3, x4, x5, F', rfl, h1, h4⟩
theorem box_new (W : World) (Z C : Array Value) : ((W.alloc (.cells Z 25)).setRow W.heap.size C).heap[W.heap.size]? = some (.cells C 25 (0, 0)) ∧ Below W.heap.size W ((W.alloc (.cells Z 25)).setRow W.heap.size C) ∧ ((W.alloc (.cells Z 25)).setRow W.heap.size C).heap.size = W.heap.size + 1 := by
  refine ⟨setRow_heap _ _ _ _ _ _ (heap_alloc_new W _), (bnew (Below.refl _ W) _).trans ⟨rfl, rfl, rfl, by simp, fun i hi => setRow_other _ _ _ _ (by omega)⟩, by simp⟩
/-- All that stands behind the two loans. -/
structure St (n gx gy : Nat) (A B X Y : Array Value) (W : World) : Prop where
  f1 : ∀ j, W.cell? ⟨n, j, none⟩ = A[j]?
  f2 : ∀ j, W.cell? ⟨n + 1, j, none⟩ = B[j]?
  f3 : ∀ j, W.cell? ⟨gx, j, none⟩ = X[j]?
  f4 : ∀ j, W.cell? ⟨gy, j, none⟩ = Y[j]?
  sx : n + 1 < gx
  sy : gx < gy
  sz : gy < W.heap.size
theorem St.wr {n gx gy : Nat} {A B X Y : Array Value} {S : Nat → Prop} {W W' : World} (h : St n gx gy A B X Y W) (hw : Wr S W W') (h1 : ¬ S n) (h2 : ¬ S (n + 1)) (h3 : ¬ S gx) (h4 : ¬ S gy) : St n gx gy A B X Y W' :=
  have a := h.sx
  have b := h.sy
  have c := h.sz
  ⟨fun j => (hw.cell (p := ⟨n, j, none⟩) (by show n < _; omega) h1).trans (h.f1 j), fun j => (hw.cell (p := ⟨n + 1, j, none⟩) (by show n + 1 < _; omega) h2).trans (h.f2 j), fun j => (hw.cell (p := ⟨gx, j, none⟩) (by show gx < _; omega) h3).trans (h.f3 j), fun j => (hw.cell (p := ⟨gy, j, none⟩) c h4).trans (h.f4 j), a, b, Nat.lt_of_lt_of_le c hw.size⟩
theorem St.below {n gx gy : Nat} {A B X Y : Array Value} {W W' : World} (h : St n gx gy A B X Y W) (hb : Below W.heap.size W W') : St n gx gy A B X Y W' := h.wr (Wr.of_below hb fun _ => False) id id id id
theorem law_mid {n : Nat} {w w1 W1 w2 W2 WA : World} {r r2 : Va} {A B X Y : Array Value} {cx cy : List Value} {Fx Fy : List Nat} (ht : Two n A B WA) (hA : Below w.heap.size w WA) (hsA : WA.heap.size = n + 2) (l1 : Lt r n WA.heap.size w1.heap.size w1 cx Fx) (b1 : Below WA.heap.size WA w1)
    (k1 : W1.heap[w1.heap.size]? = some (.cells X 25 (0, 0)) ∧ Below w1.heap.size w1 W1 ∧ W1.heap.size = w1.heap.size + 1) (l2 : Lt r2 n W1.heap.size w2.heap.size w2 cy Fy) (b2 : Below W1.heap.size W1 w2)
    (k2 : W2.heap[w2.heap.size]? = some (.cells Y 25 (0, 0)) ∧ Below w2.heap.size w2 W2 ∧ W2.heap.size = w2.heap.size + 1) :
    Hid (St n w1.heap.size w2.heap.size A B X Y W2) ∧ Hid (Below w.heap.size w W2) ∧ Hid (Lt r n (n + 2) w1.heap.size W2 cx Fx) ∧ Hid (Lt r2 n (w1.heap.size + 1) w2.heap.size W2 cy Fy) := by
  have bX : Below W1.heap.size W1 W2 := bthen b2 k2.2.1
  have bW : Below w1.heap.size w1 W2 := bthen k1.2.1 bX
  have t := two_below (two_below ht b1) bW
  have s1 := b1.size
  have s2 := b2.size
  have h12 := k1.2.2
  have h22 := k2.2.2
  refine ⟨⟨t.1, t.2.1, box_keep k1.1 bX, box_all k2.1, by omega, by omega, by omega⟩, bthen (bthen hA b1) bW, ?_, ?_⟩
  · have h := l1.below bW
    refine ⟨h.own, h.no, fun ho => ?_⟩
    obtain ⟨h1, h2, h3, h4⟩ := h.ok ho
    exact ⟨h1, h2, h3, fun i hi => ⟨by have := (h4 i hi).1; omega, (h4 i hi).2⟩⟩
  · have h := l2.below k2.2.1
    refine ⟨h.own, h.no, fun ho => ?_⟩
    obtain ⟨h1, h2, h3, h4⟩ := h.ok ho
    exact ⟨h1, h2, h3, fun i hi => ⟨by have := (h4 i hi).1; omega, (h4 i hi).2⟩⟩
theorem law_over1 {n gx gy : Nat} {A B X Y : Array Value} {w W W' : World} {r r2 : Va} {cx cy : List Value} {Fx Fy : List Nat} (hn : n = w.heap.size) (hs : St n gx gy A B X Y W) (hb : Below w.heap.size w W) (hx : Lt r n (n + 2) gx W cx Fx) (hy : Lt r2 n (gx + 1) gy W cy Fy)
    (ho : (ovr r 1).tr.own 6 W' cx Fx) (hw : Wr (fun i => r.okV = true ∧ i ∈ Fx) W W') :
    Hid (St n gx gy A B X Y W') ∧ Hid (Below w.heap.size w W') ∧ Hid ((ovr r 1).tr.own 6 W' cx Fx ∧ ∀ i ∈ Fx, i < gx) ∧ Hid (Lt r2 n (gx + 1) gy W' cy Fy) := by
  have a := hs.sx
  have b := hs.sy
  have hF : ∀ i, (r.okV = true ∧ i ∈ Fx) → n + 2 ≤ i ∧ i < gx := fun i hi => (hx.ok hi.1).2.2.2 i hi.2
  have hsz := hb.size
  refine ⟨hs.wr hw (fun h => by have := hF _ h; omega) (fun h => by have := hF _ h; omega) (fun h => by have := hF _ h; omega) (fun h => by have := hF _ h; omega), ?_, ⟨ho, fun i hi => ?_⟩, ?_⟩
  · exact hb.trans (hw.below (by omega) fun i hi => by have := hF i hi; omega)
  · cases h1 : r.okV
    · have := hx.no h1 i hi
      omega
    · exact (hF i ⟨h1, hi⟩).2
  · refine hy.same fun i hi => hw.block i (Tr.own_lt _ _ _ hy.own i hi) fun h => ?_
    have h1 := hF i h
    cases ho2 : r2.okV
    · have := hy.no ho2 i hi
      omega
    · have := ((hy.ok ho2).2.2.2 i hi).1
      omega
theorem law_over2 {n gx gy : Nat} {A B X Y : Array Value} {w W W' : World} {q r2 : Va} {cx cy : List Value} {Fx Fy : List Nat} (hn : n = w.heap.size) (hs : St n gx gy A B X Y W) (hb : Below w.heap.size w W) (hx : q.tr.own 6 W cx Fx ∧ ∀ i ∈ Fx, i < gx) (hy : Lt r2 n (gx + 1) gy W cy Fy)
    (ho : (ovr r2 2).tr.own 6 W' cy Fy) (hw : Wr (fun i => r2.okV = true ∧ i ∈ Fy) W W') :
    Hid (St n gx gy A B X Y W') ∧ Hid (Below w.heap.size w W') ∧ Hid (q.tr.own 6 W' cx Fx) ∧ Hid ((ovr r2 2).tr.own 6 W' cy Fy) := by
  have a := hs.sx
  have b := hs.sy
  have hF : ∀ i, (r2.okV = true ∧ i ∈ Fy) → gx + 1 ≤ i ∧ i < gy := fun i hi => (hy.ok hi.1).2.2.2 i hi.2
  have hsz := hb.size
  refine ⟨hs.wr hw (fun h => by have := hF _ h; omega) (fun h => by have := hF _ h; omega) (fun h => by have := hF _ h; omega) (fun h => by have := hF _ h; omega), ?_, ?_, ho⟩
  · exact hb.trans (hw.below (by omega) fun i hi => by have := hF i hi; omega)
  · exact Tr.own_wr hx.1 hw fun i hi h => by have := hF i h; have := hx.2 i hi; omega
def LawIs (w : World) (e : Ending) (w' : World) : Prop := e = .returned (.bool true) ∧ Below w.heap.size w w'
set_option maxRecDepth 100000 in
set_option maxHeartbeats 4000000 in
theorem law_any (r r2 : Va) (hwf : r.wf) (hwf2 : r2.wf) (ca cb : List Value) (Fa Fb : List Nat) (w : World) (ha : r.tr.own 6 w ca Fa) (hb : r2.tr.own 6 w cb Fb) :
    Calls Try.prog 3 #[.agg ca.toArray, .agg cb.toArray] w (LawIs w) := by
  obtain ⟨a0, a1, a2, a3, a4, a5, rfl⟩ := Va.shape ha
  obtain ⟨b0, b1, b2, b3, b4, b5, rfl⟩ := Va.shape hb
  have HA : Hid (∀ W, Below w.heap.size w W → r.tr.own 6 W [a0, a1, a2, a3, a4, a5] Fa) := fun W hW => Tr.own_below ha hW
  have HB : Hid (∀ W, Below w.heap.size w W → r2.tr.own 6 W [b0, b1, b2, b3, b4, b5] Fb) := fun W hW => Tr.own_below hb hW
  have HLA := Lib.hid (Tr.own_lt _ _ _ ha)
  have HLB := Lib.hid (Tr.own_lt _ _ _ hb)
  have HW := Lib.hid (And.intro hwf hwf2)
  have H0 := Lib.hid (bb2 w (.cells #[a0, a1, a2, a3, a4, a5] 25) (.cells #[b0, b1, b2, b3, b4, b5] 25))
  have HT0 := Lib.hid (two_of w #[a0, a1, a2, a3, a4, a5] #[b0, b1, b2, b3, b4, b5])
  clear ha hb hwf hwf2
  go_enter Try.func3, Try.ntmps3
  go_wp2_with (first | (go_at_call 5; (with_reducible refine (lent_x r [a0, a1, a2, a3, a4, a5] Fa _ w.heap.size HLA.out (HA.out _ H0.out)).mono ?_); rintro e w1 ⟨x0, x1, x2, x3, x4, x5, Fx, rfl, hl1, hb1⟩; have HL1 := Lib.hid hl1; have HB1 := Lib.hid hb1; clear hl1 hb1) | (refine wpList_store_rowTo (by rfl) 25 _ _ (by rfl) (by rfl) w1.heap.size #[x0, x1, x2, x3, x4, x5] (by rfl) (by rfl) 25 zero6 (heap_alloc_new w1 _) (by kernel_rfl) (by kernel_rfl) (all_oneCell_toArray (cs := [x0, x1, x2, x3, x4, x5]) (Tr.own_one HL1.out.own)) ?_; obtain ⟨n1, n2, n3⟩ := box_new w1 #[.int .u8 0, .int .i64 0, .float .f64 0, .float .f64 0, .string ⟨#[]⟩, .slice none 0 0] #[x0, x1, x2, x3, x4, x5]; generalize World.setRow _ _ _ = W1 at n1 n2 n3 ⊢; have HN1 := Lib.hid (And.intro n1 (And.intro n2 n3)); have HBB1 := Lib.hid (bthen (bthen H0.out HB1.out) n2); have HT1 := Lib.hid (two_below (two_below HT0.out HB1.out) n2); clear n1 n2 n3; have j1 := HT1.out.1; have j2 := HT1.out.2.1) | (go_at_call 5; (with_reducible refine (lent_x r2 [b0, b1, b2, b3, b4, b5] Fb _ w.heap.size HLB.out (HB.out _ HBB1.out)).mono ?_); rintro e w2 ⟨y0, y1, y2, y3, y4, y5, Fy, rfl, hl2, hb2⟩; have HL2 := Lib.hid hl2; have HB2 := Lib.hid hb2; clear hl2 hb2 j1 j2) | (refine wpList_store_rowTo (by rfl) 25 _ _ (by rfl) (by rfl) w2.heap.size #[y0, y1, y2, y3, y4, y5] (by rfl) (by rfl) 25 zero6 (heap_alloc_new w2 _) (by kernel_rfl) (by kernel_rfl) (all_oneCell_toArray (cs := [y0, y1, y2, y3, y4, y5]) (Tr.own_one HL2.out.own)) ?_; obtain ⟨n1, n2, n3⟩ := box_new w2 #[.int .u8 0, .int .i64 0, .float .f64 0, .float .f64 0, .string ⟨#[]⟩, .slice none 0 0] #[y0, y1, y2, y3, y4, y5]; generalize World.setRow _ _ _ = W2 at n1 n2 n3 ⊢; have HN2 := Lib.hid (And.intro n1 (And.intro n2 n3)); clear n1 n2 n3; obtain ⟨HS2, HBB2, HX2, HY2⟩ := law_mid HT0.out H0.out (by simp) HL1.out HB1.out HN1.out HL2.out HB2.out HN2.out; have j1 := HS2.out.f1; have j2 := HS2.out.f2; have j3 := HS2.out.f3; have j4 := HS2.out.f4) | (go_at_call 6; (with_reducible refine (asked_any r r2 HW.out.1 HW.out.2 [x0, x1, x2, x3, x4, x5] [y0, y1, y2, y3, y4, y5] [a0, a1, a2, a3, a4, a5] [b0, b1, b2, b3, b4, b5] Fx Fy Fa Fb _ HX2.out.own HY2.out.own (HA.out _ HBB2.out) (HB.out _ HBB2.out)).mono ?_); rintro e w3 ⟨rfl, hb⟩; have HBB3 := Lib.hid (bthen HBB2.out hb); have HS3 := Lib.hid (HS2.out.below hb); have HX3 := Lib.hid (HX2.out.below hb); have HY3 := Lib.hid (HY2.out.below hb); clear hb j1 j2 j3 j4; have j1 := HS3.out.f1; have j2 := HS3.out.f2; have j3 := HS3.out.f3; have j4 := HS3.out.f4) | (go_at_call 7; (with_reducible refine (kept_x r HW.out.1 HX3.out (HA.out _ HBB3.out)).mono ?_); rintro e w4 ⟨rfl, hb⟩; have HBB4 := Lib.hid (bthen HBB3.out hb); have HS4 := Lib.hid (HS3.out.below hb); have HX4 := Lib.hid (HX3.out.below hb); have HY4 := Lib.hid (HY3.out.below hb); clear hb j1 j2 j3 j4; have j1 := HS4.out.f1; have j2 := HS4.out.f2; have j3 := HS4.out.f3; have j4 := HS4.out.f4) | (go_at_call 7; (with_reducible refine (kept_x r2 HW.out.2 HY4.out (HB.out _ HBB4.out)).mono ?_); rintro e w5 ⟨rfl, hb⟩; have HBB5 := Lib.hid (bthen HBB4.out hb); have HS5 := Lib.hid (HS4.out.below hb); have HX5 := Lib.hid (HX4.out.below hb); have HY5 := Lib.hid (HY4.out.below hb); clear hb j1 j2 j3 j4; have j1 := HS5.out.f1; have j2 := HS5.out.f2; have j3 := HS5.out.f3; have j4 := HS5.out.f4) | (go_at_call 8; (with_reducible refine (over_x r 1 (by omega) (by omega) HX5.out).mono ?_); rintro e w6 ⟨rfl, ho1, hw6⟩; obtain ⟨HS6, HBB6, HX6, HY6⟩ := law_over1 rfl HS5.out HBB5.out HX5.out HY5.out ho1 hw6; clear ho1 hw6 j1 j2 j3 j4; have j1 := HS6.out.f1; have j2 := HS6.out.f2; have j3 := HS6.out.f3; have j4 := HS6.out.f4) | (go_at_call 8; (with_reducible refine (over_x r2 2 (by omega) (by omega) HY6.out).mono ?_); rintro e w7 ⟨rfl, ho2, hw7⟩; obtain ⟨HS7, HBB7, HX7, HY7⟩ := law_over2 rfl HS6.out HBB6.out HX6.out HY6.out ho2 hw7; clear ho2 hw7 j1 j2 j3 j4))
  refine start_ (n := 8) (S := St w.heap.size w1.heap.size w2.heap.size #[a0, a1, a2, a3, a4, a5] #[b0, b1, b2, b3, b4, b5] #[x0, x1, x2, x3, x4, x5] #[y0, y1, y2, y3, y4, y5]) (ds := []) #[false, false, false, false, false, false, false, false] (by kernel_rfl) rfl rfl (show St _ _ _ _ _ _ _ w7.drew from ⟨HS7.out.f1, HS7.out.f2, HS7.out.f3, HS7.out.f4, HS7.out.sx, HS7.out.sy, HS7.out.sz⟩) (fun hHeld => ?_)
  have HD0 := Lib.hid (show Below w7.heap.size w7 w7.drew from ⟨rfl, rfl, rfl, Nat.le_refl _, fun _ _ => rfl⟩)
  generalize World.drew _ = wd at hHeld HD0 ⊢
  refine take_ (i := 0) (N := some 33) (v := ?_) (a' := ?_) #[true, false, false, false, false, false, false, false] rfl rfl (by kernel_rfl) (fun _ _ _ h => h) (Or.inl ⟨by rfl, ?_⟩) hHeld ?_ ?_
  rotate_left
  · rintro w' ⟨s0, s1, s2, s3, s4, s5, s6⟩
    go_simp
    with_reducible rfl
  rotate_left
  · simp only [Act.put, List.setIfInBounds_toArray, List.set_cons_zero, List.set_cons_succ, i64_w, i32_w]
    rfl
  refine take_ (i := 1) (N := some 34) (v := ?_) (a' := ?_) #[true, true, false, false, false, false, false, false] rfl rfl (by kernel_rfl) (fun _ _ _ h => h) (Or.inl ⟨by rfl, ?_⟩) hHeld ?_ ?_
  rotate_left
  · rintro w' ⟨s0, s1, s2, s3, s4, s5, s6⟩
    go_simp
    with_reducible rfl
  rotate_left
  · simp only [Act.put, List.setIfInBounds_toArray, List.set_cons_zero, List.set_cons_succ, i64_w, i32_w]
    rfl
  refine take_ (i := 2) (N := some 35) (v := ?_) (a' := ?_) #[true, true, true, false, false, false, false, false] rfl rfl (by kernel_rfl) (fun _ _ _ h => h) (Or.inl ⟨by rfl, ?_⟩) hHeld ?_ ?_
  rotate_left
  · rintro w' ⟨s0, s1, s2, s3, s4, s5, s6⟩
    go_simp
    with_reducible rfl
  rotate_left
  · simp only [Act.put, List.setIfInBounds_toArray, List.set_cons_zero, List.set_cons_succ, i64_w, i32_w]
    rfl
  refine take_ (i := 4) (N := some 37) (v := ?_) (a' := ?_) #[true, true, true, false, true, false, false, false] rfl rfl (by kernel_rfl) (fun _ _ _ h => h) (Or.inl ⟨by rfl, ?_⟩) hHeld ?_ ?_
  rotate_left
  · rintro w' ⟨s0, s1, s2, s3, s4, s5, s6⟩
    go_simp
    with_reducible rfl
  rotate_left
  · simp only [Act.put, List.setIfInBounds_toArray, List.set_cons_zero, List.set_cons_succ, i64_w, i32_w]
    rfl
  refine one_ (i := 3) (N := some 36) #[true, true, true, true, true, false, false, false] rfl rfl (by kernel_rfl) (by decide) (fun K hK => ?_)
  refine goes_ Try.func9 (by kernel_rfl) (by kernel_rfl) #[.agg #[x0, x1, x2, x3, x4, x5]] (by rfl) rfl rfl (by (try simp only [List.map_toArray, List.map_cons, List.map_nil]); first | done | rfl) ?_
  refine (twin_x (ovr r 1) [x0, x1, x2, x3, x4, x5] Fx _ (Tr.own_below HX7.out HD0.out)).mono ?_
  rintro e w8 ⟨p0, p1, p2, p3, p4, p5, Gx, rfl, hp, hb⟩
  have HD1 := Lib.hid (bthen HD0.out hb)
  have HP := Lib.hid hp
  clear hp
  have hHeld2 := hHeld.below hb
  clear hb hHeld
  refine ⟨_, rfl, ?_⟩
  refine hK.out _ _ hHeld2 (fun hHeld => ?_)
  clear hK K hHeld2
  refine norm_ (a' := ?_) ?_ ?_
  rotate_left
  · show Act.put _ (some 36) _ = _
    simp only [Act.put, List.setIfInBounds_toArray, List.set_cons_zero, List.set_cons_succ, i64_w, i32_w]
    rfl
  refine one_ (i := 5) (N := some 38) #[true, true, true, true, true, true, false, false] rfl rfl (by kernel_rfl) (by decide) (fun K hK => ?_)
  refine goes_ Try.func9 (by kernel_rfl) (by kernel_rfl) #[.agg #[y0, y1, y2, y3, y4, y5]] (by rfl) rfl rfl (by (try simp only [List.map_toArray, List.map_cons, List.map_nil]); first | done | rfl) ?_
  refine (twin_x (ovr r2 2) [y0, y1, y2, y3, y4, y5] Fy _ (Tr.own_below HY7.out HD1.out)).mono ?_
  rintro e w9 ⟨q0, q1, q2, q3, q4, q5, Gy, rfl, hq, hb⟩
  have HD2 := Lib.hid (bthen HD1.out hb)
  have HP2 := Lib.hid (Tr.own_below HP.out hb)
  have HQ := Lib.hid hq
  clear hq
  have hHeld2 := hHeld.below hb
  clear hb hHeld
  refine ⟨_, rfl, ?_⟩
  refine hK.out _ _ hHeld2 (fun hHeld => ?_)
  clear hK K hHeld2
  refine norm_ (a' := ?_) ?_ ?_
  rotate_left
  · show Act.put _ (some 38) _ = _
    simp only [Act.put, List.setIfInBounds_toArray, List.set_cons_zero, List.set_cons_succ, i64_w, i32_w]
    rfl
  refine one_ (i := 6) (N := some 39) #[true, true, true, true, true, true, true, false] rfl rfl (by kernel_rfl) (by decide) (fun K hK => ?_)
  refine goes_ Try.func6 (by kernel_rfl) (by kernel_rfl) #[.agg #[x0, x1, x2, x3, x4, x5], .agg #[y0, y1, y2, y3, y4, y5], .agg #[p0, p1, p2, p3, p4, p5], .agg #[q0, q1, q2, q3, q4, q5]] (by rfl) rfl rfl (by (try simp only [List.map_toArray, List.map_cons, List.map_nil]); first | done | rfl) ?_
  refine (asked_any (ovr r 1) (ovr r2 2) (ovr_wf r 1 (by omega) (by omega) HW.out.1) (ovr_wf r2 2 (by omega) (by omega) HW.out.2) [x0, x1, x2, x3, x4, x5] [y0, y1, y2, y3, y4, y5] [p0, p1, p2, p3, p4, p5] [q0, q1, q2, q3, q4, q5] Fx Fy Gx Gy _ (Tr.own_below HX7.out HD2.out) (Tr.own_below HY7.out HD2.out) HP2.out HQ.out).mono ?_
  rintro e w10 ⟨rfl, hb⟩
  have HD3 := Lib.hid (bthen HD2.out hb)
  have hHeld2 := hHeld.below hb
  clear hb hHeld
  refine ⟨_, rfl, ?_⟩
  refine hK.out _ _ hHeld2 (fun hHeld => ?_)
  clear hK K hHeld2
  refine norm_ (a' := ?_) ?_ ?_
  rotate_left
  · show Act.put _ (some 39) _ = _
    simp only [Act.put, List.setIfInBounds_toArray, List.set_cons_zero, List.set_cons_succ, i64_w, i32_w]
    rfl
  refine pure_ (i := 7) (N := some 4) (v := ?_) (a' := ?_) #[true, true, true, true, true, true, true, true] rfl rfl (by kernel_rfl) (fun _ _ _ h => h) (Or.inl ⟨by rfl, ?_⟩) ?_ ?_
  rotate_left
  · intro w'
    go_simp
    with_reducible rfl
  rotate_left
  · simp only [Act.put, List.setIfInBounds_toArray, List.set_cons_zero, List.set_cons_succ, i64_w, i32_w]
    rfl
  refine done_ (by kernel_rfl) ?_
  go_wp2_with fail
  go_ret
  exact ⟨rfl, bthen HBB7.out HD3.out⟩
end Go.Proofs.Ytaglklcjolcgeaa
namespace Go.Proofs.Ytaglklcjolcgeaa
open Go Go.RowKit
set_option linter.unusedVariables false
set_option linter.unusedSimpArgs false
attribute [local go_sem] run_store_float
theorem cnt_fresh (k : Int) (nest left : Int) (h : 0 ≤ left - 1) : (Va.mk 2 k 0 0 ⟨#[]⟩ []).cnt nest left = left - 1 := by
  unfold Va.cnt
  rw [if_neg (by rw [show okB 2 k 0 0 ⟨#[]⟩ ([] : List Va).length nest = true by simp [okB]; rfl]; simp; omega)]
  unfold Va.cnts
  rfl
mutual
theorem cnt_over : ∀ (r : Va) (m nest left : Int), 0 ≤ r.cnt nest left → (overV r m).cnt nest left = r.cnt nest left
  | .mk kd n x y s rs, m, nest, left => fun h => by
    unfold overV
    unfold Va.cnt at h ⊢
    rw [overL_len]
    split
    · rfl
    · rename_i hc
      rw [if_neg hc] at h
      exact cnts_over rs m 0 (nest + 1) (left - 1) h
theorem cnts_over : ∀ (rs : List Va) (m : Int) (i : Nat) (nest left : Int), 0 ≤ Va.cnts rs nest left → Va.cnts (overL rs m i) nest left = Va.cnts rs nest left
  | [], m, i, nest, left => fun _ => by unfold overL; rfl
  | r :: rs, m, i, nest, left => fun h => by
    rw [overL_cons]
    unfold Va.cnts at h ⊢
    have hr : ¬ r.cnt nest left < 0 := fun hh => by rw [if_pos hh] at h; omega
    rw [if_neg hr] at h
    have e : (if r.kd = 7 then overV r m else .mk 2 (100 * m + i) 0 0 ⟨#[]⟩ [] : Va).cnt nest left = r.cnt nest left := by
      split
      · exact cnt_over r m nest left (by omega)
      · rename_i h7
        obtain ⟨kd, n, x, y, s, ks⟩ := r
        have hl := cnt_leaf (n := n) (x := x) (y := y) (s := s) (rs := ks) (nest := nest) (left := left) (show kd ≠ 7 from h7)
        rw [hl] at hr ⊢
        split at hr
        · omega
        · rename_i hc
          rw [if_neg hc]
          exact cnt_fresh _ _ _ (by omega)
    rw [e, if_neg hr, if_neg hr]
    exact cnts_over rs m (i + 1) nest (r.cnt nest left) h
end
theorem over_ok {r : Va} {m : Int} (h : r.okV = true) : (overV r m).okV = true := by
  have h1 : 0 ≤ r.cnt 0 1024 := of_decide_eq_true h
  unfold Va.okV
  rw [cnt_over r m 0 1024 h1]
  exact decide_eq_true h1
/-- Within apart: the three values, their boxes. -/
structure AP (w : World) (r1 r : Va) (c1 c2 c3 : List Value) (F1 F2 F3 : List Nat) (W : World) : Prop where
  one : r1.tr.own 6 W c1 F1
  two : r.tr.own 6 W c2 F2
  want : r.tr.own 6 W c3 F3
  b0 : W.heap[w.heap.size]? = some (.cells c1.toArray 25 (0, 0))
  b1 : W.heap[w.heap.size + 1]? = some (.cells c2.toArray 25 (0, 0))
  b2 : W.heap[w.heap.size + 1 + 1]? = some (.cells c3.toArray 25 (0, 0))
  wr : Wr (fun i => i ∈ F1) w W
  lt : ∀ i ∈ F1, i < w.heap.size
  dis : ∀ i ∈ F1, i ∉ F2 ∧ i ∉ F3
theorem AP.sz {w : World} {r1 r : Va} {c1 c2 c3 : List Value} {F1 F2 F3 : List Nat} {W : World} (h : AP w r1 r c1 c2 c3 F1 F2 F3 W) : w.heap.size + 1 + 1 < W.heap.size := (Array.getElem?_eq_some_iff.1 h.b2).1
theorem AP.below {w : World} {r1 r : Va} {c1 c2 c3 : List Value} {F1 F2 F3 : List Nat} {W W2 : World} (h : AP w r1 r c1 c2 c3 F1 F2 F3 W) (hb : Below W.heap.size W W2) : AP w r1 r c1 c2 c3 F1 F2 F3 W2 := by
  have hs := h.sz
  exact ⟨Tr.own_below h.one hb, Tr.own_below h.two hb, Tr.own_below h.want hb, (hb.block _ (by omega)).trans h.b0, (hb.block _ (by omega)).trans h.b1, (hb.block _ (by omega)).trans h.b2, h.wr.andThen (Wr.of_below hb (fun _ => False)) fun _ _ h => h.elim, h.lt, h.dis⟩
theorem AP.wrote {w : World} {r1 r2 r : Va} {c1 c2 c3 : List Value} {F1 F2 F3 : List Nat} {W W2 : World} (h : AP w r1 r c1 c2 c3 F1 F2 F3 W) (ho : r2.tr.own 6 W2 c1 F1) (hw : Wr (fun i => i ∈ F1) W W2) : AP w r2 r c1 c2 c3 F1 F2 F3 W2 := by
  have hs := h.sz
  have hn : ∀ k, w.heap.size ≤ k → k ∉ F1 := fun k hk hm => by have := h.lt k hm; omega
  exact ⟨ho, Tr.own_wr h.two hw fun b hb hm => (h.dis b hm).1 hb, Tr.own_wr h.want hw fun b hb hm => (h.dis b hm).2 hb, (hw.block _ (by omega) (hn _ (by omega))).trans h.b0, (hw.block _ (by omega) (hn _ (by omega))).trans h.b1, (hw.block _ (by omega) (hn _ (by omega))).trans h.b2, h.wr.andThen hw fun _ _ h => h, h.lt, h.dis⟩
set_option maxRecDepth 100000 in
set_option maxHeartbeats 4000000 in
theorem apart_any (r : Va) (hok : r.okV = true) (hwf : r.wf) (c1 c2 c3 : List Value) (F1 F2 F3 : List Nat) (w : World) (h1 : r.tr.ownR w c1 F1) (hnd : F1.Nodup) (hso : Soft w F1) (h2 : r.tr.own 6 w c2 F2) (h3 : r.tr.own 6 w c3 F3) (hd : ∀ i ∈ F1, i ∉ F2 ∧ i ∉ F3) :
    Calls Try.prog 13 #[.agg c1.toArray, .agg c2.toArray, .agg c3.toArray] w fun e w' => e = .returned (.bool true) ∧ Wr (fun i => i ∈ F1) w w' := by
  obtain ⟨v0, v1, v2, v3, v4, v5, rfl⟩ := Va.shape (Tr.ownR_own _ _ _ h1)
  obtain ⟨x0, x1, x2, x3, x4, x5, rfl⟩ := Va.shape h2
  obtain ⟨y0, y1, y2, y3, y4, y5, rfl⟩ := Va.shape h3
  have hB0 := bnew (bb2 w (.cells #[v0, v1, v2, v3, v4, v5] 25) (.cells #[x0, x1, x2, x3, x4, x5] 25)) (.cells #[y0, y1, y2, y3, y4, y5] 25)
  have HA0 := Lib.hid (show AP w r r [v0, v1, v2, v3, v4, v5] [x0, x1, x2, x3, x4, x5] [y0, y1, y2, y3, y4, y5] F1 F2 F3 _ from ⟨Tr.own_below (Tr.ownR_own _ _ _ h1) hB0, Tr.own_below h2 hB0, Tr.own_below h3 hB0, (heap_alloc_old _ _ (by simp; omega)).trans (two1 w _ _), heap_alloc_mid w _ _ _, heap_alloc_top w _ _ _, Wr.of_below hB0 _, Tr.ownR_lt _ _ _ h1, hd⟩)
  have HR0 := Lib.hid (And.intro (Tr.ownR_below h1 hB0) (And.intro hnd (hso.same fun i hi => hB0.block i (Tr.ownR_lt _ _ _ h1 i hi))))
  have HO := Lib.hid (And.intro hok (And.intro (over_ok (m := 3) hok) (And.intro hwf (overV_wf r 3 (by omega) (by omega) (by have := Va.ok_size hok; omega) hwf))))
  have HSZ := Lib.hid (And.intro (Va.ok_size hok) (Va.ok_size (over_ok (m := 3) hok)))
  have h3i : (3 : Int) = ((3 : Nat) : Int) := rfl
  clear h1 hnd hso h2 h3 hd hB0 hok hwf h3i
  go_enter Try.func13, Try.ntmps13
  go_wp2_with fail
  refine (rCheck_any r _ F1 _ HA0.out.one).mono ?_
  rintro e w1 ⟨rfl, hb1⟩
  rw [ok_ite HO.out.1]
  have HA1 := Lib.hid (HA0.out.below hb1)
  have HR1 := Lib.hid (And.intro (Tr.ownR_below HR0.out.1 hb1) (And.intro HR0.out.2.1 (HR0.out.2.2.same fun i hi => hb1.block i (Tr.ownR_lt _ _ _ HR0.out.1 i hi))))
  clear hb1 HA0 HR0
  go_wp2_with (refine wpList_load_row (by rfl) 25 _ (by rfl) w.heap.size (by rfl) 25 _ (0, 0) _ HA1.out.b0 Try.underlying25 rfl (by kernel_rfl) ?_)
  refine (over_NT r.size r (Nat.le_refl _) HO.out.1 3 (by omega) (by omega) _ F1 _ HR1.out.1 HR1.out.2.1 HR1.out.2.2).mono ?_
  rintro e w2 ⟨rfl, ho2, hw2, hs2⟩
  have HA2 := Lib.hid (HA1.out.wrote (Tr.ownR_own _ _ _ ho2) hw2)
  have HR2 := Lib.hid (And.intro ho2 HR1.out.2.1)
  clear ho2 hw2 hs2 HA1 HR1
  go_wp2_with (refine wpList_load_row (by rfl) 25 _ (by rfl) w.heap.size (by rfl) 25 _ (0, 0) _ HA2.out.b0 Try.underlying25 rfl (by kernel_rfl) ?_)
  refine (twin_N _ (overV r 3) (Nat.le_refl _) _ F1 _ HA2.out.one).mono ?_
  rintro e w3 (⟨hno, _⟩ | ⟨_, z0, z1, z2, z3, z4, z5, FT, rfl, hot, hap, hsT, hb3⟩)
  · rw [HO.out.2.1] at hno
    cases hno
  obtain ⟨kd', n', x', y', s', _, a', len', cap', _, hv0⟩ := vcells hot
  simp only [List.cons.injEq, and_true] at hv0
  obtain ⟨rfl, rfl, rfl, rfl, rfl, rfl⟩ := hv0
  have hA := bnew (Below.refl w3.heap.size w3) (.cells #[.int .u8 kd', .int .i64 n', .float .f64 x', .float .f64 y', .string s', .slice a' len' cap'] 25)
  have HA3 := Lib.hid ((HA2.out.below hb3).below hA)
  have HR3 := Lib.hid (Tr.ownR_below (Tr.ownR_below HR2.out.1 hb3) hA)
  have HT3 := Lib.hid (And.intro (Tr.own_below hot hA) (And.intro (show ∀ i ∈ FT, i ∉ F1 from fun i hi hm => by have := hap.2 i hi; have := HA2.out.lt i hm; have := HA2.out.sz; omega) (And.intro (show w3.heap.size ∉ F1 from fun hm => by have := HA2.out.lt _ hm; have := hb3.size; have := HA2.out.sz; omega) (heap_alloc_new w3 (.cells #[.int .u8 kd', .int .i64 n', .float .f64 x', .float .f64 y', .string s', .slice a' len' cap'] 25)))))
  clear hot hap hsT hb3 hA HA2
  go_wp2_with (refine wpList_load_row (by rfl) 25 _ (by rfl) (w.heap.size) (by rfl) 25 _ (0, 0) _ HA3.out.b0 Try.underlying25 rfl (by kernel_rfl) ?_)
  refine (grow_N (overV r 3).size (overV r 3) (Nat.le_refl _) (by have := HSZ.out.2; omega) 4 (by omega) _ F1 _ HR3.out HR2.out.2).mono ?_
  rintro e w4 ⟨z, rfl, ho4, hw4⟩
  have HA4 := Lib.hid (HA3.out.wrote ho4 hw4)
  have HT4 := Lib.hid (And.intro (Tr.own_wr HT3.out.1 hw4 HT3.out.2.1) ((hw4.block w3.heap.size (by simp) HT3.out.2.2.1).trans HT3.out.2.2.2))
  clear ho4 hw4 HA3 HT3 HR3 HR2
  go_wp2_with (first | (refine wpList_load_row (by rfl) 25 _ (by rfl) (w.heap.size) (by rfl) 25 _ (0, 0) _ HA4.out.b0 Try.underlying25 rfl (by kernel_rfl) ?_) | (refine wpList_load_row (by rfl) 25 _ (by rfl) (w3.heap.size) (by rfl) 25 _ (0, 0) _ HT4.out.2 Try.underlying25 rfl (by kernel_rfl) ?_))
  refine (like_any (overV r 3) (overV r 3) HO.out.2.1 HO.out.2.1 _ _ F1 FT _ HA4.out.one HT4.out.1 HO.out.2.2.2 HO.out.2.2.2).mono ?_
  rintro e w5 ⟨rfl, hb5⟩
  rw [likeB_self]
  have HA5 := Lib.hid (HA4.out.below hb5)
  clear hb5 HA4 HT4
  have p0 : w5.cell? ⟨w.heap.size + 1, 0, none⟩ = some x0 := box_all HA5.out.b1 0
  have q0 : w5.cell? ⟨w.heap.size + 1 + 1, 0, none⟩ = some y0 := box_all HA5.out.b2 0
  have p1 : w5.cell? ⟨w.heap.size + 1, 1, none⟩ = some x1 := box_all HA5.out.b1 1
  have q1 : w5.cell? ⟨w.heap.size + 1 + 1, 1, none⟩ = some y1 := box_all HA5.out.b2 1
  have p2 : w5.cell? ⟨w.heap.size + 1, 2, none⟩ = some x2 := box_all HA5.out.b1 2
  have q2 : w5.cell? ⟨w.heap.size + 1 + 1, 2, none⟩ = some y2 := box_all HA5.out.b2 2
  have p3 : w5.cell? ⟨w.heap.size + 1, 3, none⟩ = some x3 := box_all HA5.out.b1 3
  have q3 : w5.cell? ⟨w.heap.size + 1 + 1, 3, none⟩ = some y3 := box_all HA5.out.b2 3
  have p4 : w5.cell? ⟨w.heap.size + 1, 4, none⟩ = some x4 := box_all HA5.out.b1 4
  have q4 : w5.cell? ⟨w.heap.size + 1 + 1, 4, none⟩ = some y4 := box_all HA5.out.b2 4
  have p5 : w5.cell? ⟨w.heap.size + 1, 5, none⟩ = some x5 := box_all HA5.out.b1 5
  have q5 : w5.cell? ⟨w.heap.size + 1 + 1, 5, none⟩ = some y5 := box_all HA5.out.b2 5
  go_wp2_with fail
  refine (like_any r r HO.out.1 HO.out.1 _ _ F2 F3 _ HA5.out.two HA5.out.want HO.out.2.2.1 HO.out.2.2.1).mono ?_
  rintro e w6 ⟨rfl, hb6⟩
  rw [likeB_self]
  have HA6 := Lib.hid (HA5.out.below hb6)
  clear hb6 HA5
  go_wp2_with fail
  go_ret
  exact ⟨rfl, HA6.out.wr⟩
end Go.Proofs.Ytaglklcjolcgeaa
