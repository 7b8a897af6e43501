/- The walk of the reference's reader.value: lists. The walk of 'grow': each list is grown by some places. -/
import Derived.Test.YtaglklcjolcgeaaRValK
import Derived.Test.YtaglklcjolcgeaaOwnR
import Derived.Test.YtaglklcjolcgeaaDecP
import Derived.Test.YtaglklcjolcgeaaLent
namespace Go.Proofs.Ytaglklcjolcgeaa
open Go.RowKit
set_option linter.unusedVariables false
set_option linter.unusedSimpArgs false
attribute [local go_sem] run_store_float
theorem VS.grown {w : World} {B b : Nat} {s : ByteArray} {l : Bs × Bool} {A : Array Value} {W W2 : World} {row : Option Nat} (h : VS w B b s l A W) (hg : W.grownBy W2 row) (hr : ∀ g, row = some g → B < g) : VS w B b s l A W2 := by
  have h1 : w.heap.size < W.heap.size := (Array.getElem?_eq_some_iff.1 h.res).1
  have h2 : B < W.heap.size := (Array.getElem?_eq_some_iff.1 h.box).1
  have h3 := h.lo
  have h4 := h.hi
  obtain ⟨j, hj, hl, hrd⟩ := h.rd
  have hb : W2.heap[b]? = W.heap[b]? := hg.block b (by omega) fun e => by have := hr b e.symm; omega
  have hc : ∀ k, W2.cell? ⟨b, k, none⟩ = W.cell? ⟨b, k, none⟩ := fun k => World.cell?_of_block (w := W) hb
  refine ⟨h.lo, h.hi, (hg.block _ h1 fun e => by have := hr _ e.symm; omega).trans h.res, (hg.block _ h2 fun e => by have := hr _ e.symm; omega).trans h.box, ⟨j, hj, hl, (hc 0).trans hrd.c0, (hc 1).trans hrd.c1, (hc 2).trans hrd.c2, fun k => (World.frozen?_of_block (w := W) hb).trans (hrd.fz k)⟩, h.wr.grown hg fun g e => .inr (by have := hr g e; omega)⟩
theorem VS.alloc {w : World} {B b : Nat} {s : ByteArray} {l : Bs × Bool} {A : Array Value} {W : World} (h : VS w B b s l A W) (o : Obj) : VS w B b s l A (W.alloc o) :=
  h.call (h.rd.keep (bnew (Below.refl W.heap.size W) o) (by have := h.lo; have := (Array.getElem?_eq_some_iff.1 h.res).1; omega)) (Wr.of_below (bnew (Below.refl W.heap.size W) o) _)
theorem repR_go {f : Bs × Bool → Va × (Bs × Bool)} {n : Nat} {l : Bs × Bool} (hn : 0 < n) (hl : l.2 = false) : repR f n l = ((f l).1 :: (repR f (n - 1) (f l).2).1, (repR f (n - 1) (f l).2).2) := by
  obtain ⟨m, rfl⟩ : ∃ m, n = m + 1 := ⟨n - 1, by omega⟩
  rw [repR.eq_def]
  simp [hl]
theorem repR_end {f : Bs × Bool → Va × (Bs × Bool)} {n : Nat} {l : Bs × Bool} (h : n = 0 ∨ l.2 = true) : repR f n l = ([], l) := by
  rcases n with _ | n
  · unfold repR; rfl
  · rw [repR.eq_def]
    simp [h.resolve_left (by omega)]
/-- What stands ahead of a round: the values so far, the reader. -/
structure Lp (f : Bs × Bool → Va × (Bs × Bool)) (x : Nat) (l3 : Bs × Bool) (w : World) (B b : Nat) (s : ByteArray) (j : Nat) (vs : List Va) (lj : Bs × Bool) (v : Value) (xs : List Value) (G : List Nat) (W : World) : Prop where
  st : VS w B b s lj #[.int .u8 7, .int .i64 0, .float .f64 0, .float .f64 0, .string ⟨#[]⟩, v] W
  kids : Kids 6 25 (B + 1) W v (Va.trs vs) xs G
  len : vs.length = j
  hj : j ≤ x
  eq : repR f x l3 = (vs ++ (repR f (x - j) lj).1, (repR f (x - j) lj).2)
theorem Lp.next {f : Bs × Bool → Va × (Bs × Bool)} {x : Nat} {l3 : Bs × Bool} {w : World} {B b : Nat} {s : ByteArray} {j : Nat} {vs : List Va} {lj : Bs × Bool} {v v' : Value} {xs xs' : List Value} {G G' : List Nat} {W W3 : World}
    (h : Lp f x l3 w B b s j vs lj v xs G W) (hlt : j < x) (hl : lj.2 = false) (hst : VS w B b s (f lj).2 #[.int .u8 7, .int .i64 0, .float .f64 0, .float .f64 0, .string ⟨#[]⟩, v] W3) (hk : Kids 6 25 (B + 1) W3 v' (Va.trs vs ++ [(f lj).1.tr]) xs' G') :
    Lp f x l3 w B b s (j + 1) (vs ++ [(f lj).1]) (f lj).2 v' xs' G' (W3.setCell ⟨B, 5, none⟩ v') := by
  refine ⟨hst.put 5 v', ?_, by simp [h.len], by omega, ?_⟩
  · rw [Va.trs_snoc]
    exact hk.setCell _ (by show B < B + 1; omega) _
  · rw [h.eq, repR_go (by omega) hl]
    simp [Nat.sub_sub]
theorem vcells {w : World} {r : Va} {c : List Value} {F : List Nat} (h : r.tr.own 6 w c F) : ∃ (kd n : Int) (x y : Nat) (s : ByteArray) (q : Value), ∃ a len cap, q = .slice a len cap ∧ c = [.int .u8 kd, .int .i64 n, .float .f64 x, .float .f64 y, .string s, .slice a len cap] := by
  cases r
  obtain ⟨a, cap, rfl, _⟩ := Va.open h
  exact ⟨_, _, _, _, _, _, _, _, _, rfl, rfl⟩
theorem lp_end {w W : World} {B b : Nat} {s : ByteArray} {lj : Bs × Bool} {r : List Va × (Bs × Bool)} {A : Option Addr} {cap : Nat} {vs : List Va} {GF : List Nat}
    (h : VS w B b s lj #[.int .u8 7, .int .i64 0, .float .f64 0, .float .f64 0, .string ⟨#[]⟩, .slice A vs.length cap] W)
    (hn : Tr.own 6 W (.mk [.int .u8 7, .int .i64 0, .float .f64 0, .float .f64 0, .string ⟨#[]⟩] vs.length (Va.trs vs)) ([.int .u8 7, .int .i64 0, .float .f64 0, .float .f64 0, .string ⟨#[]⟩] ++ [.slice A vs.length cap]) GF)
    (hap : Apart (B + 1) GF) (hso : Soft W GF) (heq : r = (vs ++ [], lj)) :
    ValIs (.mk 7 0 0 0 ⟨#[]⟩ r.1) b s r.2 w (.returned (.agg #[.int .u8 7, .int .i64 0, .float .f64 0, .float .f64 0, .string ⟨#[]⟩, .slice A vs.length cap])) (W.setRow w.heap.size #[.int .u8 7, .int .i64 0, .float .f64 0, .float .f64 0, .string ⟨#[]⟩, .slice A vs.length cap]) := by
  rw [heq]
  have hhi := h.hi
  obtain ⟨r1, r2⟩ := h.fin #[.int .u8 7, .int .i64 0, .float .f64 0, .float .f64 0, .string ⟨#[]⟩, .slice A vs.length cap]
  have hs : ∀ i ∈ GF, (W.setRow w.heap.size #[.int .u8 7, .int .i64 0, .float .f64 0, .float .f64 0, .string ⟨#[]⟩, .slice A vs.length cap]).heap[i]? = W.heap[i]? := fun i hi => setRow_other _ _ _ _ (by have := hap.2 i hi; omega)
  refine ⟨_, _, _, _, _, _, GF, rfl, ?_, hap.mono (by omega), hso.same hs, r1, r2⟩
  simp only [List.append_nil]
  unfold Va.tr
  exact Tr.own_same _ _ _ hs hn
set_option maxRecDepth 100000 in
set_option maxHeartbeats 4000000 in
theorem rvalue_7 (f : Bs × Bool → Va × (Bs × Bool)) (s : ByteArray) (l l2 l3 : Bs × Bool) (x : Nat) (nest : Int) (b : Nat) (w : World) (h : RdL w b s l) (hb : b < w.heap.size) (hs : s.size ≤ 9223372036854775807)
    (HC : ∀ W, RdL W b s l → Calls Try.prog 35 #[.pointer (some ⟨b, 0, none⟩), .int .i64 1] W fun e w' => e = .returned (.int .u64 7) ∧ RdL w' b s l2 ∧ Wr (fun j => j = b) W w')
    (HD : ∀ W, RdL W b s l2 → Calls Try.prog 35 #[.pointer (some ⟨b, 0, none⟩), .int .i64 2] W fun e w' => e = .returned (.int .u64 x) ∧ RdL w' b s l3 ∧ Wr (fun j => j = b) W w') (hx : x < 65536) (hn0 : 0 ≤ nest) (hn : nest < 17)
    (IH : ∀ (l : Bs × Bool) (W : World), RdL W b s l → b < W.heap.size → Calls Try.prog 21 #[.pointer (some ⟨b, 0, none⟩), .int .i64 (nest + 1)] W (ValIs (f l).1 b s (f l).2 W)) :
    Calls Try.prog 21 #[.pointer (some ⟨b, 0, none⟩), .int .i64 nest] w (ValIs (.mk 7 0 0 0 ⟨#[]⟩ (repR f x l3).1) b s (repR f x l3).2 w) := by
  have HC := Lib.hid HC
  have HD := Lib.hid HD
  have IH := Lib.hid IH
  have HR := Lib.hid (fun o => h.keep (bnew (Below.refl w.heap.size w) o) hb)
  have HBW := Lib.hid hb
  have HX := Lib.hid hx
  obtain ⟨i0, hi0, hz0, hz1, hz2⟩ := info_parts info_tV
  clear h
  go_enter Try.func21, Try.ntmps21
  go_wp2_with (go_at_call 35; (with_reducible refine (HC.out _ (HR.out _)).mono ?_); rintro e w1 ⟨rfl, HR1, HW1⟩; have hv := Lib.hid (VS.start (A := #[.int .u8 7, .int .i64 0, .float .f64 0, .float .f64 0, .string ⟨#[]⟩, .slice none 0 0]) HBW.out HR1 HW1); clear HR1 HW1)
  refine (HD.out _ hv.out.rd).mono ?_
  rintro e w2 ⟨rfl, HR3, HW3⟩
  have hv2 := Lib.hid (hv.out.call HR3 HW3)
  clear HR3 HW3 hv HC HD HR
  obtain ⟨B, hB⟩ : ∃ B, B = w1.heap.size := ⟨_, rfl⟩
  rw [← hB] at hv2 ⊢
  clear hB
  go_wp2_with fail
  go_loopw [8] (fun u8 wr => ∃ (j : Nat) (vs : List Va) (lj : Bs × Bool) (v : Value) (xs : List Value) (G : List Nat), u8 = .int .i64 j ∧ Hid (Lp f x l3 w B b s j vs lj v xs G wr)) (fun u8 _ => x - (intOf u8).toNat)
  case atStart =>
    exact ⟨0, [], l3, .slice none 0 0, [], [], rfl, Lib.hid ⟨hv2.out, by simpa [Va.trs] using Kids.nil 6 25 _ _, rfl, by omega, by simp⟩⟩
  case round =>
    clear hv2
    obtain ⟨j, vs, lj, v, xs, G, rfl, HL⟩ := hrel
    have hcb : wr.cell? ⟨b, 2, none⟩ = some (.bool lj.2) := by
      obtain ⟨i, _, _, hr⟩ := HL.out.st.rd
      exact hr.c2
    have hjx := HL.out.hj
    by_cases hgo : j < x ∧ lj.2 = false
    · obtain ⟨hlt, hl⟩ := hgo
      rw [hl] at hcb
      have d1 : (j : Int) < (x : Int) := by omega
      have hbs : b < wr.heap.size := by have := HL.out.st.lo; have := (Array.getElem?_eq_some_iff.1 HL.out.st.res).1; omega
      clear hjx
      go_wp2_with fail
      refine (IH.out lj _ HL.out.st.rd hbs).mono ?_
      rintro e w3 ⟨v0, v1, v2, v3, v4, v5, G1, rfl, hown1, hap1, hso1, hrd1, hwr1⟩
      obtain ⟨kd', n', x', y', s', _, a', len', cap', _, hv0⟩ := vcells hown1
      simp only [List.cons.injEq, and_true] at hv0
      obtain ⟨rfl, rfl, rfl, rfl, rfl, rfl⟩ := hv0
      have hsz3 := hwr1.size
      have hst3 := HL.out.st.call hrd1 hwr1
      have hk3 := HL.out.kids.wr hwr1 (fun k hk => by have := HL.out.st.lo; have := HL.out.st.hi; omega)
      have hFl := Tr.ownL_lt _ _ _ HL.out.kids.own
      have hvl := fun g hg => (HL.out.kids.block g hg).2
      have q5 : w3.cell? ⟨B, 5, none⟩ = some v := hst3.cell 5
      have z5 := hst3.frozen 5
      have hBl : B < w3.heap.size := (Array.getElem?_eq_some_iff.1 hst3.box).1
      have HS3 := Lib.hid (And.intro hst3 (And.intro hk3 (And.intro hFl (And.intro hvl (And.intro hown1 (And.intro hap1 hso1))))))
      clear hst3 hk3 hFl hvl hown1 hap1 hso1 hrd1 hwr1 hcb
      have HA := Lib.hid (bnew (Below.refl w3.heap.size w3) (.cells #[.int .u8 kd', .int .i64 n', .float .f64 x', .float .f64 y', .string s', .slice a' len' cap'] 25))
      have hlen := HL.out.len
      have HSZ := Lib.hid (show (w3.alloc (.cells #[.int .u8 kd', .int .i64 n', .float .f64 x', .float .f64 y', .string s', .slice a' len' cap'] 25)).heap.size = w3.heap.size + 1 by simp)
      have hBw : B + 1 ≤ wr.heap.size := (Array.getElem?_eq_some_iff.1 HL.out.st.box).1
      go_wp2_with (refine wpList_push2 (w1 := w3.alloc (.cells #[.int .u8 kd', .int .i64 n', .float .f64 x', .float .f64 y', .string s', .slice a' len' cap'] 25)) (by rfl) _ _ _ (by rfl) (B + 1) wr.heap.size 25 i0 _ 6 72 Try.underlying23 hi0 hz0 hz1 hz2 rfl (by omega) _ _ xs G (by rfl) (HS3.out.2.1.below HA.out) HS3.out.2.2.1 HS3.out.2.2.2.1 hBw (by simp; omega) (f lj).1.tr [.int .u8 kd', .int .i64 n', .float .f64 x', .float .f64 y', .string s', .slice a' len' cap'] G1 (Tr.own_below HS3.out.2.2.2.2.1 HA.out) HS3.out.2.2.2.2.2.1 (HS3.out.2.2.2.2.2.2.same fun i hi => HA.out.block i (Tr.own_lt _ _ _ HS3.out.2.2.2.2.1 i hi)) (by rw [HSZ.out]; rfl) (by rw [Va.trs_len]; omega) (by omega) ?_; intro g3 cap3 w4 hk4 hg4 hbg hlt4; have hst4 := (HS3.out.1.alloc (.cells #[.int .u8 kd', .int .i64 n', .float .f64 x', .float .f64 y', .string s', .slice a' len' cap'] 25)).grown hg4 (fun g hg => (HS3.out.2.1.block g hg).1); have q6 : w4.cell? ⟨B, 5, none⟩ = some v := hst4.cell 5; have z6 := hst4.frozen 5; have HS4 := Lib.hid (And.intro hst4 hk4); clear q5 z5 hst4 hk4 hg4)
      go_roundw
      case rel =>
        exact ⟨j + 1, vs ++ [(f lj).1], (f lj).2, _, _, _, by go_num, Lib.hid (HL.out.next hlt hl HS4.out.1 HS4.out.2)⟩
      case measure => simp [intOf]; omega
    · have hend : x - j = 0 ∨ lj.2 = true := by
        cases hl : lj.2 with
        | true => exact .inr rfl
        | false => exact .inl (by have : ¬ j < x := fun h => hgo ⟨h, hl⟩; omega)
      have heq := HL.out.eq
      rw [repR_end hend] at heq
      have hst := HL.out.st
      have hkids := HL.out.kids
      obtain ⟨A, cap2, hv⟩ := hkids.slice
      rw [hv] at hkids hst
      obtain ⟨GF, hnode, hap, hsoft⟩ := hkids.nodeV (vis := vs.length) (by rw [Va.trs_len]; omega) [.int .u8 7, .int .i64 0, .float .f64 0, .float .f64 0, .string ⟨#[]⟩] rfl (by simp [Value.oneCell'])
      rw [Va.trs_len] at hst
      have HN := Lib.hid (And.intro hst (And.intro hnode (And.intro hap (And.intro hsoft heq))))
      clear hst hkids hnode hap hsoft heq hv hend
      cases hl : lj.2 with
      | true =>
        rw [hl] at hcb
        by_cases hlt : j < x
        · have d1 : (j : Int) < (x : Int) := by omega
          go_wp2_with (first | (refine wpList_load_row (by rfl) 25 _ (by rfl) B (by rfl) 25 _ (0, 0) _ HN.out.1.box Try.underlying25 rfl (by kernel_rfl) ?_) | (refine wpList_store_rowTo (by rfl) 25 _ _ (by rfl) (by rfl) w.heap.size #[.int .u8 7, .int .i64 0, .float .f64 0, .float .f64 0, .string ⟨#[]⟩, .slice A vs.length cap2] (by rfl) (by rfl) 25 zero6 HN.out.1.res (by kernel_rfl) (by kernel_rfl) (all_oneCell_toArray (cs := [.int .u8 7, .int .i64 0, .float .f64 0, .float .f64 0, .string ⟨#[]⟩, .slice A vs.length cap2]) (by simp [Value.oneCell'])) ?_))
          refine bodyPost_ret (v := .agg #[.int .u8 7, .int .i64 0, .float .f64 0, .float .f64 0, .string ⟨#[]⟩, .slice A vs.length cap2]) (results_cell_row rfl _ _ w.heap.size 25 _ (0, 0) _ rfl (setRow_heap _ _ _ _ _ _ HN.out.1.res) Try.underlying25 rfl (by kernel_rfl)) rfl ?_
          exact lp_end HN.out.1 HN.out.2.1 HN.out.2.2.1 HN.out.2.2.2.1 HN.out.2.2.2.2
        · have d1 : ¬ (j : Int) < (x : Int) := by omega
          go_wp2_with (first | (refine wpList_load_row (by rfl) 25 _ (by rfl) B (by rfl) 25 _ (0, 0) _ HN.out.1.box Try.underlying25 rfl (by kernel_rfl) ?_) | (refine wpList_store_rowTo (by rfl) 25 _ _ (by rfl) (by rfl) w.heap.size #[.int .u8 7, .int .i64 0, .float .f64 0, .float .f64 0, .string ⟨#[]⟩, .slice A vs.length cap2] (by rfl) (by rfl) 25 zero6 HN.out.1.res (by kernel_rfl) (by kernel_rfl) (all_oneCell_toArray (cs := [.int .u8 7, .int .i64 0, .float .f64 0, .float .f64 0, .string ⟨#[]⟩, .slice A vs.length cap2]) (by simp [Value.oneCell'])) ?_))
          refine bodyPost_ret (v := .agg #[.int .u8 7, .int .i64 0, .float .f64 0, .float .f64 0, .string ⟨#[]⟩, .slice A vs.length cap2]) (results_cell_row rfl _ _ w.heap.size 25 _ (0, 0) _ rfl (setRow_heap _ _ _ _ _ _ HN.out.1.res) Try.underlying25 rfl (by kernel_rfl)) rfl ?_
          exact lp_end HN.out.1 HN.out.2.1 HN.out.2.2.1 HN.out.2.2.2.1 HN.out.2.2.2.2
      | false =>
        have d1 : ¬ (j : Int) < (x : Int) := fun h => hgo ⟨by omega, hl⟩
        go_wp2_with (first | (refine wpList_load_row (by rfl) 25 _ (by rfl) B (by rfl) 25 _ (0, 0) _ HN.out.1.box Try.underlying25 rfl (by kernel_rfl) ?_) | (refine wpList_store_rowTo (by rfl) 25 _ _ (by rfl) (by rfl) w.heap.size #[.int .u8 7, .int .i64 0, .float .f64 0, .float .f64 0, .string ⟨#[]⟩, .slice A vs.length cap2] (by rfl) (by rfl) 25 zero6 HN.out.1.res (by kernel_rfl) (by kernel_rfl) (all_oneCell_toArray (cs := [.int .u8 7, .int .i64 0, .float .f64 0, .float .f64 0, .string ⟨#[]⟩, .slice A vs.length cap2]) (by simp [Value.oneCell'])) ?_))
        refine bodyPost_ret (v := .agg #[.int .u8 7, .int .i64 0, .float .f64 0, .float .f64 0, .string ⟨#[]⟩, .slice A vs.length cap2]) (results_cell_row rfl _ _ w.heap.size 25 _ (0, 0) _ rfl (setRow_heap _ _ _ _ _ _ HN.out.1.res) Try.underlying25 rfl (by kernel_rfl)) rfl ?_
        exact lp_end HN.out.1 HN.out.2.1 HN.out.2.2.1 HN.out.2.2.2.1 HN.out.2.2.2.2
end Go.Proofs.Ytaglklcjolcgeaa
namespace Go.Proofs.Ytaglklcjolcgeaa
open Go.RowKit
set_option linter.unusedVariables false
set_option linter.unusedSimpArgs false
attribute [local go_sem] run_store_float
section
variable {P : Program}
/-- An append of one element onto a row that is owned: the row's own cells stay where they are. -/
theorem run_app_keep {W : World} (t ty : TypeId) (base : Nat) (e : TypeId) (i : TypeInfo) (z : Value) (size bytes : Nat) (ht : P.underlying t = some (.slice e)) (hi : P.info? e = some i) (hz : i.zero = some z) (hsz : i.size = size) (hby : i.bytes = bytes) (hzs : z.cells.size = size) (hs0 : 0 < size) (hb0 : 0 < bytes)
    (v : Value) (n : Nat) (xs : List Value) (hown : W.ownsRow base e size v n xs) (b : Nat) (cs : List Value) (fr : Nat × Nat) (hcl : cs.length = size) (h1 : ∀ u ∈ cs, u.oneCell' = true) (hb : W.heap[b]? = some (.cells cs.toArray e fr)) (hbase : base ≤ W.heap.size) (hl : (n + 1) * bytes ≤ 140737488355328) :
    ∃ g1 c1 w1, (Builtin.append_ #[t, t] ty #[v, .slice (some ⟨b, 0, none⟩) 1 1]).run P W = .ok (.slice (some ⟨g1, 0, none⟩) (n + 1) c1) w1 ∧
      w1.ownsRow base e size (.slice (some ⟨g1, 0, none⟩) (n + 1) c1) (n + 1) (xs ++ cs) ∧ W.grownBy w1 v.ownBlock ∧ (v.ownBlock = some g1 ∨ g1 = W.heap.size) ∧ g1 < w1.heap.size ∧
      ∀ g, v.ownBlock = some g → ∀ j, j < n * size → w1.cell? ⟨g, j, none⟩ = W.cell? ⟨g, j, none⟩ := by
  have hnews := World.news_of_block hb
  simp only [List.toList_toArray] at hnews
  have h63 : n + 1 ≤ maxLen := by
    have := Nat.le_mul_of_pos_right (n + 1) hb0
    simp only [maxLen]
    omega
  obtain ⟨g1, c1, w', hrun, ho, hg, hat, hlt⟩ := run_append_lies (P := P) W t ty base e i z size bytes ht hi hz hsz hby hzs hs0 v n xs hown ⟨b, 0, none⟩ 1 1 cs (by rw [hcl, Nat.one_mul]) hnews h1 (by omega) h63 hl hbase W.heap.size rfl
  refine ⟨g1, c1, w', hrun, ho, hg, hat, hlt, ?_⟩
  intro g hgv j hj
  rcases hown.2 with ⟨rfl, _⟩ | ⟨g', cap, cur, rfl, hbg, hgg, hnc, hcm, hcs, htake⟩
  · simp [Value.ownBlock] at hgv
  · have : g' = g := by simpa [Value.ownBlock] using hgv
    subst this
    have hgl := (Array.getElem?_eq_some_iff.1 hgg).1
    by_cases hroom : n + 1 ≤ cap
    · have hfit : n * i.size + cs.length ≤ cur.size := by
        have h2 := Nat.mul_le_mul_right size hroom
        rw [Nat.add_mul, Nat.one_mul] at h2
        rw [hcl, hcs, hsz]
        exact h2
      have hr2 := run_append_room (P := P) W t ty e i ht hi g' n cap cur hgg ⟨b, 0, none⟩ 1 1 cs (by rw [hcl, hsz, Nat.one_mul]) hnews h1 hroom hfit
      rw [hr2] at hrun
      injection hrun with _ hw
      subst hw
      have hh := setRow_heap W g' cur (cur.toList.take (n * i.size) ++ cs ++ cur.toList.drop (n * i.size + cs.length)).toArray e (0, 0) hgg
      simp only [World.cell?, hh, hgg]
      have hjl : j < n * i.size := by rw [hsz]; exact hj
      have hje : (cur.toList.take (n * i.size) ++ cs ++ cur.toList.drop (n * i.size + cs.length)).toArray[j]? = cur[j]? := by
        rw [List.getElem?_toArray, List.append_assoc, List.getElem?_append_left (by simp; omega), List.getElem?_take, if_pos hjl]
        simp
      simp only [hje]
    · have holds : ∀ j u, xs[j]? = some u → W.cell? ((⟨g', 0, none⟩ : Addr).add j) = some u := hown.cells (g := g') rfl
      have hr2 := run_append_grow (P := P) W t ty e i z ht hi hz ⟨g', 0, none⟩ n cap xs (by rw [hsz]; exact hown.1) holds ⟨b, 0, none⟩ 1 1 cs (by rw [hcl, hsz, Nat.one_mul]) hnews (by omega) (by simp only [maxLen] at h63; omega) (growslice_fits (by omega) (by rw [hby]; exact hl))
      rw [hr2] at hrun
      injection hrun with _ hw
      subst hw
      exact World.cell?_of_block (heap_alloc_old W.drew _ (by exact hgl))
theorem wpList_keep {W : World} {ops : Array Oper} {rest : List Oper} {o : Oper} {a : Act} {Q : Exit → Act → World → Prop} (hgd : o.guard = none) (s x : Operand) (t : TypeId) (ho : o.op = .call { callee := .builtin .append, args := #[s, x], argTypes := #[t, t] })
    (base : Nat) (e : TypeId) (i : TypeInfo) (z : Value) (size bytes : Nat) (ht : P.underlying t = some (.slice e)) (hi : P.info? e = some i) (hz : i.zero = some z) (hsz : i.size = size) (hby : i.bytes = bytes) (hzs : z.cells.size = size) (hs0 : 0 < size) (hb0 : 0 < bytes)
    (v : Value) (n : Nat) (xs : List Value) (hs : a.eval s = v) (hown : W.ownsRow base e size v n xs) (b : Nat) (cs : List Value) (fr : Nat × Nat) (hx : a.eval x = .slice (some ⟨b, 0, none⟩) 1 1) (hcl : cs.length = size) (h1 : ∀ u ∈ cs, u.oneCell' = true) (hb : W.heap[b]? = some (.cells cs.toArray e fr)) (hbase : base ≤ W.heap.size) (hl : (n + 1) * bytes ≤ 140737488355328)
    (h : ∀ g1 c1 w1, w1.ownsRow base e size (.slice (some ⟨g1, 0, none⟩) (n + 1) c1) (n + 1) (xs ++ cs) → W.grownBy w1 v.ownBlock → (v.ownBlock = some g1 ∨ g1 = W.heap.size) → g1 < w1.heap.size →
      (∀ g, v.ownBlock = some g → ∀ j, j < n * size → w1.cell? ⟨g, j, none⟩ = W.cell? ⟨g, j, none⟩) → wpList P ops Q rest (a.put o.dst (.slice (some ⟨g1, 0, none⟩) (n + 1) c1)) w1) : wpList P ops Q (o :: rest) a W := by
  refine wpList_plain hgd fun K hK => ?_
  obtain ⟨g1, c1, w1, hr, k1, k2, k3, k4, k5⟩ := run_app_keep (P := P) t o.type base e i z size bytes ht hi hz hsz hby hzs hs0 hb0 v n xs hown b cs fr hcl h1 hb hbase hl
  unfold Oper.wp execOp
  simp only [ho, resolve, invoke, builtin, Sem.run_bind, Sem.run_pure, Result.andThen_ok, List.map_toArray, List.map_cons, List.map_nil, hs, hx, hr]
  exact hK _ _ (h g1 c1 w1 k1 k2 k3 k4 k5)
end
theorem row_below {w w' : World} {base size n : Nat} {e : TypeId} {v : Value} {xs : List Value} (h : w.ownsRow base e size v n xs) (hb : Below w.heap.size w w') : w'.ownsRow base e size v n xs :=
  h.kept (row := none) ⟨hb.os, hb.tape, hb.output, hb.size, fun k hk _ => hb.block k hk⟩ (by cases v.ownBlock <;> simp)
/-- What grow gives: some number; the value reads as it did. -/
def GrowIs (r : Va) (c : List Value) (F : List Nat) (w : World) (e : Ending) (w' : World) : Prop := ∃ z : Int, e = .returned (.int .i64 z) ∧ r.tr.own 6 w' c F ∧ Wr (fun i => i ∈ F) w w'
def MC (m : Nat) : List Value := [.int .u8 2, .int .i64 (900 + (m : Int)), .float .f64 0, .float .f64 0, .string ⟨#[]⟩, .slice none 0 0]
set_option maxRecDepth 100000 in
set_option maxHeartbeats 2000000 in
theorem grow_0 (kd n : Int) (x y : Nat) (s : ByteArray) (m : Nat) (hm : m ≤ 10) (w : World) : Calls Try.prog 27 #[.agg #[.int .u8 kd, .int .i64 n, .float .f64 x, .float .f64 y, .string s, .slice none 0 0], .int .i64 m] w (GrowIs (.mk kd n x y s []) [.int .u8 kd, .int .i64 n, .float .f64 x, .float .f64 y, .string s, .slice none 0 0] [] w) := by
  obtain ⟨i0, hi0, hz0, hz1, hz2⟩ := info_parts info_tV
  have HB0 := Lib.hid (bnew (Below.refl w.heap.size w) (.cells #[.int .u8 kd, .int .i64 n, .float .f64 x, .float .f64 y, .string s, .slice none 0 0] 25))
  have q5 := (box_all (heap_alloc_new w (.cells #[.int .u8 kd, .int .i64 n, .float .f64 x, .float .f64 y, .string s, .slice none 0 0] 25)) 5).trans rfl
  go_enter Try.func27, Try.ntmps27
  go_wp2_with fail
  go_loopw [5, 6] (fun u5 u6 wr => u5 = .int .i64 0 ∧ u6 = .int .i64 0 ∧ wr = w.alloc (.cells #[.int .u8 kd, .int .i64 n, .float .f64 x, .float .f64 y, .string s, .slice none 0 0] 25)) (fun _ _ _ => 0)
  case atStart => exact ⟨rfl, rfl, rfl⟩
  case round =>
    obtain ⟨rfl, rfl, rfl⟩ := hrel
    clear q5
    go_wp2_with fail
    go_loopw [7, 8] (fun u7 u8 wr => ∃ (j : Nat) (a : Option Addr) (l c : Nat) (xs : List Value), j ≤ 20 ∧ u8 = .int .i64 j ∧ u7 = .slice a l c ∧ Hid (wr.ownsRow (w.heap.size + 1) 25 6 (.slice a l c) j xs) ∧ Hid (Below w.heap.size w wr) ∧ w.heap.size + 1 ≤ wr.heap.size) (fun _ u8 _ => 20 - (intOf u8).toNat)
    case atStart => exact ⟨0, none, 0, 0, [], by omega, rfl, rfl, World.ownsRow_nil _ _ _ _, HB0.out, by simp⟩
    case round =>
      obtain ⟨j, a, l, c, xs, hj, rfl, rfl, HO, HW, hsz⟩ := hrel
      by_cases hlt : j < 20
      · have d1 : (j : Int) < 20 := by omega
        go_wp2_with fail
        refine (mark_any m (by omega) wr).mono ?_
        rintro e w3 ⟨rfl, hb3⟩
        have hs3 := hb3.size
        have HO3 := Lib.hid ((row_below HO.out hb3).alloc (.cells #[.int .u8 2, .int .i64 (900 + (m : Int)), .float .f64 0, .float .f64 0, .string ⟨#[]⟩, .slice none 0 0] 25))
        have HB3 := Lib.hid hb3
        clear hb3
        go_wp2_with (refine wpList_keep (W := w3.alloc (.cells #[.int .u8 2, .int .i64 (900 + (m : Int)), .float .f64 0, .float .f64 0, .string ⟨#[]⟩, .slice none 0 0] 25)) (by rfl) _ _ 23 (by rfl) (w.heap.size + 1) 25 i0 _ 6 72 Try.underlying23 hi0 hz0 hz1 hz2 rfl (by omega) (by omega) (.slice a l c) j xs (by rfl) HO3.out w3.heap.size [.int .u8 2, .int .i64 (900 + (m : Int)), .float .f64 0, .float .f64 0, .string ⟨#[]⟩, .slice none 0 0] (0, 0) (by rfl) rfl (by simp [Value.oneCell']) (heap_alloc_new w3 _) (by simp; omega) (by omega) ?_; intro g1 c1 w1 k1 k2 k3 k4 k5; have HN := Lib.hid (And.intro k1 (And.intro k2 k4)); clear k1 k2 k3 k4 k5)
        go_roundw
        case rel =>
          obtain ⟨k1, k2, k4⟩ := HN.out
          have hs1 := k2.size
          have hz3 : (w3.alloc (.cells #[.int .u8 2, .int .i64 (900 + (m : Int)), .float .f64 0, .float .f64 0, .string ⟨#[]⟩, .slice none 0 0] 25)).heap.size = w3.heap.size + 1 := by simp
          refine ⟨j + 1, _, _, _, _, by omega, by go_num, rfl, k1, ?_, by omega⟩
          exact (bnew (HW.out.trans (HB3.out.mono HW.out.size)) _).grown k2 (by omega) fun g e => by have := (HO.out.lt g e).1; omega
        case measure => simp [intOf]; omega
      · obtain rfl : j = 20 := by omega
        have d1 : ¬ (20 : Int) < 20 := by omega
        go_wp2_with fail
        go_ret
        refine ⟨_, rfl, ?_, Wr.of_below HW.out _⟩
        unfold Va.tr Tr.own
        exact ⟨none, 0, 0, by simp, rfl, by simp [Value.oneCell'], ⟨rfl, Nat.le_refl _⟩, Nat.le_refl _, by omega, .inl ⟨rfl, rfl⟩⟩
/-- What lies at the value behind k of its kids. -/
def GInv (wr : World) (b : Nat) (F' : List Nat) (rs : List Va) (cap : Nat) (cs : List Value) (k : Nat) : Prop :=
  ∃ c1 c2 Fa Fb, cs = c1 ++ c2 ∧ F' = Fa ++ Fb ∧ Tr.ownL 6 wr (Va.trs (rs.take k)) c1 Fa ∧ Tr.ownRL wr (Va.trs (rs.drop k)) c2 Fb ∧ wr.rangeAt b 0 cs ∧ RowC wr b cap
/-- Behind the kids, while the list's copy grows. -/
structure GLst (w : World) (b : Nat) (F' : List Nat) (rs : List Va) (cs : List Value) (v : Value) (j : Nat) (xs : List Value) (wr : World) : Prop where
  row : wr.ownsRow 0 25 6 v (rs.length + j) xs
  ran : wr.rangeAt b 0 cs
  kids : Tr.ownL 6 wr (Va.trs rs) cs F'
  wr : Wr (fun i => i ∈ b :: F') w wr
  blk : ∀ g, v.ownBlock = some g → g = b ∨ w.heap.size ≤ g
theorem GLst.next {w : World} {b : Nat} {F' : List Nat} {rs : List Va} {cs : List Value} {v : Value} {j : Nat} {xs : List Value} {wr w3 w1 : World} {o : Obj} {g1 c1 : Nat} {mc : List Value} (h : GLst w b F' rs cs v j xs wr) (hb : b ∉ F') (hF : ∀ i ∈ b :: F', i < w.heap.size) (hcs : cs.length = rs.length * 6) (h3 : Below wr.heap.size wr w3)
    (k1 : w1.ownsRow 0 25 6 (.slice (some ⟨g1, 0, none⟩) (rs.length + j + 1) c1) (rs.length + j + 1) (xs ++ mc)) (k2 : (w3.alloc o).grownBy w1 v.ownBlock) (k3 : v.ownBlock = some g1 ∨ g1 = (w3.alloc o).heap.size) (k5 : ∀ g, v.ownBlock = some g → ∀ i, i < (rs.length + j) * 6 → w1.cell? ⟨g, i, none⟩ = (w3.alloc o).cell? ⟨g, i, none⟩) :
    GLst w b F' rs cs (.slice (some ⟨g1, 0, none⟩) (rs.length + j + 1) c1) (j + 1) (xs ++ mc) w1 := by
  have hs3 := h3.size
  have hs0 := h.wr.size
  have hz : (w3.alloc o).heap.size = w3.heap.size + 1 := by simp
  have hbel := bnew h3 o
  have hF1 : ∀ i ∈ F', w1.heap[i]? = wr.heap[i]? := fun i hi => by
    have := hF i (by simp [hi])
    refine (k2.block i (by omega) fun e => ?_).trans (hbel.block i (by omega))
    rcases h.blk i e.symm with h1 | h1
    · exact hb (by rw [← h1]; exact hi)
    · omega
  have hbl := hF b (by simp)
  refine ⟨k1, ?_, Tr.ownL_same _ _ _ hF1 h.kids, ?_, ?_⟩
  · intro i u hu
    have hi := (List.getElem?_eq_some_iff.1 hu).1
    rw [Nat.zero_add]
    have hr := h.ran i u hu
    rw [Nat.zero_add] at hr
    by_cases hv : v.ownBlock = some b
    · rw [k5 b hv i (by rw [hcs] at hi; have := Nat.mul_le_mul_right 6 (Nat.le_add_right rs.length j); omega)]
      exact (hbel.cell (p := ⟨b, i, none⟩) (by show b < wr.heap.size; omega)).trans hr
    · exact ((k2.cell_far ⟨b, i, none⟩ (by show b < (w3.alloc o).heap.size; omega) (fun e => hv e.symm)).trans (hbel.cell (p := ⟨b, i, none⟩) (by show b < wr.heap.size; omega))).trans hr
  · refine h.wr.andThen (T := fun i => v.ownBlock = some i) ⟨k2.os.trans hbel.os, k2.tape.trans hbel.tape, k2.output.trans hbel.output, by have := k2.size; omega, fun i hi hs => (k2.block i (by omega) fun e => hs e.symm).trans (hbel.block i hi)⟩ fun i hi ht => ?_
    rcases h.blk i ht with h1 | h1
    · rw [h1]; simp
    · omega
  · intro g hg
    have : g1 = g := by simpa [Value.ownBlock] using hg
    subst this
    rcases k3 with h1 | h1
    · exact h.blk g1 h1
    · exact .inr (by omega)
theorem GInv.at {wr : World} {b : Nat} {F' : List Nat} {rs : List Va} {cap : Nat} {cs : List Value} {k : Nat} (h : GInv wr b F' rs cap cs k) (hk : k < rs.length) :
    ∃ c pre post Fa F1 Fb, cs = pre ++ (c ++ post) ∧ pre.length = k * 6 ∧ F' = Fa ++ (F1 ++ Fb) ∧ Tr.ownL 6 wr (Va.trs (rs.take k)) pre Fa ∧ rs[k].tr.ownR wr c F1 ∧ Tr.ownRL wr (Va.trs (rs.drop (k + 1))) post Fb ∧ wr.rangeAt b (k * 6) c := by
  obtain ⟨c1, c2, Fa, Fb, rfl, rfl, h1, h2, h3, h4⟩ := h
  rw [List.drop_eq_getElem_cons hk] at h2
  unfold Va.trs Tr.ownRL at h2
  obtain ⟨c, post, F1, Fb, rfl, rfl, a3, a4⟩ := h2
  have e0 : c1.length = k * 6 := by rw [Tr.ownL_len h1, Va.trs_len, List.length_take]; congr 1; omega
  have r := rangeAt_left (rangeAt_right h3)
  rw [e0, Nat.zero_add] at r
  exact ⟨c, c1, post, Fa, F1, Fb, rfl, e0, rfl, h1, a3, a4, r⟩
theorem GInv.next {wr w1 : World} {b : Nat} {F' : List Nat} {rs : List Va} {cap : Nat} {cs : List Value} {k : Nat} (h : GInv wr b F' rs cap cs k) (hk : k < rs.length) {c pre post : List Value} {Fa F1 Fb : List Nat}
    (e1 : cs = pre ++ (c ++ post)) (e2 : F' = Fa ++ (F1 ++ Fb)) (h1 : Tr.ownL 6 wr (Va.trs (rs.take k)) pre Fa) (h2 : Tr.ownRL wr (Va.trs (rs.drop (k + 1))) post Fb) (ho : rs[k].tr.own 6 w1 c F1) (hfa : ∀ i ∈ Fa, w1.heap[i]? = wr.heap[i]?) (hfb : ∀ i ∈ Fb, w1.heap[i]? = wr.heap[i]?) (hbb : w1.heap[b]? = wr.heap[b]?) :
    GInv w1 b F' rs cap cs (k + 1) := by
  obtain ⟨_, _, _, _, _, _, _, _, h3, h4⟩ := h
  refine ⟨pre ++ c, post, Fa ++ F1, Fb, by rw [e1]; simp, by rw [e2]; simp, ?_, Tr.ownRL_same _ _ _ hfb h2, rangeAt_of_block h3 hbb, h4.same hbb⟩
  rw [Va.trs_take rs k hk]
  exact Tr.ownL_snoc (Tr.ownL_same _ _ _ hfa h1) ho
set_option maxRecDepth 100000 in
set_option maxHeartbeats 4000000 in
theorem grow_N (N : Nat) : ∀ (r : Va) (_ : r.size ≤ N) (_ : r.size ≤ 2000) (m : Nat) (_ : m ≤ 10) (c : List Value) (F : List Nat) (w : World) (_ : r.tr.ownR w c F) (_ : F.Nodup), Calls Try.prog 27 #[.agg c.toArray, .int .i64 m] w (GrowIs r c F w) := by
  induction N with
  | zero => intro r hN; have := r.size_pos; omega
  | succ N ih =>
  intro r hN h2000 m hm c F w hr hnd
  have HLT := Lib.hid (Tr.ownR_lt _ _ _ hr)
  obtain ⟨kd, n, x, y, s, rs⟩ := r
  have hr0 := hr
  unfold Va.tr Tr.ownR at hr0
  obtain ⟨a, cap, rfl, n1, n2, n3, h4⟩ := hr0
  clear n1 n2 n3
  rw [Va.trs_len] at h4
  rcases h4 with ⟨h5, rfl, rfl, rfl⟩ | ⟨hpos, hcap, hcap', b, cs, F', rfl, rfl, hrc, hra, hkl⟩
  · obtain rfl := List.eq_nil_of_length_eq_zero h5
    exact grow_0 kd n x y s m hm w
  · unfold Va.size at hN h2000
    have hlen := Va.sizes_len rs
    have hbl := HLT.out b (by simp)
    have hbF := (List.nodup_cons.1 hnd).1
    have hcsl : cs.length = rs.length * 6 := by rw [Tr.ownRL_len hkl, Va.trs_len]
    obtain ⟨i0, hi0, hz0, hz1, hz2⟩ := info_parts info_tV
    have IH := Lib.hid ih
    have HND := Lib.hid hnd
    have HINV : Hid (∀ W, Below w.heap.size w W → GInv W b F' rs cap cs 0) := fun W hW => ⟨[], cs, [], F', rfl, rfl, by simp [Va.trs, Tr.ownL], by simpa using Tr.ownRL_below hkl hW, rangeAt_of_block hra (hW.block b hbl), hrc.same (hW.block b hbl)⟩
    have HB0 := Lib.hid (bnew (Below.refl w.heap.size w) (.cells #[.int .u8 kd, .int .i64 n, .float .f64 x, .float .f64 y, .string s, .slice (some ⟨b, 0, none⟩) rs.length cap] 25))
    have q5 : (w.alloc (.cells #[.int .u8 kd, .int .i64 n, .float .f64 x, .float .f64 y, .string s, .slice (some ⟨b, 0, none⟩) rs.length cap] 25)).cell? ⟨w.heap.size, 5, none⟩ = some (.slice (some ⟨b, 0, none⟩) rs.length cap) := (box_all (heap_alloc_new w (.cells #[.int .u8 kd, .int .i64 n, .float .f64 x, .float .f64 y, .string s, .slice (some ⟨b, 0, none⟩) rs.length cap] 25)) 5).trans rfl
    have HNB : Hid (w.heap.size ∉ b :: F') := fun h => Nat.lt_irrefl _ (HLT.out _ h)
    clear ih hr hrc hra hkl hnd
    go_enter Try.func27, Try.ntmps27
    go_wp2_with fail
    go_loopw [5, 6] (fun u5 u6 wr => ∃ (k : Nat) (z : Int), k ≤ rs.length ∧ u5 = .int .i64 z ∧ u6 = .int .i64 k ∧ Hid (Wr (fun i => i ∈ b :: F') w wr) ∧ Hid (w.heap.size < wr.heap.size) ∧ wr.cell? ⟨w.heap.size, 5, none⟩ = some (.slice (some ⟨b, 0, none⟩) rs.length cap) ∧ Hid (GInv wr b F' rs cap cs k)) (fun _ u6 _ => rs.length - (intOf u6).toNat)
    case atStart => exact ⟨0, 0, by omega, rfl, rfl, Wr.of_below HB0.out _, Lib.hid (by simp), q5, HINV.out _ HB0.out⟩
    case round =>
      clear q5 HINV HB0
      obtain ⟨k, z, hk, rfl, rfl, HW, HSZ, hcell, HG⟩ := hrel
      by_cases hlt : k < rs.length
      · have d1 : (k : Int) < (rs.length : Int) := by omega
        have d0 : (0 : Int) ≤ (k : Int) := by omega
        obtain ⟨kc, pre, post, Fa, F1, Fb, e1, e2, e3, g1, g2, g3, g4⟩ := HG.out.at hlt
        have hnd := HND.out
        rw [e3] at hnd
        have hndF := (List.nodup_cons.1 hnd).2
        have hnd2 := (List.nodup_append.1 hndF).2.1
        have hdA := (List.nodup_append.1 hndF).2.2
        have hdB := (List.nodup_append.1 hnd2).2.2
        have hb1 : b ∉ F1 := fun h => (List.nodup_cons.1 hnd).1 (by simp [h])
        have hnd1 := (List.nodup_append.1 hnd2).1
        have HD := Lib.hid (And.intro hb1 (And.intro (fun i (hi : i ∈ Fa) => (fun h => hdA i hi i (by simp [h]) rfl : i ∉ F1)) (fun i (hi : i ∈ Fb) => (fun h => hdB i h i hi rfl : i ∉ F1))))
        obtain ⟨kkd, kn, kx, ky, ks, q, ka, kl, kcap, _, hke⟩ := vcells (Tr.ownR_own _ _ _ g2)
        subst hke
        have c0 : wr.cell? ⟨b, k * 6, none⟩ = some (.int .u8 kkd) := g4 0 _ rfl
        have c1 : wr.cell? ⟨b, k * 6 + 1, none⟩ = some (.int .i64 kn) := g4 1 _ rfl
        have c2 : wr.cell? ⟨b, k * 6 + 2, none⟩ = some (.float .f64 kx) := g4 2 _ rfl
        have c3 : wr.cell? ⟨b, k * 6 + 3, none⟩ = some (.float .f64 ky) := g4 3 _ rfl
        have c4 : wr.cell? ⟨b, k * 6 + 4, none⟩ = some (.string ks) := g4 4 _ rfl
        have c5 : wr.cell? ⟨b, k * 6 + 5, none⟩ = some (.slice ka kl kcap) := g4 5 _ rfl
        have hszk := Va.sizes_at rs k hlt
        have HK := Lib.hid (And.intro e1 (And.intro e3 (And.intro g1 (And.intro g2 (And.intro g3 hnd1)))))
        clear e1 e2 e3 g1 g2 g3 g4 hnd hndF hnd2 hdA hdB hb1 hnd1
        go_wp2_with fail
        refine (IH.out rs[k] (by omega) (by omega) m hm _ F1 _ HK.out.2.2.2.1 HK.out.2.2.2.2.2).mono ?_
        rintro e w1 ⟨z1, rfl, ho1, hw1⟩
        have HX := Lib.hid (And.intro ho1 hw1)
        clear ho1 hw1 c0 c1 c2 c3 c4 c5
        go_wp2_with fail
        go_roundw
        case rel =>
          obtain ⟨ho1, hw1⟩ := HX.out
          obtain ⟨e1, e3, g1, g2, g3, hnd1⟩ := HK.out
          have hin : ∀ i, i ∈ F1 → i ∈ b :: F' := fun i hi => by rw [e3]; simp [hi]
          have hsz := HSZ.out
          have hs1 := hw1.size
          refine ⟨k + 1, _, by omega, rfl, by go_num, HW.out.andThen hw1 (fun i _ hi => hin i hi), Lib.hid (by omega), ?_, ?_⟩
          · exact (hw1.cell (p := ⟨w.heap.size, 5, none⟩) hsz (fun h => HNB.out (hin _ h))).trans hcell
          · exact HG.out.next hlt e1 e3 g1 g3 ho1 (fun i hi => hw1.block i (Tr.ownL_lt _ _ _ g1 i hi) (HD.out.2.1 i hi)) (fun i hi => hw1.block i (Tr.ownRL_lt _ _ _ g3 i hi) (HD.out.2.2 i hi)) (hw1.block b (by have := HW.out.size; omega) HD.out.1)
        case measure => simp [intOf]; omega
      · obtain rfl : k = rs.length := by omega
        have d1 : ¬ (rs.length : Int) < (rs.length : Int) := by omega
        have hg := HG.out
        obtain ⟨c1, c2, Fa, Fb, e1, e2, g1, g2, g3, cur, g4, g5⟩ := hg
        rw [List.drop_length] at g2
        unfold Va.trs Tr.ownRL at g2
        obtain ⟨rfl, rfl⟩ := g2
        rw [List.append_nil] at e1 e2
        rw [List.take_length] at g1
        have hrow : wr.ownsRow 0 25 6 (.slice (some ⟨b, 0, none⟩) rs.length cap) (rs.length + 0) cs := ⟨hcsl, .inr ⟨b, cap, cur, rfl, Nat.zero_le _, g4, hcap, hcap', g5, by
          have h1 : ∀ j, j < cs.length → cur[j]? = cs[j]? := fun j hj => by
            have := g3 j cs[j] (List.getElem?_eq_getElem hj)
            rw [Nat.zero_add] at this
            unfold World.cell? at this
            rw [g4] at this
            rw [List.getElem?_eq_getElem hj]
            exact this
          apply List.ext_getElem?
          intro j
          rw [Nat.add_zero, ← hcsl, List.getElem?_take]
          split
          · rename_i hj
            rw [Array.getElem?_toList]
            exact h1 j hj
          · rename_i hj
            exact (List.getElem?_eq_none (by omega)).symm⟩⟩
        have HS0 := Lib.hid (show GLst w b F' rs cs (.slice (some ⟨b, 0, none⟩) rs.length cap) 0 cs wr from ⟨hrow, g3, by rw [e1, e2]; exact g1, HW.out, fun g hg => .inl (by simpa [Value.ownBlock] using hg.symm)⟩)
        clear hrow g1 g3 g4 g5 e1 e2
        go_wp2_with fail
        go_loopw [7, 8] (fun u7 u8 wr => ∃ (j : Nat) (a : Option Addr) (l c : Nat) (xs : List Value), j ≤ 20 ∧ u8 = .int .i64 j ∧ u7 = .slice a l c ∧ Hid (GLst w b F' rs cs (.slice a l c) j xs wr)) (fun _ u8 _ => 20 - (intOf u8).toNat)
        case atStart => exact ⟨0, some ⟨b, 0, none⟩, rs.length, cap, cs, by omega, rfl, rfl, HS0⟩
        case round =>
          clear HS0 HG HW HSZ hcell
          obtain ⟨j, a, l, c, xs, hj, rfl, rfl, HL⟩ := hrel
          by_cases hlt2 : j < 20
          · have d1 : (j : Int) < 20 := by omega
            go_wp2_with fail
            refine (mark_any m (by omega) _).mono ?_
            rintro e w3 ⟨rfl, hb3⟩
            have HO3 := Lib.hid ((row_below HL.out.row hb3).alloc (.cells #[.int .u8 2, .int .i64 (900 + (m : Int)), .float .f64 0, .float .f64 0, .string ⟨#[]⟩, .slice none 0 0] 25))
            have HB3 := Lib.hid hb3
            clear hb3
            go_wp2_with (refine wpList_keep (W := w3.alloc (.cells #[.int .u8 2, .int .i64 (900 + (m : Int)), .float .f64 0, .float .f64 0, .string ⟨#[]⟩, .slice none 0 0] 25)) (by rfl) _ _ 23 (by rfl) 0 25 i0 _ 6 72 Try.underlying23 hi0 hz0 hz1 hz2 rfl (by omega) (by omega) (.slice a l c) (rs.length + j) xs (by rfl) HO3.out w3.heap.size [.int .u8 2, .int .i64 (900 + (m : Int)), .float .f64 0, .float .f64 0, .string ⟨#[]⟩, .slice none 0 0] (0, 0) (by rfl) rfl (by simp [Value.oneCell']) (heap_alloc_new w3 _) (by omega) (by omega) ?_; intro g1 c1 w1 k1 k2 k3 k4 k5; have HN := Lib.hid (HL.out.next hbF HLT.out hcsl HB3.out k1 k2 k3 k5); clear k1 k2 k3 k4 k5)
            go_roundw
            case rel => exact ⟨j + 1, _, _, _, _, by omega, by go_num, rfl, HN⟩
            case measure => simp [intOf]; omega
          · obtain rfl : j = 20 := by omega
            have d1 : ¬ (20 : Int) < 20 := by omega
            go_wp2_with fail
            go_ret
            refine ⟨_, rfl, ?_, HL.out.wr⟩
            unfold Va.tr Tr.own
            exact ⟨some ⟨b, 0, none⟩, rs.length, cap, by simp, rfl, by simp [Value.oneCell'], ⟨(Va.trs_len rs).symm, Nat.le_refl _⟩, hcap, hcap', .inr ⟨by rw [Va.trs_len]; omega, b, 0, cs, F', rfl, rfl, HL.out.ran, HL.out.kids⟩⟩
end Go.Proofs.Ytaglklcjolcgeaa
