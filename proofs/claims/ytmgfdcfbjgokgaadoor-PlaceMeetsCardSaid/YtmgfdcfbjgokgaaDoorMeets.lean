/- The walk of 'PlaceMeets': any lists. -/
import Derived.Test.YtmgfdcfbjgokgaaDoorTreLaw
import Derived.Test.YtmgfdcfbjgokgaaDoorFitS
import Derived.Test.YtmgfdcfbjgokgaaDoorAlive
namespace Go.Proofs.YtmgfdcfbjgokgaaDoor
open Go Go.RowKit Go.Maps Go.Proofs.YtmgfdcfbjgokgaaDoorW.PrintWords Go.Proofs.YtmgfdcfbjgokgaaDoorW.PrintLast Go.Proofs.YtmgfdcfbjgokgaaDoorW.PrintMore Go.Proofs.YtmgfdcfbjgokgaaDoor.PL
set_option linter.unusedVariables false
set_option linter.unusedSimpArgs false

abbrev kLP : Kd (List S60) := Kd.slice 60 k60
abbrev kLS : Kd (List S96) := Kd.slice 96 k96
/-- What came in. -/
structure InM (w : World) (A0 : Option Addr) (c0 n : Nat) (ls : List (List S96)) : Prop where
  nl : n = ls.length
  cn : n ≤ c0
  l0 : Kd.C kLS w A0 n ls
  sz : ∀ l ∈ ls, l.length ≤ 9223372036854775806 ∧ ∀ x ∈ l, x.f0.size ≤ 9223372036854775807
  tabs : Tabs w
theorem at_LS {w : World} {A : Option Addr} {n : Nat} {xs : List (List S96)} (h : Kd.C kLS w A n xs) (i : Nat) (hi : i < n) (hx : i < xs.length) : ∃ ad A0 c0, A = some ad ∧ w.cell? (ad.add i) = some (.slice A0 xs[i].length c0) ∧ xs[i].length ≤ c0 ∧ Kd.C k96 w A0 xs[i].length xs[i] := by
  obtain ⟨ad, c, e, _, hK, hc0⟩ := Kd.C_get h ([] : List S96) (i : Int) (by omega) (by omega)
  rw [Int.toNat_natCast, List.getD_eq_getElem?_getD, List.getElem?_eq_getElem hx] at hK
  have hc : ∀ j u, c[j]? = some u → w.cell? (ad.add (i * 1 + j)) = some u := fun j u hj => by have := hc0 j u hj; rwa [Int.toNat_natCast] at this
  obtain ⟨A0, c0, rfl, l0, g0⟩ := hK
  exact ⟨ad, A0, c0, e, by have hq := hc 0 _ rfl; rwa [Nat.mul_one, Nat.add_zero] at hq, l0, g0⟩
theorem at_LP {w : World} {A : Option Addr} {n : Nat} {xs : List (List S60)} (h : Kd.C kLP w A n xs) (i : Nat) (hi : i < n) (hx : i < xs.length) : ∃ ad A0 c0, A = some ad ∧ w.cell? (ad.add i) = some (.slice A0 xs[i].length c0) ∧ xs[i].length ≤ c0 ∧ Kd.C k60 w A0 xs[i].length xs[i] := by
  obtain ⟨ad, c, e, _, hK, hc0⟩ := Kd.C_get h ([] : List S60) (i : Int) (by omega) (by omega)
  rw [Int.toNat_natCast, List.getD_eq_getElem?_getD, List.getElem?_eq_getElem hx] at hK
  have hc : ∀ j u, c[j]? = some u → w.cell? (ad.add (i * 1 + j)) = some u := fun j u hj => by have := hc0 j u hj; rwa [Int.toNat_natCast] at this
  obtain ⟨A0, c0, rfl, l0, g0⟩ := hK
  exact ⟨ad, A0, c0, e, by have hq := hc 0 _ rfl; rwa [Nat.mul_one, Nat.add_zero] at hq, l0, g0⟩
/-- The nodes of the lists that have been added. -/
structure Inv (T : Tr) (ps : List (List S60)) (ns : List Nat) (i : Nat) : Prop where
  lp : ps.length = i
  ln : ns.length = i
  wf : T.wf
  few : T.nodes.length ≤ 1 + 128 * i
  all : ∀ (j : Nat) (h1 : j < ps.length) (h2 : j < ns.length), ns[j] < T.nodes.length ∧ stackT T ns[j] = ps[j].map toPl ∧ checkN (ps[j].map toPl) = 0
theorem Inv.none : Inv newT [] [] 0 := ⟨rfl, rfl, newT_wf, by decide, fun j h => by simp at h⟩
theorem Inv.add {T : Tr} {ps : List (List S60)} {ns : List Nat} {i : Nat} (I : Inv T ps ns i) {p : List S60} (hc : checkN (p.map toPl) = 0) (hi : i < 20) :
    ∃ n, (addT T (p.map toPl)).1 = (((n : Nat) : Int), (0 : Int)) ∧ (addT (addT T (p.map toPl)).2 (p.map toPl)).1 = (((n : Nat) : Int), (0 : Int)) ∧ n < (addT (addT T (p.map toPl)).2 (p.map toPl)).2.nodes.length ∧
      stackT (addT (addT T (p.map toPl)).2 (p.map toPl)).2 n = p.map toPl ∧ Inv (addT (addT T (p.map toPl)).2 (p.map toPl)).2 (ps ++ [p]) (ns ++ [n]) (i + 1) := by
  have hl : (p.map toPl).length ≤ 64 := (checkN_zero hc).1
  have hf := I.few
  obtain ⟨n, h1, h2, h3, h4⟩ := add_ok I.wf hc (by omega)
  have hag := add_again I.wf hc (by omega)
  have w1 := add_wf I.wf (p.map toPl)
  have w2 := add_wf w1 (p.map toPl)
  have x1 := add_ext T (p.map toPl)
  have x2 := add_ext (addT T (p.map toPl)).2 (p.map toPl)
  have hsame : (addT (addT T (p.map toPl)).2 (p.map toPl)).2.nodes.length ≤ (addT T (p.map toPl)).2.nodes.length + (p.map toPl).length := by
    obtain ⟨_, _, _, _, h⟩ := add_ok w1 hc (by omega)
    exact h
  have hlen := x2.len
  have hst := x2.stack w1 w2 n h2
  refine ⟨n, h1, hag.trans h1, by omega, hst.trans h3, ⟨by simp [I.lp], by simp [I.ln], w2, ?_, fun j j1 j2 => ?_⟩⟩
  · omega
  · by_cases hj : j < ps.length
    · have hj2 : j < ns.length := by rw [I.ln, ← I.lp]; exact hj
      obtain ⟨a1, a2, a3⟩ := I.all j hj hj2
      rw [List.getElem_append_left hj2, List.getElem_append_left hj]
      have hx := x1.trans x2
      exact ⟨by have := hx.len; omega, by rw [hx.stack I.wf w2 _ a1]; exact a2, a3⟩
    · have hjl : j < (ps ++ [p]).length := j1
      rw [List.length_append, List.length_singleton] at hjl
      obtain rfl : j = ps.length := by omega
      have e1 : (ps ++ [p])[ps.length] = p := by simp
      have e2 : (ns ++ [n])[ps.length]'j2 = n := by
        have : ps.length = ns.length := by rw [I.ln, I.lp]
        simp [this]
      rw [e1, e2]
      exact ⟨by omega, hst.trans h3, hc⟩
section
variable {W : World} {A B : Option Addr} {c d n m : Nat}
theorem fit_m {l : List S96} (hn : n = l.length) (h : Kd.C k96 W A n l) (hc : n ≤ c) (hs : ∀ x ∈ l, x.f0.size ≤ 9223372036854775807) (hb : n ≤ 9223372036854775806) :
    Calls Tryd.prog 31 #[.slice A n c] W fun e w' => ∃ v a, e = .returned v ∧ checkN (a.map toPl) = 0 ∧ Kd.R k60 60 w' W.heap.size (fun _ => True) v a ∧ Below W.heap.size W w' := by
  subst hn
  obtain ⟨k, r, hf, h0⟩ := fit_f l hb hs
  refine (erratalaw03_fit.calls k A c l r W h hc hf).mono fun e w' ⟨v, he, hR, hbl⟩ => ?_
  exact ⟨v, r, he, h0, hR, hbl⟩
end
/-- Beside the tree's blocks. -/
def Off (g gn gd mb k : Nat) : Prop := k ≠ g ∧ k ≠ gn ∧ k ≠ gd ∧ k ≠ mb
/-- A row beside the tree goes through a change of the tree. -/
theorem R_off {α : Type} {d : Kd α} {e : TypeId} {base : Nat} {W w2 : World} {v : Value} {xs : List α} {g gn gd mb gn2 gd2 : Nat} (h : Kd.R d e W base (Off g gn gd mb) v xs) (hk : KeepT W w2 g gn gd mb gn2 gd2) : Kd.R d e w2 base (Off g gn2 gd2 mb) v xs := by
  have h1 := Kd.R_bound h
  refine Kd.R_mono (Kd.R_move h1 (fun k hk1 => ?_)) (fun k hk1 => ?_)
  · obtain ⟨o1, o2, o3, o4⟩ := hk1.1
    exact (hk k hk1.2.2.1 o1 o2 o3 o4).2
  · obtain ⟨o1, o2, o3, o4⟩ := hk1.1
    have := (hk k hk1.2.2.1 o1 o2 o3 o4).1
    exact ⟨o1, this.1, this.2, o4⟩
theorem name_bd2 {a : List S60} (h : checkN (a.map toPl) = 0) : ∀ x ∈ a, x.f0.size ≤ 9223372036854775807 := fun x hx => by
  have := (checkN_zero h).2 (toPl x) (List.mem_map.2 ⟨x, hx, rfl⟩)
  have := (may_parts this).2.1
  exact Nat.le_trans this (by decide)
theorem len_bd2 {a : List S60} (h : checkN (a.map toPl) = 0) : a.length ≤ 64 := by
  have := (checkN_zero h).1
  rwa [List.length_map] at this
theorem R_rd {α : Type} {d : Kd α} {e : TypeId} {base : Nat} {ok : Nat → Prop} {W : World} {A : Option Addr} {n c : Nat} {xs : List α} (hn : n = xs.length) (h : Kd.R d e W base ok (.slice A n c) xs) : n ≤ c ∧ Kd.C d W A n xs := by
  have := Kd.R_reads' h
  subst hn
  exact ⟨this.2.1, this.2.2⟩
/-- All that is carried while lists are added. -/
structure StM (w W : World) (g gn gd mb cn cd : Nat) (D : DataW Unit) (T : Tr) (s4 : Value) (ps : List (List S60)) (s5 : Value) (ns : List Nat) (v7 : Value) (a : List S60) : Prop where
  tree : TreeW W w.heap.size g gn gd mb cn cd D T
  P : Kd.R kLP 23 W w.heap.size (Off g gn gd mb) s4 ps
  N : Kd.R kDp 3 W w.heap.size (Off g gn gd mb) s5 ns
  A : Kd.R k60 60 W w.heap.size (Off g gn gd mb) v7 a
  below : Below w.heap.size w W
theorem StM.step {w W W2 : World} {g gn gd mb cn cd : Nat} {D : DataW Unit} {T : Tr} {s4 s5 v7 : Value} {ps : List (List S60)} {ns : List Nat} {a : List S60} (S : StM w W g gn gd mb cn cd D T s4 ps s5 ns v7 a) (hb : Below W.heap.size W W2) : StM w W2 g gn gd mb cn cd D T s4 ps s5 ns v7 a :=
  ⟨S.tree.below hb, Kd.R_below S.P hb, Kd.R_below S.N hb, Kd.R_below S.A hb, S.below.trans (hb.mono S.below.size)⟩
theorem StM.begin {w W W2 : World} {g gn gd mb cn cd : Nat} {D : DataW Unit} {T : Tr} {s4 s5 v7 : Value} {ps : List (List S60)} {ns : List Nat} {a : List S60} (hT : TreeW W w.heap.size g gn gd mb cn cd D T)
    (hP : Kd.R kLP 23 W w.heap.size (Off g gn gd mb) s4 ps) (hN : Kd.R kDp 3 W w.heap.size (Off g gn gd mb) s5 ns) (hb : Below w.heap.size w W) (hA : Kd.R k60 60 W2 W.heap.size (fun _ => True) v7 a) (h2 : Below W.heap.size W W2) : StM w W2 g gn gd mb cn cd D T s4 ps s5 ns v7 a := by
  have hl := hT.lt
  refine ⟨hT.below h2, Kd.R_below hP h2, Kd.R_below hN h2, Kd.R_mono (Kd.R_bound (Kd.R_lower (Kd.R_mono (Kd.R_bound hA) (fun k hk => hk.2.1)) hb.size)) (fun k hk => ?_), hb.trans (h2.mono hb.size)⟩
  have : W.heap.size ≤ k := hk.1
  exact ⟨by omega, by omega, by omega, by omega⟩
theorem add_m {w W : World} {g gn gd mb cn cd : Nat} {D : DataW Unit} {T : Tr} {s4 s5 v7 : Value} {ps : List (List S60)} {ns : List Nat} {a : List S60} (S : StM w W g gn gd mb cn cd D T s4 ps s5 ns v7 a) (h0 : checkN (a.map toPl) = 0) {x y : Int} {T2 : Tr} (hr : (addT T (a.map toPl)).1 = (x, y)) (hT2 : T2 = (addT T (a.map toPl)).2)
    {B : Option Addr} {c n b : Nat} (hn : n = a.length) (hR : Kd.R k60 60 W b (fun _ => True) (.slice B n c) a) (hb : g < b ∧ gn < b ∧ gd < b ∧ mb < b) :
    Calls Tryd.prog 40 #[.pointer (some ⟨g, 0, none⟩), .slice B n c] W fun e w2 => ∃ gn2 gd2 cn2 cd2 D2, e = .returned (.tuple #[.int .i64 x, .int .i64 y]) ∧
      StM w w2 g gn2 gd2 mb cn2 cd2 D2 T2 s4 ps s5 ns v7 a := by
  subst hn
  subst hT2
  have hrd := Kd.R_reads' hR
  have h64 := len_bd2 h0
  refine (Add_any S.tree B c a hrd.2.2 hrd.2.1 (name_bd2 h0) (by omega) (fun ad hA => ?_) S.below.size).mono fun e w2 ⟨gn2, gd2, cn2, cd2, D2, he, hT, hbl, hk⟩ => ?_
  rotate_left
  · rw [hr] at he
    exact ⟨gn2, gd2, cn2, cd2, D2, he, ⟨hT, R_off S.P hk, R_off S.N hk, R_off S.A hk, S.below.trans hbl⟩⟩
  · subst hA
    obtain ⟨inner, ho⟩ := Kd.R_own hR
    have := own_base ho ad.block rfl
    omega
theorem info_ll : (Tryd.prog.info? 23).map (fun i => (i.zero, i.size, i.bytes)) = some (some (.slice none 0 0), 1, 24) := by kernel_rfl
theorem R_apart {α β : Type} {d : Kd α} {d2 : Kd β} {e e2 : TypeId} {b b2 : Nat} {ok ok2 : Nat → Prop} {W : World} {v v2 : Value} {xs : List α} {ys : List β} (h : Kd.R d e W b ok v xs) (h2 : Kd.R d2 e2 W b2 ok2 v2 ys) (ht : ∀ q, q ∈ e :: d.E → q ≠ e2) : Kd.R d e W b (fun k => ok k ∧ some k ≠ v2.ownBlock) v xs := by
  obtain ⟨inner, ho⟩ := Kd.R_own h2
  cases hv : v2.ownBlock with
  | none => exact Kd.R_mono h (fun k hk => ⟨hk, by simp⟩)
  | some g =>
    obtain ⟨cells, hc⟩ := own_typed ho g hv
    exact Kd.R_mono (Kd.R_types h hc ht) (fun k hk => ⟨hk.1, fun e => hk.2 (by injection e)⟩)
theorem tree_grown {W w1 : World} {base g gn gd mb cn cd : Nat} {D : DataW Unit} {T : Tr} {v : Value} (hT : TreeW W base g gn gd mb cn cd D T) (ho : ∀ k, v.ownBlock = some k → Off g gn gd mb k) (hg : W.grownBy w1 v.ownBlock) : TreeW w1 base g gn gd mb cn cd D T := by
  have hl := hT.lt
  refine hT.move (fun k hk => hg.block k (by omega) (fun e => ?_))
  obtain ⟨o1, o2, o3, o4⟩ := ho k e.symm
  omega
theorem StM.app4 {w W w1 : World} {g gn gd mb cn cd : Nat} {D : DataW Unit} {T : Tr} {s4 s5 v7 : Value} {ps : List (List S60)} {ns : List Nat} {a : List S60} (S : StM w W g gn gd mb cn cd D T s4 ps s5 ns v7 a) (hg : W.grownBy w1 s4.ownBlock) :
    TreeW w1 w.heap.size g gn gd mb cn cd D T ∧ Kd.R kDp 3 w1 w.heap.size (Off g gn gd mb) s5 ns :=
  ⟨tree_grown S.tree S.P.1 hg, Kd.R_mono (Kd.R_grown (R_apart S.N S.P (by decide)) hg (fun k hk => hk.2)) (fun k hk => hk.1)⟩
theorem app5 {W w1 : World} {b g gn gd mb cn cd : Nat} {D : DataW Unit} {T : Tr} {s4 s5 : Value} {ps : List (List S60)} {ns : List Nat} (hT : TreeW W b g gn gd mb cn cd D T) (hP : Kd.R kLP 23 W b (Off g gn gd mb) s4 ps) (hN : Kd.R kDp 3 W b (Off g gn gd mb) s5 ns) (hg : W.grownBy w1 s5.ownBlock) :
    TreeW w1 b g gn gd mb cn cd D T ∧ Kd.R kLP 23 w1 b (Off g gn gd mb) s4 ps :=
  ⟨tree_grown hT hN.1 hg, Kd.R_mono (Kd.R_grown (R_apart hP hN (by decide)) hg (fun k hk => hk.2)) (fun k hk => hk.1)⟩
theorem depth_m {T : Tr} (hw : T.wf) {nd : Nat} {l : List Pl} (h : nd < T.nodes.length ∧ stackT T nd = l) : depthT T (nd : Int) = (l.length : Int) := by
  have ht : thereT T (nd : Int) = true := by unfold thereT; exact decide_eq_true ⟨by omega, by omega⟩
  unfold depthT
  rw [ht, if_pos rfl, Int.toNat_natCast, deep_eq hw (nd + 1) nd (by omega) h.1, h.2]
theorem encS3 (n : Nat) : (encS n).length ≤ 3 := (encS_len n).2
theorem toldGo_le : ∀ (l : List Nd) (i : Nat), (∀ x ∈ l, x.2.1.size ≤ 120) → (toldGo l i).length ≤ 129 * l.length
  | [], _, _ => by simp [toldGo]
  | x :: l, i, h => by
    have h1 := toldGo_le l (i + 1) (fun y hy => h y (List.mem_cons_of_mem _ hy))
    have h2 := h x (List.mem_cons_self ..)
    have a1 := encS3 (i + 1 - x.1)
    have a2 := encS3 x.2.1.size
    have a3 := encS3 x.2.2.toNat
    have a4 := bytesOf_length x.2.1
    simp only [toldGo, toldN, List.length_append, List.length_cons]
    omega
theorem told_small {T : Tr} (hw : T.wf) : (toldI T).length ≤ 600000 := by
  have h := toldGo_le (T.nodes.drop 1) 0 (fun x hx => by
    obtain ⟨j, hj, rfl⟩ := List.mem_iff_getElem.1 hx
    rw [List.length_drop] at hj
    have := (hw.ok (1 + j) (by omega) (by omega)).1
    rw [List.getElem_drop]
    exact (may_parts this.may).2.1)
  have hm := hw.most
  have := encS3 (T.nodes.length - 1)
  rw [List.length_drop] at h
  unfold toldI
  rw [List.length_append]
  omega
section
variable {W : World} {A B : Option Addr} {c d n m : Nat} {a b : List S60}
theorem from_m {T : Tr} (hw : T.wf) : Calls Tryd.prog 33 #[.string (strOfNums (toldI T))] W fun e w2 => ∃ g gn gd mb cn cd, ∃ D : DataW Unit, e = .returned (.tuple #[.pointer (some ⟨g, 0, none⟩), .int .i64 0]) ∧ TreeW w2 W.heap.size g gn gd mb cn cd D T ∧ Below W.heap.size W w2 := by
  have hs := told_small hw
  refine (From_any (W := W) (strOfNums (toldI T)) (by rw [strOfNums_size]; omega)).mono fun e w2 h => ?_
  unfold FromIs at h
  rw [from_told hw] at h
  obtain ⟨hb, g, gn, gd, mb, cn, cd, D, he, hT⟩ := h
  exact ⟨g, gn, gd, mb, cn, cd, D, he, hT, hb⟩
theorem alike_q (hn : n = a.length) (hm : m = b.length) (h : Kd.C k60 W A n a) (hc : n ≤ c) (h2 : Kd.C k60 W B m b) (hd : m ≤ d) (hl : a.length ≤ 64) :
    Calls Tryd.prog 32 #[.slice A n c, .slice B m d] W fun e w' => e = .returned (.bool (decide (a.map toPl = b.map toPl))) ∧ ∃ m, w' = W.drewN m := by
  subst hn
  subst hm
  exact (erratalaw03_alike.calls _ A c a B d b _ W h hc h2 hd (alike_f a b (by omega))).mono fun e w' h => ⟨h.1, by obtain ⟨m, hm⟩ := h.2; exact ⟨m, hm⟩⟩
theorem alike_m (hn : n = a.length) (hm : m = b.length) (h : Kd.C k60 W A n a) (hc : n ≤ c) (h2 : Kd.C k60 W B m b) (hd : m ≤ d) (hl : a.length ≤ 64) :
    Calls Tryd.prog 32 #[.slice A n c, .slice B m d] W fun e w' => e = .returned (.bool (decide (a.map toPl = b.map toPl))) ∧ Below W.heap.size W w' := by
  subst hn
  subst hm
  exact (erratalaw03_alike.calls _ A c a B d b _ W h hc h2 hd (alike_f a b (by omega))).mono fun e w' h => ⟨h.1, h.2.below⟩
theorem common_m (hn : n = a.length) (hm : m = b.length) (h : Kd.C k60 W A n a) (hc : n ≤ c) (h2 : Kd.C k60 W B m b) (hd : m ≤ d) (hl : a.length ≤ 64) :
    Calls Tryd.prog 16 #[.slice A n c, .slice B m d] W fun e w' => e = .returned (.int .i64 (commN (a.map toPl) (b.map toPl) : Nat)) ∧ Below W.heap.size W w' := by
  subst hn
  subst hm
  exact place_Common.calls _ A c a B d b _ W h hc h2 hd (comm_f a b (by omega))
theorem stack_m {g : Nat} {T : Tr} {An Ad : Option Addr} {cn cd mb : Nat} (h : TreC W g T An cn Ad cd mb) (hw : T.wf) {nd : Nat} (hd : nd < T.nodes.length ∧ stackT T nd = a.map toPl) (hn : n = a.length) :
    Calls Tryd.prog 42 #[.pointer (some ⟨g, 0, none⟩), .int .i64 nd] W fun e w' => ∃ A c, e = .returned (.tuple #[.slice A n c, .int .i64 0]) ∧ n ≤ c ∧ Kd.C k60 w' A n a ∧ Below W.heap.size W w' := by
  refine (Stack_any h hw (nd : Int)).mono fun e w' ⟨hb, v, he, hR⟩ => ?_
  have ht : thereT T (nd : Int) = true := by unfold thereT; exact decide_eq_true ⟨by omega, by omega⟩
  rw [ht, if_pos rfl, Int.toNat_natCast, hd.2, ofPl_toPl] at hR
  rw [ht, if_pos rfl] at he
  obtain ⟨A, c, rfl⟩ := Kd.R_slice hR
  subst hn
  have := R_rd rfl hR
  exact ⟨A, c, he, this.1, this.2, hb⟩
end
theorem take_m {W : World} {A : Option Addr} {n m : Nat} {a : List S60} (hn : n = a.length) (h : Kd.C k60 W A n a) (hm : m ≤ n) : Kd.C k60 W A m (a.take m) := by
  subst hn
  have := Kd.C_take h hm
  rwa [List.length_take, Nat.min_eq_left hm] at this
/-- All that is carried behind the adding. -/
structure StL (w W : World) (g gu : Nat) (T : Tr) (An Ad Bn Bd : Option Addr) (cn cd mb dn dd mu : Nat) (A4 : Option Addr) (N c4 : Nat) (ps : List (List S60)) (A5 : Option Addr) (c5 : Nat) (ns : List Nat) : Prop where
  t : TreC W g T An cn Ad cd mb
  u : TreC W gu T Bn dn Bd dd mu
  fP : Kd.C kLP W A4 N ps
  fN : Kd.C kDp W A5 N ns
  inv : Inv T ps ns N
  below : Below w.heap.size w W
  tabs : Tabs W
theorem StL.step {w W W2 : World} {g gu : Nat} {T : Tr} {An Ad Bn Bd : Option Addr} {cn cd mb dn dd mu : Nat} {A4 : Option Addr} {N c4 : Nat} {ps : List (List S60)} {A5 : Option Addr} {c5 : Nat} {ns : List Nat} (S : StL w W g gu T An Ad Bn Bd cn cd mb dn dd mu A4 N c4 ps A5 c5 ns) (hb : Below W.heap.size W W2) :
    StL w W2 g gu T An Ad Bn Bd cn cd mb dn dd mu A4 N c4 ps A5 c5 ns :=
  ⟨S.t.below hb, S.u.below hb, Kd.C_below S.fP hb, Kd.C_below S.fN hb, S.inv, S.below.trans (hb.mono S.below.size), S.tabs.below hb⟩
/-- What stands at i of both. -/
theorem StL.at_ {w W : World} {g gu : Nat} {T : Tr} {An Ad Bn Bd : Option Addr} {cn cd mb dn dd mu : Nat} {A4 : Option Addr} {N c4 : Nat} {ps : List (List S60)} {A5 : Option Addr} {c5 : Nat} {ns : List Nat} (S : StL w W g gu T An Ad Bn Bd cn cd mb dn dd mu A4 N c4 ps A5 c5 ns) {i : Nat} (hi : i < N) :
    ∃ ad4 ad5 A0 c0 nd, ∃ a : List S60, A4 = some ad4 ∧ A5 = some ad5 ∧ ps[i]? = some a ∧ ns[i]? = some nd ∧ W.cell? (ad4.add i) = some (.slice A0 a.length c0) ∧ W.cell? (ad5.add i) = some (.int .i64 nd) ∧ a.length ≤ c0 ∧ Kd.C k60 W A0 a.length a ∧ (nd < T.nodes.length ∧ stackT T nd = a.map toPl) ∧ checkN (a.map toPl) = 0 := by
  have h1 : i < ps.length := by rw [S.inv.lp]; exact hi
  have h2 : i < ns.length := by rw [S.inv.ln]; exact hi
  obtain ⟨ad4, A0, c0, e4, hx, hc, hC⟩ := at_LP S.fP i hi h1
  obtain ⟨ad5, e5, hy⟩ := at_dp S.fN i hi h2
  obtain ⟨i1, i2, i3⟩ := S.inv.all i h1 h2
  exact ⟨ad4, ad5, A0, c0, ns[i], ps[i], e4, e5, List.getElem?_eq_getElem h1, List.getElem?_eq_getElem h2, hx, hy, hc, hC, ⟨i1, i2⟩, i3⟩
set_option maxRecDepth 100000 in
set_option maxHeartbeats 16000000 in
theorem meets_any (w : World) (A0 : Option Addr) (c0 n0 : Nat) (ls : List (List S96)) (I0 : InM w A0 c0 n0 ls) :
    Calls Tryd.prog 9 #[.slice A0 n0 c0] w fun e w' => e = .returned (.bool true) ∧ Below w.heap.size w w' := by
  have I := Lib.hid I0
  clear I0
  go_enter Tryd.func9, Tryd.ntmps9
  go_wp2_with (go_at_call 39; (with_reducible refine (New_any _).mono ?_); rintro e w1 ⟨g, gn, gd, mb, cn, cd, rfl, hT, hb⟩; have HT := Lib.hid hT; have HB1 := Lib.hid hb; clear hT hb)
  obtain ⟨Q, hQ⟩ : ∃ Q, Q = min n0 20 := ⟨_, rfl⟩
  go_loopg [4, 5, 6] Q (fun q s4 s5 s6 wx => ∃ (i : Nat) (Tk : Tr) (gn gd cn cd : Nat) (D : DataW Unit) (ps : List (List S60)) (ns : List Nat), i + q = Q ∧ s6 = .int .i64 i ∧ Hid (TreeW wx w.heap.size g gn gd mb cn cd D Tk) ∧ Hid (Inv Tk ps ns i) ∧
    Hid (Kd.R kLP 23 wx w.heap.size (Off g gn gd mb) s4 ps) ∧ Hid (Kd.R kDp 3 wx w.heap.size (Off g gn gd mb) s5 ns) ∧ Hid (Below w.heap.size w wx))
  case atStart => exact ⟨0, newT, gn, gd, cn, cd, _, [], [], by omega, rfl, HT, Lib.hid Inv.none, Lib.hid (Kd.R_nil _ _ _ _ _), Lib.hid (Kd.R_nil _ _ _ _ _), HB1⟩
  case round =>
    obtain ⟨i, Tk, gn, gd, cn, cd, D, ps, ns, hiq, rfl, HT, HI, HP, HN, HB⟩ := hrel
    by_cases hlt : i < Q
    · have hin : i < n0 := by omega
      have hi20 : i < 20 := by omega
      have d1 : decide ((i : Int) < (n0 : Int)) = true := by simp; omega
      have d2 : decide ((i : Int) < 20) = true := by simp; omega
      have hil : i < ls.length := by have := I.out.nl; omega
      obtain ⟨ad, A1, c1, hAd, hx, hc1, hC1⟩ := at_LS (Kd.C_below I.out.l0 HB.out) i hin hil
      subst hAd
      have hszl := I.out.sz _ (List.getElem_mem hil)
      obtain ⟨l, hl⟩ : ∃ l, l = ls[i] := ⟨_, rfl⟩
      rw [← hl] at hx hc1 hC1 hszl
      obtain ⟨m, hm⟩ : ∃ m, m = l.length := ⟨_, rfl⟩
      rw [← hm] at hx hc1 hC1 hszl
      have HM := Lib.hid hm
      have HC1 := Lib.hid hC1
      have HCC := Lib.hid hc1
      have HSZ := Lib.hid hszl
      clear hm hC1 hc1 hszl hl
      go_wp2_with (first | (go_at_call 31; (with_reducible refine (fit_m HM.out HC1.out HCC.out HSZ.out.2 HSZ.out.1).mono ?_); rintro e w2 ⟨v7, a, rfl, h0, hR, hb⟩; have H0 := Lib.hid h0; obtain ⟨A7, c7, rfl⟩ := Kd.R_slice hR; obtain ⟨na, hna⟩ : ∃ na, na = a.length := ⟨_, rfl⟩; rw [← hna] at hR ⊢; have HNA := Lib.hid hna; have hna64 : na ≤ 64 := (by have := len_bd2 H0.out; omega); obtain ⟨nd, i1, i2, i3, i4, i5⟩ := HI.out.add h0 hi20; obtain ⟨T1, hT1⟩ : ∃ T1, T1 = (addT Tk (a.map toPl)).2 := ⟨_, rfl⟩; rw [← hT1] at i2 i3 i4 i5; obtain ⟨T2, hT2⟩ : ∃ T2, T2 = (addT T1 (a.map toPl)).2 := ⟨_, rfl⟩; rw [← hT2] at i3 i4 i5; have I1 := Lib.hid i1; have I2 := Lib.hid i2; have I3 := Lib.hid (And.intro i3 i4); have I5 := Lib.hid i5; have HT1 := Lib.hid hT1; have HT2 := Lib.hid hT2; have S2 := Lib.hid (StM.begin HT.out HP.out HN.out HB.out hR hb); have HL2 := Lib.hid S2.out.tree.lt; clear h0 hR hb hna HT HP HN HB HC1 HCC HSZ HM i1 i2 i3 i4 i5 hT1 hT2 HI) | ((with_reducible refine gate_dst (N := 45) rfl ?_); refine Kd.R_lit k60 (w0 := w2) w2.heap.size 60 ?hg (N := 45) ?hd (xs := ([] : List S60)) (inner := []) (ok := fun _ => True) (okp := fun _ => False) ?hr (Reps.none _ _) (fun _ hk => hk.elim) trivial (Below.refl _ _) (Nat.le_refl _) (by simp) ?_; (case hd => rfl); (case hg => rfl); (case hr => first | (go_simp; done) | (go_simp; rfl)); intro v45 w3 ho hb _ _; have HO3 := Lib.hid ho; have HB3 := Lib.hid hb; clear ho hb) | ((with_reducible refine gate_builtin (b := .append) (xs := #[.tmp 45, .tmp 46]) rfl ?_); at_builtin; refine Kd.R_append_rows k60 (Rr := k60.K w3) (w0 := w2) w2.heap.size rfl (.tmp 45) (.tmp 46) 23 60 (.agg #[(.string ⟨#[]⟩), (.int .i64 0)]) 24 rfl Tryd.underlying23 info60 rfl (by decide) (by omega) _ ([] : List S60) a A7 na c7 (fun _ => True) (fun _ => False) rfl rfl HO3.out ?hC (fun x cs h => ?hK) (fun _ h => h.elim) (fun _ _ => trivial) HB3.out HB3.out.size (by rw [List.length_nil]; omega) ?_; (case hC => exact (show Kd.C k60 w3 A7 na a from Kd.C_below (R_rd HNA.out S2.out.A).2 HB3.out)); (case hK => exact (by have h2 := k60_open h; subst h2; exact k60_mkM _ _ _ x)); intro v47 w4 ho hb _ _; rw [List.nil_append] at ho; obtain ⟨A4, c4, rfl⟩ := Kd.R_slice ho; rw [← HNA.out] at ho ⊢; have HO4 := Lib.hid ho; have S4 := Lib.hid (S2.out.step hb); clear ho hb HO3 HB3) | (go_at_call 40; (with_reducible refine (add_m S4.out H0.out I1.out HT1.out HNA.out HO4.out HL2.out).mono ?_); rintro e w5 ⟨gnS5, gdS5, cnS5, cdS5, DS5, rfl, hS⟩; have S5 := Lib.hid hS; have HLS5 := Lib.hid hS.tree.lt; clear hS S4 HO4) | ((with_reducible refine gate_dst (N := 53) rfl ?_); refine Kd.R_lit k60 (w0 := w5) w5.heap.size 60 ?hg (N := 53) ?hd (xs := ([] : List S60)) (inner := []) (ok := fun _ => True) (okp := fun _ => False) ?hr (Reps.none _ _) (fun _ hk => hk.elim) trivial (Below.refl _ _) (Nat.le_refl _) (by simp) ?_; (case hd => rfl); (case hg => rfl); (case hr => first | (go_simp; done) | (go_simp; rfl)); intro v53 w6 ho hb _ _; have HO3b := Lib.hid ho; have HB3b := Lib.hid hb; clear ho hb) | ((with_reducible refine gate_builtin (b := .append) (xs := #[.tmp 53, .tmp 54]) rfl ?_); at_builtin; refine Kd.R_append_rows k60 (Rr := k60.K w6) (w0 := w5) w5.heap.size rfl (.tmp 53) (.tmp 54) 23 60 (.agg #[(.string ⟨#[]⟩), (.int .i64 0)]) 24 rfl Tryd.underlying23 info60 rfl (by decide) (by omega) _ ([] : List S60) a A7 na c7 (fun _ => True) (fun _ => False) rfl rfl HO3b.out ?hC (fun x cs h => ?hK) (fun _ h => h.elim) (fun _ _ => trivial) HB3b.out HB3b.out.size (by rw [List.length_nil]; omega) ?_; (case hC => exact (show Kd.C k60 w6 A7 na a from Kd.C_below (R_rd HNA.out S5.out.A).2 HB3b.out)); (case hK => exact (by have h2 := k60_open h; subst h2; exact k60_mkM _ _ _ x)); intro v55 w7 ho hb _ _; rw [List.nil_append] at ho; obtain ⟨A8, c8, rfl⟩ := Kd.R_slice ho; rw [← HNA.out] at ho ⊢; have HO4b := Lib.hid ho; have S4b := Lib.hid (S5.out.step hb); clear ho hb HO3b HB3b) | (go_at_call 40; (with_reducible refine (add_m S4b.out H0.out I2.out HT2.out HNA.out HO4b.out HLS5.out).mono ?_); rintro e w8 ⟨gnS9, gdS9, cnS9, cdS9, DS9, rfl, hS⟩; have S9 := Lib.hid hS; have HLS9 := Lib.hid hS.tree.lt; clear hS S4b HO4b))
      have HDP := Lib.hid (show depthT T2 (nd : Int) = (na : Int) by rw [depth_m S9.out.tree.wf I3.out, List.length_map, ← HNA.out])
      have dn : ((nd : Int) != (nd : Int)) = false := by simp
      have da : ((na : Int) != (na : Int)) = false := by simp
      have hpl : ps.length = i := by have := I5.out.lp; simp at this; exact this
      have hnl : ns.length = i := by have := I5.out.ln; simp at this; exact this
      go_wp2_with (first | (go_at_call 41; (with_reducible refine (Depth_any S9.out.tree.C S9.out.tree.wf.len (nd : Int)).mono ?_); rintro e w9 ⟨rfl, rfl⟩; rw [HDP.out]) | ((with_reducible refine gate_builtin (b := .append) (xs := #[.tmp 78, .tmp 80]) rfl ?_); at_builtin; refine Kd.R_append kLP (w0 := w) (W := w9) w.heap.size rfl (.tmp 78) (.tmp 80) 82 23 (.slice none 0 0) 24 rfl Tryd.underlying82 info_ll rfl (by decide) (by omega) u4 ps a [.slice A7 na c7] (Off g gnS9 gdS9 mb) (fun k => Off g gnS9 gdS9 mb k ∧ some k ≠ u4.ownBlock) rfl rfl ⟨_, rfl, R_apart S9.out.A S9.out.P (by decide)⟩ (fun _ h => h) (fun k hk => by have := S9.out.tree.lt; exact ⟨by omega, by omega, by omega, by omega⟩) S9.out.P S9.out.below S9.out.below.size (by omega) ?_; intro v4 w10 hP hb hg _; have HA4 := Lib.hid (S9.out.app4 hg); have HP4 := Lib.hid hP; have HB4 := Lib.hid hb; clear hP hb hg) | ((with_reducible refine gate_builtin (b := .append) (xs := #[.tmp 82, .tmp 84]) rfl ?_); at_builtin; refine Kd.R_append kDp (w0 := w) (W := w10) w.heap.size rfl (.tmp 82) (.tmp 84) 83 3 (.int .i64 0) 8 rfl Tryd.underlying83 info_dp rfl (by decide) (by omega) u5 ns nd [.int .i64 nd] (Off g gnS9 gdS9 mb) (fun _ => False) rfl rfl rfl (fun _ h => h.elim) (fun k hk => by have := HA4.out.1.lt; exact ⟨by omega, by omega, by omega, by omega⟩) HA4.out.2 HB4.out HB4.out.size (by omega) ?_; intro v5 w11 hN hb hg _; have HA5 := Lib.hid (app5 HA4.out.1 HP4.out HA4.out.2 hg); have HN5 := Lib.hid hN; have HB5 := Lib.hid hb; clear hN hb hg))
      obtain ⟨q, rfl⟩ : ∃ q, gk = q + 1 := ⟨gk - 1, by omega⟩
      go_roundg q
      case measure => omega
      case rel => exact ⟨i + 1, T2, gnS9, gdS9, cnS9, cdS9, DS9, ps ++ [a], ns ++ [nd], by omega, by first | rfl | go_num, Lib.hid HA5.out.1, I5, Lib.hid HA5.out.2, HN5, HB5⟩
    · obtain rfl : i = Q := by omega
      have hsplit : (decide ((i : Int) < (n0 : Int)) = false ∧ ¬ i < n0) ∨ (decide ((i : Int) < (n0 : Int)) = true ∧ i < n0 ∧ decide ((i : Int) < 20) = false ∧ (20 : Int) ≤ (i : Int) ∧ ¬ ((i : Int) < 20)) := by
        by_cases h : n0 ≤ 20
        · left; exact ⟨by simp; omega, by omega⟩
        · right; exact ⟨by simp; omega, by omega, by simp; omega, by omega, by omega⟩
      obtain ⟨A4, c4, rfl⟩ := Kd.R_slice HP.out
      obtain ⟨A5, c5, rfl⟩ := Kd.R_slice HN.out
      have e4 := HI.out.lp
      have e5 := HI.out.ln
      have hP := HP.out
      have hN := HN.out
      rw [e4] at hP ⊢
      rw [e5] at hN ⊢
      have HPC := Lib.hid (R_rd e4.symm hP)
      have HNC := Lib.hid (R_rd e5.symm hN)
      have hi20 : i ≤ 20 := by omega
      have HBB := Lib.hid (I.out.tabs.below HB.out)
      clear hP hN e4 e5 HP HN I hQ hiq
      rcases hsplit with ⟨d1, f1⟩ | ⟨d1, f1, d2, f2, f3⟩
      all_goals (
        go_wp2_with (first | (go_at_call 38; (with_reducible refine (Told_any HT.out.C HI.out.wf).mono ?_); rintro e w2 ⟨rfl, hb⟩; have HB2 := Lib.hid hb; clear hb) | (go_at_call 33; (with_reducible refine (from_m HI.out.wf).mono ?_); rintro e w3 ⟨gu, un, ud, mu, dn, dd, Du, rfl, hU, hb⟩; have hbb := HB2.out.trans (hb.mono HB2.out.size); have S3 := Lib.hid (show StL w w3 g gu Tk _ _ _ _ cn cd mb dn dd mu A4 i c4 ps A5 c5 ns from ⟨HT.out.C.below hbb, hU.C, Kd.C_below HPC.out.2 hbb, Kd.C_below HNC.out.2 hbb, HI.out, HB.out.trans (hbb.mono HB.out.size), HBB.out.below hbb⟩); clear hU hb hbb) | (go_at_call 37; (with_reducible refine (TLen_any S3.out.u).mono ?_); rintro e w4 ⟨rfl, rfl⟩) | (go_at_call 37; (with_reducible refine (TLen_any S3.out.t).mono ?_); rintro e w4 ⟨rfl, rfl⟩))
        clear HT HI HB HBB HPC HNC HB2
        go_loopg [14] i (fun q s14 wx => ∃ j : Nat, j + q = i ∧ s14 = .int .i64 j ∧ Hid (StL w wx g gu Tk (some ⟨gn, 0, none⟩) (some ⟨gd, 0, none⟩) (some ⟨un, 0, none⟩) (some ⟨ud, 0, none⟩) cn cd mb dn dd mu A4 i c4 ps A5 c5 ns))
        case atStart => exact ⟨0, by omega, rfl, S3⟩
        case round =>
          clear S3
          obtain ⟨j, hjq, rfl, SL⟩ := hrel
          by_cases hj : j < i
          · obtain ⟨q0, rfl⟩ : ∃ q0, gk = q0 + 1 := ⟨gk - 1, by omega⟩
            have d3 : decide ((j : Int) < (i : Int)) = true := by simp; omega
            obtain ⟨ad4, ad5, Aj, cj, nd, a, e4, e5, ga, gnn, hx, hy, hc, hC, hnd, hck⟩ := SL.out.at_ hj
            subst e4
            subst e5
            obtain ⟨na, hna⟩ : ∃ na, na = a.length := ⟨_, rfl⟩
            have h64 := len_bd2 hck
            rw [← hna] at hx hc hC
            have HNA := Lib.hid hna
            have HC := Lib.hid hC
            have HCJ := Lib.hid hc
            have HND := Lib.hid hnd
            have H64 := Lib.hid h64
            have HX := Lib.hid hx
            have HY := Lib.hid hy
            have GA := Lib.hid (And.intro ga gnn)
            clear hna hC hc hnd h64 hck ga gnn
            go_wp2_with (first | (go_at_call 42; (with_reducible refine (stack_m SL.out.t SL.out.inv.wf HND.out HNA.out).mono ?_); rintro e w5 ⟨Ax, cx, rfl, hcx, hCx, hb⟩; have HCX := Lib.hid hcx; have HX5 := Lib.hid hCx; have S5 := Lib.hid (SL.out.step hb); have HC5 := Lib.hid (Kd.C_below HC.out hb); have x5 := (hb.cell (World.block_lt_of_cell? _ _ HX.out)).trans HX.out; have y5 := (hb.cell (World.block_lt_of_cell? _ _ HY.out)).trans HY.out; clear hcx hCx hb SL) | (go_at_call 42; (with_reducible refine (stack_m S5.out.u S5.out.inv.wf HND.out HNA.out).mono ?_); rintro e w6 ⟨Ay, cy, rfl, hcy, hCy, hb⟩; have HCY := Lib.hid hcy; have HY6 := Lib.hid hCy; have HX6 := Lib.hid (Kd.C_below HX5.out hb); have S6 := Lib.hid (S5.out.step hb); have HC6 := Lib.hid (Kd.C_below HC5.out hb); have x6 := (hb.cell (World.block_lt_of_cell? _ _ x5)).trans x5; have y6 := (hb.cell (World.block_lt_of_cell? _ _ y5)).trans y5; clear hcy hCy hb S5 HX5 HC5) | (go_at_call 32; (with_reducible refine (alike_m HNA.out HNA.out HX6.out HCX.out HC6.out HCJ.out H64.out).mono ?_); rintro e w7 ⟨rfl, hb⟩; rw [decide_eq_true (Eq.refl (a.map toPl))]; have HY7 := Lib.hid (Kd.C_below HY6.out hb); have S7 := Lib.hid (S6.out.step hb); have HC7 := Lib.hid (Kd.C_below HC6.out hb); have x7 := (hb.cell (World.block_lt_of_cell? _ _ x6)).trans x6; clear hb S6 HX6 HY6 HC6) | (go_at_call 32; (with_reducible refine (alike_m HNA.out HNA.out HY7.out HCY.out HC7.out HCJ.out H64.out).mono ?_); rintro e w8 ⟨rfl, hb⟩; rw [decide_eq_true (Eq.refl (a.map toPl))]; have S8 := Lib.hid (S7.out.step hb); clear hb S7 HY7 HC7))
            clear x5 y5 x6 y6 x7
            go_loopg [19] (j + 1) (fun q s19 wy => ∃ k : Nat, k + q = j + 1 ∧ s19 = .int .i64 k ∧ Hid (StL w wy g gu Tk (some ⟨gn, 0, none⟩) (some ⟨gd, 0, none⟩) (some ⟨un, 0, none⟩) (some ⟨ud, 0, none⟩) cn cd mb dn dd mu (some ad4) i c4 ps (some ad5) c5 ns))
            case atStart => exact ⟨0, by omega, rfl, S8⟩
            case round =>
              clear S8 HX HY HC HCJ GA HNA HND H64 HCX HCY
              obtain ⟨k, hkq, rfl, SK⟩ := hrel
              by_cases hk : k ≤ j
              · have d4 : decide ((k : Int) ≤ (j : Int)) = true := by simp; omega
                have d5 : decide ((k : Int) < (i : Int)) = true := by simp; omega
                have f5 : k < i := by omega
                obtain ⟨_, _, Aj, cj, nd, a, e4, e5, ga, gnn, hx, hy, hc, hC, hnd, hck⟩ := SK.out.at_ hj
                cases e4
                cases e5
                obtain ⟨_, _, Ak, ck, md, b, e4, e5, gb, gmm, kx, ky, kc, kC, hmd, hck2⟩ := SK.out.at_ (i := k) (by omega)
                cases e4
                cases e5
                obtain ⟨M, hM⟩ : ∃ M, M = meetGo Tk (nd + md + 1) nd md := ⟨_, rfl⟩
                obtain ⟨C, hCc⟩ : ∃ C, C = commN (a.map toPl) (b.map toPl) := ⟨_, rfl⟩
                have hmt : meetT Tk (nd : Int) (md : Int) = ((M : Int), (0 : Int)) := by
                  unfold meetT thereT
                  rw [decide_eq_true (show 0 ≤ (nd : Int) ∧ (nd : Int) < (Tk.nodes.length : Int) from ⟨by omega, by have := hnd.1; omega⟩), decide_eq_true (show 0 ≤ (md : Int) ∧ (md : Int) < (Tk.nodes.length : Int) from ⟨by omega, by have := hmd.1; omega⟩), hM]
                  rfl
                have hMs : M < Tk.nodes.length ∧ stackT Tk M = (a.take C).map toPl := by
                  have := meetGo_stack SK.out.inv.wf (nd + md + 1) nd md hnd.1 hmd.1 (by omega)
                  rw [hM, hCc, List.map_take]
                  rw [hnd.2, hmd.2] at this
                  exact this
                have hCle : C ≤ a.length := by have := (commN_le (a.map toPl) (b.map toPl)).1; rw [List.length_map] at this; omega
                have hCn : C = (a.take C).length := by rw [List.length_take]; omega
                have h64 := len_bd2 hck
                obtain ⟨na, hna⟩ : ∃ na, na = a.length := ⟨_, rfl⟩
                obtain ⟨nb, hnb⟩ : ∃ nb, nb = b.length := ⟨_, rfl⟩
                rw [← hna] at hx hc hC hCle
                rw [← hnb] at kx kc kC
                have hEQ : ((nd : Int) == (md : Int)) = decide (a.map toPl = b.map toPl) := by
                  rw [Bool.eq_iff_iff, beq_iff_eq, decide_eq_true_eq]
                  constructor
                  · intro h
                    have h2 : nd = md := by omega
                    rw [← hnd.2, ← hmd.2, h2]
                  · intro h
                    rw [stack_inj SK.out.inv.wf nd md hnd.1 hmd.1 (by rw [hnd.2, hmd.2, h])]
                obtain ⟨Eb, hEb⟩ : ∃ Eb, Eb = decide (a.map toPl = b.map toPl) := ⟨_, rfl⟩
                rw [← hEb] at hEQ
                have dE : (Eb != Eb) = false := by cases Eb <;> rfl
                have HEB := Lib.hid hEb
                have HMT := Lib.hid hmt
                have HMS := Lib.hid hMs
                have HCN := Lib.hid hCn
                have HCC := Lib.hid hCc
                have HNA := Lib.hid hna
                have HNB := Lib.hid hnb
                have HA := Lib.hid hC
                have HB := Lib.hid kC
                have HAC := Lib.hid hc
                have HBC := Lib.hid kc
                have H64 := Lib.hid h64
                have HX := Lib.hid hx
                have HY := Lib.hid hy
                have KX := Lib.hid kx
                have KY := Lib.hid ky
                clear hM hCc hmt hMs hCn h64 hna hnb hC kC hc kc hnd hmd hck hck2 ga gnn gb gmm hEb
                go_wp2
                refine start_ (n := 15) (S := fun W => W.cell? (ad5.add j) = some (.int .i64 nd) ∧ W.cell? (ad5.add k) = some (.int .i64 md)) (ds := []) #[false, false, false, false, false, false, false, false, false, false, false, false, false, false, false] (by kernel_rfl) rfl rfl ⟨hy, ky⟩ (fun hHeld => ?_)
                have SD := Lib.hid (SK.out.step ((Below.refl _ _).drew))
                have HAD := Lib.hid (Kd.C_below HA.out ((Below.refl _ _).drew))
                have HBD := Lib.hid (Kd.C_below HB.out ((Below.refl _ _).drew))
                have HXD := Lib.hid (show wr.drew.cell? (ad4.add j) = _ from HX.out)
                have KXD := Lib.hid (show wr.drew.cell? (ad4.add k) = _ from KX.out)
                have HYD := Lib.hid (show wr.drew.cell? (ad5.add j) = _ from HY.out)
                have KYD := Lib.hid (show wr.drew.cell? (ad5.add k) = _ from KY.out)
                clear SK HA HB HX KX HY KY hx hy kx ky
                generalize wr.drew = wd at hHeld SD HAD HBD HXD KXD HYD KYD ⊢
                refine pure_ (i := 0) (N := some 159) (v := ?_) (a' := ?_) #[true, false, false, false, false, false, false, false, false, false, false, false, false, false, false] rfl rfl (by kernel_rfl) (fun _ _ _ h => h) (Or.inl ⟨by rfl, ?_⟩) ?_ ?_
                rotate_left
                · intro w'
                  go_simp
                  with_reducible rfl
                rotate_left
                · simp only [Act.put, List.setIfInBounds_toArray, List.set_cons_zero, List.set_cons_succ, i64_w, i32_w]
                  rfl
                refine pure_ (i := 1) (N := some 160) (v := ?_) (a' := ?_) #[true, true, false, false, false, false, false, false, false, false, false, false, false, false, false] rfl rfl (by kernel_rfl) (fun _ _ _ h => h) (Or.inl ⟨by rfl, ?_⟩) ?_ ?_
                rotate_left
                · intro w'
                  go_simp
                  with_reducible rfl
                rotate_left
                · simp only [Act.put, List.setIfInBounds_toArray, List.set_cons_zero, List.set_cons_succ, i64_w, i32_w]
                  rfl
                refine pure_ (i := 2) (N := some 161) (v := ?_) (a' := ?_) #[true, true, true, false, false, false, false, false, false, false, false, false, false, false, false] rfl rfl (by kernel_rfl) (fun _ _ _ h => h) (Or.inl ⟨by rfl, ?_⟩) ?_ ?_
                rotate_left
                · intro w'
                  go_simp
                  with_reducible rfl
                rotate_left
                · simp only [Act.put, List.setIfInBounds_toArray, List.set_cons_zero, List.set_cons_succ, i64_w, i32_w]
                  rfl
                refine pure_ (i := 3) (N := some 162) (v := ?_) (a' := ?_) #[true, true, true, true, false, false, false, false, false, false, false, false, false, false, false] rfl rfl (by kernel_rfl) (fun _ _ _ h => h) (Or.inl ⟨by rfl, ?_⟩) ?_ ?_
                rotate_left
                · intro w'
                  go_simp
                  with_reducible rfl
                rotate_left
                · simp only [Act.put, List.setIfInBounds_toArray, List.set_cons_zero, List.set_cons_succ, i64_w, i32_w]
                  rfl
                refine take_ (i := 4) (N := some 163) (v := ?_) (a' := ?_) #[true, true, true, true, true, false, false, false, false, false, false, false, false, false, false] rfl rfl (by kernel_rfl) (fun _ _ _ h => h) (Or.inl ⟨by rfl, ?_⟩) hHeld ?_ ?_
                rotate_left
                · rintro w' ⟨s0, s1⟩
                  go_simp
                  with_reducible rfl
                rotate_left
                · simp only [Act.put, List.setIfInBounds_toArray, List.set_cons_zero, List.set_cons_succ, i64_w, i32_w]
                  rfl
                refine pure_ (i := 5) (N := some 164) (v := ?_) (a' := ?_) #[true, true, true, true, true, true, false, false, false, false, false, false, false, false, false] rfl rfl (by kernel_rfl) (fun _ _ _ h => h) (Or.inl ⟨by rfl, ?_⟩) ?_ ?_
                rotate_left
                · intro w'
                  go_simp
                  with_reducible rfl
                rotate_left
                · simp only [Act.put, List.setIfInBounds_toArray, List.set_cons_zero, List.set_cons_succ, i64_w, i32_w]
                  rfl
                refine pure_ (i := 6) (N := some 165) (v := ?_) (a' := ?_) #[true, true, true, true, true, true, true, false, false, false, false, false, false, false, false] rfl rfl (by kernel_rfl) (fun _ _ _ h => h) (Or.inl ⟨by rfl, ?_⟩) ?_ ?_
                rotate_left
                · intro w'
                  go_simp
                  with_reducible rfl
                rotate_left
                · simp only [Act.put, List.setIfInBounds_toArray, List.set_cons_zero, List.set_cons_succ, i64_w, i32_w]
                  rfl
                refine pure_ (i := 7) (N := some 166) (v := ?_) (a' := ?_) #[true, true, true, true, true, true, true, true, false, false, false, false, false, false, false] rfl rfl (by kernel_rfl) (fun _ _ _ h => h) (Or.inl ⟨by rfl, ?_⟩) ?_ ?_
                rotate_left
                · intro w'
                  go_simp
                  with_reducible rfl
                rotate_left
                · simp only [Act.put, List.setIfInBounds_toArray, List.set_cons_zero, List.set_cons_succ, i64_w, i32_w]
                  rfl
                refine take_ (i := 8) (N := some 167) (v := ?_) (a' := ?_) #[true, true, true, true, true, true, true, true, true, false, false, false, false, false, false] rfl rfl (by kernel_rfl) (fun _ _ _ h => h) (Or.inl ⟨by rfl, ?_⟩) hHeld ?_ ?_
                rotate_left
                · rintro w' ⟨s0, s1⟩
                  go_simp
                  with_reducible rfl
                rotate_left
                · simp only [Act.put, List.setIfInBounds_toArray, List.set_cons_zero, List.set_cons_succ, i64_w, i32_w]
                  rfl
                refine one_ (i := 9) (N := some 168) #[true, true, true, true, true, true, true, true, true, true, false, false, false, false, false] rfl rfl (by kernel_rfl) (by decide) (fun K hK => ?_)
                refine goes_ Tryd.func43 (by kernel_rfl) (by kernel_rfl) #[.pointer (some ⟨g, 0, none⟩), .int .i64 nd, .int .i64 md] (by rfl) rfl rfl (by (try simp only [List.map_toArray, List.map_cons, List.map_nil]); first | done | rfl) ?_
                refine (Meet_any SD.out.t SD.out.inv.wf (nd : Int) (md : Int)).mono ?_
                rintro e w9 ⟨rfl, rfl⟩
                rw [HMT.out]
                refine ⟨_, rfl, ?_⟩
                refine hK.out _ _ hHeld (fun hHeld => ?_)
                clear hK K
                refine norm_ (a' := ?_) ?_ ?_
                rotate_left
                · show Act.put _ (some 168) _ = _
                  simp only [Act.put, List.setIfInBounds_toArray, List.set_cons_zero, List.set_cons_succ, i64_w, i32_w]
                  rfl
                refine pure_ (i := 10) (N := some 158) (v := ?_) (a' := ?_) #[true, true, true, true, true, true, true, true, true, true, true, false, false, false, false] rfl rfl (by kernel_rfl) (fun _ _ _ h => h) (Or.inl ⟨by rfl, ?_⟩) ?_ ?_
                rotate_left
                · intro w'
                  go_simp
                  with_reducible rfl
                rotate_left
                · simp only [Act.put, List.setIfInBounds_toArray, List.set_cons_zero, List.set_cons_succ, i64_w, i32_w]
                  rfl
                refine pure_ (i := 11) (N := some 169) (v := ?_) (a' := ?_) #[true, true, true, true, true, true, true, true, true, true, true, true, false, false, false] rfl rfl (by kernel_rfl) (fun _ _ _ h => h) (Or.inl ⟨by rfl, ?_⟩) ?_ ?_
                rotate_left
                · intro w'
                  go_simp
                  with_reducible rfl
                rotate_left
                · simp only [Act.put, List.setIfInBounds_toArray, List.set_cons_zero, List.set_cons_succ, i64_w, i32_w]
                  rfl
                refine pure_ (i := 12) (N := some 170) (v := ?_) (a' := ?_) #[true, true, true, true, true, true, true, true, true, true, true, true, true, false, false] rfl rfl (by kernel_rfl) (fun _ _ _ h => h) (Or.inl ⟨by rfl, ?_⟩) ?_ ?_
                rotate_left
                · intro w'
                  go_simp
                  with_reducible rfl
                rotate_left
                · simp only [Act.put, List.setIfInBounds_toArray, List.set_cons_zero, List.set_cons_succ, i64_w, i32_w]
                  rfl
                refine pure_ (i := 13) (N := some 20) (v := ?_) (a' := ?_) #[true, true, true, true, true, true, true, true, true, true, true, true, true, true, false] rfl rfl (by kernel_rfl) (fun _ _ _ h => h) (Or.inl ⟨by rfl, ?_⟩) ?_ ?_
                rotate_left
                · intro w'
                  go_simp
                  with_reducible rfl
                rotate_left
                · simp only [Act.put, List.setIfInBounds_toArray, List.set_cons_zero, List.set_cons_succ, i64_w, i32_w]
                  rfl
                refine pure_ (i := 14) (N := some 21) (v := ?_) (a' := ?_) #[true, true, true, true, true, true, true, true, true, true, true, true, true, true, true] rfl rfl (by kernel_rfl) (fun _ _ _ h => h) (Or.inl ⟨by rfl, ?_⟩) ?_ ?_
                rotate_left
                · intro w'
                  go_simp
                  with_reducible rfl
                rotate_left
                · simp only [Act.put, List.setIfInBounds_toArray, List.set_cons_zero, List.set_cons_succ, i64_w, i32_w]
                  rfl
                refine done_ (by kernel_rfl) ?_
                clear hHeld
                go_wp2_with (go_at_call 42; (with_reducible refine (stack_m SD.out.t SD.out.inv.wf HMS.out HCN.out).mono ?_); rintro e w9 ⟨Az, cz, rfl, hcz, hCz, hb⟩; have HCZ := Lib.hid hcz; have HZ := Lib.hid hCz; have S9 := Lib.hid (SD.out.step hb); have HA9 := Lib.hid (Kd.C_below HAD.out hb); have HB9 := Lib.hid (Kd.C_below HBD.out hb); have x9 := (hb.cell (World.block_lt_of_cell? _ _ HXD.out)).trans HXD.out; have kx9 := (hb.cell (World.block_lt_of_cell? _ _ KXD.out)).trans KXD.out; have HY9 := Lib.hid ((hb.cell (World.block_lt_of_cell? _ _ HYD.out)).trans HYD.out); have KY9 := Lib.hid ((hb.cell (World.block_lt_of_cell? _ _ KYD.out)).trans KYD.out); clear hcz hCz hb SD HAD HBD HXD KXD HYD KYD)
                skip
                refine start_ (n := 10) (S := fun W => W.cell? (ad4.add j) = some (.slice Aj na cj) ∧ W.cell? (ad4.add k) = some (.slice Ak nb ck)) (ds := []) #[false, false, false, false, false, false, false, false, false, false] (by kernel_rfl) rfl rfl ⟨x9, kx9⟩ (fun hHeld => ?_)
                have SE := Lib.hid (S9.out.step ((Below.refl _ _).drew))
                have HAE := Lib.hid (Kd.C_below HA9.out ((Below.refl _ _).drew))
                have HBE := Lib.hid (Kd.C_below HB9.out ((Below.refl _ _).drew))
                have HZE := Lib.hid (Kd.C_below HZ.out ((Below.refl _ _).drew))
                have HYE := Lib.hid (show w9.drew.cell? (ad5.add j) = _ from HY9.out)
                have KYE := Lib.hid (show w9.drew.cell? (ad5.add k) = _ from KY9.out)
                clear S9 HA9 HB9 HZ HY9 KY9 x9 kx9
                generalize w9.drew = we at hHeld SE HAE HBE HZE HYE KYE ⊢
                refine pure_ (i := 0) (N := some 177) (v := ?_) (a' := ?_) #[true, false, false, false, false, false, false, false, false, false] rfl rfl (by kernel_rfl) (fun _ _ _ h => h) (Or.inl ⟨by rfl, ?_⟩) ?_ ?_
                rotate_left
                · intro w'
                  go_simp
                  with_reducible rfl
                rotate_left
                · simp only [Act.put, List.setIfInBounds_toArray, List.set_cons_zero, List.set_cons_succ, i64_w, i32_w]
                  rfl
                refine pure_ (i := 1) (N := some 178) (v := ?_) (a' := ?_) #[true, true, false, false, false, false, false, false, false, false] rfl rfl (by kernel_rfl) (fun _ _ _ h => h) (Or.inl ⟨by rfl, ?_⟩) ?_ ?_
                rotate_left
                · intro w'
                  go_simp
                  with_reducible rfl
                rotate_left
                · simp only [Act.put, List.setIfInBounds_toArray, List.set_cons_zero, List.set_cons_succ, i64_w, i32_w]
                  rfl
                refine pure_ (i := 2) (N := some 179) (v := ?_) (a' := ?_) #[true, true, true, false, false, false, false, false, false, false] rfl rfl (by kernel_rfl) (fun _ _ _ h => h) (Or.inl ⟨by rfl, ?_⟩) ?_ ?_
                rotate_left
                · intro w'
                  go_simp
                  with_reducible rfl
                rotate_left
                · simp only [Act.put, List.setIfInBounds_toArray, List.set_cons_zero, List.set_cons_succ, i64_w, i32_w]
                  rfl
                refine take_ (i := 3) (N := some 180) (v := ?_) (a' := ?_) #[true, true, true, true, false, false, false, false, false, false] rfl rfl (by kernel_rfl) (fun _ _ _ h => h) (Or.inl ⟨by rfl, ?_⟩) hHeld ?_ ?_
                rotate_left
                · rintro w' ⟨s0, s1⟩
                  go_simp
                  with_reducible rfl
                rotate_left
                · simp only [Act.put, List.setIfInBounds_toArray, List.set_cons_zero, List.set_cons_succ, i64_w, i32_w]
                  rfl
                refine pure_ (i := 4) (N := some 181) (v := ?_) (a' := ?_) #[true, true, true, true, true, false, false, false, false, false] rfl rfl (by kernel_rfl) (fun _ _ _ h => h) (Or.inl ⟨by rfl, ?_⟩) ?_ ?_
                rotate_left
                · intro w'
                  go_simp
                  with_reducible rfl
                rotate_left
                · simp only [Act.put, List.setIfInBounds_toArray, List.set_cons_zero, List.set_cons_succ, i64_w, i32_w]
                  rfl
                refine pure_ (i := 5) (N := some 182) (v := ?_) (a' := ?_) #[true, true, true, true, true, true, false, false, false, false] rfl rfl (by kernel_rfl) (fun _ _ _ h => h) (Or.inl ⟨by rfl, ?_⟩) ?_ ?_
                rotate_left
                · intro w'
                  go_simp
                  with_reducible rfl
                rotate_left
                · simp only [Act.put, List.setIfInBounds_toArray, List.set_cons_zero, List.set_cons_succ, i64_w, i32_w]
                  rfl
                refine pure_ (i := 6) (N := some 183) (v := ?_) (a' := ?_) #[true, true, true, true, true, true, true, false, false, false] rfl rfl (by kernel_rfl) (fun _ _ _ h => h) (Or.inl ⟨by rfl, ?_⟩) ?_ ?_
                rotate_left
                · intro w'
                  go_simp
                  with_reducible rfl
                rotate_left
                · simp only [Act.put, List.setIfInBounds_toArray, List.set_cons_zero, List.set_cons_succ, i64_w, i32_w]
                  rfl
                refine take_ (i := 7) (N := some 184) (v := ?_) (a' := ?_) #[true, true, true, true, true, true, true, true, false, false] rfl rfl (by kernel_rfl) (fun _ _ _ h => h) (Or.inl ⟨by rfl, ?_⟩) hHeld ?_ ?_
                rotate_left
                · rintro w' ⟨s0, s1⟩
                  go_simp
                  with_reducible rfl
                rotate_left
                · simp only [Act.put, List.setIfInBounds_toArray, List.set_cons_zero, List.set_cons_succ, i64_w, i32_w]
                  rfl
                refine one_ (i := 8) (N := some 185) #[true, true, true, true, true, true, true, true, true, false] rfl rfl (by kernel_rfl) (by decide) (fun K hK => ?_)
                refine goes_ Tryd.func16 (by kernel_rfl) (by kernel_rfl) #[.slice Aj na cj, .slice Ak nb ck] (by rfl) rfl rfl (by (try simp only [List.map_toArray, List.map_cons, List.map_nil]); first | done | rfl) ?_
                refine (common_m HNA.out HNB.out HAE.out HAC.out HBE.out HBC.out H64.out).mono ?_
                rintro e w10 ⟨rfl, hb⟩
                rw [← HCC.out]
                have x10 := (hb.cell (World.block_lt_of_cell? _ _ hHeld.1)).trans hHeld.1
                have kx10 := (hb.cell (World.block_lt_of_cell? _ _ hHeld.2)).trans hHeld.2
                have S10 := Lib.hid (SE.out.step hb)
                have HA10 := Lib.hid (Kd.C_below HAE.out hb)
                have HB10 := Lib.hid (Kd.C_below HBE.out hb)
                have HZ10 := Lib.hid (Kd.C_below HZE.out hb)
                have HY10 := Lib.hid ((hb.cell (World.block_lt_of_cell? _ _ HYE.out)).trans HYE.out)
                have KY10 := Lib.hid ((hb.cell (World.block_lt_of_cell? _ _ KYE.out)).trans KYE.out)
                clear hb SE HAE HBE HZE HYE KYE hHeld
                refine ⟨_, rfl, ?_⟩
                refine hK.out _ _ ⟨x10, kx10⟩ (fun hHeld => ?_)
                clear hK K
                refine norm_ (a' := ?_) ?_ ?_
                rotate_left
                · show Act.put _ (some 185) _ = _
                  simp only [Act.put, List.setIfInBounds_toArray, List.set_cons_zero, List.set_cons_succ, i64_w, i32_w]
                  rfl
                refine pure_ (i := 9) (N := some 24) (v := ?_) (a' := ?_) #[true, true, true, true, true, true, true, true, true, true] rfl rfl (by kernel_rfl) (fun _ _ _ h => h) (Or.inl ⟨by rfl, ?_⟩) ?_ ?_
                rotate_left
                · intro w'
                  go_simp
                  with_reducible rfl
                rotate_left
                · simp only [Act.put, List.setIfInBounds_toArray, List.set_cons_zero, List.set_cons_succ, i64_w, i32_w]
                  rfl
                refine done_ (by kernel_rfl) ?_
                clear hHeld
                obtain ⟨i0, hi0, hz0, hz1, hz2⟩ := info_parts info60
                have hcut : ∀ W : World, (Instr.slice 23 (.slice Aj na cj) none (some (.int .i64 (C : Nat))) none).run Tryd.prog W = .ok (.slice Aj C cj) W := fun W => by
                  have := cut_to (P := Tryd.prog) 23 60 .i64 Tryd.underlying23 hi0 Aj na cj (C : Int) (by omega) (by omega) HAC.out W
                  simpa using this
                have HCJ2 := Lib.hid (show C ≤ cj by have := HAC.out; omega)
                have HT64 := Lib.hid (show (a.take C).length ≤ 64 by rw [← HCN.out]; have := H64.out; have := HNA.out; omega)
                clear hi0 hz0 hz1 hz2
                go_wp2
                refine start_ (n := 38) (S := fun W => W.cell? (ad4.add j) = some (.slice Aj na cj) ∧ W.cell? (ad4.add k) = some (.slice Ak nb ck) ∧ W.cell? (ad5.add j) = some (.int .i64 nd) ∧ W.cell? (ad5.add k) = some (.int .i64 md)) (ds := []) #[false, false, false, false, false, false, false, false, false, false, false, false, false, false, false, false, false, false, false, false, false, false, false, false, false, false, false, false, false, false, false, false, false, false, false, false, false, false] (by kernel_rfl) rfl rfl ⟨x10, kx10, HY10.out, KY10.out⟩ (fun hHeld => ?_)
                have SF := Lib.hid (S10.out.step ((Below.refl _ _).drew))
                have HAF := Lib.hid (Kd.C_below HA10.out ((Below.refl _ _).drew))
                have HBF := Lib.hid (Kd.C_below HB10.out ((Below.refl _ _).drew))
                have HZF := Lib.hid (Kd.C_below HZ10.out ((Below.refl _ _).drew))
                have HTF := Lib.hid (take_m HNA.out HAF.out hCle)
                clear S10 HA10 HB10 HZ10 HY10 KY10 x10 kx10
                generalize w10.drew = wf at hHeld SF HAF HBF HZF HTF ⊢
                refine pure_ (i := 0) (N := some 186) (v := ?_) (a' := ?_) #[true, false, false, false, false, false, false, false, false, false, false, false, false, false, false, false, false, false, false, false, false, false, false, false, false, false, false, false, false, false, false, false, false, false, false, false, false, false] rfl rfl (by kernel_rfl) (fun _ _ _ h => h) (Or.inl ⟨by rfl, ?_⟩) ?_ ?_
                rotate_left
                · intro w'
                  go_simp
                  with_reducible rfl
                rotate_left
                · simp only [Act.put, List.setIfInBounds_toArray, List.set_cons_zero, List.set_cons_succ, i64_w, i32_w]
                  rfl
                refine pure_ (i := 1) (N := some 187) (v := ?_) (a' := ?_) #[true, true, false, false, false, false, false, false, false, false, false, false, false, false, false, false, false, false, false, false, false, false, false, false, false, false, false, false, false, false, false, false, false, false, false, false, false, false] rfl rfl (by kernel_rfl) (fun _ _ _ h => h) (Or.inl ⟨by rfl, ?_⟩) ?_ ?_
                rotate_left
                · intro w'
                  go_simp
                  with_reducible rfl
                rotate_left
                · simp only [Act.put, List.setIfInBounds_toArray, List.set_cons_zero, List.set_cons_succ, i64_w, i32_w]
                  rfl
                refine pure_ (i := 2) (N := some 188) (v := ?_) (a' := ?_) #[true, true, true, false, false, false, false, false, false, false, false, false, false, false, false, false, false, false, false, false, false, false, false, false, false, false, false, false, false, false, false, false, false, false, false, false, false, false] rfl rfl (by kernel_rfl) (fun _ _ _ h => h) (Or.inl ⟨by rfl, ?_⟩) ?_ ?_
                rotate_left
                · intro w'
                  go_simp
                  with_reducible rfl
                rotate_left
                · simp only [Act.put, List.setIfInBounds_toArray, List.set_cons_zero, List.set_cons_succ, i64_w, i32_w]
                  rfl
                refine pure_ (i := 3) (N := some 189) (v := ?_) (a' := ?_) #[true, true, true, true, false, false, false, false, false, false, false, false, false, false, false, false, false, false, false, false, false, false, false, false, false, false, false, false, false, false, false, false, false, false, false, false, false, false] rfl rfl (by kernel_rfl) (fun _ _ _ h => h) (Or.inl ⟨by rfl, ?_⟩) ?_ ?_
                rotate_left
                · intro w'
                  go_simp
                  with_reducible rfl
                rotate_left
                · simp only [Act.put, List.setIfInBounds_toArray, List.set_cons_zero, List.set_cons_succ, i64_w, i32_w]
                  rfl
                refine pure_ (i := 4) (N := some 190) (v := ?_) (a' := ?_) #[true, true, true, true, true, false, false, false, false, false, false, false, false, false, false, false, false, false, false, false, false, false, false, false, false, false, false, false, false, false, false, false, false, false, false, false, false, false] rfl rfl (by kernel_rfl) (fun _ _ _ h => h) (Or.inl ⟨by rfl, ?_⟩) ?_ ?_
                rotate_left
                · intro w'
                  go_simp
                  with_reducible rfl
                rotate_left
                · simp only [Act.put, List.setIfInBounds_toArray, List.set_cons_zero, List.set_cons_succ, i64_w, i32_w]
                  rfl
                refine pure_ (i := 5) (N := some 191) (v := ?_) (a' := ?_) #[true, true, true, true, true, true, false, false, false, false, false, false, false, false, false, false, false, false, false, false, false, false, false, false, false, false, false, false, false, false, false, false, false, false, false, false, false, false] rfl rfl (by kernel_rfl) (fun _ _ _ h => h) (Or.inl ⟨by rfl, ?_⟩) ?_ ?_
                rotate_left
                · intro w'
                  go_simp
                  with_reducible rfl
                rotate_left
                · simp only [Act.put, List.setIfInBounds_toArray, List.set_cons_zero, List.set_cons_succ, i64_w, i32_w]
                  rfl
                refine pure_ (i := 6) (N := some 192) (v := ?_) (a' := ?_) #[true, true, true, true, true, true, true, false, false, false, false, false, false, false, false, false, false, false, false, false, false, false, false, false, false, false, false, false, false, false, false, false, false, false, false, false, false, false] rfl rfl (by kernel_rfl) (fun _ _ _ h => h) (Or.inl ⟨by rfl, ?_⟩) ?_ ?_
                rotate_left
                · intro w'
                  go_simp
                  with_reducible rfl
                rotate_left
                · simp only [Act.put, List.setIfInBounds_toArray, List.set_cons_zero, List.set_cons_succ, i64_w, i32_w]
                  rfl
                refine pure_ (i := 7) (N := some 193) (v := ?_) (a' := ?_) #[true, true, true, true, true, true, true, true, false, false, false, false, false, false, false, false, false, false, false, false, false, false, false, false, false, false, false, false, false, false, false, false, false, false, false, false, false, false] rfl rfl (by kernel_rfl) (fun _ _ _ h => h) (Or.inl ⟨by rfl, ?_⟩) ?_ ?_
                rotate_left
                · intro w'
                  go_simp
                  with_reducible rfl
                rotate_left
                · simp only [Act.put, List.setIfInBounds_toArray, List.set_cons_zero, List.set_cons_succ, i64_w, i32_w]
                  rfl
                refine pure_ (i := 8) (N := some 194) (v := ?_) (a' := ?_) #[true, true, true, true, true, true, true, true, true, false, false, false, false, false, false, false, false, false, false, false, false, false, false, false, false, false, false, false, false, false, false, false, false, false, false, false, false, false] rfl rfl (by kernel_rfl) (fun _ _ _ h => h) (Or.inl ⟨by rfl, ?_⟩) ?_ ?_
                rotate_left
                · intro w'
                  go_simp
                  with_reducible rfl
                rotate_left
                · simp only [Act.put, List.setIfInBounds_toArray, List.set_cons_zero, List.set_cons_succ, i64_w, i32_w]
                  rfl
                refine pure_ (i := 9) (N := some 195) (v := ?_) (a' := ?_) #[true, true, true, true, true, true, true, true, true, true, false, false, false, false, false, false, false, false, false, false, false, false, false, false, false, false, false, false, false, false, false, false, false, false, false, false, false, false] rfl rfl (by kernel_rfl) (fun _ _ _ h => h) (Or.inl ⟨by rfl, ?_⟩) ?_ ?_
                rotate_left
                · intro w'
                  go_simp
                  with_reducible rfl
                rotate_left
                · simp only [Act.put, List.setIfInBounds_toArray, List.set_cons_zero, List.set_cons_succ, i64_w, i32_w]
                  rfl
                refine pure_ (i := 10) (N := some 196) (v := ?_) (a' := ?_) #[true, true, true, true, true, true, true, true, true, true, true, false, false, false, false, false, false, false, false, false, false, false, false, false, false, false, false, false, false, false, false, false, false, false, false, false, false, false] rfl rfl (by kernel_rfl) (fun _ _ _ h => h) (Or.inl ⟨by rfl, ?_⟩) ?_ ?_
                rotate_left
                · intro w'
                  go_simp
                  with_reducible rfl
                rotate_left
                · simp only [Act.put, List.setIfInBounds_toArray, List.set_cons_zero, List.set_cons_succ, i64_w, i32_w]
                  rfl
                refine take_ (i := 11) (N := some 197) (v := ?_) (a' := ?_) #[true, true, true, true, true, true, true, true, true, true, true, true, false, false, false, false, false, false, false, false, false, false, false, false, false, false, false, false, false, false, false, false, false, false, false, false, false, false] rfl rfl (by kernel_rfl) (fun _ _ _ h => h) (Or.inl ⟨by rfl, ?_⟩) hHeld ?_ ?_
                rotate_left
                · rintro w' ⟨s0, s1, s2, s3⟩
                  go_simp
                  with_reducible rfl
                rotate_left
                · simp only [Act.put, List.setIfInBounds_toArray, List.set_cons_zero, List.set_cons_succ, i64_w, i32_w]
                  rfl
                refine pure_ (i := 12) (N := some 198) (v := ?_) (a' := ?_) #[true, true, true, true, true, true, true, true, true, true, true, true, true, false, false, false, false, false, false, false, false, false, false, false, false, false, false, false, false, false, false, false, false, false, false, false, false, false] rfl rfl (by kernel_rfl) (fun _ _ _ h => h) (Or.inl ⟨by rfl, ?_⟩) ?_ ?_
                rotate_left
                · intro w'
                  go_simp
                  with_reducible rfl
                rotate_left
                · simp only [Act.put, List.setIfInBounds_toArray, List.set_cons_zero, List.set_cons_succ, i64_w, i32_w]
                  rfl
                refine pure_ (i := 13) (N := some 199) (v := ?_) (a' := ?_) #[true, true, true, true, true, true, true, true, true, true, true, true, true, true, false, false, false, false, false, false, false, false, false, false, false, false, false, false, false, false, false, false, false, false, false, false, false, false] rfl rfl (by kernel_rfl) (fun _ _ _ h => h) (Or.inl ⟨by rfl, ?_⟩) ?_ ?_
                rotate_left
                · intro w'
                  go_simp
                  with_reducible rfl
                rotate_left
                · simp only [Act.put, List.setIfInBounds_toArray, List.set_cons_zero, List.set_cons_succ, i64_w, i32_w]
                  rfl
                refine one_ (i := 14) (N := some 200) #[true, true, true, true, true, true, true, true, true, true, true, true, true, true, true, false, false, false, false, false, false, false, false, false, false, false, false, false, false, false, false, false, false, false, false, false, false, false] rfl rfl (by kernel_rfl) (by decide) (fun K hK => ?_)
                refine goes_ Tryd.func32 (by kernel_rfl) (by kernel_rfl) #[.slice Az C cz, .slice Aj C cj] (by rfl) rfl rfl (by (try simp only [List.map_toArray, List.map_cons, List.map_nil]); first | done | rfl) ?_
                refine (alike_m HCN.out HCN.out HZF.out HCZ.out HTF.out HCJ2.out HT64.out).mono ?_
                rintro e w11 ⟨rfl, hb⟩
                rw [decide_eq_true (Eq.refl ((a.take C).map toPl))]
                have y0 := (hb.cell (World.block_lt_of_cell? _ _ hHeld.1)).trans hHeld.1
                have y1 := (hb.cell (World.block_lt_of_cell? _ _ hHeld.2.1)).trans hHeld.2.1
                have y2 := (hb.cell (World.block_lt_of_cell? _ _ hHeld.2.2.1)).trans hHeld.2.2.1
                have y3 := (hb.cell (World.block_lt_of_cell? _ _ hHeld.2.2.2)).trans hHeld.2.2.2
                have S11 := Lib.hid (SF.out.step hb)
                have HA11 := Lib.hid (Kd.C_below HAF.out hb)
                have HB11 := Lib.hid (Kd.C_below HBF.out hb)
                clear hb SF HAF HBF HZF HTF hHeld
                refine ⟨_, rfl, ?_⟩
                refine hK.out _ _ ⟨y0, y1, y2, y3⟩ (fun hHeld => ?_)
                clear y0 y1 y2 y3
                clear hK K
                refine norm_ (a' := ?_) ?_ ?_
                rotate_left
                · show Act.put _ (some 200) _ = _
                  simp only [Act.put, List.setIfInBounds_toArray, List.set_cons_zero, List.set_cons_succ, i64_w, i32_w]
                  rfl
                refine pure_ (i := 15) (N := some 201) (v := ?_) (a' := ?_) #[true, true, true, true, true, true, true, true, true, true, true, true, true, true, true, true, false, false, false, false, false, false, false, false, false, false, false, false, false, false, false, false, false, false, false, false, false, false] rfl rfl (by kernel_rfl) (fun _ _ _ h => h) (Or.inl ⟨by rfl, ?_⟩) ?_ ?_
                rotate_left
                · intro w'
                  go_simp
                  with_reducible rfl
                rotate_left
                · simp only [Act.put, List.setIfInBounds_toArray, List.set_cons_zero, List.set_cons_succ, i64_w, i32_w]
                  rfl
                refine pure_ (i := 16) (N := some 202) (v := ?_) (a' := ?_) #[true, true, true, true, true, true, true, true, true, true, true, true, true, true, true, true, true, false, false, false, false, false, false, false, false, false, false, false, false, false, false, false, false, false, false, false, false, false] rfl rfl (by kernel_rfl) (fun _ _ _ h => h) (Or.inl ⟨by rfl, ?_⟩) ?_ ?_
                rotate_left
                · intro w'
                  go_simp
                  with_reducible rfl
                rotate_left
                · simp only [Act.put, List.setIfInBounds_toArray, List.set_cons_zero, List.set_cons_succ, i64_w, i32_w]
                  rfl
                refine pure_ (i := 17) (N := some 203) (v := ?_) (a' := ?_) #[true, true, true, true, true, true, true, true, true, true, true, true, true, true, true, true, true, true, false, false, false, false, false, false, false, false, false, false, false, false, false, false, false, false, false, false, false, false] rfl rfl (by kernel_rfl) (fun _ _ _ h => h) (Or.inl ⟨by rfl, ?_⟩) ?_ ?_
                rotate_left
                · intro w'
                  go_simp
                  with_reducible rfl
                rotate_left
                · simp only [Act.put, List.setIfInBounds_toArray, List.set_cons_zero, List.set_cons_succ, i64_w, i32_w]
                  rfl
                refine pure_ (i := 18) (N := some 204) (v := ?_) (a' := ?_) #[true, true, true, true, true, true, true, true, true, true, true, true, true, true, true, true, true, true, true, false, false, false, false, false, false, false, false, false, false, false, false, false, false, false, false, false, false, false] rfl rfl (by kernel_rfl) (fun _ _ _ h => h) (Or.inl ⟨by rfl, ?_⟩) ?_ ?_
                rotate_left
                · intro w'
                  go_simp
                  with_reducible rfl
                rotate_left
                · simp only [Act.put, List.setIfInBounds_toArray, List.set_cons_zero, List.set_cons_succ, i64_w, i32_w]
                  rfl
                refine pure_ (i := 19) (N := some 205) (v := ?_) (a' := ?_) #[true, true, true, true, true, true, true, true, true, true, true, true, true, true, true, true, true, true, true, true, false, false, false, false, false, false, false, false, false, false, false, false, false, false, false, false, false, false] rfl rfl (by kernel_rfl) (fun _ _ _ h => h) (Or.inl ⟨by rfl, ?_⟩) ?_ ?_
                rotate_left
                · intro w'
                  go_simp
                  with_reducible rfl
                rotate_left
                · simp only [Act.put, List.setIfInBounds_toArray, List.set_cons_zero, List.set_cons_succ, i64_w, i32_w]
                  rfl
                refine pure_ (i := 20) (N := some 206) (v := ?_) (a' := ?_) #[true, true, true, true, true, true, true, true, true, true, true, true, true, true, true, true, true, true, true, true, true, false, false, false, false, false, false, false, false, false, false, false, false, false, false, false, false, false] rfl rfl (by kernel_rfl) (fun _ _ _ h => h) (Or.inl ⟨by rfl, ?_⟩) ?_ ?_
                rotate_left
                · intro w'
                  go_simp
                  with_reducible rfl
                rotate_left
                · simp only [Act.put, List.setIfInBounds_toArray, List.set_cons_zero, List.set_cons_succ, i64_w, i32_w]
                  rfl
                refine take_ (i := 21) (N := some 207) (v := ?_) (a' := ?_) #[true, true, true, true, true, true, true, true, true, true, true, true, true, true, true, true, true, true, true, true, true, true, false, false, false, false, false, false, false, false, false, false, false, false, false, false, false, false] rfl rfl (by kernel_rfl) (fun _ _ _ h => h) (Or.inl ⟨by rfl, ?_⟩) hHeld ?_ ?_
                rotate_left
                · rintro w' ⟨s0, s1, s2, s3⟩
                  go_simp
                  with_reducible rfl
                rotate_left
                · simp only [Act.put, List.setIfInBounds_toArray, List.set_cons_zero, List.set_cons_succ, i64_w, i32_w]
                  rfl
                refine pure_ (i := 22) (N := some 208) (v := ?_) (a' := ?_) #[true, true, true, true, true, true, true, true, true, true, true, true, true, true, true, true, true, true, true, true, true, true, true, false, false, false, false, false, false, false, false, false, false, false, false, false, false, false] rfl rfl (by kernel_rfl) (fun _ _ _ h => h) (Or.inl ⟨by rfl, ?_⟩) ?_ ?_
                rotate_left
                · intro w'
                  go_simp
                  with_reducible rfl
                rotate_left
                · simp only [Act.put, List.setIfInBounds_toArray, List.set_cons_zero, List.set_cons_succ, i64_w, i32_w]
                  rfl
                refine pure_ (i := 23) (N := some 209) (v := ?_) (a' := ?_) #[true, true, true, true, true, true, true, true, true, true, true, true, true, true, true, true, true, true, true, true, true, true, true, true, false, false, false, false, false, false, false, false, false, false, false, false, false, false] rfl rfl (by kernel_rfl) (fun _ _ _ h => h) (Or.inl ⟨by rfl, ?_⟩) ?_ ?_
                rotate_left
                · intro w'
                  go_simp
                  with_reducible rfl
                rotate_left
                · simp only [Act.put, List.setIfInBounds_toArray, List.set_cons_zero, List.set_cons_succ, i64_w, i32_w]
                  rfl
                refine pure_ (i := 24) (N := some 210) (v := ?_) (a' := ?_) #[true, true, true, true, true, true, true, true, true, true, true, true, true, true, true, true, true, true, true, true, true, true, true, true, true, false, false, false, false, false, false, false, false, false, false, false, false, false] rfl rfl (by kernel_rfl) (fun _ _ _ h => h) (Or.inl ⟨by rfl, ?_⟩) ?_ ?_
                rotate_left
                · intro w'
                  go_simp
                  with_reducible rfl
                rotate_left
                · simp only [Act.put, List.setIfInBounds_toArray, List.set_cons_zero, List.set_cons_succ, i64_w, i32_w]
                  rfl
                refine take_ (i := 25) (N := some 211) (v := ?_) (a' := ?_) #[true, true, true, true, true, true, true, true, true, true, true, true, true, true, true, true, true, true, true, true, true, true, true, true, true, true, false, false, false, false, false, false, false, false, false, false, false, false] rfl rfl (by kernel_rfl) (fun _ _ _ h => h) (Or.inl ⟨by rfl, ?_⟩) hHeld ?_ ?_
                rotate_left
                · rintro w' ⟨s0, s1, s2, s3⟩
                  go_simp
                  with_reducible rfl
                rotate_left
                · simp only [Act.put, List.setIfInBounds_toArray, List.set_cons_zero, List.set_cons_succ, i64_w, i32_w]
                  rfl
                refine pure_ (i := 26) (N := some 212) (v := ?_) (a' := ?_) #[true, true, true, true, true, true, true, true, true, true, true, true, true, true, true, true, true, true, true, true, true, true, true, true, true, true, true, false, false, false, false, false, false, false, false, false, false, false] rfl rfl (by kernel_rfl) (fun _ _ _ h => h) (Or.inl ⟨by rfl, ?_⟩) ?_ ?_
                rotate_left
                · intro w'
                  go_simp
                  with_reducible rfl
                rotate_left
                · simp only [Act.put, List.setIfInBounds_toArray, List.set_cons_zero, List.set_cons_succ, i64_w, i32_w]
                  rfl
                refine pure_ (i := 27) (N := some 213) (v := ?_) (a' := ?_) #[true, true, true, true, true, true, true, true, true, true, true, true, true, true, true, true, true, true, true, true, true, true, true, true, true, true, true, true, false, false, false, false, false, false, false, false, false, false] rfl rfl (by kernel_rfl) (fun _ _ _ h => h) (Or.inl ⟨by rfl, ?_⟩) ?_ ?_
                rotate_left
                · intro w'
                  go_simp
                  with_reducible rfl
                rotate_left
                · simp only [Act.put, List.setIfInBounds_toArray, List.set_cons_zero, List.set_cons_succ, i64_w, i32_w]
                  rfl
                refine pure_ (i := 28) (N := some 214) (v := ?_) (a' := ?_) #[true, true, true, true, true, true, true, true, true, true, true, true, true, true, true, true, true, true, true, true, true, true, true, true, true, true, true, true, true, false, false, false, false, false, false, false, false, false] rfl rfl (by kernel_rfl) (fun _ _ _ h => h) (Or.inl ⟨by rfl, ?_⟩) ?_ ?_
                rotate_left
                · intro w'
                  go_simp
                  with_reducible rfl
                rotate_left
                · simp only [Act.put, List.setIfInBounds_toArray, List.set_cons_zero, List.set_cons_succ, i64_w, i32_w]
                  rfl
                refine pure_ (i := 29) (N := some 215) (v := ?_) (a' := ?_) #[true, true, true, true, true, true, true, true, true, true, true, true, true, true, true, true, true, true, true, true, true, true, true, true, true, true, true, true, true, true, false, false, false, false, false, false, false, false] rfl rfl (by kernel_rfl) (fun _ _ _ h => h) (Or.inl ⟨by rfl, ?_⟩) ?_ ?_
                rotate_left
                · intro w'
                  go_simp
                  with_reducible rfl
                rotate_left
                · simp only [Act.put, List.setIfInBounds_toArray, List.set_cons_zero, List.set_cons_succ, i64_w, i32_w]
                  rfl
                refine take_ (i := 30) (N := some 216) (v := ?_) (a' := ?_) #[true, true, true, true, true, true, true, true, true, true, true, true, true, true, true, true, true, true, true, true, true, true, true, true, true, true, true, true, true, true, true, false, false, false, false, false, false, false] rfl rfl (by kernel_rfl) (fun _ _ _ h => h) (Or.inl ⟨by rfl, ?_⟩) hHeld ?_ ?_
                rotate_left
                · rintro w' ⟨s0, s1, s2, s3⟩
                  go_simp
                  with_reducible rfl
                rotate_left
                · simp only [Act.put, List.setIfInBounds_toArray, List.set_cons_zero, List.set_cons_succ, i64_w, i32_w]
                  rfl
                refine pure_ (i := 31) (N := some 217) (v := ?_) (a' := ?_) #[true, true, true, true, true, true, true, true, true, true, true, true, true, true, true, true, true, true, true, true, true, true, true, true, true, true, true, true, true, true, true, true, false, false, false, false, false, false] rfl rfl (by kernel_rfl) (fun _ _ _ h => h) (Or.inl ⟨by rfl, ?_⟩) ?_ ?_
                rotate_left
                · intro w'
                  go_simp
                  with_reducible rfl
                rotate_left
                · simp only [Act.put, List.setIfInBounds_toArray, List.set_cons_zero, List.set_cons_succ, i64_w, i32_w]
                  rfl
                refine pure_ (i := 32) (N := some 218) (v := ?_) (a' := ?_) #[true, true, true, true, true, true, true, true, true, true, true, true, true, true, true, true, true, true, true, true, true, true, true, true, true, true, true, true, true, true, true, true, true, false, false, false, false, false] rfl rfl (by kernel_rfl) (fun _ _ _ h => h) (Or.inl ⟨by rfl, ?_⟩) ?_ ?_
                rotate_left
                · intro w'
                  go_simp
                  with_reducible rfl
                rotate_left
                · simp only [Act.put, List.setIfInBounds_toArray, List.set_cons_zero, List.set_cons_succ, i64_w, i32_w]
                  rfl
                refine pure_ (i := 33) (N := some 219) (v := ?_) (a' := ?_) #[true, true, true, true, true, true, true, true, true, true, true, true, true, true, true, true, true, true, true, true, true, true, true, true, true, true, true, true, true, true, true, true, true, true, false, false, false, false] rfl rfl (by kernel_rfl) (fun _ _ _ h => h) (Or.inl ⟨by rfl, ?_⟩) ?_ ?_
                rotate_left
                · intro w'
                  go_simp
                  with_reducible rfl
                rotate_left
                · simp only [Act.put, List.setIfInBounds_toArray, List.set_cons_zero, List.set_cons_succ, i64_w, i32_w]
                  rfl
                refine take_ (i := 34) (N := some 220) (v := ?_) (a' := ?_) #[true, true, true, true, true, true, true, true, true, true, true, true, true, true, true, true, true, true, true, true, true, true, true, true, true, true, true, true, true, true, true, true, true, true, true, false, false, false] rfl rfl (by kernel_rfl) (fun _ _ _ h => h) (Or.inl ⟨by rfl, ?_⟩) hHeld ?_ ?_
                rotate_left
                · rintro w' ⟨s0, s1, s2, s3⟩
                  go_simp
                  with_reducible rfl
                rotate_left
                · simp only [Act.put, List.setIfInBounds_toArray, List.set_cons_zero, List.set_cons_succ, i64_w, i32_w]
                  rfl
                refine one_ (i := 35) (N := some 221) #[true, true, true, true, true, true, true, true, true, true, true, true, true, true, true, true, true, true, true, true, true, true, true, true, true, true, true, true, true, true, true, true, true, true, true, true, false, false] rfl rfl (by kernel_rfl) (by decide) (fun K hK => ?_)
                refine goes_ Tryd.func32 (by kernel_rfl) (by kernel_rfl) #[.slice Aj na cj, .slice Ak nb ck] (by rfl) rfl rfl (by (try simp only [List.map_toArray, List.map_cons, List.map_nil]); first | done | rfl) ?_
                refine (alike_m HNA.out HNB.out HA11.out HAC.out HB11.out HBC.out H64.out).mono ?_
                rintro e w12 ⟨rfl, hb⟩
                rw [← HEB.out]
                have y0 := (hb.cell (World.block_lt_of_cell? _ _ hHeld.1)).trans hHeld.1
                have y1 := (hb.cell (World.block_lt_of_cell? _ _ hHeld.2.1)).trans hHeld.2.1
                have y2 := (hb.cell (World.block_lt_of_cell? _ _ hHeld.2.2.1)).trans hHeld.2.2.1
                have y3 := (hb.cell (World.block_lt_of_cell? _ _ hHeld.2.2.2)).trans hHeld.2.2.2
                have S12 := Lib.hid (S11.out.step hb)
                clear hb S11 HA11 HB11 hHeld
                refine ⟨_, rfl, ?_⟩
                refine hK.out _ _ ⟨y0, y1, y2, y3⟩ (fun hHeld => ?_)
                clear y0 y1 y2 y3
                clear hK K
                refine norm_ (a' := ?_) ?_ ?_
                rotate_left
                · show Act.put _ (some 221) _ = _
                  simp only [Act.put, List.setIfInBounds_toArray, List.set_cons_zero, List.set_cons_succ, i64_w, i32_w]
                  rfl
                refine pure_ (i := 36) (N := some 222) (v := ?_) (a' := ?_) #[true, true, true, true, true, true, true, true, true, true, true, true, true, true, true, true, true, true, true, true, true, true, true, true, true, true, true, true, true, true, true, true, true, true, true, true, true, false] rfl rfl (by kernel_rfl) (fun _ _ _ h => h) (Or.inl ⟨by rfl, ?_⟩) ?_ ?_
                rotate_left
                · intro w'
                  go_simp
                  with_reducible rfl
                rotate_left
                · simp only [Act.put, List.setIfInBounds_toArray, List.set_cons_zero, List.set_cons_succ, i64_w, i32_w]
                  rfl
                refine pure_ (i := 37) (N := some 223) (v := ?_) (a' := ?_) #[true, true, true, true, true, true, true, true, true, true, true, true, true, true, true, true, true, true, true, true, true, true, true, true, true, true, true, true, true, true, true, true, true, true, true, true, true, true] rfl rfl (by kernel_rfl) (fun _ _ _ h => h) (Or.inl ⟨by rfl, ?_⟩) ?_ ?_
                rotate_left
                · intro w'
                  go_simp
                  with_reducible rfl
                rotate_left
                · simp only [Act.put, List.setIfInBounds_toArray, List.set_cons_zero, List.set_cons_succ, i64_w, i32_w]
                  rfl
                refine done_ (by kernel_rfl) ?_
                clear hHeld
                obtain ⟨q, rfl⟩ : ∃ q, gk = q + 1 := ⟨gk - 1, by omega⟩
                go_wp2
                go_roundg q
                case measure => omega
                case rel => exact ⟨k + 1, by omega, by first | rfl | go_num, S12⟩
              · have d4 : decide ((k : Int) ≤ (j : Int)) = false := by simp; omega
                have f4 : ¬ k ≤ j := hk
                go_wp2
                go_roundg q0
                case measure => omega
                case rel => exact ⟨j + 1, by omega, by first | rfl | go_num, SK⟩
          · have d3 : decide ((j : Int) < (i : Int)) = false := by simp; omega
            have f3' : ¬ j < i := hj
            go_wp2_with (go_at_call 23; (with_reducible refine (alive_any _ SL.out.tabs).mono ?_); rintro e w11 ⟨rfl, hb⟩; have S11 := Lib.hid (SL.out.step hb); clear hb SL)
            go_ret
            exact ⟨rfl, S11.out.below⟩)
end Go.Proofs.YtmgfdcfbjgokgaaDoor
