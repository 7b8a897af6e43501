/- The walk of 'PlaceUnfolds'. -/
import Derived.Test.YtmgfdcfbjgokgaaDoorTrimsP
import Derived.Test.YtmgfdcfbjgokgaaDoorUnf
import Derived.BigQuiet
import Derived.Deep.RegionHeld3
namespace Go.Proofs.YtmgfdcfbjgokgaaDoor
open Go.RowKit Go.Proofs.YtmgfdcfbjgokgaaDoorW.PrintWords Go.Proofs.YtmgfdcfbjgokgaaDoorW.PrintLast Go.Proofs.YtmgfdcfbjgokgaaDoorW.PrintMore Go.Proofs.YtmgfdcfbjgokgaaDoor.PL
set_option linter.unusedVariables false
set_option linter.unusedSimpArgs false

/-- Places with a mark in the cell behind them. -/
def lentK : Kd (List S60) where
  sz := 1
  E := 60 :: k60.E
  K := fun w xs cs => ∃ g c, cs = [.slice (some ⟨g, 0, none⟩) xs.length c] ∧ xs.length + 1 ≤ c ∧ Kd.C k60 w (some ⟨g, 0, none⟩) (xs.length + 1) (xs ++ [mark])
  M := fun w base ok xs cs => ∃ g c, cs = [.slice (some ⟨g, 0, none⟩) xs.length c] ∧ Kd.R k60 60 w base ok (.slice (some ⟨g, 0, none⟩) (xs.length + 1) c) (xs ++ [mark])
  K_len := by
    rintro w x cs ⟨g, c, rfl, _⟩
    rfl
  K_one := by
    rintro w x cs ⟨g, c, rfl, _⟩ u hu
    rw [List.mem_singleton.1 hu]
    rfl
  K_below := by
    rintro w w1 x cs hb ⟨g, c, rfl, hl, hr⟩
    exact ⟨g, c, rfl, hl, Kd.C_below hr hb⟩
  K_of_M := by
    rintro w base ok x cs ⟨g, c, rfl, h⟩
    obtain ⟨h1, h2, h3⟩ := Kd.R_reads' h
    exact ⟨g, c, rfl, h2, by rw [h1]; exact h3⟩
  M_mono := by
    rintro w base ok ok' x cs hok ⟨g, c, rfl, h⟩
    exact ⟨g, c, rfl, Kd.R_mono h hok⟩
  M_bound := by
    rintro w base ok x cs ⟨g, c, rfl, h⟩
    exact ⟨g, c, rfl, Kd.R_bound h⟩
  M_move := by
    rintro w w1 base ok x cs hm ⟨g, c, rfl, h⟩
    exact ⟨g, c, rfl, Kd.R_move h hm⟩
  M_lower := by
    rintro w base base' ok x cs hb ⟨g, c, rfl, h⟩
    exact ⟨g, c, rfl, Kd.R_lower h hb⟩
def kRunL : Kd S50 := Kd.iso (Kd.pair lentK (Kd.int .i64)) (fun x : S50 => (x.f0, x.f1))
theorem kRunL_open {w : World} {x : S50} {cs : List Value} (h : kRunL.K w x cs) : ∃ g c, cs = [.slice (some ⟨g, 0, none⟩) x.f0.length c, .int .i64 x.f1] ∧ x.f0.length + 1 ≤ c ∧ Kd.C k60 w (some ⟨g, 0, none⟩) (x.f0.length + 1) (x.f0 ++ [mark]) := by
  obtain ⟨c0, c1, rfl, ⟨g, c, rfl, h1, h2⟩, rfl⟩ := h
  exact ⟨g, c, rfl, h1, h2⟩
theorem kRunL_run {w : World} {x : S50} {cs : List Value} (h : kRunL.K w x cs) : k50.K w x cs := by
  obtain ⟨g, c, rfl, h1, h2⟩ := kRunL_open h
  refine k50_mk w x (by omega) ?_
  have := Kd.C_take (m := x.f0.length) (xs := x.f0 ++ [mark]) (by rw [List.length_append]; exact h2) (by simp)
  rwa [List.take_left] at this
theorem kRunL_C {w : World} {A : Option Addr} {n : Nat} {xs : List S50} (h : Kd.C kRunL w A n xs) : Kd.C k50 w A n xs := Kd.C_imp (d := kRunL) (d' := k50) rfl (fun _ _ _ h => kRunL_run h) h
theorem kRunL_mkM (w : World) (base : Nat) (ok : Nat → Prop) (x : S50) {g c : Nat} (h : Kd.R k60 60 w base ok (.slice (some ⟨g, 0, none⟩) (x.f0.length + 1) c) (x.f0 ++ [mark])) : kRunL.M w base ok x [.slice (some ⟨g, 0, none⟩) x.f0.length c, .int .i64 x.f1] :=
  ⟨[.slice (some ⟨g, 0, none⟩) x.f0.length c], [.int .i64 x.f1], rfl, ⟨g, c, rfl, h⟩, rfl⟩
end Go.Proofs.YtmgfdcfbjgokgaaDoor
namespace Go.Proofs.YtmgfdcfbjgokgaaDoor
open Go.RowKit Go.Proofs.YtmgfdcfbjgokgaaDoorW.PrintWords Go.Proofs.YtmgfdcfbjgokgaaDoorW.PrintLast Go.Proofs.YtmgfdcfbjgokgaaDoorW.PrintMore Go.Proofs.YtmgfdcfbjgokgaaDoor.PL
set_option linter.unusedVariables false
set_option linter.unusedSimpArgs false

theorem lent_n {A : Option Addr} {c n : Nat} {l : List S96} {W : World} (hn : n = l.length) (h : Kd.C k96 W A n l) (hc : n ≤ c) (hb : n ≤ 5864062014803) : Calls Tryd.prog 10 #[.slice A n c] W fun e w' => ∃ g cap, e = .returned (.slice (some ⟨g, 0, none⟩) n cap) ∧ n + 1 ≤ cap ∧ W.heap.size ≤ g ∧
    Kd.R k60 60 w' W.heap.size (fun _ => True) (.slice (some ⟨g, 0, none⟩) (n + 1) cap) (l.map toOwn ++ [mark]) ∧ Below W.heap.size W w' := by
  subst hn
  refine (lent_any A c l W h hc hb).mono fun e w' ⟨v, he, ⟨g, cap, hv, hg, hR⟩, hbl⟩ => ?_
  rw [List.length_map] at hv hR
  subst hv
  exact ⟨g, cap, he, (Kd.R_reads' hR).2.1, hg, hR, hbl⟩
theorem ref_n {A : Option Addr} {c n : Nat} {l : List S96} {W : World} (hn : n = l.length) (h : Kd.C k96 W A n l) (hc : n ≤ c) (hb : n ≤ 5864062014803) : Calls Tryd.prog 13 #[.slice A n c] W fun e w' => ∃ A' c', e = .returned (.slice A' n c') ∧
    Kd.R k95 95 w' W.heap.size (fun _ => True) (.slice A' n c') (l.map toRef) ∧ Below W.heap.size W w' := by
  subst hn
  refine (erratalaw03_ref.calls (l.length + 1) A c l (l.map toRef) W h hc (ref_f l (by omega))).mono fun e w' ⟨v, he, hR, hbl⟩ => ?_
  obtain ⟨A', c', rfl⟩ := Kd.R_slice hR
  rw [List.length_map] at he hR
  exact ⟨A', c', he, hR, hbl⟩
theorem kept_n {g cap : Nat} {A : Option Addr} {c n : Nat} {l : List S96} {W : World} (hn : n = l.length) (hm : Kd.C k60 W (some ⟨g, 0, none⟩) (n + 1) (l.map toOwn ++ [mark])) (hcap : n + 1 ≤ cap) (hr0 : Kd.C k96 W A n l) (hc0 : n ≤ c) (hl : n ≤ 5864062014803) :
    Calls Tryd.prog 18 #[.slice (some ⟨g, 0, none⟩) n cap, .slice A n c] W fun e w' => e = .returned (.bool true) ∧ Below W.heap.size W w' := by
  subst hn
  exact kept_any g cap A c l W hm hcap hr0 hc0 hl
/-- The runs that came in. -/
structure InU (w : World) (A0 : Option Addr) (c0 n : Nat) (l : List S48) : Prop where
  nl : n = l.length
  cn : n ≤ c0
  l0 : Kd.C k48 w A0 n l
  bn : n ≤ 4398046511000
  sz : ∀ x ∈ l, x.f0.length ≤ 5864062014690 ∧ ∀ y ∈ x.f0, y.f0.size ≤ 9223372036854775807
  tabs : Tabs w
theorem InU.bn' {w : World} {A0 : Option Addr} {c0 n : Nat} {l : List S48} (I : InU w A0 c0 n l) : l.length ≤ 4398046511000 := by
  have := I.nl
  have := I.bn
  omega
def toA (x : S48) : S50 := ⟨x.f0.map toOwn, x.f1⟩
def toB (x : S48) : S52 := ⟨x.f0.map toRef, x.f1⟩
theorem runs_eq (l : List S48) : (l.map toA).map run50 = (l.map toB).map run52 := by
  rw [List.map_map, List.map_map]
  apply List.map_congr_left
  intro x _
  show (_, _) = (_, _)
  rw [show (toA x).f0.map toPl = (toB x).f0.map rpl from maps_eq x.f0]
  rfl
def spR (x : S48) : Rn := (x.f0.map spl, x.f1)
theorem runA (l : List S48) : (l.map toA).map run50 = l.map spR := by
  rw [List.map_map]
  apply List.map_congr_left
  intro x _
  show (_, _) = (_, _)
  rw [show (toA x).f0.map toPl = x.f0.map spl from spl_own x.f0]
  rfl
theorem runB (l : List S48) : (l.map toB).map run52 = l.map spR := by
  rw [List.map_map]
  apply List.map_congr_left
  intro x _
  show (_, _) = (_, _)
  rw [show (toB x).f0.map rpl = x.f0.map spl from spl_ref x.f0]
  rfl
theorem goU_len : ∀ (rs : List Rn) (out o : List Pl), out.length ≤ 64 → (∀ r ∈ rs, 0 ≤ r.2) → goU out rs = some o → o.length ≤ 64
  | [], out, o, h, _, he => by
    simp only [goU, Option.some.injEq] at he
    subst he
    exact h
  | r :: rs, out, o, h, hp, he => by
    simp only [goU] at he
    split at he
    · cases he
    · rename_i hn
      refine goU_len rs _ o ?_ (fun x hx => hp x (by simp [hx])) he
      have h0 := hp r (by simp)
      have ht0 : ((r.2.toNat : Nat) : Int) = r.2 := by omega
      have hml : ((r.1.length * r.2.toNat : Nat) : Int) = (r.1.length : Int) * r.2 := by rw [Int.natCast_mul, ht0]
      rw [List.length_append, reps_len]
      omega
theorem unfoldOf_len (rs : List Rn) : (unfoldOf rs).1.length ≤ 64 := by
  unfold unfoldOf
  by_cases h : rs.any badR = true
  · rw [if_pos h]; simp
  · rw [if_neg h]
    unfold endU
    cases hg : goU [] rs with
    | none => simp
    | some o =>
      have := goU_len rs [] o (by simp) (fun r hr => by
        have hb : ¬ badR r = true := fun hb => h (List.any_eq_true.2 ⟨r, hr, hb⟩)
        unfold badR at hb
        simp at hb
        omega) hg
      simp only
      split
      · exact this
      · simp
theorem unfold_v {W : World} {b : Nat} {ok : Nat → Prop} {v : Value} (l : List S48) (hl : l.length ≤ 4398046511000) (hs : ∀ x ∈ l, x.f0.length ≤ 5864062014690 ∧ ∀ y ∈ x.f0, y.f0.size ≤ 9223372036854775807) (h : Kd.R kRunL 50 W b ok v (l.map toA)) :
    Calls Tryd.prog 24 #[v] W fun e w' => ∃ v', e = .returned (.tuple #[v', .int .i64 (unfoldOf (l.map spR)).2]) ∧ Kd.R k60 60 w' W.heap.size (fun _ => True) v' ((unfoldOf (l.map spR)).1.map ofPl) ∧ Below W.heap.size W w' := by
  obtain ⟨A, c, rfl, hc, hC⟩ := Kd.R_reads h
  have hf := unf_f (l.map toA) (by rw [List.length_map]; omega) (fun x hx => by
    obtain ⟨y, hy, rfl⟩ := List.mem_map.1 hx
    refine ⟨?_, fun z hz => ?_⟩
    · show (y.f0.map toOwn).length ≤ _
      rw [List.length_map]
      have := (hs y hy).1
      omega
    · obtain ⟨q, hq, rfl⟩ := List.mem_map.1 hz
      exact (hs y hy).2 q hq)
  rw [runA] at hf
  exact place_Unfold.calls _ A c (l.map toA) _ _ W (kRunL_C hC) hc hf
theorem runfold_v {W : World} {b : Nat} {ok : Nat → Prop} {v : Value} (l : List S48) (hl : l.length ≤ 4398046511000) (hs : ∀ x ∈ l, x.f0.length ≤ 5864062014690 ∧ ∀ y ∈ x.f0, y.f0.size ≤ 9223372036854775807) (h : Kd.R k52 52 W b ok v (l.map toB)) :
    Calls Tryd.prog 25 #[v] W fun e w' => ∃ v', e = .returned (.tuple #[v', .int .i64 (unfoldOf (l.map spR)).2]) ∧ Kd.R k95 95 w' W.heap.size (fun _ => True) v' ((unfoldOf (l.map spR)).1.map rof) ∧ Below W.heap.size W w' := by
  obtain ⟨A, c, rfl, hc, hC⟩ := Kd.R_reads h
  have hf := runf_f (l := l.map toB) (by rw [List.length_map]; omega) (fun x hx => by
    obtain ⟨y, hy, rfl⟩ := List.mem_map.1 hx
    show (y.f0.map toRef).length ≤ _
    rw [List.length_map]
    have := (hs y hy).1
    omega)
  rw [runB] at hf
  exact errataref03_Unfold.calls _ A c (l.map toB) _ _ W hC hc hf
theorem at_RunL {w : World} {A : Option Addr} {n : Nat} {xs : List S50} (h : Kd.C kRunL w A n xs) (i : Nat) (hi : i < n) : ∃ ad g c, A = some ad ∧ w.cell? (ad.add (i * 2)) = some (.slice (some ⟨g, 0, none⟩) (rd_T50 xs i).f0.length c) ∧ w.cell? ⟨(ad.add (i * 2)).block, (ad.add (i * 2)).off + 1, none⟩ = some (.int .i64 (rd_T50 xs i).f1) ∧ (rd_T50 xs i).f0.length + 1 ≤ c ∧ Kd.C k60 w (some ⟨g, 0, none⟩) ((rd_T50 xs i).f0.length + 1) ((rd_T50 xs i).f0 ++ [mark]) := by
  obtain ⟨ad, c, e, _, hK, hc0⟩ := Kd.C_get h z50 (i : Int) (by omega) (by omega)
  have hc : ∀ j u, c[j]? = some u → w.cell? (ad.add (i * 2 + j)) = some u := hc0
  obtain ⟨g, c0, rfl, l0, g0⟩ := kRunL_open hK
  exact ⟨ad, g, c0, e, hc 0 _ rfl, by rw [← add_field _ _ 1 (by omega)]; exact hc 1 _ rfl, l0, g0⟩
theorem infoRun : (Tryd.prog.info? 50).map (fun i => (i.zero, i.size, i.bytes)) = some (some (.agg #[.slice none 0 0, .int .i64 0]), 2, 32) := by kernel_rfl
theorem infoRRun : (Tryd.prog.info? 52).map (fun i => (i.zero, i.size, i.bytes)) = some (some (.agg #[.slice none 0 0, .int .i64 0]), 2, 32) := by kernel_rfl
theorem elemA {W : World} {base b2 m g cap : Nat} {sp : List S96} (tm : Int) (hm : m = sp.length) (h : Kd.R k60 60 W b2 (fun _ => True) (.slice (some ⟨g, 0, none⟩) (m + 1) cap) (sp.map toOwn ++ [mark])) (hb : base ≤ b2) :
    kRunL.M W base (fun k => b2 ≤ k ∧ k < W.heap.size) (⟨sp.map toOwn, tm⟩ : S50) [.slice (some ⟨g, 0, none⟩) m cap, .int .i64 tm] := by
  subst hm
  have := kRunL_mkM W base (fun k => b2 ≤ k ∧ k < W.heap.size) (⟨sp.map toOwn, tm⟩ : S50) (g := g) (c := cap) (by rw [List.length_map]; exact Kd.R_lower (R_win h) hb)
  rw [List.length_map] at this
  exact this
theorem elemB {W : World} {base b2 m cap : Nat} {A : Option Addr} {sp : List S96} (tm : Int) (hm : m = sp.length) (h : Kd.R k95 95 W b2 (fun _ => True) (.slice A m cap) (sp.map toRef)) (hb : base ≤ b2) :
    k52.M W base (fun k => b2 ≤ k ∧ k < W.heap.size) (⟨sp.map toRef, tm⟩ : S52) [.slice A m cap, .int .i64 tm] :=
  k52_mkM W base _ (⟨sp.map toRef, tm⟩ : S52) (Kd.R_lower (R_win h) hb)
theorem R_lt {α : Type} {k : Kd α} {W : World} {e base : Nat} {v : Value} {xs : List α} {ok : Nat → Prop} (h : Kd.R k e W base ok v xs) : ∀ j, v.ownBlock = some j → j < W.heap.size := fun j hj => ((Kd.R_bound h).1 j hj).2.2.1
theorem take_len {l : List S48} {i n : Nat} (hn : n = l.length) (hi : i < n) {β : Type} (f : S48 → β) : ((l.take i).map f).length = i := by
  rw [List.length_map, List.length_take]
  omega
theorem take_snoc {l : List S48} {i : Nat} (hi : i < l.length) {β : Type} (f : S48 → β) : (l.take i).map f ++ [f l[i]] = (l.take (i + 1)).map f := by
  rw [List.take_add_one, List.getElem?_eq_getElem hi, List.map_append]
  rfl
set_option maxRecDepth 100000 in
set_option maxHeartbeats 16000000 in
theorem unfolds_any (w : World) (A0 : Option Addr) (c0 n : Nat) (l : List S48) (I0 : InU w A0 c0 n l) :
    Calls Tryd.prog 4 #[.slice A0 n c0] w fun e w' => e = .returned (.bool true) ∧ Below w.heap.size w w' := by
  have I := Lib.hid I0
  clear I0
  go_enter Tryd.func4, Tryd.ntmps4
  go_wp2
  go_loopg [3, 4, 5] n (fun q s3 s4 s5 wx => ∃ i : Nat, i + q = n ∧ s5 = .int .i64 i ∧ Hid (Kd.R kRunL 50 wx w.heap.size (fun _ => True) s3 ((l.take i).map toA)) ∧ Hid (Kd.R k52 52 wx w.heap.size (fun _ => True) s4 ((l.take i).map toB)) ∧ Hid (Below w.heap.size w wx))
  case atStart => exact ⟨0, by omega, rfl, Kd.R_nil _ _ _ _ _, Kd.R_nil _ _ _ _ _, Below.refl _ _⟩
  case round =>
    obtain ⟨i, hi, rfl, HA, HB', HB⟩ := hrel
    by_cases hq : gk = 0
    · subst hq
      have hend : decide ((i : Int) < (n : Int)) = false := by simp; omega
      have hendN : ¬ i < n := by omega
      have hta : l.take i = l := List.take_of_length_le (by have := I.out.nl; omega)
      rw [hta] at HA HB'
      obtain ⟨T, hT⟩ : ∃ T, T = (unfoldOf (l.map spR)).1 := ⟨_, rfl⟩
      obtain ⟨E, hE⟩ : ∃ E, E = (unfoldOf (l.map spR)).2 := ⟨_, rfl⟩
      have HT := Lib.hid hT
      have HE := Lib.hid hE
      have HTL := Lib.hid (show T.length ≤ 64 by rw [hT]; exact unfoldOf_len _)
      have HAW := Lib.hid (R_win HA.out)
      clear hT hE hta hi HA
      go_wp2_with (go_at_call 24; refine (unfold_v l I.out.bn' I.out.sz HAW.out).mono ?_; rintro e w2 ⟨v6, rfl, h6, hb2⟩; rw [← HE.out]; rw [← HT.out] at h6; have HX := Lib.hid (R_win h6); have HB2 := Lib.hid hb2; clear h6 hb2)
      go_wp2_with (go_at_call 25; refine (runfold_v l I.out.bn' I.out.sz (Kd.R_below HB'.out HB2.out)).mono ?_; rintro e w3 ⟨v8, rfl, h8, hb3⟩; rw [← HE.out]; rw [← HT.out] at h8; have HY := Lib.hid (R_win h8); have HB3 := Lib.hid hb3; clear h8 hb3)
      have HB23 := Lib.hid (HB2.out.trans (HB3.out.mono HB2.out.size))
      go_wp2_with (first | (go_at_call 24; refine (unfold_v l I.out.bn' I.out.sz (Kd.R_below HAW.out HB23.out)).mono ?_; rintro e w4 ⟨v10, rfl, h10, hb4⟩; rw [← HE.out]; rw [← HT.out] at h10; have HZ := Lib.hid (R_win h10); have HB4 := Lib.hid hb4; clear h10 hb4) | (go_at_call 21; refine (same_v v6 v8 T _ _ _ _ _ (by have := HTL.out; omega) (Kd.R_below HX.out (HB3.out.trans (HB4.out.mono HB3.out.size))) (Kd.R_below HY.out HB4.out)).mono ?_; rintro e w5 ⟨rfl, hb5⟩; have HB5 := Lib.hid hb5; clear hb5) | (go_at_call 22; refine (erratalaw03_spoil.calls ((T.map ofPl).length + 42) (fun j => wr.heap.size ≤ j ∧ j < w2.heap.size) v6 (T.map ofPl) wr _ (HB23.out.trans ((HB4.out.trans (HB5.out.mono HB4.out.size)).mono HB23.out.size)) (Kd.R_below HX.out ((HB3.out.trans (HB4.out.mono HB3.out.size)).trans (HB5.out.mono (Nat.le_trans HB3.out.size HB4.out.size)))) (spoil_f _ (by rw [List.length_map]; have := HTL.out; omega))).mono ?_; rintro e w6 ⟨rfl, hb6, hk6⟩; have HB6 := Lib.hid hb6; have HK6 := Lib.hid hk6; clear hb6 hk6))
      have hz2 := HB2.out.size
      have hz3 := HB3.out.size
      have hz4 := HB4.out.size
      have hz5 := HB5.out.size
      have HB35 := HB4.out.trans (HB5.out.mono hz4)
      have HA6 := Lib.hid (Kd.R_kept (Kd.R_below HAW.out (HB23.out.trans (HB35.mono HB23.out.size))) HK6.out (fun k hk hk2 => by omega))
      have HY6 := Lib.hid (Kd.R_kept (Kd.R_below HY.out HB35) HK6.out (fun k hk hk2 => by omega))
      have HZ6 := Lib.hid (Kd.R_kept (Kd.R_below HZ.out HB5.out) HK6.out (fun k hk hk2 => by omega))
      have HW6 := Lib.hid (HB.out.trans (HB6.out.mono HB.out.size))
      clear HB35 hz2 hz3 hz4 hz5 HAW HY HZ HX HB' HB2 HB3 HB23 HB4 HB5 HB6 HK6 HB
      obtain ⟨A3, c3, hu3, hc3, hC3⟩ := Kd.R_reads HA6.out
      rw [List.length_map, ← I.out.nl] at hu3 hC3
      subst hu3
      have HC3 := Lib.hid hC3
      clear hc3 hC3 HA6 hend hendN
      go_loopg [12] n (fun q s12 wx => ∃ i : Nat, i + q = n ∧ s12 = .int .i64 i ∧ Hid (Below w6.heap.size w6 wx))
      case atStart => exact ⟨0, by omega, rfl, Below.refl _ _⟩
      case round =>
        obtain ⟨i, hi, rfl, HBX⟩ := hrel
        by_cases hq : gk = 0
        · subst hq
          have hend : decide ((i : Int) < (n : Int)) = false := by simp; omega
          have hendN : ¬ i < n := by omega
          go_wp2_with (first | (go_at_call 21; refine (same_v v10 v8 T _ _ _ _ _ (by have := HTL.out; omega) (Kd.R_below HZ6.out HBX.out) (Kd.R_below HY6.out HBX.out)).mono ?_; rintro e w8 ⟨rfl, hb8⟩; have HB8 := Lib.hid (HBX.out.trans (hb8.mono HBX.out.size)); clear hb8) | (go_at_call 23; refine (alive_any _ (I.out.tabs.below (HW6.out.trans (HB8.out.mono HW6.out.size)))).mono ?_; rintro e w9 ⟨rfl, hb9⟩; have HB9 := Lib.hid (HB8.out.trans (hb9.mono HB8.out.size)); clear hb9))
          go_ret
          exact ⟨rfl, HW6.out.trans (HB9.out.mono HW6.out.size)⟩
        · have hlt : decide ((i : Int) < (n : Int)) = true := by simp; omega
          have hlI : (i : Int) < (n : Int) := by omega
          have hlN : i < n := by omega
          have hil : i < l.length := by have := I.out.nl; omega
          obtain ⟨ad3, g, cap, hA3, hy0, hy1, hcap, hCg⟩ := at_RunL (Kd.C_below HC3.out HBX.out) i hlN
          cases hA3
          obtain ⟨ad, A1, c1, hA, hx0, hx1, hc1, hC1⟩ := at_T48 (Kd.C_below I.out.l0 (HW6.out.trans (HBX.out.mono HW6.out.size))) (i : Int) (by omega) (by omega)
          cases hA
          have hrd : rd_T48 l (i : Int) = l[i] := by simp [rd_T48, hil]
          have hre : rd_T50 (l.map toA) (i : Int) = toA l[i] := by simp [rd_T50, hil]
          rw [hrd] at hx0 hx1 hc1 hC1
          rw [hre] at hy0 hy1 hcap hCg
          simp only [Int.toNat_natCast] at hx0 hx1
          obtain ⟨sp, hsp⟩ : ∃ sp, sp = l[i].f0 := ⟨_, rfl⟩
          obtain ⟨tm, htm⟩ : ∃ tm, tm = l[i].f1 := ⟨_, rfl⟩
          obtain ⟨m, hm⟩ : ∃ m, m = sp.length := ⟨_, rfl⟩
          have e0 : (toA l[i]).f0 = sp.map toOwn := by rw [hsp]; rfl
          have e1 : (toA l[i]).f1 = tm := by rw [htm]; rfl
          rw [e0, List.length_map, ← hm] at hy0 hcap hCg
          rw [e1] at hy1
          rw [← hsp, ← hm] at hx0 hc1 hC1
          rw [← htm] at hx1
          have HKP := Lib.hid (fun W (hW : Below wr.heap.size wr W) => kept_n hm (Kd.C_below hCg hW) hcap (Kd.C_below hC1 hW) hc1 (by have := (I.out.sz _ (List.getElem_mem hil)).1; rw [hm, hsp]; omega))
          have HX := Lib.hid (show ∀ W, Below wr.heap.size wr W → W.cell? (ad3.add (i * 2)) = some (.slice (some ⟨g, 0, none⟩) m cap) ∧ W.cell? ⟨(ad3.add (i * 2)).block, (ad3.add (i * 2)).off + 1, none⟩ = some (.int .i64 tm) ∧ W.cell? (ad.add (i * 2)) = some (.slice A1 m c1) ∧ W.cell? ⟨(ad.add (i * 2)).block, (ad.add (i * 2)).off + 1, none⟩ = some (.int .i64 tm) from fun W hW => ⟨(hW.cell (World.block_lt_of_cell? wr _ hy0)).trans hy0, (hW.cell (World.block_lt_of_cell? wr _ hy1)).trans hy1, (hW.cell (World.block_lt_of_cell? wr _ hx0)).trans hx0, (hW.cell (World.block_lt_of_cell? wr _ hx1)).trans hx1⟩)
          have HRF := Lib.hid (Below.refl wr.heap.size wr)
          have HI := Lib.hid hi
          clear hm hsp htm hrd hre e0 e1 hCg hC1 hcap hc1 hi
          go_wp2
          go_region_held3 (fun w' => w'.cell? (ad3.add (i * 2)) = some (.slice (some ⟨g, 0, none⟩) m cap) ∧ w'.cell? ⟨(ad3.add (i * 2)).block, (ad3.add (i * 2)).off + 1, none⟩ = some (.int .i64 tm) ∧ w'.cell? (ad.add (i * 2)) = some (.slice A1 m c1) ∧ w'.cell? ⟨(ad.add (i * 2)).block, (ad.add (i * 2)).off + 1, none⟩ = some (.int .i64 tm)) (exact HX.out _ (by repeat (first | exact HRF.out | assumption | apply below_alloc | apply below_drew1 | apply pw_below_drewN))) (first | (go_at_call 18; refine (HKP.out _ (below_drew1 HRF.out)).mono ?_; rintro e w8 ⟨rfl, hb8⟩; have hb08 : Below wr.heap.size wr w8 := (below_drew1 HRF.out).trans (hb8.mono (below_drew1 HRF.out).size)) | fail)
          have HBE := Lib.hid (HBX.out.trans (hb08.mono HBX.out.size))
          clear hb8 hb08 hy0 hy1 hx0 hx1
          go_wp2
          go_roundg (n - (i + 1))
          case measure => have := HI.out; omega
          case rel => exact ⟨i + 1, by omega, by rw [wrap_succ i (by have := I.out.bn; omega)], HBE.out⟩
    · have hlt : decide ((i : Int) < (n : Int)) = true := by simp; omega
      have hlI : (i : Int) < (n : Int) := by omega
      have hlN : i < n := by omega
      have hil : i < l.length := by have := I.out.nl; omega
      obtain ⟨ad, A1, c1, hA, hx0, hx1, hc1, hC1⟩ := at_T48 I.out.l0 (i : Int) (by omega) (by omega)
      cases hA
      have hrd : rd_T48 l (i : Int) = l[i] := by simp [rd_T48, hil]
      rw [hrd] at hx0 hx1 hc1 hC1
      simp only [Int.toNat_natCast] at hx0 hx1
      obtain ⟨sp, hsp⟩ : ∃ sp, sp = l[i].f0 := ⟨_, rfl⟩
      obtain ⟨tm, htm⟩ : ∃ tm, tm = l[i].f1 := ⟨_, rfl⟩
      obtain ⟨m, hm⟩ : ∃ m, m = sp.length := ⟨_, rfl⟩
      rw [← hsp, ← hm] at hx0 hc1 hC1
      rw [← htm] at hx1
      have HX := Lib.hid (show ∀ W, Below w.heap.size w W → W.cell? (ad.add (i * 2)) = some (.slice A1 m c1) ∧ W.cell? ⟨(ad.add (i * 2)).block, (ad.add (i * 2)).off + 1, none⟩ = some (.int .i64 tm) from fun W hW => ⟨(hW.cell (World.block_lt_of_cell? w _ hx0)).trans hx0, (hW.cell (World.block_lt_of_cell? w _ hx1)).trans hx1⟩)
      obtain ⟨hz0, hz1⟩ := HX.out wr HB.out
      have HM := Lib.hid hm
      have HSP := Lib.hid hsp
      have HTM := Lib.hid htm
      have HC1 := Lib.hid hC1
      have HL1 := Lib.hid hc1
      have HI := Lib.hid hi
      clear hx0 hx1 hm hsp htm hrd hC1 hc1 hi
      go_wp2
      go_region_held3 (fun w' => w'.cell? (ad.add (i * 2)) = some (.slice A1 m c1) ∧ w'.cell? ⟨(ad.add (i * 2)).block, (ad.add (i * 2)).off + 1, none⟩ = some (.int .i64 tm)) (exact HX.out _ (by repeat (first | exact HB.out | assumption | apply below_alloc | apply below_drew1 | apply pw_below_drewN))) (first | (go_at_call 10; refine (lent_n HM.out (Kd.C_below HC1.out (below_drew1 HB.out)) HL1.out (by have := (I.out.sz _ (List.getElem_mem hil)).1; rw [HM.out, HSP.out]; omega)).mono ?_; rintro e w2 ⟨g, cap, rfl, hcap, hg2, hR2, hb2⟩; have HR2 := Lib.hid hR2; have hb02 : Below w.heap.size w w2 := (below_drew1 HB.out).trans (hb2.mono (below_drew1 HB.out).size); clear hR2) | ((refine Kd.R_append_step kRunL (w0 := w) w.heap.size (by rfl) (.tmp 19) (.tmp 32) 45 50 (.agg #[.slice none 0 0, .int .i64 0]) 32 (by rfl) Tryd.underlying45 infoRun (by rfl) (by decide) (by omega) u3 ((l.take i).map toA) (⟨sp.map toOwn, tm⟩ : S50) [.slice (some ⟨g, 0, none⟩) m cap, .int .i64 tm] (fun _ => True) (fun k => wr.drew.heap.size ≤ k ∧ k < w2.heap.size) (by rfl) (by rfl) (elemA tm HM.out HR2.out (below_drew1 HB.out).size) (fun k hk => ⟨trivial, fun e => by have := R_lt HA.out k e.symm; have : wr.heap.size ≤ k := hk.1; omega⟩) (fun _ _ => trivial) (Kd.R_below (Kd.R_drew HA.out) hb2) hb02 hb02.size (by rw [take_len I.out.nl hlN]; have := I.out.bn; omega) ?_; intro v7 w7 hR7 hb07 hg7 _)))
      have hTA : (⟨sp.map toOwn, tm⟩ : S50) = toA l[i] := by rw [HSP.out, HTM.out]; rfl
      have hTB : (⟨sp.map toRef, tm⟩ : S52) = toB l[i] := by rw [HSP.out, HTM.out]; rfl
      rw [hTA, take_snoc hil toA] at hR7
      have HA7 := Lib.hid hR7
      have HB7 := Lib.hid (Kd.R_over (Kd.R_below (Kd.R_drew HB'.out) hb2) (Kd.R_below (Kd.R_drew HA.out) hb2) (by decide) hg7)
      have HBL := Lib.hid hb07
      have HTB := Lib.hid hTB
      obtain ⟨hy0, hy1⟩ := HX.out w7 hb07
      have HC7 := Lib.hid (Kd.C_below HC1.out hb07)
      clear hz0 hz1 hTA hTB hR7 hb07 hg7 hb2 hb02 hg2 hcap HR2 HA HB' HB HC1
      go_wp2
      go_region_held3 (fun w' => w'.cell? (ad.add (i * 2)) = some (.slice A1 m c1) ∧ w'.cell? ⟨(ad.add (i * 2)).block, (ad.add (i * 2)).off + 1, none⟩ = some (.int .i64 tm)) (exact HX.out _ (by repeat (first | exact HBL.out | assumption | apply below_alloc | apply below_drew1 | apply pw_below_drewN))) (first | (go_at_call 13; refine (ref_n HM.out (Kd.C_below HC7.out (below_drew1 (Below.refl _ _))) HL1.out (by have := (I.out.sz _ (List.getElem_mem hil)).1; rw [HM.out, HSP.out]; omega)).mono ?_; rintro e w9 ⟨A9, c9, rfl, hR9, hb9⟩; have HR9 := Lib.hid hR9; have hb09 : Below w.heap.size w w9 := (below_drew1 HBL.out).trans (hb9.mono (below_drew1 HBL.out).size); clear hR9) | ((refine Kd.R_append_step k52 (w0 := w) w.heap.size (by rfl) (.tmp 34) (.tmp 47) 46 52 (.agg #[.slice none 0 0, .int .i64 0]) 32 (by rfl) Tryd.underlying46 infoRRun (by rfl) (by decide) (by omega) u4 ((l.take i).map toB) (⟨sp.map toRef, tm⟩ : S52) [.slice A9 m c9, .int .i64 tm] (fun _ => True) (fun k => w7.drew.heap.size ≤ k ∧ k < w9.heap.size) (by rfl) (by rfl) (elemB tm HM.out HR9.out (below_drew1 HBL.out).size) (fun k hk => ⟨trivial, fun e => by have := R_lt HB7.out k e.symm; have : w7.heap.size ≤ k := hk.1; omega⟩) (fun _ _ => trivial) (Kd.R_below (Kd.R_drew HB7.out) hb9) hb09 hb09.size (by rw [take_len I.out.nl hlN]; have := I.out.bn; omega) ?_; intro v10 w10 hR10 hb010 hg10 _)))
      rw [HTB.out, take_snoc hil toB] at hR10
      have HBF := Lib.hid hR10
      have HAF := Lib.hid (Kd.R_over (Kd.R_below (Kd.R_drew HA7.out) hb9) (Kd.R_below (Kd.R_drew HB7.out) hb9) (by decide) hg10)
      have HBW := Lib.hid hb010
      clear hy0 hy1 hR10 hb010 hg10 hb9 hb09 HR9 HA7 HB7 HC7
      go_wp2
      go_roundg (n - (i + 1))
      case measure => have := HI.out; omega
      case rel => exact ⟨i + 1, by omega, by rw [wrap_succ i (by have := I.out.bn; omega)], HAF.out, HBF.out, HBW.out⟩
end Go.Proofs.YtmgfdcfbjgokgaaDoor
