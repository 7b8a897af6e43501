/- The tree of stacks, IV: 'Meet'. The tree of stacks, VI: 'Stack'. -/
import Derived.Test.YtmgfdcfbjgokgaaDoorTreC
namespace Go.Proofs.YtmgfdcfbjgokgaaDoor
open Go Go.RowKit Go.Proofs.YtmgfdcfbjgokgaaDoorW.PrintWords Go.Proofs.YtmgfdcfbjgokgaaDoorW.PrintLast Go.Proofs.YtmgfdcfbjgokgaaDoor.PL
set_option linter.unusedVariables false
set_option linter.unusedSimpArgs false

def upT (T : Tr) (a : Nat) : Nat := (T.nodes.getD a (0, (⟨#[]⟩, 0))).1
def meetGo (T : Tr) : Nat → Nat → Nat → Nat
  | 0, a, b => a
  | f + 1, a, b => if a = b then a else if b < a then meetGo T f (upT T a) b else meetGo T f a (upT T b)
def meetT (T : Tr) (a b : Int) : Int × Int := if thereT T a && thereT T b then ((meetGo T (a.toNat + b.toNat + 1) a.toNat b.toNat : Nat), 0) else (0, 1)
theorem upT_lt {T : Tr} (hw : T.wf) {a : Nat} (h0 : 0 < a) (ha : a < T.nodes.length) : upT T a < a := by
  have := (hw.ok a h0 ha).2.1
  unfold upT
  rw [List.getD_eq_getElem?_getD, List.getElem?_eq_getElem ha]
  exact this
section
variable {W : World} {g : Nat} {T : Tr} {An Ad : Option Addr} {cn cd mb : Nat}
theorem TreC.up (h : TreC W g T An cn Ad cd mb) {a : Nat} (ha : a < T.nodes.length) : ∃ ad, An = some ad ∧ W.cell? (ad.add (a * 3)) = some (.int .i64 (upT T a : Nat)) := by
  obtain ⟨ad, e, hc, _, _⟩ := at_nd h.nodes a ha ha
  refine ⟨ad, e, ?_⟩
  unfold upT
  rw [hc, List.getD_eq_getElem?_getD, List.getElem?_eq_getElem ha]
  rfl
set_option maxRecDepth 100000 in
set_option maxHeartbeats 3200000 in
theorem Meet_any (h : TreC W g T An cn Ad cd mb) (hw : T.wf) (x y : Int) : Calls Tryd.prog 43 #[.pointer (some ⟨g, 0, none⟩), .int .i64 x, .int .i64 y] W fun e w' => e = .returned (.tuple #[.int .i64 (meetT T x y).1, .int .i64 (meetT T x y).2]) ∧ w' = W := by
  have H := Lib.hid h
  have HW := Lib.hid hw
  have h0 := h.c0
  obtain ⟨M, hM⟩ : ∃ M, M = T.nodes.length := ⟨_, rfl⟩
  rw [← hM] at h0
  have HM := Lib.hid hM
  have hM4 : M ≤ 4096 := by rw [hM]; exact hw.most
  unfold meetT
  cases hx : thereT T x with
  | false =>
    have HX := Lib.hid hx
    clear h h0 hM hw hx
    go_enter Tryd.func43, Tryd.ntmps43
    go_wp2_with (go_at_call 74; (with_reducible refine (there_any H.out x).mono ?_); rintro e w1 ⟨rfl, rfl⟩; rw [HX.out])
    go_ret2
    exact ⟨rfl, rfl⟩
  | true =>
    have HX := Lib.hid hx
    cases hy : thereT T y with
    | false =>
      have HY := Lib.hid hy
      clear h h0 hM hw hx hy
      go_enter Tryd.func43, Tryd.ntmps43
      go_wp2_with (first | (go_at_call 74; (with_reducible refine (there_any H.out x).mono ?_); rintro e w1 ⟨rfl, rfl⟩; rw [HX.out]) | (go_at_call 74; (with_reducible refine (there_any H.out y).mono ?_); rintro e w1 ⟨rfl, rfl⟩; rw [HY.out]))
      go_ret2
      exact ⟨rfl, rfl⟩
    | true =>
      have HY := Lib.hid hy
      have hx2 := of_decide_eq_true hx
      have hy2 := of_decide_eq_true hy
      obtain ⟨a0, rfl⟩ : ∃ i : Nat, x = (i : Int) := ⟨x.toNat, by omega⟩
      obtain ⟨b0, rfl⟩ : ∃ i : Nat, y = (i : Int) := ⟨y.toNat, by omega⟩
      have ha0 : a0 < M := by omega
      have hb0 : b0 < M := by omega
      rw [Int.toNat_natCast, Int.toNat_natCast, show (true && true) = true from rfl, if_pos rfl]
      obtain ⟨R, hR⟩ : ∃ R, R = meetGo T (a0 + b0 + 1) a0 b0 := ⟨_, rfl⟩
      rw [← hR]
      have HR := Lib.hid hR.symm
      clear h hM hw hx hy hx2 hy2 hR
      go_enter Tryd.func43, Tryd.ntmps43
      go_wp2_with (first | (go_at_call 74; (with_reducible refine (there_any H.out (a0 : Int)).mono ?_); rintro e w1 ⟨rfl, rfl⟩; rw [HX.out]) | (go_at_call 74; (with_reducible refine (there_any H.out (b0 : Int)).mono ?_); rintro e w1 ⟨rfl, rfl⟩; rw [HY.out]))
      go_loopg [1, 2] (a0 + b0 + 1) (fun q s1 s2 wx => ∃ a b : Nat, s1 = .int .i64 a ∧ s2 = .int .i64 b ∧ Hid (a < M ∧ b < M ∧ a + b < q) ∧ Hid (meetGo T q a b = R) ∧ wx = w1)
      case atStart => exact ⟨a0, b0, rfl, rfl, Lib.hid ⟨ha0, hb0, by omega⟩, HR, rfl⟩
      case round =>
        obtain ⟨a, b, rfl, rfl, HB, HG, rfl⟩ := hrel
        have hbd := HB.out
        obtain ⟨q, rfl⟩ : ∃ q, gk = q + 1 := ⟨gk - 1, by omega⟩
        have hg := HG.out
        unfold meetGo at hg
        by_cases e : a = b
        · subst e
          rw [if_pos rfl] at hg
          have d1 : ((a : Int) != (a : Int)) = false := by simp
          clear HR HG ha0 hb0 HX HY HB hbd
          go_wp2
          go_ret2
          exact ⟨by rw [hg]; rfl, rfl⟩
        · rw [if_neg e] at hg
          have d1 : ((a : Int) != (b : Int)) = true := by simp; omega
          by_cases l : b < a
          · rw [if_pos l] at hg
            have d2 : decide ((b : Int) < (a : Int)) = true := by simp; omega
            have hlt : decide ((a : Int) < (M : Int)) = true := by simp; omega
            have hul := upT_lt HW.out (a := a) (by omega) (by have := HM.out; omega)
            obtain ⟨ad, rfl, hc⟩ := H.out.up (a := a) (by have := HM.out; omega)
            obtain ⟨U, hU⟩ : ∃ U, U = upT T a := ⟨_, rfl⟩
            rw [← hU] at hc hul hg
            have HG2 := Lib.hid hg
            have HB2 := Lib.hid (show U < M ∧ b < M ∧ U + b < q by omega)
            clear hU hg HG HR HB hul
            go_wp2
            go_roundg q
            case measure => omega
            case rel => exact ⟨U, b, rfl, rfl, HB2, HG2, rfl⟩
          · rw [if_neg l] at hg
            have d2 : decide ((b : Int) < (a : Int)) = false := by simp; omega
            have hlt : decide ((b : Int) < (M : Int)) = true := by simp; omega
            have hul := upT_lt HW.out (a := b) (by omega) (by have := HM.out; omega)
            obtain ⟨ad, rfl, hc⟩ := H.out.up (a := b) (by have := HM.out; omega)
            obtain ⟨U, hU⟩ : ∃ U, U = upT T b := ⟨_, rfl⟩
            rw [← hU] at hc hul hg
            have HG2 := Lib.hid hg
            have HB2 := Lib.hid (show a < M ∧ U < M ∧ a + U < q by omega)
            clear hU hg HG HR HB hul
            go_wp2
            go_roundg q
            case measure => omega
            case rel => exact ⟨a, U, rfl, rfl, HB2, HG2, rfl⟩
end
end Go.Proofs.YtmgfdcfbjgokgaaDoor
namespace Go.Proofs.YtmgfdcfbjgokgaaDoor
open Go Go.RowKit Go.Proofs.YtmgfdcfbjgokgaaDoorW.PrintWords Go.Proofs.YtmgfdcfbjgokgaaDoorW.PrintLast Go.Proofs.YtmgfdcfbjgokgaaDoor.PL
set_option linter.unusedVariables false
set_option linter.unusedSimpArgs false

/-- The places of a node, the innermost first. -/
def pathUp (T : Tr) : Nat → Nat → List Pl
  | 0, _ => []
  | f + 1, n => if n = 0 then [] else (T.nodes.getD n (0, (⟨#[]⟩, 0))).2 :: pathUp T f (upT T n)
def stackT (T : Tr) (n : Nat) : List Pl := (pathUp T n n).reverse
theorem pathUp_fuel {T : Tr} (hw : T.wf) : ∀ (f n : Nat), n < T.nodes.length → n ≤ f → pathUp T f n = pathUp T n n
  | 0, n, _, h => by
    obtain rfl : n = 0 := by omega
    rfl
  | f + 1, n, hn, h => by
    by_cases h0 : n = 0
    · subst h0; rfl
    · obtain ⟨k, rfl⟩ : ∃ k, n = k + 1 := ⟨n - 1, by omega⟩
      have hu := upT_lt hw (a := k + 1) (by omega) hn
      show (if k + 1 = 0 then [] else _) = (if k + 1 = 0 then [] else _)
      rw [if_neg (by omega), if_neg (by omega), pathUp_fuel hw f _ (by omega) (by omega), pathUp_fuel hw k (upT T (k + 1)) (by omega) (by omega)]
theorem path_up {T : Tr} (hw : T.wf) {n : Nat} (h0 : 0 < n) (hn : n < T.nodes.length) : pathUp T n n = (T.nodes.getD n (0, (⟨#[]⟩, 0))).2 :: pathUp T (upT T n) (upT T n) := by
  obtain ⟨k, rfl⟩ : ∃ k, n = k + 1 := ⟨n - 1, by omega⟩
  have hu := upT_lt hw (a := k + 1) (by omega) hn
  show (if k + 1 = 0 then [] else _ :: pathUp T k (upT T (k + 1))) = _
  rw [if_neg (by omega), pathUp_fuel hw k _ (by omega) (by omega)]
theorem TreC.below {W W2 : World} {g : Nat} {T : Tr} {An Ad : Option Addr} {cn cd mb : Nat} (h : TreC W g T An cn Ad cd mb) (hb : Below W.heap.size W W2) : TreC W2 g T An cn Ad cd mb where
  c0 := (hb.cell (World.block_lt_of_cell? W _ h.c0)).trans h.c0
  c1 := (hb.cell (World.block_lt_of_cell? W _ h.c1)).trans h.c1
  c2 := (hb.cell (World.block_lt_of_cell? W _ h.c2)).trans h.c2
  capn := h.capn
  capd := h.capd
  nodes := Kd.C_below h.nodes hb
  deep := Kd.C_below h.deep hb
theorem TreC.node {W : World} {g : Nat} {T : Tr} {An Ad : Option Addr} {cn cd mb : Nat} (h : TreC W g T An cn Ad cd mb) {a : Nat} (ha : a < T.nodes.length) : ∃ ad, An = some ad ∧ W.cell? (ad.add (a * 3)) = some (.int .i64 (upT T a : Nat)) ∧ W.cell? ⟨(ad.add (a * 3)).block, (ad.add (a * 3)).off + 1, none⟩ = some (.string (T.nodes.getD a (0, (⟨#[]⟩, 0))).2.1) ∧ W.cell? ⟨(ad.add (a * 3)).block, (ad.add (a * 3)).off + 2, none⟩ = some (.int .i64 (T.nodes.getD a (0, (⟨#[]⟩, 0))).2.2) := by
  obtain ⟨ad, e, hc, h1, h2⟩ := at_nd h.nodes a ha ha
  have e2 : T.nodes.getD a (0, (⟨#[]⟩, 0)) = T.nodes[a] := by rw [List.getD_eq_getElem?_getD, List.getElem?_eq_getElem ha]; rfl
  unfold upT
  rw [e2]
  exact ⟨ad, e, hc, h1, h2⟩
section
variable {W : World} {g : Nat} {T : Tr} {An Ad : Option Addr} {cn cd mb : Nat}
set_option maxRecDepth 100000 in
set_option maxHeartbeats 3200000 in
theorem Stack_any (h : TreC W g T An cn Ad cd mb) (hw : T.wf) (n : Int) : Calls Tryd.prog 42 #[.pointer (some ⟨g, 0, none⟩), .int .i64 n] W fun e w2 => Below W.heap.size W w2 ∧ ∃ v, e = .returned (.tuple #[v, .int .i64 (if thereT T n then 0 else 1)]) ∧
    Kd.R k60 60 w2 W.heap.size (fun _ => True) v ((if thereT T n then stackT T n.toNat else []).map ofPl) := by
  have H := Lib.hid h
  have HW := Lib.hid hw
  have h0 := h.c0
  have h1 := h.c1
  obtain ⟨M, hM⟩ : ∃ M, M = T.nodes.length := ⟨_, rfl⟩
  rw [← hM] at h0
  rw [hw.len, ← hM] at h1
  have HM := Lib.hid hM
  have hM4 : M ≤ 4096 := by rw [hM]; exact hw.most
  cases hx : thereT T n with
  | false =>
    have HX := Lib.hid hx
    clear h h0 h1 hM hw hx
    go_enter Tryd.func42, Tryd.ntmps42
    go_wp2_with (go_at_call 74; (with_reducible refine (there_any H.out n).mono ?_); rintro e w1 ⟨rfl, rfl⟩; rw [HX.out])
    go_ret2
    exact ⟨Below.refl _ _, _, rfl, Kd.R_nil _ _ _ _ _⟩
  | true =>
    have HX := Lib.hid hx
    have hx2 := of_decide_eq_true hx
    obtain ⟨n0, rfl⟩ : ∃ i : Nat, n = (i : Int) := ⟨n.toNat, by omega⟩
    have hn0 : n0 < M := by omega
    rw [Int.toNat_natCast, if_pos rfl, if_pos rfl]
    have hltM : decide ((n0 : Int) < (M : Int)) = true := by simp; omega
    obtain ⟨add, hAd, hcd⟩ := at_dp h.deep n0 (by rw [hw.len]; omega) (by rw [hw.len]; omega)
    subst hAd
    obtain ⟨V, hV⟩ : ∃ V, V = T.deep[n0]'(by rw [hw.len]; omega) := ⟨_, rfl⟩
    have hV64 : V ≤ 64 := by rw [hV]; exact hw.low _ (List.getElem_mem _)
    rw [← hV] at hcd
    obtain ⟨i0, hi, hz0, hz1, hz2⟩ := info_parts infoPl
    have hmk : ∀ W : World, (Instr.makeSlice 23 (.int .i64 0) (.int .i64 (V : Nat))).run Tryd.prog W = .ok (.slice (some ⟨W.heap.size, 0, none⟩) 0 V) (W.alloc (.cells (madeCells #[.string ⟨#[]⟩, .int .i64 0] (V * 2)) 60)) := fun W => by
      have := run_make (P := Tryd.prog) W 23 60 i0 _ Tryd.underlying23 hi hz0 .i64 .i64 0 (V : Int) (by omega) (by omega) (by rw [hz2]; omega) (by omega)
      rw [hz1] at this
      simpa [Value.cells] using this
    have HI := Lib.hid hi
    have HZ := Lib.hid (And.intro hz0 (And.intro hz1 hz2))
    obtain ⟨PU, hPU⟩ : ∃ PU, PU = pathUp T n0 n0 := ⟨_, rfl⟩
    have HPU := Lib.hid hPU.symm
    have HP0 := Lib.hid (show stackT T n0 = PU.reverse by rw [hPU]; rfl)
    clear h hM hw hx hx2 hV hi hz0 hz1 hz2 hPU
    go_enter Tryd.func42, Tryd.ntmps42
    go_wp2_with (go_at_call 74; (with_reducible refine (there_any H.out (n0 : Int)).mono ?_); rintro e w1 ⟨rfl, rfl⟩; rw [HX.out])
    go_loopg [1, 6] (n0 + 1) (fun q s1 s6 wx => ∃ (n : Nat) (pre : List Pl), s1 = .int .i64 n ∧ Hid (n < q ∧ n < M ∧ pre.length + n ≤ n0) ∧ Hid (pre ++ pathUp T n n = PU) ∧ Hid (wx.ownsRow w1.heap.size 60 2 s6 pre.length (cellsPl pre)) ∧ Hid (∃ g6 c6, s6 = .slice (some ⟨g6, 0, none⟩) pre.length c6) ∧ Hid (Below w1.heap.size w1 wx))
    case atStart => exact ⟨n0, [], rfl, Lib.hid ⟨by omega, hn0, by simp⟩, HPU, Lib.hid (World.ownsRow_made _ _ _ (Nat.le_refl _) (by simp only [maxLen]; omega) (by simp [madeCells])), Lib.hid ⟨_, _, rfl⟩, Lib.hid ((Below.refl _ _).alloc (Nat.le_refl _) _)⟩
    case round =>
      obtain ⟨n, pre, rfl, HB, HP, HROW, HFM, HBW⟩ := hrel
      have hbd := HB.out
      obtain ⟨q, rfl⟩ : ∃ q, gk = q + 1 := ⟨gk - 1, by omega⟩
      by_cases hn : n = 0
      · have hP := HP.out
        rw [hn] at hP
        simp only [pathUp, List.append_nil] at hP
        subst hP
        have d1 : decide (0 < (n : Int)) = false := by simp; omega
        have d2 : ¬ 0 < n := by omega
        clear HP
        obtain ⟨g6, c6, hf⟩ := HFM.out
        rcases HROW.out.2 with ⟨hz, _⟩ | ⟨g7, cap, cur, hv, hgb, hgh, hnc, hcm, hsz, htk⟩
        · rw [hz] at hf
          cases hf
        rw [hv] at hf
        cases hf
        subst hv
        obtain ⟨more, hmore⟩ : ∃ more, cur = (cellsPl pre ++ more).toArray := ⟨cur.toList.drop (pre.length * 2), by rw [← htk, List.take_append_drop]⟩
        have HGH := Lib.hid hgh
        have HMO := Lib.hid hmore
        have HSZ := Lib.hid hsz
        have HGB := Lib.hid hgb
        have HCM := Lib.hid hcm
        have HNC := Lib.hid hnc
        have hpl : pre.length ≤ 4096 := by omega
        clear hgh hmore htk hsz hgb hcm hnc HFM HROW hmk h0 h1 hcd
        go_wp2_with (go_at_call 54; refine (Reverse_any g6 c6 pre more _ (by omega) (by rw [HGH.out, HMO.out])).mono ?_; rintro e w3 ⟨rfl, hr3, hg3⟩; have HR3 := Lib.hid hr3; have HG3 := Lib.hid hg3; clear hr3 hg3)
        go_ret2
        refine ⟨HBW.out.grown HG3.out HBW.out.size (fun q e => by cases e; exact HGB.out), _, rfl, ?_⟩
        rw [HP0.out]
        refine R_of_own ?_
        have e9 : (cellsPl pre.reverse).length = pre.length * 2 := by rw [cellsPl_len, List.length_reverse]
        refine ⟨by rw [e9, List.length_reverse],   .inr ⟨g6, c6, _, by rw [List.length_reverse]; rfl, HGB.out, HR3.out, by rw [List.length_reverse]; exact HNC.out, HCM.out, ?_, ?_⟩⟩
        · have h5 := HSZ.out
          rw [HMO.out] at h5
          simp only [List.size_toArray, List.length_append] at h5 ⊢
          rw [cellsPl_len] at h5 ⊢
          rw [List.length_reverse]
          exact h5
        · rw [List.length_reverse, ← e9]; simp
      · have d1 : decide (0 < (n : Int)) = true := by simp; omega
        have hltN : decide ((n : Int) < (M : Int)) = true := by simp; omega
        obtain ⟨ad, hAd, hx0, hx1, hx2⟩ := H.out.node (a := n) (by have := HM.out; omega)
        subst hAd
        have hu := upT_lt HW.out (a := n) (by omega) (by have := HM.out; omega)
        have hp := HP.out
        rw [path_up HW.out (by omega) (by have := HM.out; omega)] at hp
        obtain ⟨U, hU⟩ : ∃ U, U = upT T n := ⟨_, rfl⟩
        obtain ⟨X, hX⟩ : ∃ X, X = (T.nodes.getD n (0, (⟨#[]⟩, 0))).2 := ⟨_, rfl⟩
        rw [← hU] at hx0 hu hp
        rw [← hX] at hx1 hx2 hp
        have HP2 := Lib.hid hp
        have c0 := (HBW.out.cell (World.block_lt_of_cell? w1 _ h0)).trans h0
        have y0 := (HBW.out.cell (World.block_lt_of_cell? w1 _ hx0)).trans hx0
        have y1 := (HBW.out.cell (World.block_lt_of_cell? w1 _ hx1)).trans hx1
        have y2 := (HBW.out.cell (World.block_lt_of_cell? w1 _ hx2)).trans hx2
        have HX0 := Lib.hid hx0
        have HC0 := Lib.hid h0
        have hge := owns_ge HROW.out
        have HGE := Lib.hid hge
        clear hU hX hp HP hx0 hx1 hx2 hge h0
        have hlen : pre.length ≤ 4096 := by omega
        go_wp2_with (at_builtin; refine wpList_append_own _ rfl _ _ 23 rfl w1.heap.size 60 i0 (.agg #[.string ⟨#[]⟩, .int .i64 0]) 2 24 Tryd.underlying23 HI.out HZ.out.1 HZ.out.2.1 HZ.out.2.2 rfl (by decide) _ _ _ rfl (HROW.out.alloc _) ⟨wr.heap.size, 0, none⟩ 1 1 [.string X.1, .int .i64 X.2] rfl rfl (cell_two_new _ _ _ _) (by simp [Value.oneCell']) (by unfold maxLen; omega) (by omega) (by have := HBW.out.size; simp; omega) ?_; intro v' w6 hown6 hgrow6 _; have HO6 := Lib.hid hown6; have hg6 : (wr.alloc (.cells #[.string X.1, .int .i64 X.2] 60)).grownBy w6 u6.ownBlock := hgrow6; have HB6 := Lib.hid ((HBW.out.alloc HBW.out.size _).grown hg6 (by have := HBW.out.size; simp; omega) HGE.out); have c6 := (HB6.out.cell (World.block_lt_of_cell? w1 _ HC0.out)).trans HC0.out; have y6 := (HB6.out.cell (World.block_lt_of_cell? w1 _ HX0.out)).trans HX0.out; clear hown6 hgrow6 hg6)
        have h3 := HO6.out
        have hl6 : (pre ++ [X]).length = pre.length + 1 := by simp
        have hc6 : cellsPl (pre ++ [X]) = cellsPl pre ++ [.string X.1, .int .i64 X.2] := by rw [cellsPl_append]; rfl
        go_roundg q
        case measure => omega
        case rel =>
          refine ⟨U, pre ++ [X], rfl, Lib.hid ⟨by omega, by omega, by rw [hl6]; omega⟩, Lib.hid (by rw [List.append_assoc]; exact HP2.out), Lib.hid (by rw [hl6, hc6]; exact h3), Lib.hid ?_, HB6⟩
          obtain ⟨g8, c8, e8, _, _⟩ := h3.form (by omega)
          exact ⟨g8, c8, by rw [hl6]; exact e8⟩
end
end Go.Proofs.YtmgfdcfbjgokgaaDoor
