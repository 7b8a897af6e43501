/- The reference's tree, owned: 'New', 'Push'. The reference's 'From'. -/
import Derived.Test.YtmgfdcfbjgokgaaDoorRTold
import Derived.Test.YtmgfdcfbjgokgaaDoorTrePush
namespace Go.Proofs.YtmgfdcfbjgokgaaDoor
open Go Go.RowKit Go.Proofs.YtmgfdcfbjgokgaaDoorW.PrintWords Go.Proofs.YtmgfdcfbjgokgaaDoorW.PrintLast Go.Proofs.YtmgfdcfbjgokgaaDoor.PL
set_option linter.unusedVariables false
set_option linter.unusedSimpArgs false

/-- The reference's tree that is owned. -/
structure RefW (W : World) (base g : Nat) (An : Option Addr) (cn : Nat) (T : Tr) : Prop where
  box : W.heap[g]? = some (.cells #[.slice An (T.nodes.length - 1) cn] 126)
  nodes : Kd.R kNd 149 W base (fun k => k ≠ g) (.slice An (T.nodes.length - 1) cn) (T.nodes.drop 1)
  wf : T.wf
  low : base ≤ g
section
variable {W W2 : World} {base g : Nat} {T : Tr} {An : Option Addr} {cn : Nat}
theorem RefW.C (h : RefW W base g An cn T) : RefC W g T An cn where
  c0 := by simp [World.cell?, h.box]
  capn := (R_rdl (by rw [List.length_drop]) h.nodes).1
  nodes := (R_rdl (by rw [List.length_drop]) h.nodes).2
theorem RefW.lt (h : RefW W base g An cn T) : g < W.heap.size := (Array.getElem?_eq_some_iff.1 h.box).1
theorem RefW.below (h : RefW W base g An cn T) (hb : Below W.heap.size W W2) : RefW W2 base g An cn T where
  box := by
    rw [hb.block g h.lt]
    exact h.box
  nodes := Kd.R_below h.nodes hb
  wf := h.wf
  low := h.low
set_option maxRecDepth 100000 in
theorem rNew_any (W : World) : Calls Tryd.prog 66 #[] W fun e w' => ∃ g, e = .returned (.pointer (some ⟨g, 0, none⟩)) ∧ RefW w' W.heap.size g none 0 newT ∧ Below W.heap.size W w' := by
  go_enter Tryd.func66, Tryd.ntmps66
  go_wp2
  go_ret
  exact ⟨W.heap.size, rfl, ⟨heap_alloc_new W _, Kd.R_nil _ _ _ _ _, newT_wf, Nat.le_refl _⟩, (Below.refl _ _).alloc (Nat.le_refl _) _⟩
theorem rmay_any (p : Pl) (w : World) : Calls Tryd.prog 50 #[.agg #[.string p.1, .int .i64 p.2]] w fun e w' => e = .returned (.bool (mayB p.1 p.2)) ∧ Below w.heap.size w w' :=
  errataref03_May.calls 124 p.1 p.2 _ w (rmay_f p.1 p.2 124 (by omega))
theorem findN_cons (r : Nd) (l : List Nd) (x : Nd) : findN (r :: l) x = if r = x then some 0 else (findN l x).map (· + 1) := by
  unfold findN
  rw [List.findIdx?_cons]
  by_cases h : r = x
  · simp [h]
  · simp [h]
theorem root_cons {T : Tr} (hw : T.wf) : T.nodes = (0, (⟨#[]⟩, 0)) :: T.nodes.drop 1 := by
  have h1 := hw.one
  have hr := hw.root
  cases h : T.nodes with
  | nil => rw [h] at h1; simp at h1
  | cons a l =>
    rw [h] at hr
    simp only [List.getD_cons_zero] at hr
    rw [hr]
    rfl
theorem find_drop {T : Tr} (hw : T.wf) {i : Nat} {p : Pl} (hp : mayB p.1 p.2 = true) : findN T.nodes (i, p) = (findN (T.nodes.drop 1) (i, p)).map (· + 1) := by
  rw [root_cons hw, findN_cons, if_neg]
  · rfl
  · intro h
    rw [Prod.mk.injEq] at h
    rw [← h.2] at hp
    exact absurd hp (by decide)
theorem info_rnd : (Tryd.prog.info? 149).map (fun i => (i.zero, i.size, i.bytes)) = some (some (.agg #[.int .i64 0, .string ⟨#[]⟩, .int .i64 0]), 3, 32) := by kernel_rfl
/-- What 'Push' leaves. -/
def RPushIs (base g : Nat) (T : Tr) (n : Int) (p : Pl) (W : World) (e : Ending) (w2 : World) : Prop :=
  ∃ An2 cn2, e = .returned (.tuple #[.int .i64 (pushT T n p).1.1, .int .i64 (pushT T n p).1.2]) ∧ RefW w2 base g An2 cn2 (pushT T n p).2 ∧ Below base W w2
/-- All that is carried. -/
structure PSt (W w : World) (base g : Nat) (An : Option Addr) (cn : Nat) (T : Tr) (b : Nat) (p : Pl) : Prop where
  ref : RefW w base g An cn T
  p0 : w.cell? ⟨b, 0, none⟩ = some (.string p.1)
  p1 : w.cell? ⟨b, 1, none⟩ = some (.int .i64 p.2)
  below : Below base W w
theorem PSt.step {W w w2 : World} {b : Nat} {p : Pl} (S : PSt W w base g An cn T b p) (hb : Below w.heap.size w w2) (hbase : base ≤ W.heap.size) : PSt W w2 base g An cn T b p :=
  ⟨S.ref.below hb, (hb.cell (World.block_lt_of_cell? _ _ S.p0)).trans S.p0, (hb.cell (World.block_lt_of_cell? _ _ S.p1)).trans S.p1, S.below.trans (hb.mono (by have := S.below.size; omega))⟩
theorem PSt.begin {p : Pl} (h : RefW W base g An cn T) (hbase : base ≤ W.heap.size) : PSt W (W.alloc (.cells #[.string p.1, .int .i64 p.2] 95)) base g An cn T W.heap.size p :=
  ⟨h.below (below_alloc (Below.refl _ _) _), (cell_of_row _ _ 0 _ _ _ (heap_alloc_new W _)).trans rfl, (cell_of_row _ _ 1 _ _ _ (heap_alloc_new W _)).trans rfl, ((Below.refl _ _).alloc hbase _)⟩
set_option maxRecDepth 100000 in
set_option maxHeartbeats 3200000 in
theorem rPush_any (h : RefW W base g An cn T) (n : Int) (p : Pl) (hbase : base ≤ W.heap.size) : Calls Tryd.prog 67 #[.pointer (some ⟨g, 0, none⟩), .int .i64 n, .agg #[.string p.1, .int .i64 p.2]] W (RPushIs base g T n p W) := by
  have HB := Lib.hid hbase
  have HW := Lib.hid h.wf
  have S0 := Lib.hid (PSt.begin (p := p) h hbase)
  have h4 := h.wf.most
  have h5 := h.wf.one
  unfold RPushIs
  cases ht : thereT T n with
  | false =>
    have HT := Lib.hid ht
    have HP : pushT T n p = ((0, 1), T) := by
      unfold pushT
      rw [if_pos]
      intro hn
      unfold thereT at ht
      exact absurd (decide_eq_true hn) (by rw [ht]; decide)
    rw [HP]
    clear h ht HP hbase
    go_enter Tryd.func67, Tryd.ntmps67
    go_wp2_with (go_at_call 89; (with_reducible refine (rthere_any S0.out.ref.C HW.out n).mono ?_); rintro e w1 ⟨rfl, rfl⟩; rw [HT.out])
    go_ret2
    exact ⟨An, cn, rfl, S0.out.ref, S0.out.below⟩
  | true =>
    have HT := Lib.hid ht
    have ht2 := of_decide_eq_true ht
    obtain ⟨i, rfl⟩ : ∃ i : Nat, n = (i : Int) := ⟨n.toNat, by omega⟩
    have hi : i < T.nodes.length := by omega
    cases hm : mayB p.1 p.2 with
    | false =>
      have HM := Lib.hid hm
      have HP : pushT T (i : Int) p = ((0, 30), T) := by
        unfold pushT
        rw [if_neg (by omega), if_pos hm]
      rw [HP]
      clear h ht ht2 hm HP hbase
      go_enter Tryd.func67, Tryd.ntmps67
      go_wp2_with (first | (go_at_call 89; (with_reducible refine (rthere_any S0.out.ref.C HW.out (i : Int)).mono ?_); rintro e w1 ⟨rfl, rfl⟩; rw [HT.out]; have hp0 := S0.out.p0; have hp1 := S0.out.p1) | (go_at_call 50; (with_reducible refine (rmay_any p _).mono ?_); rintro e w2 ⟨rfl, hb⟩; have S2 := Lib.hid (S0.out.step hb HB.out); clear hb hp0 hp1; rw [HM.out]))
      go_ret2
      exact ⟨An, cn, rfl, S2.out.ref, S2.out.below⟩
    | true =>
      have HM := Lib.hid hm
      have hdp : depthT T (i : Int) = (T.deep.getD i 0 : Nat) := by unfold depthT; rw [ht, if_pos rfl, Int.toNat_natCast]
      obtain ⟨V, hV⟩ : ∃ V, V = T.deep.getD i 0 := ⟨_, rfl⟩
      rw [← hV] at hdp
      have HDP := Lib.hid hdp
      by_cases hd : 64 ≤ V
      · have HP : pushT T (i : Int) p = ((0, 31), T) := by
          unfold pushT
          rw [if_neg (by omega), if_neg (by rw [hm]; decide), Int.toNat_natCast, if_pos (by omega)]
        rw [HP]
        have hge : decide (64 ≤ (V : Int)) = true := decide_eq_true (by omega)
        clear h ht ht2 hm HP hbase hV hdp
        go_enter Tryd.func67, Tryd.ntmps67
        go_wp2_with (first | (go_at_call 89; (with_reducible refine (rthere_any S0.out.ref.C HW.out (i : Int)).mono ?_); rintro e w1 ⟨rfl, rfl⟩; rw [HT.out]; have hp0 := S0.out.p0; have hp1 := S0.out.p1) | (go_at_call 50; (with_reducible refine (rmay_any p _).mono ?_); rintro e w2 ⟨rfl, hb⟩; have S2 := Lib.hid (S0.out.step hb HB.out); clear hb hp0 hp1; rw [HM.out]) | (go_at_call 72; (with_reducible refine (rDepth_any S2.out.ref.C HW.out (i : Int)).mono ?_); rintro e w3 ⟨rfl, rfl⟩; rw [HDP.out]))
        go_ret2
        exact ⟨An, cn, rfl, S2.out.ref, S2.out.below⟩
      · have hge : decide (64 ≤ (V : Int)) = false := decide_eq_false (by omega)
        obtain ⟨L, hL⟩ : ∃ L, L = T.nodes.length - 1 := ⟨_, rfl⟩
        have hL4 : L ≤ 4096 := by omega
        have HL := Lib.hid hL
        have HPP := Lib.hid (show pushT T (i : Int) p = (match findN T.nodes (i, p) with | some i => (((i : Nat), 0), T) | none => if 4096 ≤ T.nodes.length then ((0, 3), T) else ((T.nodes.length, 0), ⟨T.nodes ++ [(i, p)], T.deep ++ [V + 1]⟩)) by
          unfold pushT
          rw [if_neg (by omega), if_neg (by rw [hm]; decide), Int.toNat_natCast, if_neg (by omega), ← hV]
          rfl)
        have HFD := Lib.hid (find_drop h.wf (i := i) hm)
        have hdl : (T.nodes.drop 1).length = L := by rw [List.length_drop, ← hL]
        have HDL := Lib.hid hdl
        clear h ht ht2 hm hbase hV hdp hdl hL
        go_enter Tryd.func67, Tryd.ntmps67
        go_wp2_with (first | (go_at_call 89; (with_reducible refine (rthere_any S0.out.ref.C HW.out (i : Int)).mono ?_); rintro e w1 ⟨rfl, rfl⟩; rw [HT.out]; have hp0 := S0.out.p0; have hp1 := S0.out.p1) | (go_at_call 50; (with_reducible refine (rmay_any p _).mono ?_); rintro e w2 ⟨rfl, hb⟩; have S2 := Lib.hid (S0.out.step hb HB.out); clear hb hp0 hp1; rw [HM.out]) | (go_at_call 72; (with_reducible refine (rDepth_any S2.out.ref.C HW.out (i : Int)).mono ?_); rintro e w3 ⟨rfl, rfl⟩; rw [HDP.out]))
        go_loopg [8] (L + 1) (fun q s8 wx => ∃ k : Nat, k + q = L + 1 ∧ 1 ≤ q ∧ s8 = .int .i64 k ∧ Hid (PSt W wx base g An cn T W.heap.size p) ∧ Hid (findN ((T.nodes.drop 1).take k) (i, p) = none))
        case atStart => exact ⟨0, by omega, by omega, rfl, S2, Lib.hid rfl⟩
        case round =>
          clear S0 S2
          obtain ⟨k, hkq, hq1, rfl, SX, HF⟩ := hrel
          obtain ⟨q, rfl⟩ : ∃ q, gk = q + 1 := ⟨gk - 1, by omega⟩
          have c0 := SX.out.ref.C.c0
          rw [← HL.out] at c0
          by_cases hlt : k < L
          · have d1 : decide ((k : Int) < (L : Int)) = true := decide_eq_true (by omega)
            obtain ⟨ad, hAd, y0, y1, y2⟩ := SX.out.ref.C.node (k := k) (by have := HL.out; omega)
            subst hAd
            have hp0 := SX.out.p0
            have hp1 := SX.out.p1
            obtain ⟨X, hX⟩ : ∃ X, X = (T.nodes.drop 1)[k]'(by rw [HDL.out]; exact hlt) := ⟨_, rfl⟩
            have hX2 : T.nodes.getD (k + 1) (0, (⟨#[]⟩, 0)) = X := by
              rw [hX, List.getElem_drop, List.getD_eq_getElem?_getD, List.getElem?_eq_getElem (by have := HL.out; omega)]
              simp only [Option.getD_some]
              congr 1
              omega
            unfold upT at y0
            rw [hX2] at y0 y1 y2
            have hsn : (T.nodes.drop 1).take (k + 1) = (T.nodes.drop 1).take k ++ [X] := by rw [List.take_succ_eq_append_getElem (by rw [HDL.out]; exact hlt), hX]
            have HSN := Lib.hid hsn
            obtain ⟨U, Sx, Z⟩ := X
            obtain ⟨pn, pl⟩ := p
            simp only at y0 y1 y2 hp0 hp1
            have hu1 := Tryd.underlying149
            have hu2 := Tryd.underlying95
            clear hX hX2 hsn
            by_cases hE : (U, Sx, Z) = (i, pn, pl)
            · simp only [Prod.mk.injEq] at hE
              obtain ⟨rfl, rfl, rfl⟩ := hE
              have hf : findN (T.nodes.drop 1) (U, Sx, Z) = some k := by
                have e := findN_snoc ((T.nodes.drop 1).take k) (U, Sx, Z) (U, Sx, Z)
                rw [if_pos rfl, ← HSN.out, HF.out, List.length_take, Nat.min_eq_left (by rw [HDL.out]; omega)] at e
                have e2 : T.nodes.drop 1 = (T.nodes.drop 1).take (k + 1) ++ (T.nodes.drop 1).drop (k + 1) := by rw [List.take_append_drop]
                rw [e2]
                unfold findN at e ⊢
                rw [List.findIdx?_append, e]
                rfl
              have hpp := HPP.out
              rw [HFD.out, hf] at hpp
              simp only [Option.map_some] at hpp
              have HPQ := Lib.hid hpp
              clear hpp hf HFD HPP HF HSN
              go_wp2
              go_quiet (fail)
              go_wp2
              go_ret2
              rw [HPQ.out]
              have S9 := SX.out.step (pw_below_drewN (Below.refl _ _) nq) HB.out
              exact ⟨_, cn, by first | rfl | (congr 4; go_num), S9.ref, S9.below⟩
            · have hF2 : findN ((T.nodes.drop 1).take (k + 1)) (i, pn, pl) = none := by
                rw [HSN.out, findN_snoc, HF.out, if_neg hE]
                rfl
              have HF2 := Lib.hid hF2
              have hc : (¬ ((U : Int) = (i : Int)) ∧ ¬ U = i) ∨ (U = i ∧ ¬ (Sx.toList = pn.toList)) ∨ (U = i ∧ Sx = pn ∧ ¬ Z = pl) := by
                by_cases e1 : U = i
                · right
                  by_cases e2 : Sx = pn
                  · right
                    exact ⟨e1, e2, fun e3 => hE (by rw [e1, e2, e3])⟩
                  · left
                    refine ⟨e1, fun e3 => e2 ?_⟩
                    rw [ByteArray.toList_eq, ByteArray.toList_eq] at e3
                    exact ByteArray.ext (Array.ext' e3)
                · left
                  exact ⟨by omega, e1⟩
              clear hF2 HF HSN hE HPP HFD
              rcases hc with ⟨e1, e2⟩ | ⟨rfl, e2⟩ | ⟨rfl, rfl, e2⟩
              all_goals (
                go_wp2
                go_quiet (fail)
                go_wp2
                go_roundg q
                case measure => omega
                case rel => exact ⟨k + 1, by omega, by omega, by first | rfl | go_num, Lib.hid (SX.out.step (pw_below_drewN (Below.refl _ _) nq) HB.out), HF2⟩)
          · obtain rfl : k = L := by omega
            have d1 : decide ((k : Int) < (k : Int)) = false := by simp
            have hf := HF.out
            rw [List.take_of_length_le (by rw [HDL.out]; exact Nat.le_refl _)] at hf
            have hpp := HPP.out
            rw [HFD.out, hf] at hpp
            simp only [Option.map_none] at hpp
            by_cases hfull : 4096 ≤ T.nodes.length
            · rw [if_pos hfull] at hpp
              have HPQ := Lib.hid hpp
              have dF : decide (4096 ≤ (T.nodes.length : Int)) = true := decide_eq_true (by omega)
              clear hpp hf HFD HPP HF
              go_wp2_with (go_at_call 35; (with_reducible refine (rLen_any SX.out.ref.C HW.out).mono ?_); rintro e w9 ⟨rfl, rfl⟩)
              go_ret2
              rw [HPQ.out]
              exact ⟨An, cn, rfl, SX.out.ref, SX.out.below⟩
            · rw [if_neg hfull] at hpp
              have HPQ := Lib.hid hpp
              have dF : decide (4096 ≤ (T.nodes.length : Int)) = false := decide_eq_false (by omega)
              have hp0 := SX.out.p0
              have hp1 := SX.out.p1
              clear hpp hf HFD HPP HF
              go_wp2_with (go_at_call 35; (with_reducible refine (rLen_any SX.out.ref.C HW.out).mono ?_); rintro e w9 ⟨rfl, rfl⟩)
              refine start_ (n := 13) (S := fun W2 => W2.cell? ⟨g, 0, none⟩ = some (.slice An k cn) ∧ W2.cell? ⟨W.heap.size, 0, none⟩ = some (.string p.1) ∧ W2.cell? ⟨W.heap.size, 1, none⟩ = some (.int .i64 p.2)) (ds := [9, 12]) #[false, false, false, false, false, false, false, false, false, false, false, false, false] (by kernel_rfl) rfl rfl ⟨c0, hp0, hp1⟩ (fun hHeld => ?_)
              have SD := Lib.hid (SX.out.step ((Below.refl _ _).drew) HB.out)
              generalize w9.drew = wd at hHeld SD ⊢
              have HRD := Lib.hid (show Kd.R kNd 149 wd base (fun k => k ≠ g) (.slice An k cn) (T.nodes.drop 1) by have h_ := SD.out.ref.nodes; rw [← HL.out] at h_; exact h_)
              clear SX c0 hp0 hp1
              refine pure_ (i := 0) (N := some 47) (v := ?_) (a' := ?_) #[true, false, false, false, false, false, false, false, false, false, false, false, false] rfl rfl (by kernel_rfl) (fun _ _ _ h => h) (Or.inl ⟨by rfl, ?_⟩) ?_ ?_
              rotate_left
              · intro w'
                go_simp
                with_reducible rfl
              rotate_left
              · simp only [Act.put, List.setIfInBounds_toArray, List.set_cons_zero, List.set_cons_succ, i64_w, i32_w]
                rfl
              refine pure_ (i := 1) (N := some 48) (v := ?_) (a' := ?_) #[true, true, false, false, false, false, false, false, false, false, false, false, false] rfl rfl (by kernel_rfl) (fun _ _ _ h => h) (Or.inl ⟨by rfl, ?_⟩) ?_ ?_
              rotate_left
              · intro w'
                go_simp
                with_reducible rfl
              rotate_left
              · simp only [Act.put, List.setIfInBounds_toArray, List.set_cons_zero, List.set_cons_succ, i64_w, i32_w]
                rfl
              refine pure_ (i := 2) (N := some 49) (v := ?_) (a' := ?_) #[true, true, true, false, false, false, false, false, false, false, false, false, false] rfl rfl (by kernel_rfl) (fun _ _ _ h => h) (Or.inl ⟨by rfl, ?_⟩) ?_ ?_
              rotate_left
              · intro w'
                go_simp
                with_reducible rfl
              rotate_left
              · simp only [Act.put, List.setIfInBounds_toArray, List.set_cons_zero, List.set_cons_succ, i64_w, i32_w]
                rfl
              refine pure_ (i := 3) (N := some 50) (v := ?_) (a' := ?_) #[true, true, true, true, false, false, false, false, false, false, false, false, false] rfl rfl (by kernel_rfl) (fun _ _ _ h => h) (Or.inl ⟨by rfl, ?_⟩) ?_ ?_
              rotate_left
              · intro w'
                go_simp
                with_reducible rfl
              rotate_left
              · simp only [Act.put, List.setIfInBounds_toArray, List.set_cons_zero, List.set_cons_succ, i64_w, i32_w]
                rfl
              refine take_ (i := 4) (N := some 51) (v := ?_) (a' := ?_) #[true, true, true, true, true, false, false, false, false, false, false, false, false] rfl rfl (by kernel_rfl) (fun _ _ _ h => h) (Or.inl ⟨by rfl, ?_⟩) hHeld ?_ ?_
              rotate_left
              · rintro w' ⟨s0, s1, s2⟩
                go_simp
                with_reducible rfl
              rotate_left
              · simp only [Act.put, List.setIfInBounds_toArray, List.set_cons_zero, List.set_cons_succ, i64_w, i32_w]
                rfl
              refine pure_ (i := 5) (N := some 52) (v := ?_) (a' := ?_) #[true, true, true, true, true, true, false, false, false, false, false, false, false] rfl rfl (by kernel_rfl) (fun _ _ _ h => h) (Or.inl ⟨by rfl, ?_⟩) ?_ ?_
              rotate_left
              · intro w'
                go_simp
                with_reducible rfl
              rotate_left
              · simp only [Act.put, List.setIfInBounds_toArray, List.set_cons_zero, List.set_cons_succ, i64_w, i32_w]
                rfl
              refine take_ (i := 6) (N := some 53) (v := ?_) (a' := ?_) #[true, true, true, true, true, true, true, false, false, false, false, false, false] rfl rfl (by kernel_rfl) (fun _ _ _ h => h) (Or.inl ⟨by rfl, ?_⟩) hHeld ?_ ?_
              rotate_left
              · rintro w' ⟨s0, s1, s2⟩
                go_simp
                with_reducible rfl
              rotate_left
              · simp only [Act.put, List.setIfInBounds_toArray, List.set_cons_zero, List.set_cons_succ, i64_w, i32_w]
                rfl
              refine pure_ (i := 7) (N := some 54) (v := ?_) (a' := ?_) #[true, true, true, true, true, true, true, true, false, false, false, false, false] rfl rfl (by kernel_rfl) (fun _ _ _ h => h) (Or.inl ⟨by rfl, ?_⟩) ?_ ?_
              rotate_left
              · intro w'
                go_simp
                with_reducible rfl
              rotate_left
              · simp only [Act.put, List.setIfInBounds_toArray, List.set_cons_zero, List.set_cons_succ, i64_w, i32_w]
                rfl
              refine one_ (i := 8) (N := some 55) #[true, true, true, true, true, true, true, true, true, false, false, false, false] rfl rfl (by kernel_rfl) (by decide) (fun K hK => ?_)
              refine value_ (w1 := ?_) (v := ?_) (by rfl) rfl ?_ ?_
              rotate_left 2
              · go_simp
                constructor <;> rfl
              have b8 := below_alloc (Below.refl wd.heap.size wd) (.cells #[.int .i64 (i : Nat), .string p.1, .int .i64 p.2] 149)
              refine hK.out _ _ ⟨(b8.cell (World.block_lt_of_cell? _ _ hHeld.1)).trans hHeld.1, (b8.cell (World.block_lt_of_cell? _ _ hHeld.2.1)).trans hHeld.2.1, (b8.cell (World.block_lt_of_cell? _ _ hHeld.2.2)).trans hHeld.2.2⟩ (fun hHeld => ?_)
              clear hK K b8
              refine norm_ (a' := ?_) ?_ ?_
              rotate_left
              · show Act.put _ (some 55) _ = _
                simp only [Act.put, List.setIfInBounds_toArray, List.set_cons_zero, List.set_cons_succ, i64_w, i32_w]
                rfl
              refine last_ (i := 9) (N := some 56) #[true, true, true, true, true, true, true, true, true, true, false, false, false] rfl rfl (by kernel_rfl) (by decide) (fun K hK => ?_)
              refine Kd.R_append_step kNd (w0 := W) (W := wd) base (by rfl) (.tmp 51) (.tmp 55) 124 149 (.agg #[.int .i64 0, .string ⟨#[]⟩, .int .i64 0]) 32 rfl Tryd.underlying124 info_rnd rfl (by decide) (by omega) (.slice An k cn) (T.nodes.drop 1) ((i, p) : Nd) [.int .i64 (i : Nat), .string p.1, .int .i64 p.2] (fun k => k ≠ g) (fun _ => False) rfl rfl (kNd_mkM _ _ _ ((i, p) : Nd)) (fun _ hk => hk.elim) (fun x hx => by have := SD.out.ref.lt; show x ≠ g; omega) HRD.out SD.out.below (by have := SD.out.below.size; have := HB.out; omega) (by rw [HDL.out]; omega) ?_
              intro v9 w10 hR9 hb9 hg9 _
              have hg10 : w10.heap[g]? = wd.heap[g]? := hg9.block g SD.out.ref.lt (fun e => (HRD.out.1 g e.symm) rfl)
              have hbox : w10.heap[g]? = some (.cells #[.slice An k cn] 126) := by rw [hg10, SD.out.ref.box, ← HL.out]
              have hc10 : w10.cell? ⟨g, 0, none⟩ = some (.slice An k cn) := by simp [World.cell?, hbox]
              have hf10 := frozen_of_row w10 g 0 _ _ hbox
              obtain ⟨A9, c9, rfl⟩ := Kd.R_slice hR9
              obtain ⟨M9, hM9⟩ : ∃ M9, M9 = (T.nodes.drop 1 ++ [((i, p) : Nd)]).length := ⟨_, rfl⟩
              rw [← hM9] at hR9 ⊢
              have HM9 := Lib.hid hM9
              have HR9 := Lib.hid hR9
              have HB9 := Lib.hid hb9
              have HX9 := Lib.hid hbox
              clear hR9 hb9 hg9 hg10 hbox hM9 hHeld
              refine hK.out _ _ ?_
              clear hK K
              refine norm_ (a' := ?_) ?_ ?_
              rotate_left
              · show Act.put _ (some 56) _ = _
                simp only [Act.put, List.setIfInBounds_toArray, List.set_cons_zero, List.set_cons_succ, i64_w, i32_w]
                rfl
              refine pure_ (i := 10) (N := some 57) (v := ?_) (a' := ?_) #[true, true, true, true, true, true, true, true, true, true, true, false, false] rfl rfl (by kernel_rfl) (fun _ _ _ h => h) (Or.inl ⟨by rfl, ?_⟩) ?_ ?_
              rotate_left
              · intro w'
                go_simp
                with_reducible rfl
              rotate_left
              · simp only [Act.put, List.setIfInBounds_toArray, List.set_cons_zero, List.set_cons_succ, i64_w, i32_w]
                rfl
              refine pure_ (i := 11) (N := some 58) (v := ?_) (a' := ?_) #[true, true, true, true, true, true, true, true, true, true, true, true, false] rfl rfl (by kernel_rfl) (fun _ _ _ h => h) (Or.inl ⟨by rfl, ?_⟩) ?_ ?_
              rotate_left
              · intro w'
                go_simp
                with_reducible rfl
              rotate_left
              · simp only [Act.put, List.setIfInBounds_toArray, List.set_cons_zero, List.set_cons_succ, i64_w, i32_w]
                rfl
              refine last_ (i := 12) (N := none) #[true, true, true, true, true, true, true, true, true, true, true, true, true] rfl rfl (by kernel_rfl) (by decide) (fun K hK => ?_)
              refine skip_ (w1 := w10.setCell ⟨g, 0, none⟩ (.slice A9 M9 c9)) (by rfl) rfl ?_ ?_
              · go_simp
                first | done | rfl
              refine hK.out _ _ ?_
              clear hK K
              refine done_ (by kernel_rfl) ?_
              have hM : M9 = T.nodes.length := by
                have h_ := HM9.out
                rw [List.length_append, HDL.out, List.length_singleton] at h_
                have := HL.out
                omega
              subst hM
              have hb12 : (w10.setCell ⟨g, 0, none⟩ (.slice A9 T.nodes.length c9)).heap[g]? = some (.cells #[.slice A9 T.nodes.length c9] 126) := heap_setCell_same w10 g 0 _ _ _ HX9.out
              have hc12 : (w10.setCell ⟨g, 0, none⟩ (.slice A9 T.nodes.length c9)).cell? ⟨g, 0, none⟩ = some (.slice A9 T.nodes.length c9) := by simp [World.cell?, hb12]
              have HR12 := Lib.hid (Kd.R_far (p := ⟨g, 0, none⟩) HR9.out (fun k hk => hk) (.slice A9 T.nodes.length c9))
              have HB12 := Lib.hid (HB9.out.setCell (show base ≤ (⟨g, 0, none⟩ : Addr).block from SD.out.ref.low) (.slice A9 T.nodes.length c9))
              have HX12 := Lib.hid hb12
              generalize w10.setCell ⟨g, 0, none⟩ (.slice A9 T.nodes.length c9) = w12 at HR12 HB12 HX12 hc12 ⊢
              clear hb12 HX9 HB9 HR9 hc10 hf10
              go_wp2
              go_ret2
              have hwf := push_wf HW.out (i : Int) p
              rw [HPQ.out] at hwf ⊢
              have e1 : (T.nodes ++ [((i, p) : Nd)]).length - 1 = T.nodes.length := by rw [List.length_append, List.length_singleton]; omega
              have e2 : (T.nodes ++ [((i, p) : Nd)]).drop 1 = T.nodes.drop 1 ++ [((i, p) : Nd)] := List.drop_append_of_le_length h5
              refine ⟨A9, c9, rfl, ⟨?_, ?_, hwf, SD.out.ref.low⟩, HB12.out⟩
              · rw [e1]
                exact HX12.out
              · rw [e1, e2]
                exact HR12.out
end
end Go.Proofs.YtmgfdcfbjgokgaaDoor
namespace Go.Proofs.YtmgfdcfbjgokgaaDoor
open Go Go.RowKit Go.Proofs.YtmgfdcfbjgokgaaDoorW.PrintWords Go.Proofs.YtmgfdcfbjgokgaaDoorW.PrintLast Go.Proofs.YtmgfdcfbjgokgaaDoor.PL
set_option linter.unusedVariables false
set_option linter.unusedSimpArgs false

/-- One node taken by the reference. -/
structure RGot where
  up : Nat
  nm : ByteArray
  ln : Nat
  rest : ByteArray
def rGot (s : ByteArray) : RGot :=
  let a := takenP s
  let b := takenP a.2
  let c := takenP (b.2.extract (min b.1 b.2.size) b.2.size)
  ⟨a.1, b.2.extract 0 (min b.1 b.2.size), c.1, c.2⟩
def refGo : Nat → Nat → Nat → Tr → ByteArray → Option Tr
  | 0, _, _, T, _ => some T
  | f + 1, i, n, T, s =>
    if i ≤ n ∧ i < 4096 ∧ s.size ≠ 0 then
      if (pushT T ((i : Int) - (rGot s).up) ((rGot s).nm, ((rGot s).ln : Int))).1 ≠ ((i : Int), 0) then none
      else refGo f (i + 1) n (pushT T ((i : Int) - (rGot s).up) ((rGot s).nm, ((rGot s).ln : Int))).2 (rGot s).rest
    else some T
def refFrom (s : ByteArray) : Option Tr :=
  match refGo 4096 1 (takenP s).1 newT (takenP s).2 with
  | none => none
  | some T => if strOfNums (toldI T) = s then some T else none
theorem numG_mono (s : ByteArray) : ∀ (f i acc : Nat) (r : Nat × Nat), numG s f i acc = some r → numG s (f + 1) i acc = some r
  | 0, i, acc, r, h => by simp [numG] at h
  | f + 1, i, acc, r, h => by
    unfold numG at h ⊢
    split at h
    · rename_i h1
      rw [if_pos h1]
      split at h
      · rename_i h2
        rw [if_pos h2]
        exact h
      · rename_i h2
        rw [if_neg h2]
        exact numG_mono s f (i + 1) _ r h
    · cases h
theorem RefW.lower {W : World} {base b2 g : Nat} {T : Tr} {An : Option Addr} {cn : Nat} (h : RefW W base g An cn T) (hb : b2 ≤ base) : RefW W b2 g An cn T where
  box := h.box
  nodes := Kd.R_lower h.nodes hb
  wf := h.wf
  low := by have := h.low; omega
theorem takenP_lt (s : ByteArray) : (takenP s).1 < 268435456 ∧ (takenP s).2.size ≤ s.size := by
  unfold takenP
  cases h : numG s 3 0 0 with
  | none => exact ⟨by show 0 < 268435456; omega, Nat.zero_le _⟩
  | some r =>
    have h1 : numG s 4 0 0 = some r := numG_mono s 3 0 0 r h
    have := numG_lt s 4 0 0 r.1 r.2 rfl (by decide) h1
    exact ⟨this.1, by show (s.extract (r.2 + 1) s.size).size ≤ _; rw [ByteArray.size_extract]; omega⟩
/-- What the reference's 'From' answers. -/
def RFromIs (W : World) (s : ByteArray) (e : Ending) (w2 : World) : Prop :=
  Below W.heap.size W w2 ∧ match refFrom s with
  | none => e = .returned (.tuple #[.pointer none, .int .i64 4])
  | some T => ∃ g An cn, e = .returned (.tuple #[.pointer (some ⟨g, 0, none⟩), .int .i64 0]) ∧ RefW w2 W.heap.size g An cn T
section
variable {W : World}
theorem taken_z {w : World} (s : ByteArray) (d : Nat) (r : ByteArray) (e : takenP s = (d, r)) (hs : s.size ≤ 9223372036854775807) : Calls Tryd.prog 65 #[.string s] w fun e w2 => e = .returned (.tuple #[.int .i64 d, .string r]) ∧ Below w.heap.size w w2 := by
  have := taken_any (w := w) s hs
  rw [e] at this
  exact this
set_option maxRecDepth 100000 in
set_option maxHeartbeats 3200000 in
theorem rFrom_any (s : ByteArray) (hs : s.size ≤ 9223372036854775807) : Calls Tryd.prog 34 #[.string s] W (RFromIs W s) := by
  obtain ⟨n0, s0, e0⟩ : ∃ n0 s0, takenP s = (n0, s0) := ⟨_, _, rfl⟩
  have hn0 := takenP_lt s
  rw [e0] at hn0
  simp only at hn0
  have hrf : refFrom s = match refGo 4096 1 n0 newT s0 with | none => none | some T => if strOfNums (toldI T) = s then some T else none := by
    unfold refFrom
    rw [e0]
  obtain ⟨G, hG⟩ : ∃ G, G = refGo 4096 1 n0 newT s0 := ⟨_, rfl⟩
  obtain ⟨RF, hRF⟩ : ∃ RF, RF = refFrom s := ⟨_, rfl⟩
  unfold RFromIs
  rw [← hRF]
  rw [← hRF, ← hG] at hrf
  have HRF := Lib.hid hrf.symm
  have HG0 := Lib.hid hG.symm
  have HE0 := Lib.hid e0
  have HS0 := Lib.hid (show s0.size ≤ 9223372036854775807 by omega)
  have hn := hn0.1
  have HZ := Lib.hid hs
  clear hrf hG e0 hn0 hs hRF
  go_enter Tryd.func34, Tryd.ntmps34
  go_wp2_with (first | (go_at_call 65; (with_reducible refine (taken_z s n0 s0 HE0.out HZ.out).mono ?_); rintro e w1 ⟨rfl, hb⟩; have HB1 := Lib.hid hb; clear hb) | (go_at_call 66; (with_reducible refine (rNew_any _).mono ?_); rintro e w2 ⟨g, rfl, hR, hb⟩; have HR2 := Lib.hid hR; have HB2 := Lib.hid (HB1.out.trans (hb.mono HB1.out.size)); clear hb hR))
  go_loopg [5, 7] 4096 (fun q s5 s7 wx => ∃ (i : Nat) (r : ByteArray) (Tk : Tr) (An : Option Addr) (cn : Nat), i + q = 4097 ∧ 1 ≤ i ∧ s5 = .string r ∧ s7 = .int .i64 i ∧ Hid (RefW wx W.heap.size g An cn Tk) ∧ Hid (Below W.heap.size W wx) ∧ Hid (refGo q i n0 Tk r = G) ∧ Hid (r.size ≤ 9223372036854775807))
  case atStart => exact ⟨1, s0, newT, none, 0, by omega, by omega, rfl, rfl, Lib.hid (RefW.lower HR2.out HB1.out.size), HB2, HG0, HS0⟩
  case round =>
    clear HG0 HS0 HR2 HB2 HB1 HE0
    obtain ⟨i, r, Tk, An, cn, hiq, hi1, rfl, rfl, HR, HBW, HG, HRS⟩ := hrel
    by_cases hlt : i ≤ n0 ∧ i < 4096 ∧ r.size ≠ 0
    · obtain ⟨q, rfl⟩ : ∃ q, gk = q + 1 := ⟨gk - 1, by omega⟩
      obtain ⟨h1, h2, h3⟩ := hlt
      have d1 : decide ((i : Int) ≤ (n0 : Int)) = true := decide_eq_true (by omega)
      have d2 : decide ((i : Int) < 4096) = true := decide_eq_true (by omega)
      have hne : r.toList.isEmpty = false := by
        rw [ByteArray.toList_eq]
        cases hl : r.data.toList with
        | nil => exact absurd (by rw [← data_length, hl]; rfl) h3
        | cons a l => rfl
      obtain ⟨d, ra, e1⟩ : ∃ a_ b_, takenP r = (a_, b_) := ⟨_, _, rfl⟩
      obtain ⟨k, rb, e2⟩ : ∃ a_ b_, takenP ra = (a_, b_) := ⟨_, _, rfl⟩
      obtain ⟨m, hm⟩ : ∃ m, m = min k rb.size := ⟨_, rfl⟩
      obtain ⟨ln, rc, e3⟩ : ∃ a_ b_, takenP (rb.extract m rb.size) = (a_, b_) := ⟨_, _, rfl⟩
      have l1 := takenP_lt r
      have l2 := takenP_lt ra
      have l3 := takenP_lt (rb.extract m rb.size)
      rw [e1] at l1
      rw [e2] at l2
      rw [e3, ByteArray.size_extract] at l3
      simp only at l1 l2 l3
      have hrs := HRS.out
      have hrg : rGot r = ⟨d, rb.extract 0 m, ln, rc⟩ := by
        unfold rGot
        simp only [e1, e2]
        rw [← hm, e3]
      have hg := HG.out
      unfold refGo at hg
      rw [if_pos ⟨h1, h2, h3⟩, hrg] at hg
      simp only at hg
      have E1 := Lib.hid e1
      have E2 := Lib.hid e2
      have E3 := Lib.hid e3
      have HS1 := Lib.hid (show ra.size ≤ 9223372036854775807 by omega)
      have HS2 := Lib.hid (show rb.size ≤ 9223372036854775807 by omega)
      have HS3 := Lib.hid (show (rb.extract m rb.size).size ≤ 9223372036854775807 by rw [ByteArray.size_extract]; omega)
      have HS4 := Lib.hid (show rc.size ≤ 9223372036854775807 by omega)
      have hd := l1.1
      have hk := l2.1
      have hl := l3.1
      have hmb : m ≤ rb.size := by omega
      have hmI : (m : Int) ≤ (rb.size : Int) := by omega
      have hmin : min (k : Int) (rb.size : Int) = (m : Int) := by omega
      have HM := Lib.hid hm
      clear e1 e2 e3 l1 l2 l3 hrg HG h3 hrs hm
      obtain ⟨x, E, T2, hp⟩ : ∃ x E T2, pushT Tk ((i : Int) - (d : Int)) (rb.extract 0 m, (ln : Int)) = ((x, E), T2) := ⟨_, _, _, rfl⟩
      have HP := Lib.hid hp
      rw [hp] at hg
      simp only at hg
      clear hp
      by_cases hE : E = 0
      · subst hE
        by_cases hx : x = (i : Int)
        · subst hx
          rw [if_neg (by simp)] at hg
          have HG2 := Lib.hid hg
          clear hg
          go_wp2_with (go_at_call 65; (with_reducible refine (taken_z r d ra E1.out HRS.out).mono ?_); rintro e w3 ⟨rfl, hb⟩; have HB3 := Lib.hid (HBW.out.trans (hb.mono HBW.out.size)); have HR3 := Lib.hid (HR.out.below hb); clear hb)
          go_wp2_with (go_at_call 65; (with_reducible refine (taken_z ra k rb E2.out HS1.out).mono ?_); rintro e w4 ⟨rfl, hb⟩; have HB4 := Lib.hid (HB3.out.trans (hb.mono HB3.out.size)); have HR4 := Lib.hid (HR3.out.below hb); clear hb)
          go_wp2_with (go_at_call 65; (with_reducible refine (taken_z (rb.extract m rb.size) ln rc E3.out HS3.out).mono ?_); rintro e w5 ⟨rfl, hb⟩; have HB5 := Lib.hid (HB4.out.trans (hb.mono HB4.out.size)); have HR5 := Lib.hid (HR4.out.below hb); clear hb)
          go_wp2_with (go_at_call 67; (with_reducible refine (rPush_any HR5.out ((i : Int) - (d : Int)) (rb.extract 0 m, (ln : Int)) HB5.out.size).mono ?_); rintro e w6 ⟨An2, cn2, rfl, hR, hb⟩; rw [HP.out] at hR ⊢; have HB6 := Lib.hid (HB5.out.trans hb); have HR6 := Lib.hid hR; clear hb hR)
          go_roundg q
          case measure => omega
          case rel => exact ⟨i + 1, rc, T2, An2, cn2, by omega, by omega, rfl, by first | rfl | go_num, HR6, HB6, HG2, HS4⟩
        · have hme : (x != (i : Int)) = true := by simpa using hx
          have hne2 : ¬ ((x, (0 : Int)) : Int × Int) = ((i : Int), 0) := fun h => hx (by rw [Prod.mk.injEq] at h; exact h.1)
          rw [if_pos hne2] at hg
          subst hg
          obtain rfl := HRF.out
          clear hx hne2
          go_wp2_with (go_at_call 65; (with_reducible refine (taken_z r d ra E1.out HRS.out).mono ?_); rintro e w3 ⟨rfl, hb⟩; have HB3 := Lib.hid (HBW.out.trans (hb.mono HBW.out.size)); have HR3 := Lib.hid (HR.out.below hb); clear hb)
          go_wp2_with (go_at_call 65; (with_reducible refine (taken_z ra k rb E2.out HS1.out).mono ?_); rintro e w4 ⟨rfl, hb⟩; have HB4 := Lib.hid (HB3.out.trans (hb.mono HB3.out.size)); have HR4 := Lib.hid (HR3.out.below hb); clear hb)
          go_wp2_with (go_at_call 65; (with_reducible refine (taken_z (rb.extract m rb.size) ln rc E3.out HS3.out).mono ?_); rintro e w5 ⟨rfl, hb⟩; have HB5 := Lib.hid (HB4.out.trans (hb.mono HB4.out.size)); have HR5 := Lib.hid (HR4.out.below hb); clear hb)
          go_wp2_with (go_at_call 67; (with_reducible refine (rPush_any HR5.out ((i : Int) - (d : Int)) (rb.extract 0 m, (ln : Int)) HB5.out.size).mono ?_); rintro e w6 ⟨An2, cn2, rfl, hR, hb⟩; rw [HP.out] at hR ⊢; have HB6 := Lib.hid (HB5.out.trans hb); have HR6 := Lib.hid hR; clear hb hR)
          go_ret2
          exact ⟨HB6.out, rfl⟩
      · have hEe : (E != 0) = true := by simpa using hE
        have hne2 : ¬ ((x, E) : Int × Int) = ((i : Int), 0) := fun h => hE (by rw [Prod.mk.injEq] at h; exact h.2)
        rw [if_pos hne2] at hg
        subst hg
        obtain rfl := HRF.out
        clear hE hne2
        go_wp2_with (go_at_call 65; (with_reducible refine (taken_z r d ra E1.out HRS.out).mono ?_); rintro e w3 ⟨rfl, hb⟩; have HB3 := Lib.hid (HBW.out.trans (hb.mono HBW.out.size)); have HR3 := Lib.hid (HR.out.below hb); clear hb)
        go_wp2_with (go_at_call 65; (with_reducible refine (taken_z ra k rb E2.out HS1.out).mono ?_); rintro e w4 ⟨rfl, hb⟩; have HB4 := Lib.hid (HB3.out.trans (hb.mono HB3.out.size)); have HR4 := Lib.hid (HR3.out.below hb); clear hb)
        go_wp2_with (go_at_call 65; (with_reducible refine (taken_z (rb.extract m rb.size) ln rc E3.out HS3.out).mono ?_); rintro e w5 ⟨rfl, hb⟩; have HB5 := Lib.hid (HB4.out.trans (hb.mono HB4.out.size)); have HR5 := Lib.hid (HR4.out.below hb); clear hb)
        go_wp2_with (go_at_call 67; (with_reducible refine (rPush_any HR5.out ((i : Int) - (d : Int)) (rb.extract 0 m, (ln : Int)) HB5.out.size).mono ?_); rintro e w6 ⟨An2, cn2, rfl, hR, hb⟩; rw [HP.out] at hR ⊢; have HB6 := Lib.hid (HB5.out.trans hb); have HR6 := Lib.hid hR; clear hb hR)
        go_ret2
        exact ⟨HB6.out, rfl⟩
    · have hg : G = some Tk := by
        have h_ := HG.out
        cases gk with
        | zero => exact h_.symm
        | succ q =>
          unfold refGo at h_
          rw [if_neg hlt] at h_
          exact h_.symm
      subst hg
      have hsplit : (decide ((i : Int) ≤ (n0 : Int)) = false ∧ ¬ i ≤ n0) ∨ (decide ((i : Int) ≤ (n0 : Int)) = true ∧ i ≤ n0 ∧ decide ((i : Int) < 4096) = false ∧ ¬ i < 4096) ∨ (decide ((i : Int) ≤ (n0 : Int)) = true ∧ i ≤ n0 ∧ decide ((i : Int) < 4096) = true ∧ i < 4096 ∧ r = ⟨#[]⟩) := by
        by_cases h1 : i ≤ n0
        · right
          by_cases h2 : i < 4096
          · right
            refine ⟨decide_eq_true (by omega), h1, decide_eq_true (by omega), h2, size_zero ?_⟩
            by_cases h3 : r.size = 0
            · exact h3
            · exact absurd ⟨h1, h2, h3⟩ hlt
          · left
            exact ⟨decide_eq_true (by omega), h1, decide_eq_false (by omega), h2⟩
        · left
          exact ⟨decide_eq_false (by omega), h1⟩
      obtain ⟨Y, hY⟩ : ∃ Y, Y = strOfNums (toldI Tk) := ⟨_, rfl⟩
      have HY := Lib.hid hY.symm
      have hrf := HRF.out
      simp only at hrf
      rw [← hY] at hrf
      clear hlt HG hY HRF
      by_cases hys : Y = s
      · subst hys
        rw [if_pos rfl] at hrf
        subst hrf
        rcases hsplit with ⟨a1, a2⟩ | ⟨a1, a2, a3, a4⟩ | ⟨a1, a2, a3, a4, rfl⟩
        all_goals (
          go_wp2_with (go_at_call 68; (with_reducible refine (rTold_any HR.out.C HR.out.wf).mono ?_); rintro e w9 ⟨rfl, hb⟩; rw [HY.out]; have HB9 := Lib.hid (HBW.out.trans (hb.mono HBW.out.size)); have HR9 := Lib.hid (HR.out.below hb); clear hb)
          go_ret2
          exact ⟨HB9.out, g, rfl, An, cn, HR9.out⟩)
      · rw [if_neg hys] at hrf
        subst hrf
        have hys2 : ¬ (Y.toList = s.toList) := fun e3 => hys (by
          rw [ByteArray.toList_eq, ByteArray.toList_eq] at e3
          exact ByteArray.ext (Array.ext' e3))
        have hys3 : (!(Y.toList == s.toList)) = true := by simpa using hys2
        clear hys
        rcases hsplit with ⟨a1, a2⟩ | ⟨a1, a2, a3, a4⟩ | ⟨a1, a2, a3, a4, rfl⟩
        all_goals (
          go_wp2_with (go_at_call 68; (with_reducible refine (rTold_any HR.out.C HR.out.wf).mono ?_); rintro e w9 ⟨rfl, hb⟩; rw [HY.out]; have HB9 := Lib.hid (HBW.out.trans (hb.mono HBW.out.size)); have HR9 := Lib.hid (HR.out.below hb); clear hb)
          go_ret2
          exact ⟨HB9.out, rfl⟩)
end
end Go.Proofs.YtmgfdcfbjgokgaaDoor
