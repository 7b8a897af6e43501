/- The walk of 'PlaceTrims'. -/
import Derived.Test.YtmgfdcfbjgokgaaDoorTrimsP
import Derived.BigQuiet
namespace Go.Proofs.YtmgfdcfbjgokgaaDoor
open Go.RowKit Go.Proofs.YtmgfdcfbjgokgaaDoorW.PrintWords Go.Proofs.YtmgfdcfbjgokgaaDoorW.PrintLast Go.Proofs.YtmgfdcfbjgokgaaDoorW.PrintMore Go.Proofs.YtmgfdcfbjgokgaaDoor.PL
set_option linter.unusedVariables false
set_option linter.unusedSimpArgs false

theorem R_C {α : Type} {k : Kd α} {W : World} {e base : Nat} {A : Option Addr} {n c : Nat} {xs : List α} {ok : Nat → Prop} (h : Kd.R k e W base ok (.slice A n c) xs) : Kd.C k W A n xs := by
  have := Kd.R_reads' h
  rw [this.1]
  exact this.2.2
theorem str_row {W : World} {base m : Nat} {v : Value} {ps : List ByteArray} {x : ByteArray} (hm : m = ps.length) (h : Kd.R Kd.string 9 W base (fun _ => True) v (ps ++ [x])) : ∃ g cap, v = .slice (some ⟨g, 0, none⟩) (m + 1) cap ∧ m + 1 ≤ cap ∧ base ≤ g ∧ g < W.heap.size ∧ Kd.R Kd.string 9 W base (fun _ => True) (.slice (some ⟨g, 0, none⟩) (m + 1) cap) (ps ++ [x]) := by
  subst hm
  obtain ⟨g, cap, rfl, h1, h2, _⟩ := Kd.R_form h (by simp)
  have hl : (ps ++ [x]).length = ps.length + 1 := by simp
  rw [hl] at h ⊢
  exact ⟨g, cap, rfl, (Kd.R_reads' h).2.1, h1, h2, h⟩
set_option maxRecDepth 100000 in
set_option maxHeartbeats 16000000 in
theorem trims_any (w : World) (A0 : Option Addr) (c0 n : Nat) (l : List S96) (A1 : Option Addr) (c1 m : Nat) (ps : List ByteArray) (I0 : In2 w A0 c0 n l A1 c1 m ps) :
    Calls Tryd.prog 5 #[.slice A0 n c0, .slice A1 m c1] w fun e w' => e = .returned (.bool true) ∧ Below w.heap.size w w' := by
  have I := Lib.hid I0
  obtain ⟨T, hT⟩ : ∃ T, T = (trimOf (l.map spl) ps).1 := ⟨_, rfl⟩
  obtain ⟨E, hE⟩ : ∃ E, E = (trimOf (l.map spl) ps).2 := ⟨_, rfl⟩
  have HT := Lib.hid hT
  have HE := Lib.hid hE
  clear I0 hT hE
  go_enter Tryd.func5, Tryd.ntmps5
  go_wp2_with (first | (go_at_call 10; refine (In2.lent I.out).mono ?_; rintro e w1 ⟨ga, ca, rfl, hca, hga, hga1, hRa, hb1⟩; have HB1 := Lib.hid hb1; have HRA := Lib.hid hRa; have HCA := Lib.hid hca; clear hb1 hRa hca hga hga1) | ((with_reducible refine gate_dst (N := 19) rfl ?_); refine Kd.R_lit Kd.string (w0 := w1) w1.heap.size 9 ?hg (N := 19) ?hd (xs := ([] : List ByteArray)) (inner := []) (ok := fun _ => True) (okp := fun _ => True) ?hr (Reps.none _ _) (fun _ hk => hk) trivial (Below.refl _ _) (Nat.le_refl _) (by simp) ?_; (case hd => rfl); (case hg => rfl); (case hr => first | (go_simp; done) | (go_simp; rfl)); intro v19 w2 ho2 hb2 _ _; have HO2 := Lib.hid ho2; have HB2 := Lib.hid hb2; clear ho2 hb2) | ((with_reducible refine gate_builtin (b := .append) (xs := #[.tmp 19, .tmp 20]) rfl ?_); at_builtin; refine Kd.R_append_rows Kd.string (w0 := w1) w1.heap.size rfl (.tmp 19) (.tmp 20) 56 9 (.string ⟨#[]⟩) 16 rfl Tryd.underlying56 info9 rfl (by decide) (by omega) v19 ([] : List ByteArray) ps A1 m c1 (fun _ => True) (fun _ => False) rfl rfl (HO2.out) (Kd.C_below I.out.l1 (HB1.out.trans (HB2.out.mono HB1.out.size))) (fun _ _ h => h) (fun _ h => h.elim) (fun _ _ => trivial) (HB2.out) HB2.out.size (by have := I.out.bm; simp; omega) ?_; intro v21 w3 ho3 hb3 _ _; have HO3 := Lib.hid ho3; have HB3 := Lib.hid hb3; clear ho3 hb3 HO2 HB2) | ((with_reducible refine gate_builtin (b := .append) (xs := #[.tmp 21, .tmp 22]) rfl ?_); at_builtin; refine Kd.R_append Kd.string (w0 := w1) w1.heap.size rfl (.tmp 21) (.tmp 22) 56 9 (.string ⟨#[]⟩) 16 rfl Tryd.underlying56 info9 rfl (by decide) (by omega) v21 ([] ++ ps) (⟨#[35]⟩ : ByteArray) [.string (⟨#[35]⟩ : ByteArray)] (fun _ => True) (fun _ => False) rfl rfl rfl (fun _ hk => hk.elim) (fun _ _ => trivial) (HO3.out) (HB3.out) HB3.out.size (by have := I.out.bm; have := I.out.mp; simp; omega) ?_; intro v23 w4 ho4 hb4 _ _; obtain ⟨gp, cp, rfl, hcp, hgp, hgp1, hRp⟩ := str_row I.out.mp ho4; have HRP := Lib.hid hRp; have HB4 := Lib.hid (HB1.out.trans (hb4.mono HB1.out.size)); have HCP := Lib.hid hcp; have HB41 := Lib.hid hb4; have hmc : m ≤ cp := (by omega); clear ho4 hb4 hcp hgp hgp1 hRp HO3 HB3) | (go_at_call 26; refine (In2.trim I.out (Kd.C_below (R_C HRA.out) HB41.out) HCA.out (R_C HRP.out)).mono ?_; rintro e w5 ⟨v7, rfl, h7, hb5⟩; rw [← HE.out]; rw [← HT.out] at h7; have HR7 := Lib.hid (R_win h7); have HB5 := Lib.hid hb5; clear h7 hb5))
  go_wp2_with (first | (go_at_call 13; refine (In2.ref I.out (HB4.out.trans (HB5.out.mono HB4.out.size))).mono ?_; rintro e w6 ⟨A9, c9, rfl, hc9, hC9, hb6⟩; have HC9 := Lib.hid hC9; have HB6 := Lib.hid hb6; have HL9 := Lib.hid hc9; clear hC9 hb6 hc9) | (go_at_call 27; refine (In2.rtrim I.out ((HB4.out.trans (HB5.out.mono HB4.out.size)).trans (HB6.out.mono (Nat.le_trans HB4.out.size HB5.out.size))) HC9.out HL9.out).mono ?_; rintro e w7 ⟨v9, rfl, h9, hb7⟩; rw [← HE.out]; rw [← HT.out] at h9; have HR9 := Lib.hid (R_win h9); have HB7 := Lib.hid hb7; clear h9 hb7))
  have hz1 := HB1.out.size
  have hz4 := HB41.out.size
  have hz5 := HB5.out.size
  have hz6 := HB6.out.size
  have hz7 := HB7.out.size
  have HB57 := Lib.hid (HB6.out.trans (HB7.out.mono hz6))
  have HB47 := Lib.hid (HB5.out.trans (HB57.out.mono hz5))
  have HB07 := Lib.hid (HB4.out.trans (HB47.out.mono HB4.out.size))
  have HA7 := Lib.hid (Kd.R_below (R_win HRA.out) (HB41.out.trans (HB47.out.mono hz4)))
  have HP7 := Lib.hid (Kd.R_below (R_win HRP.out) HB47.out)
  have HX7 := Lib.hid (Kd.R_below HR7.out HB57.out)
  have HZ := Lib.hid (And.intro hz1 (And.intro hz4 (And.intro hz5 (And.intro hz6 hz7))))
  have HB04 := HB4
  clear HB1 HRA HRP HB4 HB41 HR7 HB5 HC9 HB6 HL9 HB7 HB57 hz1 hz4 hz5 hz6 hz7
  have hpm : ∀ W : World, Kd.C Kd.string W (some ⟨gp, 0, none⟩) (m + 1) (ps ++ [⟨#[35]⟩]) → W.cell? ⟨gp, m, none⟩ = some (.string ⟨#[35]⟩) := fun W h => by
    obtain ⟨ad, hA, hc⟩ := Kd.at_string h (m : Int) (by omega) (by omega)
    cases hA
    have hrd : rdOf ByteArray.empty (ps ++ [⟨#[35]⟩]) (m : Int) = ⟨#[35]⟩ := by simp [rdOf, I.out.mp]
    rw [hrd, Int.toNat_natCast] at hc
    have ha : ((⟨gp, 0, none⟩ : Addr).add m) = ⟨gp, m, none⟩ := by
      unfold Addr.add
      split
      · rename_i h; rw [h]
      · simp
    rwa [ha] at hc
  have HPM := Lib.hid hpm
  clear hpm
  have HT64 := Lib.hid (show T.length ≤ 64 by rw [HT.out]; exact (trimOf_len _ _).2)
  go_wp2_with (first | (go_at_call 26; refine (In2.trim I.out (R_C HA7.out) HCA.out (R_C HP7.out)).mono ?_; rintro e w8 ⟨v11, rfl, h11, hb8⟩; rw [← HE.out]; rw [← HT.out] at h11; have HR11 := Lib.hid (R_win h11); have HB8 := Lib.hid hb8; clear h11 hb8) | (go_at_call 21; refine (same_v v7 v9 T _ _ _ _ _ (by have := HT64.out; omega) (Kd.R_below HX7.out HB8.out) (Kd.R_below HR9.out HB8.out)).mono ?_; rintro e w9 ⟨rfl, hb9⟩; have HB9 := Lib.hid (HB8.out.trans (hb9.mono HB8.out.size)); have HB89 := Lib.hid hb9; clear hb9) | (go_at_call 18; refine (In2.kept I.out (HB07.out.trans (HB9.out.mono HB07.out.size)) (R_C (Kd.R_below HA7.out HB9.out)) HCA.out).mono ?_; rintro e w10 ⟨rfl, hb10⟩; have HB10 := Lib.hid (HB9.out.trans (hb10.mono HB9.out.size)); have HB8A := Lib.hid (HB89.out.trans (hb10.mono HB89.out.size)); have hpc := HPM.out _ (R_C (Kd.R_below HP7.out HB10.out)); clear hb10 HB9 HB89))
  clear hpc HPM hmc
  go_loopg [13] m (fun q s13 wx => ∃ j : Nat, j + q = m ∧ s13 = .int .i64 j ∧ Hid (Drawn0 w10 wx))
  case atStart => exact ⟨0, by omega, rfl, Drawn0.refl _⟩
  case round =>
    obtain ⟨j, hj, rfl, HD⟩ := hrel
    by_cases hq : gk = 0
    · subst hq
      have hend : decide ((j : Int) < (m : Int)) = false := by simp; omega
      have hendN : ¬ j < m := by omega
      obtain ⟨hz1, hz4, hz5, hz6, hz7⟩ := HZ.out
      have hb7 : Below w7.heap.size w7 wr := HB10.out.trans (HD.out.below.mono HB10.out.size)
      have hb8 : Below w8.heap.size w8 wr := HB8A.out.trans (HD.out.below.mono HB8A.out.size)
      have HS := Lib.hid (erratalaw03_spoil.calls ((T.map ofPl).length + 42) (fun j => w4.heap.size ≤ j ∧ j < w5.heap.size) v7 (T.map ofPl) w4 wr (HB47.out.trans (hb7.mono HB47.out.size)) (Kd.R_below HX7.out hb7) (spoil_f _ (by rw [List.length_map]; have := HT64.out; omega)))
      have HA8 := Lib.hid (Kd.R_below HA7.out hb7)
      have HR8 := Lib.hid (Kd.R_below HR9.out hb7)
      have HR12 := Lib.hid (Kd.R_below HR11.out hb8)
      clear HA7 HR9 HR11 HX7 HP7 HD HB8A HB10 HB8 HB47 HB07 hb7 hb8 hj hz1 hz4 hz5 hz6 hz7 HCP
      go_wp2_with (first | (go_at_call 22; refine (HS.out).mono ?_; rintro e w11 ⟨rfl, hb11, hk11⟩; obtain ⟨hz1, hz4, hz5, hz6, hz7⟩ := HZ.out; have HB11 := Lib.hid (HB04.out.trans (hb11.mono HB04.out.size)); have HA11 := Lib.hid (Kd.R_kept HA8.out hk11 (fun k hk hk2 => by omega)); have HR11 := Lib.hid (Kd.R_kept HR8.out hk11 (fun k hk hk2 => by omega)); have HX11 := Lib.hid (Kd.R_kept HR12.out hk11 (fun k hk hk2 => by omega)); clear hb11 hk11 HA8 HR8 HR12 hz1 hz4 hz5 hz6 hz7) | (go_at_call 21; refine (same_v v11 v9 T _ _ _ _ _ (by have := HT64.out; omega) HX11.out HR11.out).mono ?_; rintro e w12 ⟨rfl, hb12⟩; have HB12 := Lib.hid hb12; clear hb12) | (go_at_call 18; refine (In2.kept I.out (HB11.out.trans (HB12.out.mono HB11.out.size)) (R_C (Kd.R_below HA11.out HB12.out)) HCA.out).mono ?_; rintro e w13 ⟨rfl, hb13⟩; have HB13 := Lib.hid (HB12.out.trans (hb13.mono HB12.out.size)); clear hb13 HB12))
      have HB0D := Lib.hid (HB11.out.trans (HB13.out.mono HB11.out.size))
      have HAN := Lib.hid (show Kd.R k60 60 w13 w.heap.size (fun j => w.heap.size ≤ j ∧ j < w1.heap.size) (.slice (some ⟨ga, 0, none⟩) n ca) (l.map toOwn) by
        have h := Kd.R_take (m := n) (Kd.R_below HA11.out HB13.out) (by rw [List.length_append, List.length_map, ← I.out.nl]; omega)
        have e : (l.map toOwn ++ [mark]).take n = l.map toOwn := by
          have := List.take_left (l₁ := l.map toOwn) (l₂ := [mark])
          rwa [List.length_map, ← I.out.nl] at this
        rwa [e] at h)
      have HR13 := Lib.hid (Kd.R_below HR11.out HB13.out)
      have HX13 := Lib.hid (Kd.R_below HX11.out HB13.out)
      clear HS HA11 HR11 HX11 HB11 HB13 HB04 hend hendN
      go_loopg [14] n (fun q s14 wx => ∃ (i : Nat) (cur : List S60), i + q = n ∧ s14 = .int .i64 i ∧ Hid (cur.length = n ∧ ∀ k, k < i → cur[k]? = some ⟨libx, k⟩) ∧ Hid (Kd.R k60 60 wx w.heap.size (fun j => w.heap.size ≤ j ∧ j < w1.heap.size) (.slice (some ⟨ga, 0, none⟩) n ca) cur) ∧ Hid (Kept w13 wx (fun j => w.heap.size ≤ j ∧ j < w1.heap.size)) ∧ Hid (Below w.heap.size w wx))
      case atStart => exact ⟨0, l.map toOwn, by omega, rfl, ⟨by rw [List.length_map]; exact I.out.nl.symm, fun k hk => absurd hk (by omega)⟩, HAN.out, Kept.refl _ _, HB0D.out⟩
      case round =>
        obtain ⟨i, cur, hi, rfl, HCU, HRC, HK, HBX⟩ := hrel
        by_cases hq : gk = 0
        · subst hq
          have hend : decide ((i : Int) < (n : Int)) = false := by simp; omega
          have hendN : ¬ i < n := by omega
          obtain ⟨hz1, hz4, hz5, hz6, hz7⟩ := HZ.out
          have HCN := Lib.hid (show ∀ k, k < n → cur[k]? = some ⟨libx, k⟩ from fun k hk => HCU.out.2 k (by omega))
          have HRE := Lib.hid (Kd.R_kept HR13.out HK.out (fun k hk hk2 => by omega))
          have HXE := Lib.hid (Kd.R_kept HX13.out HK.out (fun k hk hk2 => by omega))
          obtain ⟨b, hb⟩ : ∃ b, b = decide (n ≤ 64) := ⟨_, rfl⟩
          have hbI : decide ((n : Int) ≤ 64) = b := by rw [hb, decide_eq_decide]; omega
          have HBN := Lib.hid hb
          clear hz1 hz4 hz5 hz6 hz7 HR13 HX13 hb
          go_wp2_with (first | ((with_reducible refine gate_dst (N := 112) rfl ?_); refine Kd.R_lit Kd.string (w0 := wr) wr.heap.size 9 ?hg (N := 112) ?hd (xs := [libp]) (inner := [.string libp]) (ok := fun _ => True) (okp := fun _ => True) ?hr (Reps.one (show Kd.M Kd.string _ _ _ libp [.string libp] from rfl) (Reps.none _ _)) (fun _ hk => hk) trivial (Below.refl _ _) (Nat.le_refl _) (by simp) ?_; (case hd => rfl); (case hg => rfl); (case hr => first | (go_simp; done) | (go_simp; rfl)); intro v112 w14 ho14 hb14 _ _; obtain ⟨B, d, rfl, _, hCB⟩ := Kd.R_reads ho14; have HCB := Lib.hid hCB; have HB14 := Lib.hid hb14; clear ho14 hb14 hCB) | (go_at_call 26; refine (lib_trim n cur HCU.out.1 HCN.out I.out.bn _ ca _ (Kd.C_below (R_C HRC.out) HB14.out) (by have := HCA.out; omega) B d HCB.out).mono ?_; rintro e w15 ⟨A5, c5, G, rfl, hG, hb15⟩; rw [← HBN.out] at hG; have HB15 := Lib.hid (HB14.out.trans (hb15.mono HB14.out.size)); clear hb15) | (go_at_call 21; refine (same_v v11 v9 T _ _ _ _ _ (by have := HT64.out; omega) (Kd.R_below HXE.out HB15.out) (Kd.R_below HRE.out HB15.out)).mono ?_; rintro e w16 ⟨rfl, hb16⟩; have HB16 := Lib.hid (HB15.out.trans (hb16.mono HB15.out.size)); clear hb16) | (go_at_call 23; refine (alive_any _ (I.out.tabs.below (HBX.out.trans (HB16.out.mono HBX.out.size)))).mono ?_; rintro e w17 ⟨rfl, hb17⟩; have HB17 := Lib.hid (HB16.out.trans (hb17.mono HB16.out.size)); clear hb17))
          go_ret
          exact ⟨rfl, HBX.out.trans (HB17.out.mono HBX.out.size)⟩
        · have hlt : decide ((i : Int) < (n : Int)) = true := by simp; omega
          have hlI : (i : Int) < (n : Int) := by omega
          have hlN : i < n := by omega
          obtain ⟨hgl, hgh⟩ := HRC.out.1 ga rfl
          obtain ⟨ce, hcl, hM, hcc, hfr⟩ := Kd.R_elem HRC.out z60 (i : Int) (by omega) (by omega)
          have HP := Kd.R_seg HRC.out (i : Int) (by omega) (by omega) (seg := [.string libx, .int .i64 i]) (j := 0) hcl hcc (show 2 ≤ 2 from by decide) (x' := (⟨libx, i⟩ : S60)) (by obtain rfl := k60_openM hM; exact k60_mkM _ _ _ (⟨libx, i⟩ : S60)) (fun _ hk => hk)
          obtain rfl := k60_openM hM
          have hx0 := hcc 0 _ rfl
          have hx1 := hcc 1 _ rfl
          have hf0 := hfr 0
          have hf1 := hfr 1
          simp only [show (k60).sz = 2 from rfl, Nat.add_zero, Int.toNat_natCast] at hx0 hx1 hf0 hf1 HP
          have HPH := Lib.hid HP
          have HGL := Lib.hid hgl
          have HGH := Lib.hid hgh
          clear HP hcl hM hcc hfr hgl hgh
          go_wp2_with (first | ((with_reducible refine gate_store (t := 60) (p := 109) rfl ?_); refine store_event (t := 60) (p := 109) (v := ?vo_w7) (w1 := ((wr.setCell ⟨ga, i * 2, none⟩ (.string libx)).setCell ⟨ga, i * 2 + 1, none⟩ (.int .i64 i))) ?hg ?ho ?hn ?hr ?_; (case ho => rfl); (case hg => rfl); (case hn => rfl); (case hr => first | (go_simp; done) | (go_simp; rfl)); intro w7 hw; have HW := Lib.hid hw; clear hw))
          go_roundg (n - (i + 1))
          case measure => omega
          case rel =>
            have hg7 : wr.grownBy w7 (some ga) := by rw [HW.out]; exact HPH.out.2
            refine ⟨i + 1, cur.set i ⟨libx, i⟩, by omega, by rw [wrap_succ i (by have := I.out.bn; omega)], ⟨by rw [List.length_set]; exact HCU.out.1, fun k hk => ?_⟩, by rw [HW.out]; exact HPH.out.1, Kept.of_grown (S := fun j => w.heap.size ≤ j ∧ j < w1.heap.size) hg7 HK.out (fun k e => by cases e; exact .inl ⟨HGL.out, HGH.out⟩), by rw [HW.out]; exact below_set (below_set HBX.out HGL.out) HGL.out⟩
            by_cases hki : k = i
            · subst hki
              exact List.getElem?_set_self (by rw [HCU.out.1]; exact hlN)
            · rw [List.getElem?_set_ne (fun e => hki e.symm)]
              exact HCU.out.2 k (by omega)
    · have hlt : decide ((j : Int) < (m : Int)) = true := by simp; omega
      have hjI : (j : Int) < (m : Int) := by omega
      have hjI1 : (j : Int) < (m : Int) + 1 := by omega
      have hjN : j < m := by omega
      have hjN1 : j < m + 1 := by omega
      obtain ⟨hz1, hz4, hz5, hz6, hz7⟩ := HZ.out
      have hb : Below w7.heap.size w7 wr := HB10.out.trans (HD.out.below.mono HB10.out.size)
      obtain ⟨ad, hA, hx⟩ := Kd.at_string (R_C (Kd.R_below HP7.out hb)) (j : Int) (by omega) (by omega)
      cases hA
      obtain ⟨ap, hA1, hy⟩ := Kd.at_string (Kd.C_below I.out.l1 (HB07.out.trans (hb.mono HB07.out.size))) (j : Int) (by omega) (by omega)
      cases hA1
      have hjl : j < ps.length := by have := I.out.mp; omega
      have hr1 : rdOf ByteArray.empty (ps ++ [⟨#[35]⟩]) (j : Int) = ps[j] := by simp [rdOf, List.getElem?_append_left hjl, hjl]
      have hr2 : rdOf ByteArray.empty ps (j : Int) = ps[j] := by simp [rdOf, hjl]
      rw [hr1, Int.toNat_natCast] at hx
      rw [hr2, Int.toNat_natCast] at hy
      have ha : ((⟨gp, 0, none⟩ : Addr).add j) = ⟨gp, j, none⟩ := by
        unfold Addr.add
        split
        · rename_i h; rw [h]
        · simp
      rw [ha] at hx
      obtain ⟨x, hxe⟩ : ∃ x, x = ps[j] := ⟨_, rfl⟩
      rw [← hxe] at hx hy
      clear hr1 hr2 ha hxe hjl hb hz1 hz4 hz5 hz6 hz7
      go_wp2
      go_quiet (fail)
      go_wp2
      go_roundg (m - (j + 1))
      case measure => omega
      case rel => exact ⟨j + 1, by omega, by rw [wrap_succ j (by have := I.out.bm; omega)], HD.out.step nq⟩
end Go.Proofs.YtmgfdcfbjgokgaaDoor
