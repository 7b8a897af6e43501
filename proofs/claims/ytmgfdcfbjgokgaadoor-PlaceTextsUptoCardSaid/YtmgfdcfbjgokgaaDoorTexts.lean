/- The walk of 'PlaceTexts': any two lists, any text (none of them of more than 1048576 values or bytes). -/
import Derived.Test.YtmgfdcfbjgokgaaDoorRr
import Derived.Test.YtmgfdcfbjgokgaaDoorCom
import Derived.Test.YtmgfdcfbjgokgaaDoorAlive
namespace Go.Proofs.YtmgfdcfbjgokgaaDoor
open Go.RowKit Go.Proofs.YtmgfdcfbjgokgaaDoorW.PrintWords Go.Proofs.YtmgfdcfbjgokgaaDoorW.PrintLast Go.Proofs.YtmgfdcfbjgokgaaDoorW.PrintMore Go.Proofs.YtmgfdcfbjgokgaaDoor.PL
set_option linter.unusedVariables false
set_option linter.unusedSimpArgs false

/-- What came in. -/
structure In3 (w : World) (A0 : Option Addr) (c0 n : Nat) (l : List S96) (A1 : Option Addr) (c1 m : Nat) (l2 : List S96) (s : ByteArray) : Prop where
  nl : n = l.length
  ml : m = l2.length
  cn : n ≤ c0
  cm : m ≤ c1
  l0 : Kd.C k96 w A0 n l
  l1 : Kd.C k96 w A1 m l2
  bn : n ≤ 1048576
  bm : m ≤ 1048576
  bs : s.size ≤ 1048576
  sz : ∀ x ∈ l, x.f0.size ≤ 9223372036854775807
  sz1 : ∀ x ∈ l2, x.f0.size ≤ 9223372036854775807
  tabs : Tabs w
theorem front_n {W : World} {A : Option Addr} {n : Nat} {l : List S96} (hn : n = l.length) (h : Kd.C k60 W A (n + 1) (l.map toOwn ++ [mark])) : Kd.C k60 W A (l.map toOwn).length (l.map toOwn) := by
  subst hn
  have := Kd.C_take (m := l.length) (xs := l.map toOwn ++ [mark]) (by rw [List.length_append, List.length_map]; exact h) (by simp)
  have e : (l.map toOwn ++ [mark]).take l.length = l.map toOwn := by
    have := List.take_left (l₁ := l.map toOwn) (l₂ := [mark])
    rwa [List.length_map] at this
  rwa [e] at this
theorem own_sz {l : List S96} (h : ∀ x ∈ l, x.f0.size ≤ 9223372036854775807) : ∀ x ∈ l.map toOwn, x.f0.size ≤ 9223372036854775807 := fun x hx => by
  obtain ⟨y, hy, rfl⟩ := List.mem_map.1 hx
  exact h y hy
theorem lent_k {A : Option Addr} {c n : Nat} {l : List S96} {W : World} (hn : n = l.length) (h : Kd.C k96 W A n l) (hc : n ≤ c) (hb : n ≤ 5864062014803) : Calls Tryd.prog 10 #[.slice A n c] W fun e w' => ∃ g cap, e = .returned (.slice (some ⟨g, 0, none⟩) n cap) ∧ n + 1 ≤ cap ∧
    Kd.C k60 w' (some ⟨g, 0, none⟩) (n + 1) (l.map toOwn ++ [mark]) ∧ Below W.heap.size W w' := by
  subst hn
  refine (lent_any A c l W h hc hb).mono fun e w' ⟨v, he, ⟨g, cap, hv, hg, hR⟩, hbl⟩ => ?_
  rw [List.length_map] at hv hR
  subst hv
  obtain ⟨h1, h2, h3⟩ := Kd.R_reads' hR
  rw [← h1] at h3
  exact ⟨g, cap, he, h2, h3, hbl⟩
theorem ref_k {A : Option Addr} {c n : Nat} {l : List S96} {W : World} (hn : n = l.length) (h : Kd.C k96 W A n l) (hc : n ≤ c) (hb : n ≤ 5864062014803) : Calls Tryd.prog 13 #[.slice A n c] W fun e w' => ∃ A' c', e = .returned (.slice A' n c') ∧ n ≤ c' ∧
    Kd.C k95 w' A' n (l.map toRef) ∧ Below W.heap.size W w' := by
  subst hn
  refine (erratalaw03_ref.calls (l.length + 1) A c l (l.map toRef) W h hc (ref_f l (by omega))).mono fun e w' ⟨v, he, hR, hbl⟩ => ?_
  obtain ⟨A', c', rfl, h1, h2⟩ := Kd.R_reads hR
  rw [List.length_map] at he h1 h2
  exact ⟨A', c', he, h1, h2, hbl⟩
section
variable {W : World} {A B : Option Addr} {c d n m : Nat} {l l2 : List S96}
theorem text_k (hn : n = l.length) (h : Kd.C k60 W A (n + 1) (l.map toOwn ++ [mark])) (hc : n + 1 ≤ c) (hs : ∀ x ∈ l, x.f0.size ≤ 9223372036854775807) (hb : n ≤ 1048576) (ht : Tabs W) :
    Calls Tryd.prog 11 #[.slice A n c] W fun e w' => e = .returned (.tuple #[.string (textOf (l.map spl)).1, .int .i64 (textOf (l.map spl)).2]) ∧ Below W.heap.size W w' := by
  have h1 := front_n hn h
  subst hn
  have := Text_any A c (l.map toOwn) W h1 (by rw [List.length_map]; omega) (own_sz hs) (by rw [List.length_map]; omega) ht
  rw [spl_own, List.length_map] at this
  exact this
theorem rtext_k (hn : n = l.length) (h : Kd.C k95 W A n (l.map toRef)) (hc : n ≤ c) (hb : n ≤ 1048576) :
    Calls Tryd.prog 12 #[.slice A n c] W fun e w' => e = .returned (.tuple #[.string (textOf (l.map spl)).1, .int .i64 (textOf (l.map spl)).2]) ∧ Below W.heap.size W w' := by
  subst hn
  have hf := rtext_f (l.map toRef) (by rw [List.length_map]; omega) (l.length + 130) (by rw [List.length_map]; omega)
  rw [spl_ref] at hf
  have := errataref03_Text.calls _ A c (l.map toRef) _ _ W (by rw [List.length_map]; exact h) (by rw [List.length_map]; exact hc) hf
  rw [List.length_map] at this
  exact this
theorem check_k (hn : n = l.length) (h : Kd.C k60 W A (n + 1) (l.map toOwn ++ [mark])) (hc : n + 1 ≤ c) (hs : ∀ x ∈ l, x.f0.size ≤ 9223372036854775807) (hb : n ≤ 1048576) :
    Calls Tryd.prog 14 #[.slice A n c] W fun e w' => e = .returned (.int .i64 (checkN (l.map spl))) ∧ Below W.heap.size W w' := by
  have h1 := front_n hn h
  subst hn
  have := Check_any A c (l.map toOwn) W h1 (by rw [List.length_map]; omega) (own_sz hs) (by rw [List.length_map]; omega)
  rw [spl_own, List.length_map] at this
  exact this
theorem rcheck_k (hn : n = l.length) (h : Kd.C k95 W A n (l.map toRef)) (hc : n ≤ c) (hb : n ≤ 1048576) :
    Calls Tryd.prog 15 #[.slice A n c] W fun e w' => e = .returned (.int .i64 (checkN (l.map spl))) ∧ Below W.heap.size W w' := by
  subst hn
  have hf := rcheck_f (l.map toRef) (by rw [List.length_map]; omega) (l.length + 125) (by rw [List.length_map]; omega)
  rw [spl_ref] at hf
  have := errataref03_Check.calls _ A c (l.map toRef) _ W (by rw [List.length_map]; exact h) (by rw [List.length_map]; exact hc) hf
  rw [List.length_map] at this
  exact this
theorem comm_k (hn : n = l.length) (hm : m = l2.length) (h : Kd.C k60 W A (n + 1) (l.map toOwn ++ [mark])) (hc : n + 1 ≤ c) (h2 : Kd.C k60 W B (m + 1) (l2.map toOwn ++ [mark])) (hd : m + 1 ≤ d) (hb : n ≤ 1048576) :
    Calls Tryd.prog 16 #[.slice A n c, .slice B m d] W fun e w' => e = .returned (.int .i64 (commN (l.map spl) (l2.map spl))) ∧ Below W.heap.size W w' := by
  have h1 := front_n hn h
  have h3 := front_n hm h2
  subst hn
  subst hm
  have hf := comm_f (l.map toOwn) (l2.map toOwn) (by rw [List.length_map]; omega)
  rw [spl_own, spl_own] at hf
  have := place_Common.calls _ A c (l.map toOwn) B d (l2.map toOwn) _ W h1 (by rw [List.length_map]; omega) h3 (by rw [List.length_map]; omega) hf
  rw [List.length_map, List.length_map] at this
  exact this
theorem rcomm_k (hn : n = l.length) (hm : m = l2.length) (h : Kd.C k95 W A n (l.map toRef)) (hc : n ≤ c) (h2 : Kd.C k95 W B m (l2.map toRef)) (hd : m ≤ d) (hb : n ≤ 1048576) :
    Calls Tryd.prog 17 #[.slice A n c, .slice B m d] W fun e w' => e = .returned (.int .i64 (commN (l.map spl) (l2.map spl))) ∧ Below W.heap.size W w' := by
  subst hn
  subst hm
  have hf := rcomm_f (l.map toRef) (l2.map toRef) (by rw [List.length_map]; omega)
  rw [spl_ref, spl_ref] at hf
  have := errataref03_Common.calls _ A c (l.map toRef) B d (l2.map toRef) _ W (by rw [List.length_map]; exact h) (by rw [List.length_map]; exact hc) (by rw [List.length_map]; exact h2) (by rw [List.length_map]; exact hd) hf
  rw [List.length_map, List.length_map] at this
  exact this.mono fun e w' h => ⟨h.1, h.2.below⟩
theorem kept_k {g : Nat} (hn : n = l.length) (hm : Kd.C k60 W (some ⟨g, 0, none⟩) (n + 1) (l.map toOwn ++ [mark])) (hcap : n + 1 ≤ c) (hr0 : Kd.C k96 W A n l) (hc0 : n ≤ d) (hl : n ≤ 1048576) :
    Calls Tryd.prog 18 #[.slice (some ⟨g, 0, none⟩) n c, .slice A n d] W fun e w' => e = .returned (.bool true) ∧ Below W.heap.size W w' := by
  subst hn
  exact kept_any g c A d l W hm hcap hr0 hc0 (by omega)
end
theorem parseB_len (s : ByteArray) : (parseB s).1.length ≤ 64 := by
  unfold parseB
  split
  · simp
  · split
    · simp
    · split
      · rename_i l _ h
        have := (checkN_zero h).1
        simpa using this
      · simp
theorem parse_k {W : World} {s : ByteArray} (hs : s.size ≤ 1048576) (ht : Tabs W) : Calls Tryd.prog 19 #[.string s] W fun e w' => ∃ v, e = .returned (.tuple #[v, .int .i64 (parseB s).2]) ∧ Kd.R k60 60 w' W.heap.size (fun _ => True) v ((parseB s).1.map ofPl) ∧ Below W.heap.size W w' :=
  (Parse_any s W (by omega) ht).mono fun e w' h => h
theorem rparse_k {W : World} {s : ByteArray} (hs : s.size ≤ 1048576) : Calls Tryd.prog 20 #[.string s] W fun e w' => ∃ v, e = .returned (.tuple #[v, .int .i64 (parseB s).2]) ∧ Kd.R k95 95 w' W.heap.size (fun _ => True) v ((parseB s).1.map rof) ∧ Below W.heap.size W w' := by
  have h := rparse_f s hs (3 * s.size + 200) (Nat.le_refl _)
  rw [parse_same] at h
  exact errataref03_Parse.calls _ s _ _ W h
/-- All that is carried from call to call. -/
structure St (w W : World) (A0 : Option Addr) (n : Nat) (l : List S96) (A1 : Option Addr) (m : Nat) (l2 : List S96) (ga gb : Nat) : Prop where
  below : Below w.heap.size w W
  l0 : Kd.C k96 W A0 n l
  l1 : Kd.C k96 W A1 m l2
  a : Kd.C k60 W (some ⟨ga, 0, none⟩) (n + 1) (l.map toOwn ++ [mark])
  b : Kd.C k60 W (some ⟨gb, 0, none⟩) (m + 1) (l2.map toOwn ++ [mark])
  tabs : Tabs W
theorem St.step {w W W2 : World} {A0 : Option Addr} {n : Nat} {l : List S96} {A1 : Option Addr} {m : Nat} {l2 : List S96} {ga gb : Nat} (S : St w W A0 n l A1 m l2 ga gb) (hb : Below W.heap.size W W2) : St w W2 A0 n l A1 m l2 ga gb :=
  ⟨S.below.trans (hb.mono S.below.size), Kd.C_below S.l0 hb, Kd.C_below S.l1 hb, Kd.C_below S.a hb, Kd.C_below S.b hb, S.tabs.below hb⟩
set_option maxRecDepth 100000 in
set_option maxHeartbeats 16000000 in
theorem texts_any (w : World) (A0 : Option Addr) (c0 n : Nat) (l : List S96) (A1 : Option Addr) (c1 m : Nat) (l2 : List S96) (s : ByteArray) (I0 : In3 w A0 c0 n l A1 c1 m l2 s) :
    Calls Tryd.prog 3 #[.slice A0 n c0, .slice A1 m c1, .string s] w fun e w' => e = .returned (.bool true) ∧ Below w.heap.size w w' := by
  have I := Lib.hid I0
  clear I0
  obtain ⟨T, hT⟩ : ∃ T, T = (textOf (l.map spl)).1 := ⟨_, rfl⟩
  obtain ⟨E, hE⟩ : ∃ E, E = (textOf (l.map spl)).2 := ⟨_, rfl⟩
  obtain ⟨C, hC⟩ : ∃ C, C = checkN (l.map spl) := ⟨_, rfl⟩
  obtain ⟨P, hP⟩ : ∃ P, P = commN (l.map spl) (l2.map spl) := ⟨_, rfl⟩
  obtain ⟨Q, hQ⟩ : ∃ Q, Q = commN (l2.map spl) (l.map spl) := ⟨_, rfl⟩
  have HT := Lib.hid hT
  have HE := Lib.hid hE
  have HC := Lib.hid hC
  have HP := Lib.hid hP
  have HQ := Lib.hid hQ
  clear hT hE hC hP hQ
  go_enter Tryd.func3, Tryd.ntmps3
  go_wp2_with (go_at_call 10; (with_reducible refine (lent_k I.out.nl I.out.l0 I.out.cn (by have := I.out.bn; omega)).mono ?_); rintro e w1 ⟨ga, ca, rfl, hca, hCa, hb1⟩; have HCA := Lib.hid hCa; have HCa := Lib.hid hca; have HB1 := Lib.hid hb1; clear hca hCa hb1)
  go_wp2_with (go_at_call 10; (with_reducible refine (lent_k I.out.ml (Kd.C_below I.out.l1 HB1.out) I.out.cm (by have := I.out.bm; omega)).mono ?_); rintro e w2 ⟨gb, cb, rfl, hcb, hCb, hb2⟩; have HCb := Lib.hid hcb; have S := Lib.hid (show St w w2 A0 n l A1 m l2 ga gb from ⟨HB1.out.trans (hb2.mono HB1.out.size), Kd.C_below (Kd.C_below I.out.l0 HB1.out) hb2, Kd.C_below (Kd.C_below I.out.l1 HB1.out) hb2, Kd.C_below HCA.out hb2, hCb, (I.out.tabs.below HB1.out).below hb2⟩); clear hcb hCb hb2 HCA HB1)
  go_wp2_with (go_at_call 11; (with_reducible refine (text_k I.out.nl S.out.a HCa.out I.out.sz I.out.bn S.out.tabs).mono ?_); rintro e w3 ⟨rfl, hb⟩; rw [← HT.out, ← HE.out]; have S3 := Lib.hid (S.out.step hb); clear hb S)
  go_wp2_with (first | (go_at_call 13; (with_reducible refine (ref_k I.out.nl S3.out.l0 I.out.cn (by have := I.out.bn; omega)).mono ?_); rintro e w4 ⟨Ar, cr, rfl, hcr, hCr, hb⟩; have HCR := Lib.hid hCr; have HCr := Lib.hid hcr; have S4 := Lib.hid (S3.out.step hb); clear hb hcr hCr S3) | (go_at_call 12; (with_reducible refine (rtext_k I.out.nl HCR.out HCr.out I.out.bn).mono ?_); rintro e w5 ⟨rfl, hb⟩; rw [← HT.out, ← HE.out]; have S5 := Lib.hid (S4.out.step hb); clear hb S4 HCR HCr))
  go_wp2_with (go_at_call 14; (with_reducible refine (check_k I.out.nl S5.out.a HCa.out I.out.sz I.out.bn).mono ?_); rintro e w6 ⟨rfl, hb⟩; rw [← HC.out]; have S6 := Lib.hid (S5.out.step hb); clear hb S5)
  go_wp2_with (go_at_call 13; (with_reducible refine (ref_k I.out.nl S6.out.l0 I.out.cn (by have := I.out.bn; omega)).mono ?_); rintro e w7 ⟨Ap, cp, rfl, hcr, hCr, hb⟩; have Hp := Lib.hid hCr; have Cp := Lib.hid hcr; have S7 := Lib.hid (S6.out.step hb); clear hb hcr hCr S6)
  go_wp2_with (go_at_call 15; (with_reducible refine (rcheck_k I.out.nl Hp.out Cp.out I.out.bn).mono ?_); rintro e w8 ⟨rfl, hb⟩; rw [← HC.out]; have S8 := Lib.hid (S7.out.step hb); clear hb S7)
  go_wp2_with (go_at_call 16; (with_reducible refine (comm_k I.out.nl I.out.ml S8.out.a HCa.out S8.out.b HCb.out I.out.bn).mono ?_); rintro e w9 ⟨rfl, hb⟩; rw [← HP.out]; have S9 := Lib.hid (S8.out.step hb); clear hb S8)
  go_wp2_with (go_at_call 13; (with_reducible refine (ref_k I.out.nl S9.out.l0 I.out.cn (by have := I.out.bn; omega)).mono ?_); rintro e w10 ⟨Aq, cq, rfl, hcr, hCr, hb⟩; have Hq := Lib.hid hCr; have Cq := Lib.hid hcr; have S10 := Lib.hid (S9.out.step hb); clear hb hcr hCr S9)
  go_wp2_with (go_at_call 13; (with_reducible refine (ref_k I.out.ml S10.out.l1 I.out.cm (by have := I.out.bm; omega)).mono ?_); rintro e w11 ⟨Ar, cr, rfl, hcr, hCr, hb⟩; have Hr := Lib.hid hCr; have Cr := Lib.hid hcr; have S11 := Lib.hid (S10.out.step hb); have Hqx := Lib.hid (Kd.C_below Hq.out hb); clear Hq; clear hb hcr hCr S10)
  go_wp2_with (go_at_call 17; (with_reducible refine (rcomm_k I.out.nl I.out.ml Hqx.out Cq.out Hr.out Cr.out I.out.bn).mono ?_); rintro e w12 ⟨rfl, hb⟩; rw [← HP.out]; have S12 := Lib.hid (S11.out.step hb); clear hb S11)
  go_wp2_with (go_at_call 16; (with_reducible refine (comm_k I.out.ml I.out.nl S12.out.b HCb.out S12.out.a HCa.out I.out.bm).mono ?_); rintro e w13 ⟨rfl, hb⟩; rw [← HQ.out]; have S13 := Lib.hid (S12.out.step hb); clear hb S12)
  go_wp2_with (go_at_call 13; (with_reducible refine (ref_k I.out.ml S13.out.l1 I.out.cm (by have := I.out.bm; omega)).mono ?_); rintro e w14 ⟨At, ct, rfl, hcr, hCr, hb⟩; have Ht := Lib.hid hCr; have Ct := Lib.hid hcr; have S14 := Lib.hid (S13.out.step hb); clear hb hcr hCr S13)
  go_wp2_with (go_at_call 13; (with_reducible refine (ref_k I.out.nl S14.out.l0 I.out.cn (by have := I.out.bn; omega)).mono ?_); rintro e w15 ⟨Au, cu, rfl, hcr, hCr, hb⟩; have Hu := Lib.hid hCr; have Cu := Lib.hid hcr; have S15 := Lib.hid (S14.out.step hb); have Htx := Lib.hid (Kd.C_below Ht.out hb); clear Ht; clear hb hcr hCr S14)
  go_wp2_with (go_at_call 17; (with_reducible refine (rcomm_k I.out.ml I.out.nl Htx.out Ct.out Hu.out Cu.out I.out.bm).mono ?_); rintro e w16 ⟨rfl, hb⟩; rw [← HQ.out]; have S16 := Lib.hid (S15.out.step hb); clear hb S15)
  go_wp2_with (go_at_call 18; (with_reducible refine (kept_k I.out.nl S16.out.a HCa.out S16.out.l0 I.out.cn I.out.bn).mono ?_); rintro e w17 ⟨rfl, hb⟩; have S17 := Lib.hid (S16.out.step hb); clear hb S16)
  go_wp2_with (go_at_call 18; (with_reducible refine (kept_k I.out.ml S17.out.b HCb.out S17.out.l1 I.out.cm I.out.bm).mono ?_); rintro e w18 ⟨rfl, hb⟩; have S18 := Lib.hid (S17.out.step hb); clear hb S17)
  clear HT HE HC HP HQ Hp Cp Hqx Cq Hr Cr Htx Ct Hu Cu
  obtain ⟨TP, hTP⟩ : ∃ TP, TP = (parseB s).1 := ⟨_, rfl⟩
  obtain ⟨EP, hEP⟩ : ∃ EP, EP = (parseB s).2 := ⟨_, rfl⟩
  have HTP := Lib.hid hTP
  have HEP := Lib.hid hEP
  have HTL := Lib.hid (show TP.length ≤ 64 by rw [hTP]; exact parseB_len _)
  clear hTP hEP
  go_wp2_with (go_at_call 19; (with_reducible refine (parse_k I.out.bs S18.out.tabs).mono ?_); rintro e w19 ⟨v19, rfl, hR, hb⟩; rw [← HEP.out]; rw [← HTP.out] at hR; have HX := Lib.hid (R_win hR); have HB19 := Lib.hid hb; clear hR hb)
  go_wp2_with (go_at_call 20; (with_reducible refine (rparse_k I.out.bs).mono ?_); rintro e w20 ⟨v20, rfl, hR, hb⟩; rw [← HEP.out]; rw [← HTP.out] at hR; have HY := Lib.hid (R_win hR); have HB20 := Lib.hid hb; clear hR hb)
  have HB1820 := Lib.hid (HB19.out.trans (HB20.out.mono HB19.out.size))
  go_wp2_with (go_at_call 19; (with_reducible refine (parse_k I.out.bs (S18.out.tabs.below HB1820.out)).mono ?_); rintro e w21 ⟨v21, rfl, hR, hb⟩; rw [← HEP.out]; rw [← HTP.out] at hR; have HZ := Lib.hid (R_win hR); have HB21 := Lib.hid hb; clear hR hb)
  go_wp2_with (go_at_call 21; (with_reducible refine (same_v v19 v20 TP _ _ _ _ _ (by have := HTL.out; omega) (Kd.R_below HX.out (HB20.out.trans (HB21.out.mono HB20.out.size))) (Kd.R_below HY.out HB21.out)).mono ?_); rintro e w22 ⟨rfl, hb⟩; have HB22 := Lib.hid hb; clear hb)
  go_wp2_with (go_at_call 22; (with_reducible refine (erratalaw03_spoil.calls ((TP.map ofPl).length + 42) (fun j => w18.heap.size ≤ j ∧ j < w19.heap.size) v19 (TP.map ofPl) w18 _ (HB1820.out.trans ((HB21.out.trans (HB22.out.mono HB21.out.size)).mono HB1820.out.size)) (Kd.R_below HX.out ((HB20.out.trans (HB21.out.mono HB20.out.size)).trans (HB22.out.mono (Nat.le_trans HB20.out.size HB21.out.size)))) (spoil_f _ (by rw [List.length_map]; have := HTL.out; omega))).mono ?_); rintro e w23 ⟨rfl, hb, hk⟩; have HB23 := Lib.hid hb; have HK := Lib.hid hk; clear hb hk)
  have hz19 := HB19.out.size
  have hz20 := HB20.out.size
  have hz21 := HB21.out.size
  have hz22 := HB22.out.size
  have HY2 := Lib.hid (Kd.R_kept (Kd.R_below HY.out (HB21.out.trans (HB22.out.mono hz21))) HK.out (fun k hk hk2 => by omega))
  have HZ2 := Lib.hid (Kd.R_kept (Kd.R_below HZ.out HB22.out) HK.out (fun k hk hk2 => by omega))
  have S23 := Lib.hid (S18.out.step HB23.out)
  clear hz19 hz20 hz21 hz22 HX HY HZ HB19 HB20 HB21 HB22 HB23 HB1820 HK S18
  go_wp2_with (go_at_call 21; (with_reducible refine (same_v v21 v20 TP _ _ _ _ _ (by have := HTL.out; omega) HZ2.out HY2.out).mono ?_); rintro e w24 ⟨rfl, hb⟩; have S24 := Lib.hid (S23.out.step hb); clear hb S23 HZ2 HY2)
  go_wp2_with (go_at_call 23; (with_reducible refine (alive_any _ S24.out.tabs).mono ?_); rintro e w25 ⟨rfl, hb⟩; have S25 := Lib.hid (S24.out.step hb); clear hb S24)
  go_ret
  exact ⟨rfl, S25.out.below⟩
end Go.Proofs.YtmgfdcfbjgokgaaDoor
