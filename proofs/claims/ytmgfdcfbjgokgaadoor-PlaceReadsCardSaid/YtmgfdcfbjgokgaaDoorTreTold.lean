/- The tree of stacks, VII: 'short', 'Told'. -/
import Derived.Test.YtmgfdcfbjgokgaaDoorTreStk
import Derived.Test.YtmgfdcfbjgokgaaDoorPLx17
namespace Go.Proofs.YtmgfdcfbjgokgaaDoor
open Go Go.RowKit Go.Proofs.YtmgfdcfbjgokgaaDoorW.PrintWords Go.Proofs.YtmgfdcfbjgokgaaDoorW.PrintLast Go.Proofs.YtmgfdcfbjgokgaaDoor.PL
set_option linter.unusedVariables false
set_option linter.unusedSimpArgs false

/-- A short number's bytes (below 128 * 128 * 128). -/
def encS (n : Nat) : List Int := if n < 128 then [(n : Int)] else if n < 16384 then [((n % 128 + 128 : Nat) : Int), ((n / 128 : Nat) : Int)] else [((n % 128 + 128 : Nat) : Int), ((n / 128 % 128 + 128 : Nat) : Int), ((n / 16384 : Nat) : Int)]
theorem encS_len (n : Nat) : 1 ≤ (encS n).length ∧ (encS n).length ≤ 3 := by
  unfold encS
  split
  · simp
  split <;> simp
theorem u8_or (b : Nat) : bits .or .u8 ((b : Int) % 256) 128 = ((b % 128 + 128 : Nat) : Int) := by
  have key : ∀ c : Fin 256, bits .or .u8 ((c.val : Nat) : Int) 128 = ((c.val % 128 + 128 : Nat) : Int) := by decide +kernel
  have h := key ⟨b % 256, Nat.mod_lt _ (by decide)⟩
  simp only at h
  have e1 : ((b : Int) % 256) = ((b % 256 : Nat) : Int) := by omega
  rw [e1, h]
  congr 1
  omega
theorem short_f (l : List Int) (n : Nat) (hn : n < 2097152) (hl : l.length < 140737488355000) : place_short.f 4 l (n : Int) = some (l ++ encS n) := by
  unfold place_short.f encS
  by_cases h1 : n < 128
  · simp only [place_short.l0]
    rw [if_neg (by omega), if_pos (by omega), if_pos h1]
    congr 3
    omega
  · rw [if_neg h1]
    by_cases h2 : n < 16384
    · simp only [place_short.l0]
      rw [if_pos (by omega), if_pos (by omega), if_neg (by omega), if_pos (by simp; omega), if_pos h2, u8_or, List.append_assoc]
      congr 3
      simp only [List.cons_append, List.nil_append, List.cons.injEq, and_true, true_and]
      omega
    · simp only [place_short.l0]
      rw [if_pos (by omega), if_pos (by omega), if_pos (by omega), if_pos (by simp; omega), if_neg (by omega), if_pos (by simp; omega), if_neg h2, u8_or, List.append_assoc, List.append_assoc]
      have e : ((n : Int) / 128) = ((n / 128 : Nat) : Int) := by omega
      rw [e, u8_or]
      congr 3
      simp only [List.cons_append, List.nil_append, List.cons.injEq, and_true, true_and]
      omega
def toldN (i : Nat) (x : Nd) : List Int := encS (i + 1 - x.1) ++ encS x.2.1.size ++ bytesOf x.2.1 ++ encS x.2.2.toNat
def toldGo : List Nd → Nat → List Int
  | [], _ => []
  | x :: l, i => toldN i x ++ toldGo l (i + 1)
theorem toldGo_snoc : ∀ (l : List Nd) (x : Nd) (i : Nat), toldGo (l ++ [x]) i = toldGo l i ++ toldN (i + l.length) x
  | [], x, i => by simp [toldGo]
  | y :: l, x, i => by
    simp only [List.cons_append, toldGo, toldGo_snoc l x (i + 1), List.append_assoc, List.length_cons]
    rw [show i + 1 + l.length = i + (l.length + 1) by omega]
def toldI (T : Tr) : List Int := encS (T.nodes.length - 1) ++ toldGo (T.nodes.drop 1) 0
section
variable {W : World} {g : Nat} {T : Tr} {An Ad : Option Addr} {cn cd mb : Nat}
theorem short_any {w0 w : World} (P : Nat → Prop) (v : Value) (l : List Int) (n : Nat) (hB : Below w0.heap.size w0 w) (hR : Kd.R (Kd.int .u8) 5 w w0.heap.size P v l) (hn : n < 2097152) (hl : l.length < 140737488355000) :
    Calls Tryd.prog 73 #[v, .int .i64 n] w fun e w2 => ∃ v2, e = .returned v2 ∧ Kd.R (Kd.int .u8) 5 w2 w0.heap.size (fun k => P k ∨ w.heap.size ≤ k) v2 (l ++ encS n) ∧ Below w0.heap.size w0 w2 ∧ Kept w w2 P :=
  place_short.calls 4 P v l n _ w0 w hB hR (short_f l n hn hl)
set_option maxRecDepth 100000 in
set_option maxHeartbeats 3200000 in
theorem Told_any (h : TreC W g T An cn Ad cd mb) (hw : T.wf) : Calls Tryd.prog 38 #[.pointer (some ⟨g, 0, none⟩)] W fun e w2 => e = .returned (.string (strOfNums (toldI T))) ∧ Below W.heap.size W w2 := by
  have H := Lib.hid h
  have HW := Lib.hid hw
  have h0 := h.c0
  obtain ⟨M, hM⟩ : ∃ M, M = T.nodes.length := ⟨_, rfl⟩
  rw [← hM] at h0
  have HM := Lib.hid hM
  have hM1 : 1 ≤ M := by rw [hM]; exact hw.one
  have hM4 : M ≤ 4096 := by rw [hM]; exact hw.most
  obtain ⟨i0, hi, hz0, hz1, hz2⟩ := info_parts (show (Tryd.prog.info? 136).map (fun i => (i.zero, i.size, i.bytes)) = some (some (.agg #[.int .i64 0, .string ⟨#[]⟩, .int .i64 0]), 3, 32) from by kernel_rfl)
  obtain ⟨A2, hA2⟩ : ∃ A2, A2 = (if cn = 1 then An else An.map (·.add (1 * 3))) := ⟨_, rfl⟩
  have hcut : ∀ W : World, (Instr.slice 130 (.slice An M cn) (some (.int .i64 1)) none none).run Tryd.prog W = .ok (.slice A2 (M - 1) (cn - 1)) W := fun W => by
    have := cut_from (P := Tryd.prog) 130 136 .i64 Tryd.underlying130 hi 3 hz1 An M cn 1 (by omega) (by omega) W
    rw [hA2]
    exact this
  have hC2 : Kd.C kNd W A2 (T.nodes.drop 1).length (T.nodes.drop 1) := by
    have := Kd.C_drop (c := cn) h.nodes (m := 1) hw.one h.capn
    rw [hA2]
    exact this
  have hdl : (T.nodes.drop 1).length = M - 1 := by rw [List.length_drop, ← hM]
  obtain ⟨L, hL⟩ : ∃ L, L = M - 1 := ⟨_, rfl⟩
  have hLM : M = L + 1 := by omega
  rw [← hL] at hcut hdl
  have HC2 := Lib.hid hC2
  have HDL := Lib.hid hdl
  have HT0 := Lib.hid (show toldI T = encS L ++ toldGo (T.nodes.drop 1) 0 by unfold toldI; rw [← hM, ← hL])
  have hL4 : L ≤ 4095 := by omega
  subst hLM
  clear h hw hM hL hA2 hi hz0 hz1 hz2 hC2 hdl hM1 hM4
  go_enter Tryd.func38, Tryd.ntmps38
  go_wp2_with (go_at_call 73; (with_reducible refine (short_any (w0 := W) (fun k => W.heap.size ≤ k) (.slice none 0 0) [] L (Below.refl _ _) (Kd.R_nil _ _ _ _ _) (by omega) (by simp)).mono ?_); rintro e w1 ⟨v1, rfl, hR1, hb1, _⟩; have HR1 := Lib.hid hR1; have HB1 := Lib.hid hb1; have c1 := (hb1.cell (World.block_lt_of_cell? W _ h0)).trans h0; clear hR1 hb1)
  go_loopg [3, 21] L (fun q s3 s21 wx => ∃ k : Nat, k + q = L ∧ s21 = .int .i64 k ∧ Hid (Kd.R (Kd.int .u8) 5 wx W.heap.size (fun b => W.heap.size ≤ b) s3 (encS L ++ toldGo ((T.nodes.drop 1).take k) 0)) ∧ Hid ((encS L ++ toldGo ((T.nodes.drop 1).take k) 0).length ≤ 3 + 129 * k) ∧ Hid (Below W.heap.size W wx))
  case atStart => exact ⟨0, by omega, rfl, Lib.hid (by have := Kd.R_mono HR1.out (fun b hb => (hb.elim id id : W.heap.size ≤ b)); simpa [toldGo] using this), Lib.hid (by have := encS_len L; simp [toldGo]; omega), HB1⟩
  case round =>
    obtain ⟨k, hkq, rfl, HR, HLN, HBW⟩ := hrel
    by_cases hlt : k < L
    · have d1 : decide ((k : Int) < (L : Int)) = true := by simp; omega
      have hkl : k < (T.nodes.drop 1).length := by rw [HDL.out]; exact hlt
      obtain ⟨ad, hAd, y0, y1, y2⟩ := at_nd (Kd.C_below HC2.out HBW.out) k hkl hkl
      subst hAd
      obtain ⟨X, hX⟩ : ∃ X, X = (T.nodes.drop 1)[k] := ⟨_, rfl⟩
      rw [← hX] at y0 y1 y2
      have hX2 : X = T.nodes[k + 1]'(by have := HM.out; omega) := by rw [hX, List.getElem_drop]; congr 1; omega
      obtain ⟨o1, o2, _⟩ := HW.out.ok (k + 1) (by omega) (by have := HM.out; omega)
      rw [← hX2] at o1 o2
      have hmay := may_parts o1.may
      have hsn : (T.nodes.drop 1).take (k + 1) = (T.nodes.drop 1).take k ++ [X] := by rw [List.take_succ_eq_append_getElem hkl, hX]
      obtain ⟨U, S, Z⟩ := X
      simp only at y0 y1 y2 o2 hmay
      obtain ⟨Y, rfl⟩ : ∃ Y : Nat, Z = (Y : Int) := ⟨Z.toNat, by omega⟩
      obtain ⟨Dd, hDd⟩ : ∃ Dd, k + 1 = U + Dd := ⟨k + 1 - U, by omega⟩
      have htn : toldGo ((T.nodes.drop 1).take (k + 1)) 0 = toldGo ((T.nodes.drop 1).take k) 0 ++ (encS Dd ++ encS S.size ++ bytesOf S ++ encS Y) := by
        rw [hsn, toldGo_snoc]
        congr 1
        unfold toldN
        simp only [Int.toNat_natCast]
        rw [show 0 + ((T.nodes.drop 1).take k).length + 1 - U = Dd by rw [List.length_take, Nat.min_eq_left (by omega)]; omega]
      have HTN := Lib.hid htn
      have HDd := Lib.hid hDd
      have hS : S.size ≤ 120 := hmay.2.1
      have hY : Y ≤ 1048576 := by omega
      have hU : U ≤ 4096 := by omega
      have hDb : Dd ≤ 4096 := by omega
      have HRB := Lib.hid (Kd.R_mono (Kd.R_bound HR.out) (fun b hb => (⟨hb.1, by have := hb.2.2.1; omega⟩ : W.heap.size ≤ b ∧ b ≠ wr.heap.size)))
      obtain ⟨xs, hxs⟩ : ∃ xs, xs = encS L ++ toldGo ((T.nodes.drop 1).take k) 0 := ⟨_, rfl⟩
      rw [← hxs] at HRB HLN
      have HXS := Lib.hid hxs
      have hln := HLN.out
      clear hxs htn hsn hX hX2 o1 o2 hmay HR hDd hkl
      have HDi := Lib.hid (show ((k : Int) + 1 - (U : Int)) = ((Dd : Nat) : Int) by have := HDd.out; omega)
      have HXA := Lib.hid (heap_alloc_new wr (.cells #[.int .i64 (U : Nat), .string S, .int .i64 (Y : Nat)] 136))
      go_wp2_with (go_at_call 73; rw [HDi.out]; (with_reducible refine (short_any (w0 := W) (fun b => W.heap.size ≤ b ∧ b ≠ wr.heap.size) _ (xs) Dd (HBW.out.alloc HBW.out.size _) (Kd.R_alloc HRB.out _) (by omega) (by (try simp only [List.length_append]); have := encS_len Dd; have := encS_len S.size; have := bytesOf_length S; omega)).mono ?_); rintro e w2 ⟨v2, rfl, hR, hb, hk⟩; have HX2 := Lib.hid (hk.2 wr.heap.size (by simp) (fun hh => hh.2 rfl)); have HX2 := Lib.hid (HX2.out.trans HXA.out); have hz2 : wr.heap.size < w2.heap.size := (Array.getElem?_eq_some_iff.1 HX2.out).1; have HR2 := Lib.hid (Kd.R_mono (Kd.R_bound hR) (fun b hb2 => (hb2.1.elim id (fun h_ => ⟨hb2.2.1, by have h3_ : wr.heap.size + 1 ≤ b := (by simpa using h_); omega⟩) : W.heap.size ≤ b ∧ b ≠ wr.heap.size))); have HB2 := Lib.hid hb; clear hR hb hk; have hb02 : w2.cell? ⟨wr.heap.size, 0, none⟩ = some (.int .i64 (U : Nat)) := (cell_of_row _ _ 0 _ _ _ HX2.out).trans rfl; have hb12 : w2.cell? ⟨wr.heap.size, 1, none⟩ = some (.string S) := (cell_of_row _ _ 1 _ _ _ HX2.out).trans rfl; have hb22 : w2.cell? ⟨wr.heap.size, 2, none⟩ = some (.int .i64 (Y : Nat)) := (cell_of_row _ _ 2 _ _ _ HX2.out).trans rfl)
      go_wp2_with (first | (go_at_call 73; (with_reducible refine (short_any (w0 := W) (fun b => W.heap.size ≤ b ∧ b ≠ wr.heap.size) _ (xs ++ encS Dd) S.size HB2.out HR2.out (by omega) (by (try simp only [List.length_append]); have := encS_len Dd; have := encS_len S.size; have := bytesOf_length S; omega)).mono ?_); rintro e w3 ⟨v3, rfl, hR, hb, hk⟩; have HX3 := Lib.hid (hk.2 wr.heap.size (by omega) (fun hh => hh.2 rfl)); have HX3 := Lib.hid (HX3.out.trans HX2.out); have hz3 : wr.heap.size < w3.heap.size := (Array.getElem?_eq_some_iff.1 HX3.out).1; have HR3 := Lib.hid (Kd.R_mono (Kd.R_bound hR) (fun b hb2 => (hb2.1.elim id (fun h_ => ⟨hb2.2.1, by have h3_ : w2.heap.size ≤ b := h_; omega⟩) : W.heap.size ≤ b ∧ b ≠ wr.heap.size))); have HB3 := Lib.hid hb; clear hR hb hk; have hb03 : w3.cell? ⟨wr.heap.size, 0, none⟩ = some (.int .i64 (U : Nat)) := (cell_of_row _ _ 0 _ _ _ HX3.out).trans rfl; have hb13 : w3.cell? ⟨wr.heap.size, 1, none⟩ = some (.string S) := (cell_of_row _ _ 1 _ _ _ HX3.out).trans rfl; have hb23 : w3.cell? ⟨wr.heap.size, 2, none⟩ = some (.int .i64 (Y : Nat)) := (cell_of_row _ _ 2 _ _ _ HX3.out).trans rfl; obtain ⟨ys, hys⟩ : ∃ ys, ys = xs ++ encS Dd ++ encS S.size := ⟨_, rfl⟩; have hyl : ys.length ≤ xs.length + 6 := (by rw [hys]; simp only [List.length_append]; have := encS_len Dd; have := encS_len S.size; omega); rw [← hys] at HR3; have HYS := Lib.hid hys; clear hys) | ((with_reducible refine gate_builtin (b := .append) (xs := #[.tmp 39, .tmp 42]) rfl ?_); at_builtin; refine print_append_str (w0 := W) W.heap.size rfl (.tmp 39) (.tmp 42) 115 9 5 rfl Tryd.underlying115 Tryd.underlying9 info5 v3 ys S rfl rfl (Kd.own_of_R HR3.out) HB3.out HB3.out.size (by omega) ?_; intro v4 w4 ho hb hg; have HX4 := Lib.hid ((hg.block wr.heap.size hz3 (fun hh => (HR3.out.1 wr.heap.size hh.symm).2 rfl)).trans HX3.out); have hz4 : wr.heap.size < w4.heap.size := (Array.getElem?_eq_some_iff.1 HX4.out).1; have HO4 := Lib.hid ho; have HB4 := Lib.hid hb; clear ho hb hg; have hb04 : w4.cell? ⟨wr.heap.size, 0, none⟩ = some (.int .i64 (U : Nat)) := (cell_of_row _ _ 0 _ _ _ HX4.out).trans rfl; have hb14 : w4.cell? ⟨wr.heap.size, 1, none⟩ = some (.string S) := (cell_of_row _ _ 1 _ _ _ HX4.out).trans rfl; have hb24 : w4.cell? ⟨wr.heap.size, 2, none⟩ = some (.int .i64 (Y : Nat)) := (cell_of_row _ _ 2 _ _ _ HX4.out).trans rfl))
      have HR4 := Lib.hid (show Kd.R (Kd.int .u8) 5 w4 W.heap.size (fun b => W.heap.size ≤ b) v4 (ys ++ bytesOf S) from Kd.R_of_own HO4.out (fun b hb => own_base HO4.out b hb))
      have hsl := bytesOf_length S
      go_wp2_with (go_at_call 73; (with_reducible refine (short_any (w0 := W) (fun b => W.heap.size ≤ b) _ (ys ++ bytesOf S) Y HB4.out HR4.out (by omega) (by rw [List.length_append, hsl]; omega)).mono ?_); rintro e w5 ⟨v5, rfl, hR, hb, hk⟩; have HR5 := Lib.hid (Kd.R_mono hR (fun b hb2 => (hb2.elim id (fun h_ => (by have h3_ : w4.heap.size ≤ b := h_; have := HB4.out.size; omega)) : W.heap.size ≤ b))); have HB5 := Lib.hid hb; clear hR hb hk)
      obtain ⟨q, rfl⟩ : ∃ q, gk = q + 1 := ⟨gk - 1, by omega⟩
      have he : encS L ++ toldGo ((T.nodes.drop 1).take (k + 1)) 0 = ys ++ bytesOf S ++ encS Y := by
        rw [HTN.out, HYS.out, HXS.out]
        simp only [List.append_assoc]
      go_roundg q
      case measure => omega
      case rel =>
        refine ⟨k + 1, by omega, by first | rfl | go_num, Lib.hid (by rw [he]; exact HR5.out), Lib.hid ?_, HB5⟩
        rw [he]
        have := encS_len Y
        simp only [List.length_append]
        omega
    · obtain rfl : k = L := by omega
      have d1 : decide ((k : Int) < (k : Int)) = false := by simp
      have hR := HR.out
      rw [List.take_of_length_le (by rw [HDL.out]; exact Nat.le_refl _), ← HT0.out] at hR
      have hcv := own_string (P := Tryd.prog) Tryd.underlying115 Tryd.underlying5 Tryd.underlying9 (Kd.own_of_R hR)
      clear hR HR HT0
      go_wp2
      go_ret
      exact ⟨rfl, HBW.out⟩
end
end Go.Proofs.YtmgfdcfbjgokgaaDoor
