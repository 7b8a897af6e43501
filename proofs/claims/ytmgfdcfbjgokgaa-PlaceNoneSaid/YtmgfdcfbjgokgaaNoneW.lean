/- The walk of 'PlaceNone'. -/
import Derived.Test.YtmgfdcfbjgokgaaNoneL
namespace Go.Proofs.Ytmgfdcfbjgokgaa
open Go Go.RowKit Go.Maps Go.Proofs.YtmgfdcfbjgokgaaW.PrintWords Go.Proofs.YtmgfdcfbjgokgaaW.PrintLast Go.Proofs.YtmgfdcfbjgokgaaW.PrintMore Go.Proofs.Ytmgfdcfbjgokgaa.PL
set_option linter.unusedVariables false
set_option linter.unusedSimpArgs false

/-- The place that is laid ahead stays. -/
structure StN (w W : World) : Prop where
  below : Below w.heap.size w W
  box : W.heap[w.heap.size]? = some (.cells #[.string ⟨#[102]⟩, .int .i64 1] 24)
theorem StN.step {w W W2 : World} (S : StN w W) (hb : Below W.heap.size W W2) : StN w W2 :=
  ⟨S.below.trans (hb.mono S.below.size), by rw [hb.block _ (Array.getElem?_eq_some_iff.1 S.box).1]; exact S.box⟩
theorem StN.base {w W W2 : World} (S : StN w W) {b : Nat} (hb : Below b W W2) (h : w.heap.size < b) : StN w W2 :=
  ⟨S.below.trans (hb.mono (by omega)), by rw [hb.block _ h]; exact S.box⟩
theorem StN.grown {w W w1 : World} (S : StN w W) {v : Value} (hb : Below w.heap.size w w1) (hg : W.grownBy w1 v.ownBlock) (hne : ∀ k, v.ownBlock = some k → k ≠ w.heap.size) : StN w w1 :=
  ⟨hb, by rw [hg.block _ (Array.getElem?_eq_some_iff.1 S.box).1 (fun e => hne _ e.symm rfl)]; exact S.box⟩
theorem StN.lt {w W : World} (S : StN w W) : w.heap.size < W.heap.size := (Array.getElem?_eq_some_iff.1 S.box).1
theorem StN.c0 {w W : World} (S : StN w W) : W.cell? ⟨w.heap.size, 0, none⟩ = some (.string ⟨#[102]⟩) := (cell_of_row _ _ 0 _ _ _ S.box).trans rfl
theorem StN.c1 {w W : World} (S : StN w W) : W.cell? ⟨w.heap.size, 1, none⟩ = some (.int .i64 1) := (cell_of_row _ _ 1 _ _ _ S.box).trans rfl
/-- A tree, its rows anywhere. -/
def TX (W : World) (b g mb : Nat) (T : Tr) : Prop := ∃ gn gd cn cd, ∃ D : DataW Unit, TreeW W b g gn gd mb cn cd D T
theorem TX.below {W W2 : World} {b g mb : Nat} {T : Tr} (h : TX W b g mb T) (hb : Below W.heap.size W W2) : TX W2 b g mb T := by
  obtain ⟨gn, gd, cn, cd, D, hT⟩ := h
  exact ⟨gn, gd, cn, cd, D, hT.below hb⟩
theorem push_n {w W : World} {b g mb : Nat} {T T2 : Tr} {x y : Int} (S : StN w W) (hT : TX W b g mb T) (hb : w.heap.size < b) (n : Int) (p : Pl) (hsz : p.1.size ≤ 9223372036854775807) (h : pushT T n p = ((x, y), T2)) :
    Calls Try.prog 4 #[.pointer (some ⟨g, 0, none⟩), .int .i64 n, .agg #[.string p.1, .int .i64 p.2]] W fun e w2 => e = .returned (.tuple #[.int .i64 x, .int .i64 y]) ∧ StN w w2 ∧ TX w2 b g mb T2 := by
  obtain ⟨gn, gd, cn, cd, D, hT⟩ := hT
  have hbs : b ≤ W.heap.size := by have := hT.low; have := hT.lt; omega
  refine (Push_any hT n hsz hbs).mono fun e w2 h2 => ?_
  obtain ⟨gn2, gd2, cn2, cd2, D2, he, hT2, hbl, _⟩ := h2
  rw [h] at he hT2
  exact ⟨he, S.base hbl hb, gn2, gd2, cn2, cd2, D2, hT2⟩
theorem len_n {W : World} {b g mb : Nat} {T : Tr} {N : Int} (hT : TX W b g mb T) (hN : (T.nodes.length : Int) = N) : Calls Try.prog 9 #[.pointer (some ⟨g, 0, none⟩)] W fun e w2 => e = .returned (.int .i64 N) ∧ w2 = W := by
  obtain ⟨gn, gd, cn, cd, D, hT⟩ := hT
  subst hN
  exact TLen_any hT.C
theorem toldGo_le : ∀ (l : List Nd) (i : Nat), (∀ x ∈ l, x.2.1.size ≤ 120) → (toldGo l i).length ≤ 129 * l.length
  | [], _, _ => by simp [toldGo]
  | x :: l, i, h => by
    have h1 := toldGo_le l (i + 1) (fun y hy => h y (List.mem_cons_of_mem _ hy))
    have h2 := h x (List.mem_cons_self ..)
    have a1 := (encS_len (i + 1 - x.1)).2
    have a2 := (encS_len x.2.1.size).2
    have a3 := (encS_len x.2.2.toNat).2
    have a4 := bytesOf_length x.2.1
    simp only [toldGo, toldN, List.length_append, List.length_cons]
    omega
theorem told_small {T : Tr} (hw : T.wf) : (toldI T).length ≤ 600000 := by
  have h := toldGo_le (T.nodes.drop 1) 0 (fun x hx => by
    obtain ⟨j, hj, rfl⟩ := List.mem_iff_getElem.1 hx
    rw [List.length_drop] at hj
    have := (hw.ok (1 + j) (by omega) (by omega)).1
    rw [List.getElem_drop]
    exact (may_parts this.may).2.1)
  have hm := hw.most
  have := (encS_len (T.nodes.length - 1)).2
  rw [List.length_drop] at h
  unfold toldI
  rw [List.length_append]
  omega
theorem told_n {W : World} {b g mb : Nat} {T : Tr} (hT : TX W b g mb T) : Calls Try.prog 11 #[.pointer (some ⟨g, 0, none⟩)] W fun e w2 => e = .returned (.string (strOfNums (toldI T))) ∧ Below W.heap.size W w2 := by
  obtain ⟨gn, gd, cn, cd, D, hT⟩ := hT
  exact Told_any hT.C hT.wf
theorem from_n {W : World} {T : Tr} (hw : T.wf) : Calls Try.prog 14 #[.string (strOfNums (toldI T))] W fun e w2 => ∃ g mb, e = .returned (.tuple #[.pointer (some ⟨g, 0, none⟩), .int .i64 0]) ∧ TX w2 W.heap.size g mb T ∧ Below W.heap.size W w2 := by
  have hs := told_small hw
  refine (From_any (W := W) (strOfNums (toldI T)) (by rw [strOfNums_size]; omega)).mono fun e w2 h => ?_
  unfold FromIs at h
  rw [from_told hw] at h
  obtain ⟨hb, g, gn, gd, mb, cn, cd, D, he, hT⟩ := h
  exact ⟨g, mb, he, ⟨gn, gd, cn, cd, D, hT⟩, hb⟩
theorem lit_pl (W : World) (s : ByteArray) (n : Int) : Kd.C k24 (W.alloc (.cells #[.string s, .int .i64 n] 24)) (some ⟨W.heap.size, 0, none⟩) 1 [⟨s, n⟩] :=
  ⟨rfl, by decide, fun _ => ⟨_, rfl, fun j x hx => by
    cases j with
    | zero =>
      cases hx
      refine ⟨[.string s, .int .i64 n], rfl, k24_mk _ ⟨s, n⟩, fun i u hu => ?_⟩
      exact cell_two_new W 24 (.string s) (.int .i64 n) (0 * 2 + i) u (by rw [Nat.zero_mul, Nat.zero_add]; exact hu)
    | succ j => simp at hx⟩⟩
theorem check_lit (W : World) (s : ByteArray) (n : Int) (hs : s.size ≤ 9223372036854775807) {E : Int} (hE : (if mayB s n then 0 else 30) = E) : Calls Try.prog 12 #[.slice (some ⟨W.heap.size, 0, none⟩) 1 1] (W.alloc (.cells #[.string s, .int .i64 n] 24)) fun e w2 => e = .returned (.int .i64 E) ∧ Below W.heap.size W w2 := by
  refine (Check_any (some ⟨W.heap.size, 0, none⟩) 1 [⟨s, n⟩] _ (lit_pl W s n) (Nat.le_refl _) (fun x hx => by rw [List.mem_singleton.1 hx]; exact hs) (by show (1 : Nat) ≤ _; omega)).mono fun e w2 ⟨he, hb⟩ => ?_
  refine ⟨?_, ((Below.refl _ W).alloc (Nat.le_refl _) _).trans (hb.mono (by simp))⟩
  rw [he]
  show Ending.returned (.int .i64 (checkN [(s, n)])) = _
  rw [check_one, hE]
theorem R_rdn {α : Type} {d : Kd α} {e : TypeId} {base : Nat} {ok : Nat → Prop} {W : World} {A : Option Addr} {n c : Nat} {xs : List α} (hn : n = xs.length) (h : Kd.R d e W base ok (.slice A n c) xs) : n ≤ c ∧ Kd.C d W A n xs := by
  have := Kd.R_reads' h
  subst hn
  exact ⟨this.2.1, this.2.2⟩
theorem check_n {W : World} {A : Option Addr} {c i : Nat} (hi : i ≤ 65) (hC : Kd.C k24 W A i (fs i)) (hc : i ≤ c) {E : Int} (hE : (if i > 64 then 31 else 0) = E) : Calls Try.prog 12 #[.slice A i c] W fun e w2 => e = .returned (.int .i64 E) ∧ Below W.heap.size W w2 := by
  have hl := fs_len i
  have := Check_any A c (fs i) W (by rw [hl]; exact hC) (by rw [hl]; exact hc) (fun x hx => by
    have := fs_mem hi (List.mem_map.2 ⟨x, hx, rfl⟩)
    have h1 : x.f0 = ⟨#[102]⟩ := this.1
    rw [h1]
    exact (show (1 : Nat) ≤ 9223372036854775807 by decide)) (by rw [hl]; omega)
  rw [hl, check_fs hi, hE] at this
  exact this
theorem add_n {w W : World} {b g mb : Nat} {A : Option Addr} {c : Nat} {T2 : Tr} (S : StN w W) (hT : TX W b g mb newT) (hb : w.heap.size < b) (hC : Kd.C k24 W A 64 (fs 64)) (hc : 64 ≤ c) (hA : ∀ ad, A = some ad → ad.block < b) (h : addT newT ((fs 64).map toPl) = (((64 : Int), (0 : Int)), T2)) :
    Calls Try.prog 5 #[.pointer (some ⟨g, 0, none⟩), .slice A 64 c] W fun e w2 => e = .returned (.tuple #[.int .i64 64, .int .i64 0]) ∧ StN w w2 ∧ TX w2 b g mb T2 := by
  obtain ⟨gn, gd, cn, cd, D, hT⟩ := hT
  have hbs : b ≤ W.heap.size := by have := hT.low; have := hT.lt; omega
  have hl := fs_len 64
  have := Add_any hT A c (fs 64) (by rw [hl]; exact hC) (by rw [hl]; exact hc) (fun x hx => by
    have := fs_mem (i := 64) (by decide) (List.mem_map.2 ⟨x, hx, rfl⟩)
    have h1 : x.f0 = ⟨#[102]⟩ := this.1
    rw [h1]
    exact (show (1 : Nat) ≤ 9223372036854775807 by decide)) (by rw [hl]; decide) (fun ad had => by have := hA ad had; have := hT.low; exact ⟨by omega, by omega, by omega, by omega⟩) hbs
  rw [hl, h] at this
  refine this.mono fun e w2 ⟨gn2, gd2, cn2, cd2, D2, he, hT2, hbl, _⟩ => ?_
  exact ⟨he, S.base hbl hb, gn2, gd2, cn2, cd2, D2, hT2⟩
theorem push_64 {T : Tr} (h65 : T.nodes.length = 65) (hd : T.deep.getD 64 0 = 64) : pushT T 64 (⟨#[102]⟩, 1) = (((0 : Int), (31 : Int)), T) := by
  unfold pushT
  rw [if_neg (by omega), if_neg (by rw [may_f (by decide) (by decide)]; decide), show (64 : Int).toNat = 64 from rfl, hd, if_pos (by decide)]
theorem push_65 {T : Tr} (h65 : T.nodes.length = 65) : pushT T 65 (⟨#[102]⟩, 1) = (((0 : Int), (1 : Int)), T) := by
  unfold pushT
  rw [if_pos (by omega)]
def til (i : Nat) : ByteArray := ⟨(List.replicate i (126 : UInt8)).toArray⟩
theorem til_size (i : Nat) : (til i).size = i := by simp [til, ByteArray.size]
theorem til_succ (i : Nat) : til i ++ ⟨#[126]⟩ = til (i + 1) := by
  apply bs_ext
  simp [til, List.replicate_succ']
theorem may_til : mayB (til 120) 0 = true := by
  unfold mayB
  rw [til_size]
  decide +kernel
theorem may_til1 : mayB (til 120 ++ ⟨#[126]⟩) 0 = false := by
  rw [til_succ]
  unfold mayB
  rw [til_size]
  rfl
theorem may_long : mayB (strOfNums (List.replicate 121 0)) 0 = false := by
  unfold mayB
  rw [strOfNums_size, List.length_replicate]
  rfl
theorem may_big : mayB ⟨#[102]⟩ 1048577 = false := by decide +kernel
theorem may_neg : mayB ⟨#[102]⟩ (-1) = false := by decide +kernel
set_option maxRecDepth 100000 in
set_option maxHeartbeats 16000000 in
theorem none_any (w : World) : Calls Try.prog 3 #[] w fun e w' => e = .returned (.bool true) ∧ Below w.heap.size w w' := by
  go_enter Try.func3, Try.ntmps3
  go_wp2_with (first | (go_at_call 4; (with_reducible refine (Push_nil 0 ⟨#[102]⟩ 1).mono ?_); rintro e w1 ⟨rfl, rfl⟩) | (go_at_call 5; (with_reducible refine (Add_nil none 0 0).mono ?_); rintro e w1 ⟨rfl, rfl⟩) | (go_at_call 6; (with_reducible refine (Stack_nil 0).mono ?_); rintro e w1 ⟨rfl, rfl⟩) | (go_at_call 7; (with_reducible refine (Meet_nil 0 0).mono ?_); rintro e w1 ⟨rfl, rfl⟩) | (go_at_call 8; (with_reducible refine (Parent_nil 1).mono ?_); rintro e w1 ⟨rfl, rfl⟩) | (go_at_call 9; (with_reducible refine (Len_nil).mono ?_); rintro e w1 ⟨rfl, rfl⟩) | (go_at_call 10; (with_reducible refine (Depth_nil 0).mono ?_); rintro e w1 ⟨rfl, rfl⟩) | (go_at_call 11; (with_reducible refine (Told_nil).mono ?_); rintro e w1 ⟨rfl, rfl⟩))
  go_loopg [13, 14] 65 (fun q s13 s14 wx => ∃ i : Nat, i + q = 65 ∧ s14 = .int .i64 i ∧ Hid (Kd.R k24 24 wx w.heap.size (fun k => k ≠ w.heap.size) s13 (fs i)) ∧ Hid (StN w wx))
  case atStart => exact ⟨0, by omega, rfl, Lib.hid (Kd.R_nil _ _ _ _ _), Lib.hid ⟨((Below.refl _ w).alloc (Nat.le_refl _) _).alloc (by simp) _, by rw [heap_alloc_old _ _ (by simp)]; exact heap_alloc_new w _⟩⟩
  case round =>
    obtain ⟨i, hiq, rfl, HR, HS⟩ := hrel
    by_cases hi : i < 65
    · have d1 : decide ((i : Int) < 65) = true := by simp; omega
      have hsl := fs_len i
      go_wp2_with ((with_reducible refine gate_builtin (b := .append) (xs := #[.tmp 96, .tmp 100]) rfl ?_); (at_builtin; refine Kd.R_append k24 (w0 := w) (W := wr) w.heap.size rfl (.tmp 96) (.tmp 100) 29 24 (.agg #[(.string ⟨#[]⟩), (.int .i64 0)]) 24 rfl Try.underlying29 infoPl rfl (by decide) (by omega) u13 (fs i) (⟨⟨#[102]⟩, 1048576 - (i : Int)⟩ : S24) [.string ⟨#[102]⟩, .int .i64 (1048576 - (i : Int))] (fun k => k ≠ w.heap.size) (fun _ => False) rfl rfl (k24_mkM _ _ _ (⟨⟨#[102]⟩, 1048576 - (i : Int)⟩ : S24)) (fun _ hk => hk.elim) (fun k hk => by have := HS.out.lt; show k ≠ _; omega) HR.out HS.out.below HS.out.below.size (by omega) ?_; intro v2 w2 hR hb hg _; rw [← fs_succ] at hR; have HS2 := Lib.hid (HS.out.grown hb hg (fun k hk => HR.out.1 k hk)); have HR2 := Lib.hid hR; clear hR hb hg))
      obtain ⟨q, rfl⟩ : ∃ q, gk = q + 1 := ⟨gk - 1, by omega⟩
      go_roundg q
      case measure => omega
      case rel => exact ⟨i + 1, by omega, by first | rfl | go_num, HR2, HS2⟩
    · obtain rfl : i = 65 := by omega
      have d1 : decide (((65 : Nat) : Int) < 65) = false := by decide
      obtain ⟨A, c, rfl⟩ := Kd.R_slice HR.out
      rw [fs_len] at HR ⊢
      go_wp2_with ((with_reducible refine gate_dst (N := 102) rfl ?_); (skip; refine Kd.R_make (Kd.int .u8) (w0 := w) w.heap.size 5 rfl (N := 102) rfl 38 (.const (.int .i64 121)) (.const (.int .i64 121)) rfl 121 rfl rfl Try.underlying38 (.int .u8 0) 1 info5 rfl (by decide) (by decide) (0 : Int) (ok := fun _ => True) (okp := fun _ => True) rfl (fun _ h => h) trivial (by decide) (by decide) HS.out.below HS.out.below.size ?_; intro v102 w2 hR hb hg _; have hcv := own_string (P := Try.prog) Try.underlying38 Try.underlying5 Try.underlying9 (Kd.own_of_R hR); obtain ⟨lg, hlg⟩ : ∃ lg, lg = strOfNums (List.replicate (Int.toNat 121) 0) := ⟨_, rfl⟩; rw [← hlg] at hcv; have HLG := Lib.hid hlg; clear hlg; have HS2 := Lib.hid (HS.out.grown (v := .slice none 0 0) hb hg (fun k hk => by cases hk)); have HR2 := Lib.hid (Kd.R_grown HR.out hg (fun k _ => by simp)); clear hR hb hg))
      go_loopg [16] 120 (fun q s16 wx => ∃ (i : Nat) (t : ByteArray), i + q = 120 ∧ s16 = .string t ∧ Hid (t = til i) ∧ t.size = i ∧ wx = w2)
      case atStart => exact ⟨0, til 0, by omega, rfl, Lib.hid rfl, til_size 0, rfl⟩
      case round =>
        obtain ⟨i, t, hiq, rfl, ht, hts, rfl⟩ := hrel
        by_cases hi : i < 120
        · have d2 : decide ((t.size : Int) < 120) = true := by simp; omega
          obtain ⟨q, rfl⟩ : ∃ q, gk = q + 1 := ⟨gk - 1, by omega⟩
          go_wp2
          go_roundg q
          case measure => omega
          case rel => exact ⟨i + 1, t ++ ⟨#[126]⟩, by omega, rfl, Lib.hid (by rw [ht.out, til_succ]), by rw [ht.out, til_succ, til_size], rfl⟩
        · have hi120 : i = 120 := by omega
          have d2 : decide ((t.size : Int) < 120) = false := by simp; omega
          have f2 : ¬ t.size < 120 := by omega
          have HTT := Lib.hid (show t = til 120 by rw [← hi120]; exact ht.out)
          have hRd := R_rdn (fs_len 65).symm HR2.out
          have HC := Lib.hid hRd.2
          have hc65 := hRd.1
          have hcut : ∀ W : World, (Instr.slice 29 (.slice A 65 c) none (some (.int .i64 64)) none).run Try.prog W = .ok (.slice A 64 c) W := fun W => by
            obtain ⟨i0, hi0, _, _, _⟩ := info_parts infoPl
            have := cut_to (P := Try.prog) 29 24 .i64 Try.underlying29 hi0 A 65 c 64 (by omega) (by omega) hc65 W
            simpa using this
          have HC64 := Lib.hid (show Kd.C k24 wr A 64 (fs 64) by
            have h := Kd.C_take (m := 64) (xs := fs 65) (by rw [fs_len]; exact hRd.2) (by rw [fs_len]; decide)
            rw [fs_take (by decide), fs_len] at h
            exact h)
          have HAL := Lib.hid (show ∀ ad, A = some ad → ad.block < wr.heap.size from fun ad h => by subst h; exact Kd.R_lt HR2.out ad.block rfl)
          have HE5 := Lib.hid (show lg.size ≤ 9223372036854775807 ∧ (if mayB lg 0 then (0 : Int) else 30) = 30 by
            rw [HLG.out, show Int.toNat 121 = 121 from rfl, may_long, strOfNums_size, List.length_replicate]
            exact ⟨by omega, rfl⟩)
          have HE6 := Lib.hid (show t.size ≤ 9223372036854775807 ∧ (if mayB t 0 then (0 : Int) else 30) = 0 by
            rw [HTT.out, may_til, til_size]
            exact ⟨by omega, rfl⟩)
          have HE7 := Lib.hid (show (t ++ ⟨#[126]⟩ : ByteArray).size ≤ 9223372036854775807 ∧ (if mayB (t ++ ⟨#[126]⟩) 0 then (0 : Int) else 30) = 30 by
            rw [HTT.out, may_til1, til_succ, til_size]
            exact ⟨by omega, rfl⟩)
          have HE8 := Lib.hid (show (⟨#[102]⟩ : ByteArray).size ≤ 9223372036854775807 ∧ (if mayB ⟨#[102]⟩ 1048577 then (0 : Int) else 30) = 30 by
            rw [may_big]
            exact ⟨(show (1 : Nat) ≤ 9223372036854775807 by omega), rfl⟩)
          have HE9 := Lib.hid (show (⟨#[102]⟩ : ByteArray).size ≤ 9223372036854775807 ∧ (if mayB ⟨#[102]⟩ (-1) then (0 : Int) else 30) = 30 by
            rw [may_neg]
            exact ⟨(show (1 : Nat) ≤ 9223372036854775807 by omega), rfl⟩)
          clear hRd ht
          go_wp2_with (first | (go_at_call 12; (with_reducible refine (check_n (by decide) HC.out hc65 (E := 31) rfl).mono ?_); rintro e w3 ⟨rfl, hb⟩; have S3 := Lib.hid (HS2.out.step hb); have B3 := Lib.hid hb; clear hb) | (go_at_call 12; (with_reducible refine (check_n (by decide) (Kd.C_below HC64.out B3.out) (by omega) (E := 0) rfl).mono ?_); rintro e w4 ⟨rfl, hb⟩; have S4 := Lib.hid (S3.out.step hb); have B4 := Lib.hid (B3.out.trans (hb.mono B3.out.size)); clear hb S3 B3) | (go_at_call 12; (with_reducible refine (check_lit w4 lg 0 HE5.out.1 HE5.out.2).mono ?_); rintro e w5 ⟨rfl, hb⟩; have S5 := Lib.hid (S4.out.step hb); have B5 := Lib.hid (B4.out.trans (hb.mono B4.out.size)); clear hb S4 B4) | (go_at_call 12; (with_reducible refine (check_lit w5 t 0 HE6.out.1 HE6.out.2).mono ?_); rintro e w6 ⟨rfl, hb⟩; have S6 := Lib.hid (S5.out.step hb); have B6 := Lib.hid (B5.out.trans (hb.mono B5.out.size)); clear hb S5 B5) | (go_at_call 12; (with_reducible refine (check_lit w6 (t ++ ⟨#[126]⟩) 0 HE7.out.1 HE7.out.2).mono ?_); rintro e w7 ⟨rfl, hb⟩; have S7 := Lib.hid (S6.out.step hb); have B7 := Lib.hid (B6.out.trans (hb.mono B6.out.size)); clear hb S6 B6) | (go_at_call 12; (with_reducible refine (check_lit w7 ⟨#[102]⟩ 1048577 HE8.out.1 HE8.out.2).mono ?_); rintro e w8 ⟨rfl, hb⟩; have S8 := Lib.hid (S7.out.step hb); have B8 := Lib.hid (B7.out.trans (hb.mono B7.out.size)); clear hb S7 B7) | (go_at_call 12; (with_reducible refine (check_lit w8 ⟨#[102]⟩ (-1) HE9.out.1 HE9.out.2).mono ?_); rintro e w9 ⟨rfl, hb⟩; have S9 := Lib.hid (S8.out.step hb); have B9 := Lib.hid (B8.out.trans (hb.mono B8.out.size)); clear hb S8 B8))
          obtain ⟨T, a1, a2, a3, a4, a5, a6⟩ := add_64
          have A1 := Lib.hid a1
          have P64 := Lib.hid (push_64 a3 a4)
          have P65 := Lib.hid (push_65 a3)
          have HW := Lib.hid (And.intro a2 (And.intro a3 (And.intro a5 a6)))
          have HL65 := Lib.hid (show (T.nodes.length : Int) = 65 by rw [a3]; rfl)
          clear a1 a2 a3 a4 a5 a6
          have b0 := S9.out.c0
          have hblk := S9.out.lt
          go_wp2_with (first | (go_at_call 13; (with_reducible refine (New_any _).mono ?_); rintro e w10 ⟨g, gn, gd, mb, cn, cd, rfl, hT, hb⟩; have S10 := Lib.hid (S9.out.step hb); have B10 := Lib.hid (B9.out.trans (hb.mono B9.out.size)); have T10 := Lib.hid (show TX w10 w9.heap.size g mb newT from ⟨gn, gd, cn, cd, _, hT⟩); have HAB := Lib.hid (show ∀ ad, A = some ad → ad.block < w9.heap.size from fun ad h => by have := HAL.out ad h; have := B9.out.size; omega); clear hT hb S9 B9) | (go_at_call 5; (with_reducible refine (add_n S10.out T10.out hblk (Kd.C_below HC64.out B10.out) (by omega) HAB.out A1.out).mono ?_); rintro e w11 ⟨rfl, hS, hT⟩; have S11 := Lib.hid hS; have T11 := Lib.hid hT; have e0 := hS.c0; have e1 := hS.c1; clear hS hT S10 T10 B10) | (go_at_call 4; (with_reducible refine (push_n (p := (⟨#[102]⟩, 1)) S11.out T11.out hblk 64 HE8.out.1 P64.out).mono ?_); rintro e w12 ⟨rfl, hS, hT⟩; have S12 := Lib.hid hS; have T12 := Lib.hid hT; have f0 := hS.c0; have f1 := hS.c1; clear hS hT S11 T11) | (go_at_call 4; (with_reducible refine (push_n (p := (⟨#[102]⟩, 1)) S12.out T12.out hblk 65 HE8.out.1 P65.out).mono ?_); rintro e w13 ⟨rfl, hS, hT⟩; have S13 := Lib.hid hS; have T13 := Lib.hid hT; clear hS hT S12 T12) | (go_at_call 9; (with_reducible refine (len_n T13.out HL65.out).mono ?_); rintro e w14 ⟨rfl, rfl⟩))
          generalize w9.heap.size = B at hblk T13 HAB
          clear e0 e1 f0 f1 b0 HC HC64 HR HR2 hcut HE5 HE6 HE7 HE9
          go_loopg [24] 4031 (fun q s24 wx => ∃ i : Nat, i + q = 4031 ∧ s24 = .int .i64 i ∧ Hid (StN w wx) ∧ Hid (TX wx B g mb (gT T i)))
          case atStart => exact ⟨0, by omega, rfl, S13, Lib.hid (by rw [gT_zero]; exact T13.out)⟩
          case round =>
            clear S13 T13
            obtain ⟨j, hjq, rfl, SJ, TJ⟩ := hrel
            by_cases hj : j < 4031
            · have d3 : decide ((j : Int) < 4031) = true := by simp; omega
              obtain ⟨q, rfl⟩ : ∃ q, gk = q + 1 := ⟨gk - 1, by omega⟩
              have HPJ := Lib.hid (push_gT HW.out.1 HW.out.2.1 HW.out.2.2.1 hj)
              have HG1 := Lib.hid (show ((⟨#[103]⟩ : ByteArray), (j : Int)).1.size ≤ 9223372036854775807 from (show (1 : Nat) ≤ 9223372036854775807 by omega))
              have hne : ((((65 + j : Nat) : Int)) != (65 : Int) + (j : Int)) = false := by simp
              go_wp2_with (go_at_call 4; (with_reducible refine (push_n (p := (⟨#[103]⟩, (j : Int))) SJ.out TJ.out hblk 0 HG1.out HPJ.out).mono ?_); rintro e w15 ⟨rfl, hS, hT⟩; have S15 := Lib.hid hS; have T15 := Lib.hid hT; clear hS hT)
              go_roundg q
              case measure => omega
              case rel => exact ⟨j + 1, by omega, by first | rfl | go_num, S15, T15⟩
            · have hj2 : j = 4031 := by omega
              subst hj2
              have d3 : decide (((4031 : Nat) : Int) < 4031) = false := by decide
              have PF := Lib.hid (push_f_full HW.out.1 HW.out.2.1 HW.out.2.2.1 HW.out.2.2.2)
              have PG := Lib.hid (push_g_found HW.out.1 HW.out.2.1 HW.out.2.2.1)
              have WG := Lib.hid (gT_wf HW.out.1 HW.out.2.1 HW.out.2.2.1 4031 (Nat.le_refl _))
              have LG := Lib.hid (show ((gT T 4031).nodes.length : Int) = 4096 by rw [gT_len HW.out.2.1]; rfl)
              have HG2 := Lib.hid (show (⟨#[103]⟩ : ByteArray).size ≤ 9223372036854775807 from (show (1 : Nat) ≤ 9223372036854775807 by omega))
              obtain ⟨U, hU⟩ : ∃ U, U = gT T 4031 := ⟨_, rfl⟩
              rw [← hU] at PF PG WG LG TJ
              clear hU HW
              have k0 := SJ.out.c0
              have k1 := SJ.out.c1
              go_wp2_with (first | (go_at_call 4; (with_reducible refine (push_n (p := (⟨#[102]⟩, 1)) SJ.out TJ.out hblk 0 HE8.out.1 PF.out).mono ?_); rintro e w16 ⟨rfl, hS, hT⟩; have S16 := Lib.hid hS; have T16 := Lib.hid hT; clear hS hT SJ TJ) | (go_at_call 4; (with_reducible refine (push_n (p := (⟨#[103]⟩, 9)) S16.out T16.out hblk 0 HG2.out PG.out).mono ?_); rintro e w17 ⟨rfl, hS, hT⟩; have S17 := Lib.hid hS; have T17 := Lib.hid hT; clear hS hT S16 T16) | (go_at_call 11; (with_reducible refine (told_n T17.out).mono ?_); rintro e w18 ⟨rfl, hb⟩; have S18 := Lib.hid (S17.out.step hb); have T18 := Lib.hid (T17.out.below hb); clear hb S17 T17) | (go_at_call 14; (with_reducible refine (from_n WG.out).mono ?_); rintro e w19 ⟨gu, mu, rfl, hU, hb⟩; have S19 := Lib.hid (S18.out.step hb); have T19 := Lib.hid (T18.out.below hb); have U19 := Lib.hid hU; clear hb hU S18 T18) | (go_at_call 9; (with_reducible refine (len_n T19.out LG.out).mono ?_); rintro e w20 ⟨rfl, rfl⟩) | (go_at_call 9; (with_reducible refine (len_n U19.out LG.out).mono ?_); rintro e w20 ⟨rfl, rfl⟩))
              go_ret
              exact ⟨rfl, S19.out.below⟩
end Go.Proofs.Ytmgfdcfbjgokgaa
