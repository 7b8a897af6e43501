/- Callees of the laws over lists of places, in the laws' own terms. 'lent' and 'kept': places in memory of their own, with a mark behind them. -/
import Derived.Test.YtmgfdcfbjgokgaaDoorOwn
import Derived.Test.YtmgfdcfbjgokgaaDoorParse
import Derived.Test.YtmgfdcfbjgokgaaDoorPLx9
namespace Go.Proofs.YtmgfdcfbjgokgaaDoor
open Go.RowKit Go.Proofs.YtmgfdcfbjgokgaaDoorW.PrintWords Go.Proofs.YtmgfdcfbjgokgaaDoorW.PrintLast Go.Proofs.YtmgfdcfbjgokgaaDoorW.PrintMore Go.Proofs.YtmgfdcfbjgokgaaDoor.PL
set_option linter.unusedVariables false
set_option linter.unusedSimpArgs false

theorem cut_up {P : Program} (t e : TypeId) (kh : IntKind) {i : TypeInfo} (ht : P.underlying t = some (.slice e)) (hi : P.info? e = some i) (A : Option Addr) (n c : Nat) (j : Int) (h0 : 0 ≤ j) (hm : j ≤ c) :
    ∀ W : World, (Instr.slice t (.slice A n c) none (some (.int kh j)) none).run P W = .ok (.slice A j.toNat c) W := by
  intro W
  have hel : P.elem t = e := by simp [Program.elem, ht]
  have hu : P.underlying t = some (.slice (P.elem t)) := by rw [hel]; exact ht
  have ha : (A.map fun x => x.add 0) = A := by cases A <;> simp [Addr.add]
  rw [run_slice_h W t A n c hu kh j h0 (by omega), hel]
  simp [sizeOf, typeInfo, hi, sliced, Result.andThen, ha]
def mark : S60 := ⟨⟨#[35]⟩, 7⟩
/-- Lent: the list, and the mark in the cell behind it. -/
def LentIs (base : Nat) (l : List S60) (v : Value) (W : World) : Prop :=
  ∃ g cap, v = .slice (some ⟨g, 0, none⟩) l.length cap ∧ base ≤ g ∧ Kd.R k60 60 W base (fun _ => True) (.slice (some ⟨g, 0, none⟩) (l.length + 1) cap) (l ++ [mark])
theorem lent_of {W : World} {base : Nat} {v : Value} {l : List S60} (h : Kd.R k60 60 W base (fun _ => True) v (l ++ [mark])) : ∃ g cap, v = .slice (some ⟨g, 0, none⟩) (l.length + 1) cap ∧ base ≤ g ∧ l.length + 1 ≤ cap := by
  obtain ⟨inner, ho⟩ := Kd.R_own h
  rcases ho.2 with ⟨rfl, h0⟩ | ⟨g, cap, cur, rfl, hgb, hgh, hnc, _⟩
  · simp at h0
  · exact ⟨g, cap, by simp, hgb, by simpa using hnc⟩
set_option maxRecDepth 100000 in
set_option maxHeartbeats 4000000 in
theorem lent_any (A0 : Option Addr) (c0 : Nat) (l : List S96) (w : World) (hr0 : Kd.C k96 w A0 l.length l) (hc0 : l.length ≤ c0) (hl : l.length ≤ 5864062014803) :
    Calls Tryd.prog 10 #[.slice A0 l.length c0] w fun e w' => ∃ v, e = .returned v ∧ LentIs w.heap.size (l.map toOwn) v w' ∧ Below w.heap.size w w' := by
  have HC := Lib.hid (erratalaw03_own.calls (l.length + 1) A0 c0 l (l.map toOwn) w hr0 hc0 (own_f l (by omega)))
  have HW := Lib.hid (Below.refl w.heap.size w)
  obtain ⟨n, hn⟩ : ∃ n, n = l.length := ⟨_, rfl⟩
  have HN := Lib.hid hn
  rw [← hn] at HC hl ⊢
  clear hr0 hc0 hn
  go_enter Tryd.func10, Tryd.ntmps10
  go_wp2_with (first | (go_at_call 44; refine (HC.out).mono ?_; rintro e w2 ⟨v2, rfl, hR2, hb2⟩; have HR2 := Lib.hid hR2; clear hR2) | ((with_reducible refine gate_builtin (b := .append) (xs := #[.tmp 5, .tmp 7]) rfl ?_); at_builtin; refine Kd.R_append k60 (w0 := w) w.heap.size rfl (.tmp 5) (.tmp 7) 23 60 (.agg #[(.string ⟨#[]⟩), (.int .i64 0)]) 24 rfl Tryd.underlying23 info60 rfl (by decide) (by omega) v2 (l.map toOwn) mark [.string (⟨#[35]⟩ : ByteArray), .int .i64 7] (fun _ => True) (fun _ => False) rfl rfl (k60_mkM _ _ _ mark) (fun _ hk => hk.elim) (fun _ _ => trivial) (HR2.out) hb2 hb2.size (by rw [List.length_map, ← HN.out]; omega) ?_; intro v7 w7 hR7 hb7 _ _; obtain ⟨g, cap, rfl, hgb, hgc⟩ := lent_of hR7; rw [List.length_map, ← HN.out] at hgc ⊢; have hnc : n ≤ cap := (by omega); have HR7 := Lib.hid hR7; clear hR7))
  go_ret
  exact ⟨_, rfl, ⟨g, cap, by rw [List.length_map, ← HN.out]; rfl, hgb, HR7.out⟩, hb7⟩
theorem maps_eq (l : List S96) : (l.map toOwn).map toPl = (l.map toRef).map rpl := by
  rw [List.map_map, List.map_map]
  rfl
attribute [local go_sem high] eqA60
set_option maxRecDepth 100000 in
set_option maxHeartbeats 4000000 in
theorem kept_any (g cap : Nat) (A : Option Addr) (c : Nat) (l : List S96) (w : World) (hm : Kd.C k60 w (some ⟨g, 0, none⟩) (l.length + 1) (l.map toOwn ++ [mark])) (hcap : l.length + 1 ≤ cap) (hr0 : Kd.C k96 w A l.length l) (hc0 : l.length ≤ c)
    (hl : l.length ≤ 5864062014803) : Calls Tryd.prog 18 #[.slice (some ⟨g, 0, none⟩) l.length cap, .slice A l.length c] w fun e w' => e = .returned (.bool true) ∧ Below w.heap.size w w' := by
  have HC := Lib.hid (erratalaw03_ref.calls (l.length + 1) A c l (l.map toRef) w hr0 hc0 (ref_f l (by omega)))
  have hlen : (l.map toOwn).length = l.length := List.length_map _
  have hM1 : Kd.C k60 w (some ⟨g, 0, none⟩) (l.map toOwn).length (l.map toOwn) := by
    have := Kd.C_take (m := l.length) (xs := l.map toOwn ++ [mark]) (by rw [List.length_append, hlen]; exact hm) (by simp)
    rwa [show (l.map toOwn ++ [mark]).take l.length = l.map toOwn by rw [← hlen]; simp] at this
  have HS := Lib.hid (fun (W : World) (v : Value) (A2 : Option Addr) (c2 : Nat) (hb : Below w.heap.size w W) (h : Kd.C k95 W A2 (l.map toRef).length (l.map toRef)) (h2 : (l.map toRef).length ≤ c2) =>
    erratalaw03_same.calls ((l.map toOwn).length + 1) (some ⟨g, 0, none⟩) cap (l.map toOwn) A2 c2 (l.map toRef) true W (Kd.C_below hM1 hb) (by rw [hlen]; omega) h h2 (same_f _ _ (by rw [hlen]; omega) (maps_eq l)))
  obtain ⟨ad, hA, hx0, hx1⟩ := at_T60 hm (l.length : Int) (by omega) (by omega)
  cases hA
  have hrd : rd_T60 (l.map toOwn ++ [mark]) (l.length : Int) = mark := by simp [rd_T60]
  rw [hrd] at hx0 hx1
  simp only [Int.toNat_natCast] at hx0 hx1
  change w.cell? _ = some (.string ⟨#[35]⟩) at hx0
  change w.cell? _ = some (.int .i64 7) at hx1
  have ha : ((⟨g, 0, none⟩ : Addr).add (l.length * 2)) = ⟨g, l.length * 2, none⟩ := by
    unfold Addr.add
    split
    · rename_i h; rw [h]
    · simp
  rw [ha] at hx0 hx1
  have hlt : g < w.heap.size := World.block_lt_of_cell? w _ hx0
  obtain ⟨n, hn⟩ : ∃ n, n = l.length := ⟨_, rfl⟩
  have HL := Lib.hid hlen
  rw [hlen, show (l.map toRef).length = l.length from List.length_map _] at HS
  have HN := Lib.hid hn
  rw [← hn] at hx0 hx1 HC HS hcap hl ⊢
  have HX0 := Lib.hid hx0
  have HX1 := Lib.hid hx1
  have hw1 : wrap64 ((n : Int) + 1) = (n : Int) + 1 := wrap_succ n (by omega)
  have hcI : (n : Int) + 1 ≤ (cap : Int) := by omega
  have hn0 : 0 ≤ (n : Int) + 1 := by omega
  have HLT := Lib.hid hlt
  clear hx0 hx1 hm hr0 hc0 hM1 hrd hlen hn ha hcap hl hlt
  go_enter Tryd.func18, Tryd.ntmps18
  go_wp2_with (first | (go_at_call 13; refine (HC.out).mono ?_; rintro e w2 ⟨v2, rfl, hR2, hb2⟩; obtain ⟨A2, c2, rfl, hl2, hC2⟩ := Kd.R_reads hR2; rw [List.length_map, ← HN.out] at hl2 hC2 ⊢; have HC2 := Lib.hid hC2; have HL2 := Lib.hid hl2; clear hR2 hC2 hl2) | (go_at_call 21; refine ((HS.out) _ (.slice none 0 0) A2 c2 hb2 HC2.out HL2.out).mono ?_; rintro e w3 ⟨rfl, hd3⟩; have hb3 := hb2.trans (hd3.below.mono hb2.size); have hy0 := (hb3.cell (p := ⟨g, n * 2, none⟩) HLT.out).trans HX0.out; have hy1 := (hb3.cell (p := ⟨g, n * 2 + 1, none⟩) HLT.out).trans HX1.out))
  go_ret
  exact ⟨rfl, hb3⟩
end Go.Proofs.YtmgfdcfbjgokgaaDoor
namespace Go.Proofs.YtmgfdcfbjgokgaaDoor
open Go.RowKit Go.Proofs.YtmgfdcfbjgokgaaDoorW.PrintWords Go.Proofs.YtmgfdcfbjgokgaaDoorW.PrintLast Go.Proofs.YtmgfdcfbjgokgaaDoorW.PrintMore Go.Proofs.YtmgfdcfbjgokgaaDoor.PL
set_option linter.unusedVariables false
set_option linter.unusedSimpArgs false

theorem R_win {α : Type} {k : Kd α} {W : World} {e base : Nat} {v : Value} {xs : List α} {ok : Nat → Prop} (h : Kd.R k e W base ok v xs) : Kd.R k e W base (fun j => base ≤ j ∧ j < W.heap.size) v xs :=
  Kd.R_mono (Kd.R_bound h) (fun _ h => ⟨h.2.1, h.2.2.1⟩)
theorem spl_own (l : List S96) : (l.map toOwn).map toPl = l.map spl := by
  rw [List.map_map]
  rfl
theorem spl_ref (l : List S96) : (l.map toRef).map rpl = l.map spl := by
  rw [List.map_map]
  rfl
theorem same_v (v7 v9 : Value) (T : List Pl) (W : World) (b7 b9 : Nat) (ok7 ok9 : Nat → Prop) (hT : T.length ≤ 9223372036854775806) (h7 : Kd.R k60 60 W b7 ok7 v7 (T.map ofPl)) (h9 : Kd.R k95 95 W b9 ok9 v9 (T.map rof)) :
    Calls Tryd.prog 21 #[v7, v9] W fun e w' => e = .returned (.bool true) ∧ Below W.heap.size W w' := by
  obtain ⟨A7, c7, rfl, l7, C7⟩ := Kd.R_reads h7
  obtain ⟨A9, c9, rfl, l9, C9⟩ := Kd.R_reads h9
  refine (erratalaw03_same.calls ((T.map ofPl).length + 1) A7 c7 (T.map ofPl) A9 c9 (T.map rof) true W C7 l7 C9 l9 (same_f _ _ (by rw [List.length_map]; exact hT) (by rw [List.map_map, List.map_map]; rfl))).mono fun e w' h => ⟨h.1, h.2.below⟩
theorem spoil_l1 : ∀ (d k j : Nat) (x0 : List S60), j + d = 40 → d < k → x0.length + d ≤ 5864062014804 → erratalaw03_spoil.l1 k x0 (j : Int) = some ()
  | 0, k + 1, j, x0, hj, _, _ => by
    simp only [erratalaw03_spoil.l1]
    rw [if_neg (by omega)]
  | d + 1, k + 1, j, x0, hj, hk, hx => by
    simp only [erratalaw03_spoil.l1]
    rw [if_pos (by omega), if_pos (by omega), wrap_succ j (by omega), spoil_l1 d k (j + 1) _ (by omega) (by omega) (by simp; omega)]
theorem spoil_l0 : ∀ (d k j : Nat) (x0 : List S60), j + d = x0.length → d + 41 < k → x0.length + 40 ≤ 5864062014804 → erratalaw03_spoil.l0 k x0 (j : Int) = some ()
  | 0, k + 1, j, x0, hj, _, _ => by
    simp only [erratalaw03_spoil.l0]
    rw [if_neg (by omega), show (0 : Int) = ((0 : Nat) : Int) from rfl, spoil_l1 40 k 0 x0 (by omega) (by omega) (by omega)]
  | d + 1, k + 1, j, x0, hj, hk, hx => by
    simp only [erratalaw03_spoil.l0]
    rw [if_pos (by omega), if_pos (by omega), wrap_succ j (by omega), spoil_l0 d k (j + 1) _ (by simp; omega) (by omega) (by simp; omega)]
theorem spoil_f (x0 : List S60) (h : x0.length + 40 ≤ 5864062014804) : erratalaw03_spoil.f (x0.length + 42) x0 = some () := spoil_l0 x0.length _ 0 x0 (by omega) (by omega) h
end Go.Proofs.YtmgfdcfbjgokgaaDoor
