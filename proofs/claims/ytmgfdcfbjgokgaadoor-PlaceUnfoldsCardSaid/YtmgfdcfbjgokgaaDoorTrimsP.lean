/- What the statement 'PlaceTrims' calls, in the law's own terms. -/
import Derived.Test.YtmgfdcfbjgokgaaDoorLent
namespace Go.Proofs.YtmgfdcfbjgokgaaDoor
open Go.RowKit Go.Proofs.YtmgfdcfbjgokgaaDoorW.PrintWords Go.Proofs.YtmgfdcfbjgokgaaDoorW.PrintLast Go.Proofs.YtmgfdcfbjgokgaaDoorW.PrintMore Go.Proofs.YtmgfdcfbjgokgaaDoor.PL
set_option linter.unusedVariables false
set_option linter.unusedSimpArgs false

/-- Two lists of places came in: spots and prefixes. -/
structure In2 (w : World) (A0 : Option Addr) (c0 n : Nat) (l : List S96) (A1 : Option Addr) (c1 m : Nat) (ps : List ByteArray) : Prop where
  nl : n = l.length
  mp : m = ps.length
  cn : n ≤ c0
  cm : m ≤ c1
  l0 : Kd.C k96 w A0 n l
  l1 : Kd.C Kd.string w A1 m ps
  bn : n ≤ 5864062014803
  bm : m ≤ 8796093022000
  sz : ∀ x ∈ l, x.f0.size ≤ 9223372036854775807
  tabs : Tabs w
theorem R_win {α : Type} {k : Kd α} {W : World} {e base : Nat} {v : Value} {xs : List α} {ok : Nat → Prop} (h : Kd.R k e W base ok v xs) : Kd.R k e W base (fun j => base ≤ j ∧ j < W.heap.size) v xs :=
  Kd.R_mono (Kd.R_bound h) (fun _ h => ⟨h.2.1, h.2.2.1⟩)
theorem spl_own (l : List S96) : (l.map toOwn).map toPl = l.map spl := by
  rw [List.map_map]
  rfl
theorem spl_ref (l : List S96) : (l.map toRef).map rpl = l.map spl := by
  rw [List.map_map]
  rfl
theorem same_v (v7 v9 : Value) (T : List Pl) (W : World) (b7 b9 : Nat) (ok7 ok9 : Nat → Prop) (hT : T.length ≤ 9223372036854775806) (h7 : Kd.R k60 60 W b7 ok7 v7 (T.map ofPl)) (h9 : Kd.R k95 95 W b9 ok9 v9 (T.map rof)) :
    Calls Tryd.prog 21 #[v7, v9] W fun e w' => e = .returned (.bool true) ∧ Below W.heap.size W w' := by
  obtain ⟨A7, c7, rfl, l7, C7⟩ := Kd.R_reads h7
  obtain ⟨A9, c9, rfl, l9, C9⟩ := Kd.R_reads h9
  refine (erratalaw03_same.calls ((T.map ofPl).length + 1) A7 c7 (T.map ofPl) A9 c9 (T.map rof) true W C7 l7 C9 l9 (same_f _ _ (by rw [List.length_map]; exact hT) (by rw [List.map_map, List.map_map]; rfl))).mono fun e w' h => ⟨h.1, h.2.below⟩
theorem spoil_l1 : ∀ (d k j : Nat) (x0 : List S60), j + d = 40 → d < k → x0.length + d ≤ 5864062014804 → erratalaw03_spoil.l1 k x0 (j : Int) = some ()
  | 0, k + 1, j, x0, hj, _, _ => by
    simp only [erratalaw03_spoil.l1]
    rw [if_neg (by omega)]
  | d + 1, k + 1, j, x0, hj, hk, hx => by
    simp only [erratalaw03_spoil.l1]
    rw [if_pos (by omega), if_pos (by omega), wrap_succ j (by omega), spoil_l1 d k (j + 1) _ (by omega) (by omega) (by simp; omega)]
theorem spoil_l0 : ∀ (d k j : Nat) (x0 : List S60), j + d = x0.length → d + 41 < k → x0.length + 40 ≤ 5864062014804 → erratalaw03_spoil.l0 k x0 (j : Int) = some ()
  | 0, k + 1, j, x0, hj, _, _ => by
    simp only [erratalaw03_spoil.l0]
    rw [if_neg (by omega), show (0 : Int) = ((0 : Nat) : Int) from rfl, spoil_l1 40 k 0 x0 (by omega) (by omega) (by omega)]
  | d + 1, k + 1, j, x0, hj, hk, hx => by
    simp only [erratalaw03_spoil.l0]
    rw [if_pos (by omega), if_pos (by omega), wrap_succ j (by omega), spoil_l0 d k (j + 1) _ (by simp; omega) (by omega) (by simp; omega)]
theorem spoil_f (x0 : List S60) (h : x0.length + 40 ≤ 5864062014804) : erratalaw03_spoil.f (x0.length + 42) x0 = some () := spoil_l0 x0.length _ 0 x0 (by omega) (by omega) h
theorem trimOf_len (l : List Pl) (ps : List ByteArray) : (trimOf l ps).1.length ≤ l.length ∧ (trimOf l ps).1.length ≤ 64 := by
  unfold trimOf
  split
  · rename_i h
    have := (checkN_zero h).1
    simp only [List.length_take]
    omega
  · simp
abbrev libx : ByteArray := ⟨#[108, 105, 98, 46, 120]⟩
abbrev libp : ByteArray := ⟨#[108, 105, 98, 46]⟩
theorem may_lib (i : Int) (h0 : 0 ≤ i) (h1 : i ≤ 64) : mayB libx i = true := by
  unfold mayB
  rw [show okName libx = true by kernel_rfl, show decide (1 ≤ libx.size) = true by kernel_rfl, show decide (libx.size ≤ 120) = true by kernel_rfl, show decide (0 ≤ i) = true by simpa using h0, show decide (i ≤ 1048576) = true by simp; omega]
  rfl
theorem trimN_lib (L : List Pl) (h : ∀ j, j < L.length → L[j]? = some (libx, (j : Int))) : ∀ k, k ≤ L.length → trimN L [libp] k = 0
  | 0, _ => rfl
  | k + 1, hk => by
    rw [trimN_hit (by rw [List.getD_eq_getElem?_getD, h k hk]; kernel_rfl)]
    exact trimN_lib L h k (by omega)
theorem trim_lib (L : List Pl) (h : ∀ j, j < L.length → L[j]? = some (libx, (j : Int))) : (trimOf L [libp]).1 = [] ∧ ((trimOf L [libp]).2 == 0) = decide (L.length ≤ 64) := by
  by_cases hl : L.length ≤ 64
  · have hc : checkN L = 0 := by
      unfold checkN
      rw [if_pos, if_neg (by omega)]
      rw [List.all_eq_true]
      intro x hx
      obtain ⟨j, hj, rfl⟩ := List.mem_iff_getElem.1 hx
      have := h j hj
      rw [List.getElem?_eq_getElem hj] at this
      injection this with this
      rw [this]
      exact may_lib _ (by simp) (by simp; omega)
    rw [trim_good hc, trimN_lib L h _ (Nat.le_refl _)]
    simp [hl]
  · have hc : ¬ checkN L = 0 := by
      unfold checkN
      split
      · rw [if_pos (by omega)]; decide
      · decide
    rw [trim_bad hc]
    simp [hl, hc]
section
variable {w : World} {A0 : Option Addr} {c0 n : Nat} {l : List S96} {A1 : Option Addr} {c1 m : Nat} {ps : List ByteArray}
theorem In2.lent (I : In2 w A0 c0 n l A1 c1 m ps) : Calls Tryd.prog 10 #[.slice A0 n c0] w fun e w' => ∃ g cap, e = .returned (.slice (some ⟨g, 0, none⟩) n cap) ∧ n + 1 ≤ cap ∧ w.heap.size ≤ g ∧ g < w'.heap.size ∧
    Kd.R k60 60 w' w.heap.size (fun _ => True) (.slice (some ⟨g, 0, none⟩) (n + 1) cap) (l.map toOwn ++ [mark]) ∧ Below w.heap.size w w' := by
  obtain ⟨rfl, rfl, hc, _, h0, _, hb, _, _, _⟩ := I
  refine (lent_any A0 c0 l w h0 hc hb).mono fun e w' ⟨v, he, ⟨g, cap, hv, hg, hR⟩, hbl⟩ => ?_
  rw [List.length_map] at hv hR
  subst hv
  obtain ⟨g', cap', e', h1, h2, _⟩ := Kd.R_form hR (by simp)
  simp only [List.length_append, List.length_map, List.length_singleton] at e'
  injection e' with e1 _ e3
  injection e1 with e1
  injection e1 with e1
  subst e1
  exact ⟨g, cap, he, (Kd.R_reads' hR).2.1, hg, h2, hR, hbl⟩
theorem In2.front (I : In2 w A0 c0 n l A1 c1 m ps) {W : World} {A : Option Addr} (h : Kd.C k60 W A (n + 1) (l.map toOwn ++ [mark])) : Kd.C k60 W A (l.map toOwn).length (l.map toOwn) := by
  obtain ⟨rfl, _⟩ := I
  have := Kd.C_take (m := l.length) (xs := l.map toOwn ++ [mark]) (by rw [List.length_append, List.length_map]; exact h) (by simp)
  have e : (l.map toOwn ++ [mark]).take l.length = l.map toOwn := by
    have := List.take_left (l₁ := l.map toOwn) (l₂ := [mark])
    rwa [List.length_map] at this
  rwa [e] at this
theorem In2.frontP (I : In2 w A0 c0 n l A1 c1 m ps) {W : World} {A : Option Addr} {x : ByteArray} (h : Kd.C Kd.string W A (m + 1) (ps ++ [x])) : Kd.C Kd.string W A ps.length ps := by
  obtain ⟨_, rfl, _⟩ := I
  have := Kd.C_take (m := ps.length) (xs := ps ++ [x]) (by rw [List.length_append]; exact h) (by simp)
  rwa [show (ps ++ [x]).take ps.length = ps by simp] at this
theorem In2.trim (I : In2 w A0 c0 n l A1 c1 m ps) {W : World} {A : Option Addr} {c : Nat} (h : Kd.C k60 W A (n + 1) (l.map toOwn ++ [mark])) (hc : n + 1 ≤ c) {B : Option Addr} {d : Nat} {x : ByteArray} (hB : Kd.C Kd.string W B (m + 1) (ps ++ [x])) :
    Calls Tryd.prog 26 #[.slice A n c, .slice B m d] W (TrimIs (l.map spl) ps W) := by
  have h1 := I.front h
  have h2 := I.frontP hB
  obtain ⟨rfl, rfl, _, _, _, _, hb, hbm, hs, _⟩ := I
  have := Trim_any A c (l.map toOwn) B d ps W h1 (by rw [List.length_map]; omega) h2 (fun x hx => by obtain ⟨y, hy, rfl⟩ := List.mem_map.1 hx; exact hs y hy) (by rw [List.length_map]; omega) (by omega)
  rw [spl_own, List.length_map] at this
  exact this
theorem In2.ref (I : In2 w A0 c0 n l A1 c1 m ps) {W : World} (hb : Below w.heap.size w W) : Calls Tryd.prog 13 #[.slice A0 n c0] W fun e w' => ∃ A c, e = .returned (.slice A n c) ∧ n ≤ c ∧ Kd.C k95 w' A n (l.map toRef) ∧ Below W.heap.size W w' := by
  obtain ⟨rfl, rfl, hc, _, h0, _, hbn, _, _, _⟩ := I
  refine (erratalaw03_ref.calls (l.length + 1) A0 c0 l (l.map toRef) W (Kd.C_below h0 hb) hc (ref_f l (by omega))).mono fun e w' ⟨v, he, hR, hbl⟩ => ?_
  obtain ⟨A2, c2, rfl, hl2, hC2⟩ := Kd.R_reads hR
  rw [List.length_map] at hl2 hC2 he
  exact ⟨A2, c2, he, hl2, hC2, hbl⟩
theorem In2.rtrim (I : In2 w A0 c0 n l A1 c1 m ps) {W : World} (hb : Below w.heap.size w W) {A : Option Addr} {c : Nat} (hA : Kd.C k95 W A n (l.map toRef)) (hc : n ≤ c) :
    Calls Tryd.prog 27 #[.slice A n c, .slice A1 m c1] W fun e w' => ∃ v, e = .returned (.tuple #[v, .int .i64 (trimOf (l.map spl) ps).2]) ∧ Kd.R k95 95 w' W.heap.size (fun _ => True) v ((trimOf (l.map spl) ps).1.map rof) ∧ Below W.heap.size W w' := by
  obtain ⟨rfl, rfl, _, hc1, _, h1, hbn, hbm, _, _⟩ := I
  have hlen : (l.map toRef).length = l.length := List.length_map _
  have hf := rtrim_f (l.map toRef) ps (by rw [hlen]; omega) (by omega)
  rw [spl_ref] at hf
  have h := errataref03_Trim.calls _ A c (l.map toRef) A1 c1 ps _ _ W (by rw [hlen]; exact hA) (by rw [hlen]; exact hc) (Kd.C_below h1 hb) hc1 hf
  rw [hlen] at h
  exact h
theorem In2.kept (I : In2 w A0 c0 n l A1 c1 m ps) {W : World} (hb : Below w.heap.size w W) {g c : Nat} (h : Kd.C k60 W (some ⟨g, 0, none⟩) (n + 1) (l.map toOwn ++ [mark])) (hc : n + 1 ≤ c) :
    Calls Tryd.prog 18 #[.slice (some ⟨g, 0, none⟩) n c, .slice A0 n c0] W fun e w' => e = .returned (.bool true) ∧ Below W.heap.size W w' := by
  obtain ⟨rfl, rfl, hc0, _, h0, _, hbn, _, _, _⟩ := I
  exact kept_any g c A0 c0 l W h hc (Kd.C_below h0 hb) hc0 hbn
end
theorem lib_trim (n : Nat) (cur : List S60) (hl : cur.length = n) (hcu : ∀ k, k < n → cur[k]? = some ⟨libx, k⟩) (hb : n ≤ 5864062014803) (A : Option Addr) (c : Nat) (W : World) (hA : Kd.C k60 W A n cur) (hcap : n ≤ c) (B : Option Addr) (d : Nat) (hB : Kd.C Kd.string W B 1 [libp]) :
    Calls Tryd.prog 26 #[.slice A n c, .slice B 1 d] W fun e w' => ∃ A' c' g, e = .returned (.tuple #[.slice A' 0 c', .int .i64 g]) ∧ (g == 0) = decide (n ≤ 64) ∧ Below W.heap.size W w' := by
  subst hl
  have h := Trim_any A c cur B d [libp] W hA hcap hB (fun x hx => by
    obtain ⟨j, hj, rfl⟩ := List.mem_iff_getElem.1 hx
    have := hcu j hj
    rw [List.getElem?_eq_getElem hj] at this
    injection this with this
    rw [this]
    show libx.size ≤ 9223372036854775807
    decide) (by omega) (by decide)
  have hL := trim_lib (cur.map toPl) (fun j hj => by
    rw [List.length_map] at hj
    rw [List.getElem?_map, hcu j hj]
    rfl)
  rw [List.length_map] at hL
  refine h.mono fun e w' ⟨v, he, hR, hbl⟩ => ?_
  rw [hL.1] at hR
  obtain ⟨A', c', rfl, _, _⟩ := Kd.R_reads hR
  exact ⟨A', c', _, he, hL.2, hbl⟩
end Go.Proofs.YtmgfdcfbjgokgaaDoor
