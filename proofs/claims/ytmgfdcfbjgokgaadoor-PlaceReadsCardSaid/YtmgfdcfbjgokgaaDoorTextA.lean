/- 'Text' of any list of places. -/
import Derived.Test.YtmgfdcfbjgokgaaDoorParse
import Derived.Lib.ItoaLen
namespace Go.Proofs.YtmgfdcfbjgokgaaDoor
open Go.RowKit Go.Proofs.YtmgfdcfbjgokgaaDoorW.PrintWords Go.Proofs.YtmgfdcfbjgokgaaDoorW.PrintLast Go.Proofs.YtmgfdcfbjgokgaaDoor.PL
set_option linter.unusedVariables false
set_option linter.unusedSimpArgs false

/-- The text of a stack. -/
def textB (l : List Pl) : ByteArray := ⟨(Lib.join (l.reverse.map fun x => (ptxt decB x).data.toList) [32, 60, 32]).toArray⟩
/-- 'Text'. -/
def textOf (l : List Pl) : ByteArray × Int := if checkN l = 0 then (textB l, 0) else (⟨#[]⟩, checkN l)

theorem checkN_zero {l : List Pl} (h : checkN l = 0) : l.length ≤ 64 ∧ ∀ x ∈ l, mayB x.1 x.2 = true := by
  unfold checkN at h
  split at h
  · rename_i ha
    split at h
    · cases h
    · exact ⟨by omega, fun x hx => by rw [List.all_eq_true] at ha; exact ha x hx⟩
  · cases h
theorem mayB_bd {s : ByteArray} {n : Int} (h : mayB s n = true) : 1 ≤ s.size ∧ s.size ≤ 120 ∧ 0 ≤ n ∧ n ≤ 1048576 := by
  unfold mayB at h
  simp only [Bool.and_eq_true, decide_eq_true_eq] at h
  exact ⟨h.1.1.1.1, h.1.1.1.2, h.1.1.2, h.1.2⟩
theorem decB_size (n : Int) (h0 : -9223372036854775808 ≤ n) (h1 : n ≤ 9223372036854775807) : (decB n).size ≤ 21 := size_le (Lib.itoa_length_le n h0 h1)
theorem ptxt_size (x : Pl) (h : mayB x.1 x.2 = true) : (ptxt decB x).size ≤ 142 := by
  obtain ⟨_, h2, h3, h4⟩ := mayB_bd h
  have := decB_size x.2 (by omega) (by omega)
  unfold ptxt
  rw [ByteArray.size_append, ByteArray.size_append]
  have e : (⟨#[58]⟩ : ByteArray).size = 1 := rfl
  omega
theorem join_len : ∀ (l : List (List UInt8)) (n : Nat), (∀ x ∈ l, x.length ≤ n) → (Lib.join l [32, 60, 32]).length ≤ l.length * (n + 3)
  | [], _, _ => by simp [Lib.join]
  | [x], n, h => by
    have := h x (by simp)
    simp [Lib.join]; omega
  | x :: y :: l, n, h => by
    have ih := join_len (y :: l) n (fun z hz => h z (by simp [hz]))
    have hx := h x (by simp)
    unfold Lib.join at ih ⊢
    rw [List.intercalate_cons_cons]
    simp only [List.length_append, List.length_cons, List.length_nil] at ih ⊢
    have : (l.length + 1 + 1) * (n + 3) = (l.length + 1) * (n + 3) + (n + 3) := by rw [Nat.add_mul _ 1]; omega
    omega
theorem Join_any (W : World) (v : Value) (base : Nat) (l : List Pl) (hc : checkN l = 0) (h : W.ownsRow base 9 1 v l.length (l.reverse.map fun x => .string (ptxt decB x))) :
    Calls Tryd.prog 47 #[v, .string ⟨#[32, 60, 32]⟩] W fun e w' => e = .returned (.string (textB l)) ∧ Below W.heap.size W w' := by
  obtain ⟨h64, hm⟩ := checkN_zero hc
  rcases h.2 with ⟨rfl, h0⟩ | ⟨g, cap, cur, rfl, hgb, hgh, hnc, hcm, hsz, htk⟩
  · have hl : l = [] := List.eq_nil_of_length_eq_zero h0
    subst hl
    exact (Tryd.strings_Join_none none 0 ⟨#[32, 60, 32]⟩ W).mono fun e w' ⟨he, hw⟩ => ⟨he, by rw [hw]; exact Below.refl _ _⟩
  · have hj := Tryd.strings_Join g 0 cap (l.reverse.map (ptxt decB)) ⟨#[32, 60, 32]⟩ W (fun j x hx => by
      have hcl := h.cells (g := g) rfl j (.string x) (by
        obtain ⟨hj, rfl⟩ := List.getElem?_eq_some_iff.1 hx
        rw [List.length_map] at hj
        rw [List.getElem?_eq_getElem (by rw [List.length_map]; exact hj)]
        simp)
      have e : ((⟨g, 0, none⟩ : Addr).add j) = ⟨g, 0 + j, none⟩ := by
        unfold Addr.add
        split
        · rename_i h; simp [h]
        · simp
      rwa [e] at hcl) (Array.getElem?_eq_some_iff.1 hgh).1 (by simp; omega) (by simpa using hnc) (by
      have := join_len ((l.reverse.map (ptxt decB)).map (·.data.toList)) 142 (fun x hx => by
        rw [List.map_map] at hx
        obtain ⟨p, hp, rfl⟩ := List.mem_map.1 hx
        have := ptxt_size p (hm p (by simpa using hp))
        simpa using this)
      simp only [List.length_map, List.length_reverse] at this
      exact Nat.le_trans this (by omega))
    rw [List.length_map, List.length_reverse] at hj
    refine hj.mono fun e w' ⟨he, hw⟩ => ⟨?_, hw⟩
    rw [he]
    unfold textB
    rw [List.map_map]
    rfl
theorem Text_any (A : Option Addr) (c : Nat) (l : List S60) (w : World) (h : Kd.C k60 w A l.length l) (hc : l.length ≤ c) (hs : ∀ x ∈ l, x.f0.size ≤ 9223372036854775807) (hl : l.length ≤ 9223372036854775806) (ht : Tabs w) :
    Calls Tryd.prog 11 #[.slice A l.length c] w fun e w' => e = .returned (.tuple #[.string (textOf (l.map toPl)).1, .int .i64 (textOf (l.map toPl)).2]) ∧ Below w.heap.size w w' := by
  have hchk := Check_any A c l w h hc hs hl
  by_cases hck : checkN (l.map toPl) = 0
  · obtain ⟨h64, hm⟩ := checkN_zero hck
    have hT : textOf (l.map toPl) = (textB (l.map toPl), 0) := by unfold textOf; rw [if_pos hck]
    rw [hT]
    rw [hck] at hchk
    have := Text_ok A c (l.map toPl) h64 w (PlAt_of_C h) decB (textB (l.map toPl)) (fun x hx => (mayB_bd (hm x hx)).2.1) (fun x hx => decB_size x.2 (by have := mayB_bd (hm x hx); omega) (by have := mayB_bd (hm x hx); omega)) (by rw [List.length_map]; exact hchk)
      (fun x hx W hW => Itoa_any x.2 (by have := mayB_bd (hm x hx); omega) (by have := mayB_bd (hm x hx); omega) W (ht.below hW))
      (fun W v base hW ho => Join_any W v base (l.map toPl) hck ho)
    rw [List.length_map] at this
    exact this
  · have hT : textOf (l.map toPl) = (⟨#[]⟩, checkN (l.map toPl)) := by unfold textOf; rw [if_neg hck]
    rw [hT]
    have HC := Lib.hid hchk
    have hne : (checkN (l.map toPl) != 0) = true := by simpa using hck
    clear hchk hck h hT
    go_enter Tryd.func11, Tryd.ntmps11
    go_wp2_with (go_at_call 14; refine (HC.out).mono ?_; rintro e w2 ⟨rfl, hb2⟩)
    go_ret2
    exact ⟨rfl, hb2⟩
end Go.Proofs.YtmgfdcfbjgokgaaDoor
