/- slices.Reverse over places of the call's own. Lists of places: what the printed contracts come to, in plain words. -/
import Derived.Test.YtmgfdcfbjgokgaaDoorPLx5
import Derived.Test.YtmgfdcfbjgokgaaDoorBack
import Derived.RegionTactic
import Derived.BigRegion
import Derived.ChangeAlike
import Derived.Lib.Hide
import Derived.Laws.Rows
import Derived.Lib.SmallJoins
import Derived.Test.YtmgfdcfbjgokgaaDoorText
namespace Go.Proofs.YtmgfdcfbjgokgaaDoor
open Go.RowKit
set_option linter.unusedVariables false
set_option linter.unusedSimpArgs false

/-- The cells of a list of places. -/
def cellsPl (l : List Pl) : List Value := l.flatMap fun p => [.string p.1, .int .i64 p.2]
theorem cellsPl_append (l m : List Pl) : cellsPl (l ++ m) = cellsPl l ++ cellsPl m := by simp [cellsPl]
theorem cellsPl_len : ∀ l : List Pl, (cellsPl l).length = l.length * 2
  | [] => rfl
  | p :: l => by
    have := cellsPl_len l
    unfold cellsPl at this ⊢
    simp [this]; omega
theorem cellsPl_at : ∀ (l : List Pl) (k : Nat) (hk : k < l.length), (cellsPl l)[k * 2]? = some (.string l[k].1) ∧ (cellsPl l)[k * 2 + 1]? = some (.int .i64 l[k].2)
  | p :: l, 0, _ => ⟨rfl, rfl⟩
  | p :: l, k + 1, hk => by
    have := cellsPl_at l k (by simpa using hk)
    have e : cellsPl (p :: l) = .string p.1 :: .int .i64 p.2 :: cellsPl l := rfl
    rw [e, show (k + 1) * 2 = k * 2 + 1 + 1 from by omega]
    simpa using this

theorem cellsPl_set : ∀ (m : List Pl) (i : Nat) (p : Pl), i < m.length → cellsPl (m.set i p) = ((cellsPl m).set (i * 2) (.string p.1)).set (i * 2 + 1) (.int .i64 p.2)
  | q :: m, 0, p, _ => rfl
  | q :: m, i + 1, p, h => by
    have ih := cellsPl_set m i p (by simpa using h)
    have e : ∀ (q : Pl) (l : List Pl), cellsPl (q :: l) = .string q.1 :: .int .i64 q.2 :: cellsPl l := fun _ _ => rfl
    rw [List.set_cons_succ, e, e, ih, show (i + 1) * 2 = i * 2 + 1 + 1 from by omega]
    rfl
theorem block_set {w : World} {g : Nat} {m : List Pl} {more : List Value} {t : TypeId} (h : w.heap[g]? = some (.cells (cellsPl m ++ more).toArray t (0, 0))) (i : Nat) (p : Pl) (hi : i < m.length) :
    ((w.setCell ⟨g, i * 2, none⟩ (.string p.1)).setCell ⟨g, i * 2 + 1, none⟩ (.int .i64 p.2)).heap[g]? = some (.cells (cellsPl (m.set i p) ++ more).toArray t (0, 0)) := by
  have hl := cellsPl_len m
  rw [Joins.block_setCell (i := i * 2 + 1) (Joins.block_setCell (i := i * 2) h (.string p.1)) (.int .i64 p.2), cellsPl_set m i p hi]
  simp only [List.setIfInBounds_toArray]
  rw [List.set_append_left _ _ (by omega), List.set_append_left _ _ (by simp; omega)]
theorem grown_set {w wr : World} {g : Nat} (h : w.grownBy wr (some g)) (o : Nat) (u : Value) : w.grownBy (wr.setCell ⟨g, o, none⟩ u) (some g) :=
  ⟨h.os, h.tape, h.output, by simpa [World.setCell] using h.size, fun k hk hne => (Below.heap_setCell wr _ _ k (fun e => hne (by simpa using e))).trans (h.block k hk hne)⟩

set_option maxRecDepth 100000 in
set_option maxHeartbeats 4000000 in
theorem Reverse_any (g cap : Nat) (l : List Pl) (more : List Value) (w : World) (hl : l.length ≤ 140737488351232) (h : w.heap[g]? = some (.cells (cellsPl l ++ more).toArray 60 (0, 0))) :
    Calls Tryd.prog 54 #[.slice (some ⟨g, 0, none⟩) l.length cap] w fun e w' => e = .returned (.tuple #[]) ∧ w'.heap[g]? = some (.cells (cellsPl l.reverse ++ more).toArray 60 (0, 0)) ∧ w.grownBy w' (some g) := by
  go_enter Tryd.func54, Tryd.ntmps54
  go_wp2_with fail
  go_loopw [2, 3] (fun u2 u3 wr => ∃ (i : Nat) (j : Int) (m : List Pl), u2 = .int .i64 i ∧ u3 = .int .i64 j ∧ Hid (i + j + 1 = l.length) ∧ -1 ≤ j ∧ j ≤ 140737488351232 ∧ m.length = l.length ∧ Hid (∀ r (h1 : r < l.length) (h2 : r < m.length), m[r] = if (r : Int) < i ∨ j < r then l[l.length - 1 - r] else l[r]) ∧
    wr.heap[g]? = some (.cells (cellsPl m ++ more).toArray 60 (0, 0)) ∧ w.grownBy wr (some g)) (fun u2 u3 _ => (intOf u3 + 1).toNat)
  case atStart => exact ⟨0, (l.length : Int) - 1, l, rfl, rfl, by show _ = _; omega, by omega, by omega, rfl, fun r h1 h2 => by rw [if_neg (by omega)], h, World.grownBy.refl _ _⟩
  case round =>
    obtain ⟨i, j, m, rfl, rfl, hij, hj1, hj2, hml, hm, hblk, hg⟩ := hrel
    by_cases hlt : (i : Int) < j
    · obtain ⟨b, rfl⟩ : ∃ b : Nat, j = b := ⟨j.toNat, by omega⟩
      have hib : i < b := by omega
      have hbl : b < m.length := by have := hij.out; omega
      have hil : i < m.length := by omega
      have HML := Lib.hid hml
      clear hml
      have b1 : (b : Int) < (l.length : Int) := by have := HML.out; omega
      have i1 : (i : Int) < (l.length : Int) := by have := HML.out; omega
      obtain ⟨ci0, ci1⟩ := cellsPl_at m i hil
      obtain ⟨cb0, cb1⟩ := cellsPl_at m b hbl
      have hcl := cellsPl_len m
      have di0 : wr.cell? ⟨g, i * 2, none⟩ = some (.string m[i].1) := by rw [cell_of_row wr _ _ _ _ _ hblk]; simp [List.getElem?_append_left (show i * 2 < (cellsPl m).length by omega), ci0]
      have di1 : wr.cell? ⟨g, i * 2 + 1, none⟩ = some (.int .i64 m[i].2) := by rw [cell_of_row wr _ _ _ _ _ hblk]; simp [List.getElem?_append_left (show i * 2 + 1 < (cellsPl m).length by omega), ci1]
      have db0 : wr.cell? ⟨g, b * 2, none⟩ = some (.string m[b].1) := by rw [cell_of_row wr _ _ _ _ _ hblk]; simp [List.getElem?_append_left (show b * 2 < (cellsPl m).length by omega), cb0]
      have db1 : wr.cell? ⟨g, b * 2 + 1, none⟩ = some (.int .i64 m[b].2) := by rw [cell_of_row wr _ _ _ _ _ hblk]; simp [List.getElem?_append_left (show b * 2 + 1 < (cellsPl m).length by omega), cb1]
      have hfz : ∀ o, wr.frozen? ⟨g, o, none⟩ = false := fun o => by simp [World.frozen?, hblk]
      have f1 := hfz (i * 2)
      have f2 := hfz (i * 2 + 1)
      have f3 := hfz (b * 2)
      have f4 := hfz (b * 2 + 1)
      have HBLK := Lib.hid hblk
      clear hfz hblk ci0 ci1 cb0 cb1 hcl
      have n1 : (i * 2 = b * 2) = False := eq_false (by omega)
      have n2 : (i * 2 = b * 2 + 1) = False := eq_false (by omega)
      have n3 : (i * 2 + 1 = b * 2) = False := eq_false (by omega)
      have n4 : (i = b) = False := eq_false (by omega)
      have n5 : (b * 2 = i * 2) = False := eq_false (by omega)
      have n6 : (b * 2 = i * 2 + 1) = False := eq_false (by omega)
      have n7 : (b * 2 + 1 = i * 2) = False := eq_false (by omega)
      have n8 : (b = i) = False := eq_false (by omega)
      go_wp2_with fail
      go_region
      go_wp2_with fail
      go_roundw
      case rel =>
        have hml := HML.out
        refine ⟨i + 1, (b : Int) - 1, (m.set i m[b]).set b m[i], by go_num, rfl, by have h9 : (i : Int) + b + 1 = l.length := hij.out; show _ = _; omega, by omega, by omega, by simp [hml], fun r h1 h2 => ?_, ?_, ?_⟩
        · have h9 : (i : Int) + b + 1 = l.length := hij.out
          have hmr := hm.out r h1 (by omega)
          have hmi := hm.out i (by omega) hil
          have hmb := hm.out b (by omega) hbl
          rw [if_neg (by omega)] at hmi hmb
          by_cases e1 : r = b
          · subst e1
            rw [List.getElem_set_self, hmi, if_pos (by omega)]
            congr 1; omega
          · rw [List.getElem_set_ne (fun h => e1 h.symm)]
            by_cases e2 : r = i
            · subst e2
              rw [List.getElem_set_self, hmb, if_pos (by omega)]
              congr 1; omega
            · rw [List.getElem_set_ne (fun h => e2 h.symm), hmr]
              by_cases e3 : (r : Int) < i ∨ (b : Int) < r
              · rw [if_pos e3, if_pos (by omega)]
              · rw [if_neg e3, if_neg (by omega)]
        · exact block_set (block_set HBLK.out i m[b] hil) b m[i] (by simpa using hbl)
        · have h4 := grown_set (grown_set (grown_set (grown_set hg (i * 2) (.string m[b].1)) (i * 2 + 1) (.int .i64 m[b].2)) (b * 2) (.string m[i].1)) (b * 2 + 1) (.int .i64 m[i].2)
          exact ⟨h4.os, h4.tape, h4.output, h4.size, h4.block⟩
      case measure => simp [intOf]
    · have hd : decide ((i : Int) < j) = false := decide_eq_false hlt
      have HBLK := Lib.hid hblk
      clear hblk
      go_wp2_with fail
      go_end0
      refine ⟨rfl, ?_, hg⟩
      rw [HBLK.out]
      have : m = l.reverse := by
        apply List.ext_getElem
        · simp [hml]
        · intro r h1 h2
          have h9 : (i : Int) + j + 1 = l.length := hij.out
          rw [hm.out r (by omega) h1, List.getElem_reverse]
          split
          · rfl
          · congr 1; omega
      rw [this]
end Go.Proofs.YtmgfdcfbjgokgaaDoor
namespace Go.Proofs.YtmgfdcfbjgokgaaDoor
open Go.RowKit Go.Proofs.YtmgfdcfbjgokgaaDoorW.PrintWords Go.Proofs.YtmgfdcfbjgokgaaDoorW.PrintLast Go.Proofs.YtmgfdcfbjgokgaaDoor.PL
set_option linter.unusedVariables false
set_option linter.unusedSimpArgs false

def toPl (x : S60) : Pl := (x.f0, x.f1)
theorem PlAt_of_C {w : World} {A : Option Addr} {l : List S60} (h : Kd.C k60 w A l.length l) : PlAt w A (l.map toPl) := fun j hj => by
  rw [List.length_map] at hj
  obtain ⟨ad, e, h1, h2⟩ := at_T60 h (j : Int) (by omega) (by omega)
  have hr : rd_T60 l (j : Int) = l[j] := by simp [rd_T60, hj]
  rw [hr] at h1 h2
  simp only [Int.toNat_natCast] at h1 h2
  refine ⟨ad, e, ?_, ?_, ?_⟩
  · have := World.block_lt_of_cell? w _ h1
    rwa [add_block_] at this
  · simpa [toPl] using h1
  · simpa [toPl] using h2

/-- What is wrong with a list. -/
def checkN (l : List Pl) : Int := if l.all (fun p => mayB p.1 p.2) then (if l.length > 64 then 31 else 0) else 30
theorem wrap_succ (k : Nat) (h : k < 9223372036854775807) : wrap64 ((k : Int) + 1) = ((k + 1 : Nat) : Int) := by unfold wrap64; omega
theorem check_l0 (l : List S60) (hs : ∀ x ∈ l, x.f0.size ≤ 9223372036854775807) (hl : l.length ≤ 9223372036854775806) : ∀ (d k j : Nat), j + d = l.length → d < k →
    place_Check.l0 k l l (l.length : Int) (j : Int) = some (if (l.drop j).all (fun p => mayB p.f0 p.f1) then (if l.length > 64 then 31 else 0) else 30)
  | 0, k + 1, j, hj, _ => by
    have : l.drop j = [] := List.drop_eq_nil_of_le (by omega)
    rw [this]
    simp only [place_Check.l0]
    rw [if_neg (by omega)]
    by_cases h : l.length > 64
    · rw [if_pos (by omega)]; simp [h]
    · rw [if_neg (by omega)]; simp [h]
  | d + 1, k + 1, j, hj, hk => by
    have hjl : j < l.length := by omega
    have hr : rd_T60 l (j : Int) = l[j] := by simp [rd_T60, hjl]
    simp only [place_Check.l0]
    rw [if_pos (by omega), if_pos (by omega), if_pos (by omega), hr]
    unfold place_Place_may.f
    rw [if_pos (hs _ (List.getElem_mem _)), Option.bind_some]
    rw [List.drop_eq_getElem_cons hjl, List.all_cons]
    cases hm : mayB l[j].f0 l[j].f1
    · simp
    · rw [if_pos rfl, wrap_succ j (by omega), check_l0 l hs hl d k (j + 1) (by omega) (by omega)]
      simp
theorem check_f (l : List S60) (hs : ∀ x ∈ l, x.f0.size ≤ 9223372036854775807) (hl : l.length ≤ 9223372036854775806) : place_Check.f (l.length + 1) l = some (checkN (l.map toPl)) := by
  unfold place_Check.f
  rw [show (0 : Int) = ((0 : Nat) : Int) from rfl, check_l0 l hs hl l.length (l.length + 1) 0 (by omega) (by omega)]
  unfold checkN
  simp [List.all_map, toPl, Function.comp_def]
theorem Check_any (A : Option Addr) (c : Nat) (l : List S60) (w : World) (h : Kd.C k60 w A l.length l) (hc : l.length ≤ c) (hs : ∀ x ∈ l, x.f0.size ≤ 9223372036854775807) (hl : l.length ≤ 9223372036854775806) :
    Calls Tryd.prog 14 #[.slice A l.length c] w fun e w' => e = .returned (.int .i64 (checkN (l.map toPl))) ∧ Below w.heap.size w w' :=
  place_Check.calls (l.length + 1) A c l _ w h hc (check_f l hs hl)
end Go.Proofs.YtmgfdcfbjgokgaaDoor
