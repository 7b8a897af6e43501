/- Lists of places: what the printed contracts come to, in plain words. -/
import Derived.Test.YtmgfdcfbjgokgaaDoorPLx5
import Derived.Test.YtmgfdcfbjgokgaaDoorText
import Derived.Test.YtmgfdcfbjgokgaaDoorRev
namespace Go.Proofs.YtmgfdcfbjgokgaaDoor
open Go.RowKit Go.Proofs.YtmgfdcfbjgokgaaDoorW.PrintWords Go.Proofs.YtmgfdcfbjgokgaaDoorW.PrintLast Go.Proofs.YtmgfdcfbjgokgaaDoor.PL
set_option linter.unusedVariables false
set_option linter.unusedSimpArgs false

def toPl (x : S60) : Pl := (x.f0, x.f1)
theorem PlAt_of_C {w : World} {A : Option Addr} {l : List S60} (h : Kd.C k60 w A l.length l) : PlAt w A (l.map toPl) := fun j hj => by
  rw [List.length_map] at hj
  obtain ⟨ad, e, h1, h2⟩ := at_T60 h (j : Int) (by omega) (by omega)
  have hr : rd_T60 l (j : Int) = l[j] := by simp [rd_T60, hj]
  rw [hr] at h1 h2
  simp only [Int.toNat_natCast] at h1 h2
  refine ⟨ad, e, ?_, ?_, ?_⟩
  · have := World.block_lt_of_cell? w _ h1
    rwa [add_block_] at this
  · simpa [toPl] using h1
  · simpa [toPl] using h2

/-- What is wrong with a list. -/
def checkN (l : List Pl) : Int := if l.all (fun p => mayB p.1 p.2) then (if l.length > 64 then 31 else 0) else 30
theorem wrap_succ (k : Nat) (h : k < 9223372036854775807) : wrap64 ((k : Int) + 1) = ((k + 1 : Nat) : Int) := by unfold wrap64; omega
theorem check_l0 (l : List S60) (hs : ∀ x ∈ l, x.f0.size ≤ 9223372036854775807) (hl : l.length ≤ 9223372036854775806) : ∀ (d k j : Nat), j + d = l.length → d < k →
    place_Check.l0 k l l (l.length : Int) (j : Int) = some (if (l.drop j).all (fun p => mayB p.f0 p.f1) then (if l.length > 64 then 31 else 0) else 30)
  | 0, k + 1, j, hj, _ => by
    have : l.drop j = [] := List.drop_eq_nil_of_le (by omega)
    rw [this]
    simp only [place_Check.l0]
    rw [if_neg (by omega)]
    by_cases h : l.length > 64
    · rw [if_pos (by omega)]; simp [h]
    · rw [if_neg (by omega)]; simp [h]
  | d + 1, k + 1, j, hj, hk => by
    have hjl : j < l.length := by omega
    have hr : rd_T60 l (j : Int) = l[j] := by simp [rd_T60, hjl]
    simp only [place_Check.l0]
    rw [if_pos (by omega), if_pos (by omega), if_pos (by omega), hr]
    unfold place_Place_may.f
    rw [if_pos (hs _ (List.getElem_mem _)), Option.bind_some]
    rw [List.drop_eq_getElem_cons hjl, List.all_cons]
    cases hm : mayB l[j].f0 l[j].f1
    · simp
    · rw [if_pos rfl, wrap_succ j (by omega), check_l0 l hs hl d k (j + 1) (by omega) (by omega)]
      simp
theorem check_f (l : List S60) (hs : ∀ x ∈ l, x.f0.size ≤ 9223372036854775807) (hl : l.length ≤ 9223372036854775806) : place_Check.f (l.length + 1) l = some (checkN (l.map toPl)) := by
  unfold place_Check.f
  rw [show (0 : Int) = ((0 : Nat) : Int) from rfl, check_l0 l hs hl l.length (l.length + 1) 0 (by omega) (by omega)]
  unfold checkN
  simp [List.all_map, toPl, Function.comp_def]
theorem Check_any (A : Option Addr) (c : Nat) (l : List S60) (w : World) (h : Kd.C k60 w A l.length l) (hc : l.length ≤ c) (hs : ∀ x ∈ l, x.f0.size ≤ 9223372036854775807) (hl : l.length ≤ 9223372036854775806) :
    Calls Tryd.prog 14 #[.slice A l.length c] w fun e w' => e = .returned (.int .i64 (checkN (l.map toPl))) ∧ Below w.heap.size w w' :=
  place_Check.calls (l.length + 1) A c l _ w h hc (check_f l hs hl)
end Go.Proofs.YtmgfdcfbjgokgaaDoor
