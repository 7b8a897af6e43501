/- Callees of the laws over lists of places, in the laws' own terms. -/
import Derived.Test.YtmgfdcfbjgokgaaDoorLent
import Derived.Test.YtmgfdcfbjgokgaaDoorParse
import Derived.Test.YtmgfdcfbjgokgaaDoorPLx9
namespace Go.Proofs.YtmgfdcfbjgokgaaDoor
open Go.RowKit Go.Proofs.YtmgfdcfbjgokgaaDoorW.PrintWords Go.Proofs.YtmgfdcfbjgokgaaDoorW.PrintLast Go.Proofs.YtmgfdcfbjgokgaaDoorW.PrintMore Go.Proofs.YtmgfdcfbjgokgaaDoor.PL
set_option linter.unusedVariables false
set_option linter.unusedSimpArgs false

theorem R_win {α : Type} {k : Kd α} {W : World} {e base : Nat} {v : Value} {xs : List α} {ok : Nat → Prop} (h : Kd.R k e W base ok v xs) : Kd.R k e W base (fun j => base ≤ j ∧ j < W.heap.size) v xs :=
  Kd.R_mono (Kd.R_bound h) (fun _ h => ⟨h.2.1, h.2.2.1⟩)
theorem spl_own (l : List S96) : (l.map toOwn).map toPl = l.map spl := by
  rw [List.map_map]
  rfl
theorem spl_ref (l : List S96) : (l.map toRef).map rpl = l.map spl := by
  rw [List.map_map]
  rfl
theorem same_v (v7 v9 : Value) (T : List Pl) (W : World) (b7 b9 : Nat) (ok7 ok9 : Nat → Prop) (hT : T.length ≤ 9223372036854775806) (h7 : Kd.R k60 60 W b7 ok7 v7 (T.map ofPl)) (h9 : Kd.R k95 95 W b9 ok9 v9 (T.map rof)) :
    Calls Tryd.prog 21 #[v7, v9] W fun e w' => e = .returned (.bool true) ∧ Below W.heap.size W w' := by
  obtain ⟨A7, c7, rfl, l7, C7⟩ := Kd.R_reads h7
  obtain ⟨A9, c9, rfl, l9, C9⟩ := Kd.R_reads h9
  refine (erratalaw03_same.calls ((T.map ofPl).length + 1) A7 c7 (T.map ofPl) A9 c9 (T.map rof) true W C7 l7 C9 l9 (same_f _ _ (by rw [List.length_map]; exact hT) (by rw [List.map_map, List.map_map]; rfl))).mono fun e w' h => ⟨h.1, h.2.below⟩
theorem spoil_l1 : ∀ (d k j : Nat) (x0 : List S60), j + d = 40 → d < k → x0.length + d ≤ 5864062014804 → erratalaw03_spoil.l1 k x0 (j : Int) = some ()
  | 0, k + 1, j, x0, hj, _, _ => by
    simp only [erratalaw03_spoil.l1]
    rw [if_neg (by omega)]
  | d + 1, k + 1, j, x0, hj, hk, hx => by
    simp only [erratalaw03_spoil.l1]
    rw [if_pos (by omega), if_pos (by omega), wrap_succ j (by omega), spoil_l1 d k (j + 1) _ (by omega) (by omega) (by simp; omega)]
theorem spoil_l0 : ∀ (d k j : Nat) (x0 : List S60), j + d = x0.length → d + 41 < k → x0.length + 40 ≤ 5864062014804 → erratalaw03_spoil.l0 k x0 (j : Int) = some ()
  | 0, k + 1, j, x0, hj, _, _ => by
    simp only [erratalaw03_spoil.l0]
    rw [if_neg (by omega), show (0 : Int) = ((0 : Nat) : Int) from rfl, spoil_l1 40 k 0 x0 (by omega) (by omega) (by omega)]
  | d + 1, k + 1, j, x0, hj, hk, hx => by
    simp only [erratalaw03_spoil.l0]
    rw [if_pos (by omega), if_pos (by omega), wrap_succ j (by omega), spoil_l0 d k (j + 1) _ (by simp; omega) (by omega) (by simp; omega)]
theorem spoil_f (x0 : List S60) (h : x0.length + 40 ≤ 5864062014804) : erratalaw03_spoil.f (x0.length + 42) x0 = some () := spoil_l0 x0.length _ 0 x0 (by omega) (by omega) h
end Go.Proofs.YtmgfdcfbjgokgaaDoor
