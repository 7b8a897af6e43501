/- Values that were lent: marks behind their lists. -/
import Derived.Test.YtbbpngoffpegbaaGreatDoorVaP
namespace Go.Proofs.YtbbpngoffpegbaaGreatDoor
open Go.RowKit
set_option linter.unusedVariables false
set_option linter.unusedSimpArgs false

theorem Tr.ownL_split {sz : Nat} {w : World} : ∀ {ts us : List Tr} {cs : List Value} {F : List Nat}, Tr.ownL sz w (ts ++ us) cs F → ∃ c1 c2 F1 F2, cs = c1 ++ c2 ∧ F = F1 ++ F2 ∧ Tr.ownL sz w ts c1 F1 ∧ Tr.ownL sz w us c2 F2
  | [], us, cs, F, h => ⟨[], cs, [], F, rfl, rfl, by simp [Tr.ownL], h⟩
  | t :: ts, us, cs, F, h => by
    rw [List.cons_append] at h
    unfold Tr.ownL at h
    obtain ⟨c, cs', F1, F2, rfl, rfl, h1, h2⟩ := h
    obtain ⟨c1, c2, G1, G2, rfl, rfl, h3, h4⟩ := Tr.ownL_split h2
    refine ⟨c ++ c1, c2, F1 ++ G1, G2, by simp, by simp, ?_, h4⟩
    unfold Tr.ownL
    exact ⟨c, c1, F1, G1, rfl, rfl, h1, h3⟩
def markV (k : Nat) : Va := .mk 2 (900 + (k : Int)) 0 0 ⟨#[]⟩ []
def marks (m : Nat) : List Va := (List.range m).map markV
theorem marks_len (m : Nat) : (marks m).length = m := by simp [marks]
theorem marks_succ (m : Nat) : marks (m + 1) = marks m ++ [markV m] := by simp [marks, List.range_succ]
mutual
/-- A value that was lent, as a tree. -/
def Va.ltr : Va → Tr
  | .mk kd n x y s rs => .mk [.int .u8 kd, .int .i64 n, .float .f64 x, .float .f64 y, .string s] rs.length (if rs.length = 0 then [] else Va.ltrs rs ++ Va.trs (marks 20))
def Va.ltrs : List Va → List Tr
  | [] => []
  | r :: rs => r.ltr :: Va.ltrs rs
end
theorem Va.ltrs_eq : ∀ rs : List Va, Va.ltrs rs = rs.map Va.ltr
  | [] => rfl
  | r :: rs => by unfold Va.ltrs; rw [Va.ltrs_eq rs]; rfl
theorem Va.ltrs_len (rs : List Va) : (Va.ltrs rs).length = rs.length := by rw [Va.ltrs_eq, List.length_map]
theorem Va.ltrs_take (rs : List Va) (k : Nat) (hk : k < rs.length) : Va.ltrs (rs.take (k + 1)) = Va.ltrs (rs.take k) ++ [rs[k].ltr] := by
  rw [Va.ltrs_eq, Va.ltrs_eq, List.take_succ_eq_append_getElem hk, List.map_append]
  rfl
theorem mark_F {w : World} {k : Nat} {c : List Value} {F : List Nat} (h : (markV k).tr.own 6 w c F) : F = [] := by
  unfold markV Va.tr Tr.own at h
  obtain ⟨a, len, cap, _, _, _, _, _, _, h6⟩ := h
  rcases h6 with ⟨_, h6⟩ | ⟨h6, _⟩
  · exact h6
  · simp [Va.trs] at h6
theorem marks_F {w : World} : ∀ {m : Nat} {cs : List Value} {F : List Nat}, Tr.ownL 6 w (Va.trs (marks m)) cs F → F = []
  | 0, cs, F, h => by
    simp only [marks, List.range_zero, List.map_nil, Va.trs] at h
    unfold Tr.ownL at h
    exact h.2
  | m + 1, cs, F, h => by
    rw [marks_succ, Va.trs_eq, List.map_append] at h
    obtain ⟨c1, c2, F1, F2, rfl, rfl, h1, h2⟩ := Tr.ownL_split h
    rw [← Va.trs_eq] at h1
    rw [marks_F h1]
    simp only [List.map_cons, List.map_nil] at h2
    unfold Tr.ownL at h2
    obtain ⟨c, cs', G1, G2, rfl, rfl, h3, h4⟩ := h2
    unfold Tr.ownL at h4
    rw [mark_F h3, h4.2]
    rfl
mutual
/-- The marks forgotten. -/
theorem Va.own_ltr {w : World} : ∀ (r : Va) (c : List Value) (F : List Nat), r.ltr.own 6 w c F → r.tr.own 6 w c F
  | .mk kd n x y s rs, c, F => fun h => by
    unfold Va.ltr Tr.own at h
    unfold Va.tr Tr.own
    obtain ⟨a, len, cap, h0, h1, h2, h3, h4, h5, h6⟩ := h
    by_cases hz : rs.length = 0
    · rw [if_pos hz] at h3 h6
      refine ⟨a, rs.length, cap, h0, h1, h2, ⟨by rw [Va.trs_len], Nat.le_refl _⟩, by omega, h5, .inl ⟨by rw [Va.trs_len]; exact hz, ?_⟩⟩
      rcases h6 with h6 | h6
      · exact h6.2
      · simp at h6
    · rw [if_neg hz] at h3 h6
      rw [List.length_append, Va.ltrs_len, Va.trs_len, marks_len] at h3 h6
      refine ⟨a, rs.length, cap, h0, h1, h2, ⟨by rw [Va.trs_len], Nat.le_refl _⟩, by omega, h5, .inr ⟨by rw [Va.trs_len]; omega, ?_⟩⟩
      rcases h6 with h6 | ⟨_, b, o, cs, F', ha, hF, hr, hk⟩
      · omega
      · obtain ⟨c1, c2, F1, F2, rfl, rfl, k1, k2⟩ := Tr.ownL_split hk
        rw [marks_F k2, List.append_nil] at hF
        exact ⟨b, o, c1, F1, ha, hF, rangeAt_left hr, Va.ownL_ltr rs c1 F1 k1⟩
theorem Va.ownL_ltr {w : World} : ∀ (rs : List Va) (cs : List Value) (F : List Nat), Tr.ownL 6 w (Va.ltrs rs) cs F → Tr.ownL 6 w (Va.trs rs) cs F
  | [], cs, F => fun h => by
    unfold Va.ltrs at h
    unfold Va.trs
    exact h
  | r :: rs, cs, F => fun h => by
    unfold Va.ltrs Tr.ownL at h
    unfold Va.trs Tr.ownL
    obtain ⟨c, cs', F1, F2, h1, h2, h3, h4⟩ := h
    exact ⟨c, cs', F1, F2, h1, h2, Va.own_ltr r c F1 h3, Va.ownL_ltr rs cs' F2 h4⟩
end
/-- A value that was lent, its root's cells written out. -/
theorem Va.openL {w : World} {kd n : Int} {x y : Nat} {s : ByteArray} {rs : List Va} {c : List Value} {F : List Nat} (h : (Va.mk kd n x y s rs).ltr.own 6 w c F) :
    ∃ a cap, c = [.int .u8 kd, .int .i64 n, .float .f64 x, .float .f64 y, .string s, .slice a rs.length cap] ∧ rs.length ≤ cap ∧ cap ≤ 9223372036854775807 ∧
      ((rs.length = 0 ∧ F = []) ∨ (0 < rs.length ∧ rs.length + 20 ≤ cap ∧ ∃ b o cs cm F', a = some ⟨b, o, none⟩ ∧ F = b :: F' ∧ w.rangeAt b o (cs ++ cm) ∧ Tr.ownL 6 w (Va.ltrs rs) cs F' ∧ Tr.ownL 6 w (Va.trs (marks 20)) cm [])) := by
  unfold Va.ltr Tr.own at h
  obtain ⟨a, len, cap, hc, _, _, h3, h4, h5, h6⟩ := h
  by_cases hz : rs.length = 0
  · rw [if_pos hz] at h3 h6
    refine ⟨a, cap, hc, by omega, h5, .inl ⟨hz, ?_⟩⟩
    rcases h6 with h6 | h6
    · exact h6.2
    · simp at h6
  · rw [if_neg hz] at h3 h6
    rw [List.length_append, Va.ltrs_len, Va.trs_len, marks_len] at h3 h6
    refine ⟨a, cap, hc, by omega, h5, .inr ⟨by omega, by omega, ?_⟩⟩
    rcases h6 with h6 | ⟨_, b, o, cs, F', ha, hF, hr, hk⟩
    · omega
    · obtain ⟨c1, c2, F1, F2, rfl, rfl, k1, k2⟩ := Tr.ownL_split hk
      have e := marks_F k2
      subst e
      rw [List.append_nil] at hF
      exact ⟨b, o, c1, c2, F1, ha, hF, hr, k1, k2⟩
theorem Va.shapeL {w : World} {r : Va} {c : List Value} {F : List Nat} (h : r.ltr.own 6 w c F) : ∃ v0 v1 v2 v3 v4 v5, c = [v0, v1, v2, v3, v4, v5] := by
  cases r
  obtain ⟨a, cap, rfl, _⟩ := Va.openL h
  exact ⟨_, _, _, _, _, _, rfl⟩
end Go.Proofs.YtbbpngoffpegbaaGreatDoor
