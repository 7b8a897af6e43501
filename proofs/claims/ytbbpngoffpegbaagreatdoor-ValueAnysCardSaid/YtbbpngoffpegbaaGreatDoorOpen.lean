/- A value that came in, read as data: its tree in memory. -/
import Derived.Test.YtbbpngoffpegbaaGreatDoorVa
import Derived.Test.YtbbpngoffpegbaaGreatDoorProg
import Derived.ProofKit
import Derived.ChangeSame
import Derived.Lib.SmallJoins
namespace Go.Proofs.YtbbpngoffpegbaaGreatDoor
open Go.ChangeShapes Go.WideShapes Go.ChangeAt Go.RowKit
set_option linter.unusedVariables false
set_option linter.unusedSimpArgs false
section
variable {H : Type} {enc : TypeId × Value → H} {P : Program} {w : World} {base : Nat} {spare : Nat → Bool} {held : Bool}
theorem trod_float {t : TypeId} {fuel : Nat} {cs : List Value} {x : DataW H × List MemPlace} {k : FloatKind} (ht : P.underlying t = some (.float k)) (h : DataW.trod enc P w base spare held fuel t cs = some x) : ∃ n, cs = [.float k n] ∧ x = (.lit (.float k n), []) ∧ (Lit.float k n).wf = true := by
  cases fuel with
  | zero => simp [DataW.trod] at h
  | succ n =>
    unfold DataW.trod at h
    rw [ht] at h
    split at h <;> simp_all
end
theorem Va.wfs_app : ∀ {rs ss : List Va}, Va.wfs rs → Va.wfs ss → Va.wfs (rs ++ ss)
  | [], ss, _, k => k
  | r :: rs, ss, h, k => by
    unfold Va.wfs at h
    rw [List.cons_append]
    unfold Va.wfs
    exact ⟨h.1, Va.wfs_app h.2 k⟩
theorem Va.wfs_one {r : Va} (h : r.wf) : Va.wfs [r] := by unfold Va.wfs; exact ⟨h, by unfold Va.wfs; trivial⟩
theorem rows_va (W : World) (a : Addr) : ∀ len : Nat, (∀ i, i < len → ∃ cs', W.cells? 0 (a.add (i * 6)) 6 = some cs' ∧ ∃ (r : Va) (F : List Nat), r.wf ∧ r.tr.own 6 W cs' F) →
    ∃ (rs : List Va) (cells : List Value) (F : List Nat), rs.length = len ∧ Va.wfs rs ∧ Tr.ownL 6 W (Va.trs rs) cells F ∧ ∀ j v, cells[j]? = some v → W.cell? (a.add j) = some v := by
  intro len
  induction len with
  | zero => exact fun _ => ⟨[], [], [], rfl, by unfold Va.wfs; trivial, by simp [Va.trs, Tr.ownL], fun j v h => by simp at h⟩
  | succ k ih =>
    intro h
    obtain ⟨rs, cells, F, h1, h2, h3, h4⟩ := ih fun i hi => h i (by omega)
    obtain ⟨cs', hc, r, G, hw, ho⟩ := h k (by omega)
    obtain ⟨_, hl, hat⟩ := World.cells?_some hc
    have hcl : cells.length = k * 6 := by rw [Tr.ownL_len h3, Va.trs_len, h1]
    refine ⟨rs ++ [r], cells ++ cs', F ++ G, by simp [h1], Va.wfs_app h2 (Va.wfs_one hw), ?_, fun j v hj => ?_⟩
    · rw [Va.trs_eq, List.map_append, ← Va.trs_eq]; exact Tr.ownL_app h3 (by simpa using Tr.ownL_single ho)
    · by_cases hlt : j < cells.length
      · rw [List.getElem?_append_left hlt] at hj; exact h4 j v hj
      · rw [List.getElem?_append_right (by omega)] at hj
        have hjl := (List.getElem?_eq_some_iff.1 hj).1
        have := hat (j - cells.length) (by omega)
        rw [Go.Deep.add_add, show k * 6 + (j - cells.length) = j by omega] at this
        rw [this, hj]
theorem cells_5 : Tryz.prog.cellsOf 5 = 1 := by kernel_rfl
theorem cells_2 : Tryz.prog.cellsOf 2 = 1 := by kernel_rfl
theorem cells_22 : Tryz.prog.cellsOf 22 = 1 := by kernel_rfl
theorem cells_9 : Tryz.prog.cellsOf 9 = 1 := by kernel_rfl
theorem cells_23 : Tryz.prog.cellsOf 23 = 1 := by kernel_rfl
theorem cells_25 : Tryz.prog.cellsOf 25 = 6 := by kernel_rfl
theorem list6 {α : Type} {l : List α} (h : l.length = 6) : ∃ a b c d e f, l = [a, b, c, d, e, f] := by
  match l, h with
  | [a, b, c, d, e, f], _ => exact ⟨a, b, c, d, e, f, rfl⟩
theorem trod_va {H : Type} {enc : TypeId × Value → H} {spare : Nat → Bool} {held : Bool} (W : World) (N : Nat) : ∀ (fuel : Nat) (_ : fuel ≤ N) (cs : List Value) (x : DataW H × List MemPlace), DataW.trod enc Tryz.prog W 0 spare held fuel 25 cs = some x →
    ∃ (r : Va) (F : List Nat), r.wf ∧ r.tr.own 6 W cs F := by
  induction N with
  | zero =>
    intro fuel hN cs x h
    obtain ⟨xs, n, hfu, _⟩ := DataW.trod_struct Tryz.underlying25 h
    omega
  | succ N ih =>
    intro fuel hN cs x h
    obtain ⟨xs, n, hfu, _, hl, hlen, hf⟩ := DataW.trod_struct Tryz.underlying25 h
    obtain ⟨c0, c1, c2, c3, c4, c5, rfl⟩ := list6 (hl.trans cells_25)
    obtain ⟨y0, y1, y2, y3, y4, y5, rfl⟩ := list6 (l := xs) hlen
    have t0 : DataW.trod enc Tryz.prog W 0 spare held n 5 [c0] = some y0 := by
      have h : DataW.trod enc Tryz.prog W 0 spare held n 5 (List.take (Tryz.prog.cellsOf 5) (List.drop 0 [c0, c1, c2, c3, c4, c5])) = some y0 := hf 0 _ rfl
      rw [cells_5] at h
      exact h
    have t1 : DataW.trod enc Tryz.prog W 0 spare held n 2 [c1] = some y1 := by
      have h : DataW.trod enc Tryz.prog W 0 spare held n 2 (List.take (Tryz.prog.cellsOf 2) (List.drop 1 [c0, c1, c2, c3, c4, c5])) = some y1 := hf 1 _ rfl
      rw [cells_2] at h
      exact h
    have t2 : DataW.trod enc Tryz.prog W 0 spare held n 22 [c2] = some y2 := by
      have h : DataW.trod enc Tryz.prog W 0 spare held n 22 (List.take (Tryz.prog.cellsOf 22) (List.drop 2 [c0, c1, c2, c3, c4, c5])) = some y2 := hf 2 _ rfl
      rw [cells_22] at h
      exact h
    have t3 : DataW.trod enc Tryz.prog W 0 spare held n 22 [c3] = some y3 := by
      have h : DataW.trod enc Tryz.prog W 0 spare held n 22 (List.take (Tryz.prog.cellsOf 22) (List.drop 3 [c0, c1, c2, c3, c4, c5])) = some y3 := hf 3 _ rfl
      rw [cells_22] at h
      exact h
    have t4 : DataW.trod enc Tryz.prog W 0 spare held n 9 [c4] = some y4 := by
      have h : DataW.trod enc Tryz.prog W 0 spare held n 9 (List.take (Tryz.prog.cellsOf 9) (List.drop 4 [c0, c1, c2, c3, c4, c5])) = some y4 := hf 4 _ rfl
      rw [cells_9] at h
      exact h
    have t5 : DataW.trod enc Tryz.prog W 0 spare held n 23 [c5] = some y5 := by
      have h : DataW.trod enc Tryz.prog W 0 spare held n 23 (List.take (Tryz.prog.cellsOf 23) (List.drop 5 [c0, c1, c2, c3, c4, c5])) = some y5 := hf 5 _ rfl
      rw [cells_23] at h
      exact h
    obtain ⟨kd, e0, _, w0⟩ := DataW.trod_int Tryz.underlying5 t0
    obtain ⟨vn, e1, _, w1⟩ := DataW.trod_int Tryz.underlying2 t1
    obtain ⟨vx, e2, _, w2⟩ := trod_float Tryz.underlying22 t2
    obtain ⟨vy, e3, _, w3⟩ := trod_float Tryz.underlying22 t3
    obtain ⟨vs, e4, _, _⟩ := DataW.trod_string Tryz.underlying9 t4
    have e0 := List.head_eq_of_cons_eq e0
    have e1 := List.head_eq_of_cons_eq e1
    have e2 := List.head_eq_of_cons_eq e2
    have e3 := List.head_eq_of_cons_eq e3
    have e4 := List.head_eq_of_cons_eq e4
    subst e0 e1 e2 e3 e4
    have hkids : ∃ (rs : List Va) (F : List Nat) (a : Option Addr) (cap : Nat), c5 = .slice a rs.length cap ∧ rs.length ≤ cap ∧ cap ≤ 9223372036854775807 ∧ Va.wfs rs ∧ ((rs.length = 0 ∧ F = []) ∨ (0 < rs.length ∧ ∃ b o cs F', a = some ⟨b, o, none⟩ ∧ F = b :: F' ∧ W.rangeAt b o cs ∧ Tr.ownL 6 W (Va.trs rs) cs F')) := by
      rcases DataW.trod_slice Tryz.underlying23 t5 with ⟨h0, _⟩ | ⟨a, len, cap, elems, rest, k, hk, h0, _, _, hle, hcap, hel, helem, _, _⟩
      · have h0 := List.head_eq_of_cons_eq h0
        exact ⟨[], [], none, 0, h0, by simp, by omega, by unfold Va.wfs; trivial, .inl ⟨rfl, rfl⟩⟩
      · have h0 := List.head_eq_of_cons_eq h0
        obtain ⟨rs, cells, F, h1, h2, h3, h4⟩ := rows_va W a len fun i hi => by
          have key := helem i hi
          rw [cells_25, List.getElem?_eq_getElem (by omega)] at key
          obtain ⟨cs', k1, k2⟩ := Option.bind_eq_some_iff.1 key
          exact ⟨cs', k1, ih k (by omega) cs' _ k2⟩
        subst h1
        have hcap' : cap ≤ 9223372036854775807 := hcap
        by_cases hz : rs.length = 0
        · exact ⟨rs, [], some a, cap, h0, hle, hcap', h2, .inl ⟨hz, rfl⟩⟩
        · have hcl : cells.length = rs.length * 6 := by rw [Tr.ownL_len h3, Va.trs_len]
          have hs0 := h4 0 _ (List.getElem?_eq_getElem (by omega))
          obtain ⟨b, o, spot⟩ := a
          have hspot : spot = none := by
            have := World.cell?_spot hs0
            simpa [Addr.add] using this
          subst hspot
          refine ⟨rs, b :: F, some ⟨b, o, none⟩, cap, h0, hle, hcap', h2, .inr ⟨by omega, b, o, cells, F, rfl, rfl, fun j v hj => ?_, h3⟩⟩
          have := h4 j v hj
          rwa [Addr.add_mid] at this
    obtain ⟨rs, F, a, cap, rfl, k1, k2, k3, k4⟩ := hkids
    refine ⟨Va.mk kd vn vx vy vs rs, F, ?_, ?_⟩
    · unfold Va.wf
      have u0 : 0 ≤ kd ∧ kd ≤ 255 := by simpa [Lit.wf, IntKind.min, IntKind.max, IntKind.signed, IntKind.bits] using w0
      have u1 : -9223372036854775808 ≤ vn ∧ vn ≤ 9223372036854775807 := by simpa [Lit.wf, IntKind.min, IntKind.max, IntKind.signed, IntKind.bits] using w1
      have u2 : vx < 18446744073709551616 := by simpa [Lit.wf] using w2
      have u3 : vy < 18446744073709551616 := by simpa [Lit.wf] using w3
      exact ⟨u0.1, u0.2, u1.1, u1.2, u2, u3, k3⟩
    · unfold Va.tr Tr.own
      exact ⟨a, rs.length, cap, rfl, rfl, by simp [Value.oneCell'], ⟨(Va.trs_len rs).symm, Nat.le_refl _⟩, k1, k2, by rw [Va.trs_len]; exact k4⟩
end Go.Proofs.YtbbpngoffpegbaaGreatDoor
