/- Values as plain data, and as trees in memory. -/
import Derived.Test.YtbbpngoffpegbaaGreatDoorTree
import Derived.Laws.Entries
namespace Go.Proofs.YtbbpngoffpegbaaGreatDoor
open Go.RowKit
set_option linter.unusedVariables false

/-- A value as plain data. -/
inductive Va where
  | mk (kd n : Int) (x y : Nat) (s : ByteArray) (list : List Va)

mutual
def Va.size : Va → Nat
  | .mk _ _ _ _ _ rs => 1 + Va.sizes rs
def Va.sizes : List Va → Nat
  | [] => 0
  | r :: rs => r.size + Va.sizes rs
end
mutual
def Va.tr : Va → Tr
  | .mk kd n x y s rs => .mk [.int .u8 kd, .int .i64 n, .float .f64 x, .float .f64 y, .string s] rs.length (Va.trs rs)
def Va.trs : List Va → List Tr
  | [] => []
  | r :: rs => r.tr :: Va.trs rs
end
mutual
/-- The fields fit their kinds. -/
def Va.wf : Va → Prop
  | .mk kd n x y s rs => 0 ≤ kd ∧ kd ≤ 255 ∧ -9223372036854775808 ≤ n ∧ n ≤ 9223372036854775807 ∧ x < 18446744073709551616 ∧ y < 18446744073709551616 ∧ Va.wfs rs
def Va.wfs : List Va → Prop
  | [] => True
  | r :: rs => r.wf ∧ Va.wfs rs
end

theorem Va.trs_eq : ∀ rs : List Va, Va.trs rs = rs.map Va.tr
  | [] => rfl
  | r :: rs => by unfold Va.trs; rw [Va.trs_eq rs]; rfl
theorem Va.trs_len (rs : List Va) : (Va.trs rs).length = rs.length := by rw [Va.trs_eq, List.length_map]
theorem Va.trs_at (rs : List Va) (k : Nat) (hk : k < rs.length) (hk' : k < (Va.trs rs).length) : (Va.trs rs)[k] = rs[k].tr := by simp [Va.trs_eq]
theorem Va.sizes_at : ∀ (rs : List Va) (k : Nat) (hk : k < rs.length), rs[k].size ≤ Va.sizes rs
  | r :: rs, 0, _ => by unfold Va.sizes; simp
  | r :: rs, k + 1, h => by
    unfold Va.sizes
    have := Va.sizes_at rs k (by simpa using h)
    simp
    omega
theorem Va.size_pos (r : Va) : 0 < r.size := by cases r; unfold Va.size; omega
theorem Va.sizes_len : ∀ rs : List Va, rs.length ≤ Va.sizes rs
  | [] => by simp [Va.sizes]
  | r :: rs => by
    unfold Va.sizes
    have := Va.sizes_len rs
    have := r.size_pos
    simp
    omega
theorem Va.wfs_at : ∀ (rs : List Va) (k : Nat) (hk : k < rs.length), Va.wfs rs → rs[k].wf
  | r :: rs, 0, _, h => by unfold Va.wfs at h; exact h.1
  | r :: rs, k + 1, hk, h => by
    unfold Va.wfs at h
    exact Va.wfs_at rs k (by simpa using hk) h.2

theorem Va.trs_take (rs : List Va) (k : Nat) (hk : k < rs.length) : Va.trs (rs.take (k + 1)) = Va.trs (rs.take k) ++ [rs[k].tr] := by
  rw [Va.trs_eq, Va.trs_eq, List.take_succ_eq_append_getElem hk, List.map_append]
  rfl

/-- A value in memory, its root's cells written out. -/
theorem Va.open {w : World} {kd n : Int} {x y : Nat} {s : ByteArray} {rs : List Va} {c : List Value} {F : List Nat} (h : (Va.mk kd n x y s rs).tr.own 6 w c F) :
    ∃ a cap, c = [.int .u8 kd, .int .i64 n, .float .f64 x, .float .f64 y, .string s, .slice a rs.length cap] ∧ rs.length ≤ cap ∧ cap ≤ 9223372036854775807 ∧
      ((rs.length = 0 ∧ F = []) ∨ (0 < rs.length ∧ ∃ b o cs F', a = some ⟨b, o, none⟩ ∧ F = b :: F' ∧ w.rangeAt b o cs ∧ Tr.ownL 6 w (Va.trs rs) cs F')) := by
  unfold Va.tr Tr.own at h
  obtain ⟨a, len, cap, hc, _, _, ⟨rfl, _⟩, h4, h5, h6⟩ := h
  rw [Va.trs_len] at *
  exact ⟨a, cap, hc, h4, h5, h6⟩
theorem Va.shape {w : World} {r : Va} {c : List Value} {F : List Nat} (h : r.tr.own 6 w c F) : ∃ v0 v1 v2 v3 v4 v5, c = [v0, v1, v2, v3, v4, v5] := by
  cases r
  obtain ⟨a, cap, rfl, _⟩ := Va.open h
  exact ⟨_, _, _, _, _, _, rfl⟩
/-- The kid with the number k: its cells as the walk asks for them. -/
theorem Va.kid {w : World} {rs : List Va} {cs : List Value} {F : List Nat} {b o : Nat} (k : Nat) (hk : k < rs.length) (h : Tr.ownL 6 w (Va.trs rs) cs F) (hc : w.rangeAt b o cs) :
    ∃ v0 v1 v2 v3 v4 v5 Fa F1 Fb, F = Fa ++ (F1 ++ Fb) ∧ rs[k].tr.own 6 w [v0, v1, v2, v3, v4, v5] F1 ∧
      w.cell? ⟨b, o + k * 6, none⟩ = some v0 ∧ w.cell? ⟨b, o + k * 6 + 1, none⟩ = some v1 ∧ w.cell? ⟨b, o + k * 6 + 2, none⟩ = some v2 ∧ w.cell? ⟨b, o + k * 6 + 3, none⟩ = some v3 ∧
      w.cell? ⟨b, o + k * 6 + 4, none⟩ = some v4 ∧ w.cell? ⟨b, o + k * 6 + 5, none⟩ = some v5 := by
  obtain ⟨c, Fa, F1, Fb, r1, r2, r3, _⟩ := Tr.ownL_at b o k (by rw [Va.trs_len]; exact hk) h hc
  rw [Va.trs_at rs k hk] at r3
  obtain ⟨v0, v1, v2, v3, v4, v5, rfl⟩ := Va.shape r3
  exact ⟨v0, v1, v2, v3, v4, v5, Fa, F1, Fb, r2, r3, r1 0 _ rfl, r1 1 _ rfl, r1 2 _ rfl, r1 3 _ rfl, r1 4 _ rfl, r1 5 _ rfl⟩

/-- The same, the kid's own fields told. -/
theorem Va.kidO {w : World} {rs : List Va} {cs : List Value} {F : List Nat} {b o : Nat} (k : Nat) (hk : k < rs.length) (h : Tr.ownL 6 w (Va.trs rs) cs F) (hc : w.rangeAt b o cs) :
    ∃ kkd kn kx ky ks krs ka kcap Fa F1 Fb, F = Fa ++ (F1 ++ Fb) ∧ rs[k] = Va.mk kkd kn kx ky ks krs ∧ rs[k].tr.own 6 w [.int .u8 kkd, .int .i64 kn, .float .f64 kx, .float .f64 ky, .string ks, .slice ka krs.length kcap] F1 ∧
      w.cell? ⟨b, o + k * 6, none⟩ = some (.int .u8 kkd) ∧ w.cell? ⟨b, o + k * 6 + 1, none⟩ = some (.int .i64 kn) ∧ w.cell? ⟨b, o + k * 6 + 2, none⟩ = some (.float .f64 kx) ∧ w.cell? ⟨b, o + k * 6 + 3, none⟩ = some (.float .f64 ky) ∧
      w.cell? ⟨b, o + k * 6 + 4, none⟩ = some (.string ks) ∧ w.cell? ⟨b, o + k * 6 + 5, none⟩ = some (.slice ka krs.length kcap) := by
  obtain ⟨c, Fa, F1, Fb, r1, r2, r3, _⟩ := Tr.ownL_at b o k (by rw [Va.trs_len]; exact hk) h hc
  rw [Va.trs_at rs k hk] at r3
  cases he : rs[k] with
  | mk kkd kn kx ky ks krs =>
    rw [he] at r3
    obtain ⟨ka, kcap, rfl, _⟩ := Va.open r3
    exact ⟨kkd, kn, kx, ky, ks, krs, ka, kcap, Fa, F1, Fb, r2, rfl, r3, r1 0 _ rfl, r1 1 _ rfl, r1 2 _ rfl, r1 3 _ rfl, r1 4 _ rfl, r1 5 _ rfl⟩

/-- What a call gives that makes a value anew. -/
def GivesR (r : Va) (w : World) (e : Ending) (w' : World) : Prop := ∃ v0 v1 v2 v3 v4 v5 F, e = .returned (.agg #[v0, v1, v2, v3, v4, v5]) ∧ r.tr.own 6 w' [v0, v1, v2, v3, v4, v5] F ∧ Apart w.heap.size F ∧ Soft w' F ∧ Below w.heap.size w w'
theorem run_store_float (P : Program) (w : World) (a : Addr) (m : Mode) (k : FloatKind) (b : Nat) : (store a (.float k b) m).run P w = stored P w a (.float k b) m := run_store P w a _ m rfl
theorem bnew {w W : World} (h : Below w.heap.size w W) (o : Obj) : Below w.heap.size w (W.alloc o) := h.alloc h.size o
theorem bdrewN {B : Nat} {w W : World} (h : Below B w W) (n : Nat) : Below B w (W.drewN n) := ⟨h.os, h.tape, h.output, h.size, h.block⟩
theorem bthen {w W1 W2 : World} (h : Below w.heap.size w W1) (k : Below W1.heap.size W1 W2) : Below w.heap.size w W2 := h.trans (k.mono h.size)
theorem rb {a b : Bool} (h : a = b) : Ending.returned (.bool a) = .returned (.bool b) := by rw [h]
theorem ri {k : IntKind} {a b : Int} (h : a = b) : Ending.returned (.int k a) = .returned (.int k b) := by rw [h]
end Go.Proofs.YtbbpngoffpegbaaGreatDoor
