/- Rules as plain data, and as trees in memory. -/
import Derived.Test.YtlejmlkojohnbaaTree
import Derived.Laws.Entries
namespace Go.Proofs.Ytlejmlkojohnbaa
open Go.RowKit

/-- A rule as plain data. -/
inductive Rl where
  | mk (op n m : Int) (x y : Nat) (s : ByteArray) (args : List Rl)

mutual
def Rl.size : Rl → Nat
  | .mk _ _ _ _ _ _ rs => 1 + Rl.sizes rs
def Rl.sizes : List Rl → Nat
  | [] => 0
  | r :: rs => r.size + Rl.sizes rs
end
mutual
def Rl.tr : Rl → Tr
  | .mk op n m x y s rs => .mk [.int .u8 op, .int .i64 n, .int .i64 m, .float .f64 x, .float .f64 y, .string s] (Rl.trs rs)
def Rl.trs : List Rl → List Tr
  | [] => []
  | r :: rs => r.tr :: Rl.trs rs
end
mutual
/-- The fields fit their kinds. -/
def Rl.wf : Rl → Prop
  | .mk op n m x y s rs => 0 ≤ op ∧ op ≤ 255 ∧ -9223372036854775808 ≤ n ∧ n ≤ 9223372036854775807 ∧ -9223372036854775808 ≤ m ∧ m ≤ 9223372036854775807 ∧ x < 18446744073709551616 ∧ y < 18446744073709551616 ∧ Rl.wfs rs
def Rl.wfs : List Rl → Prop
  | [] => True
  | r :: rs => r.wf ∧ Rl.wfs rs
end

theorem Rl.trs_eq : ∀ rs : List Rl, Rl.trs rs = rs.map Rl.tr
  | [] => rfl
  | r :: rs => by unfold Rl.trs; rw [Rl.trs_eq rs]; rfl
theorem Rl.trs_len (rs : List Rl) : (Rl.trs rs).length = rs.length := by rw [Rl.trs_eq, List.length_map]
theorem Rl.trs_at (rs : List Rl) (k : Nat) (hk : k < rs.length) (hk' : k < (Rl.trs rs).length) : (Rl.trs rs)[k] = rs[k].tr := by simp [Rl.trs_eq]
theorem Rl.sizes_at : ∀ (rs : List Rl) (k : Nat) (hk : k < rs.length), rs[k].size ≤ Rl.sizes rs
  | r :: rs, 0, _ => by unfold Rl.sizes; simp
  | r :: rs, k + 1, h => by
    unfold Rl.sizes
    have := Rl.sizes_at rs k (by simpa using h)
    simp
    omega
theorem Rl.size_pos (r : Rl) : 0 < r.size := by cases r; unfold Rl.size; omega
theorem Rl.sizes_len : ∀ rs : List Rl, rs.length ≤ Rl.sizes rs
  | [] => by simp [Rl.sizes]
  | r :: rs => by
    unfold Rl.sizes
    have := Rl.sizes_len rs
    have := r.size_pos
    simp
    omega
theorem Rl.wfs_at : ∀ (rs : List Rl) (k : Nat) (hk : k < rs.length), Rl.wfs rs → rs[k].wf
  | r :: rs, 0, _, h => by unfold Rl.wfs at h; exact h.1
  | r :: rs, k + 1, hk, h => by
    unfold Rl.wfs at h
    exact Rl.wfs_at rs k (by simpa using hk) h.2

theorem Rl.trs_take (rs : List Rl) (k : Nat) (hk : k < rs.length) : Rl.trs (rs.take (k + 1)) = Rl.trs (rs.take k) ++ [rs[k].tr] := by
  rw [Rl.trs_eq, Rl.trs_eq, List.take_succ_eq_append_getElem hk, List.map_append]
  rfl

/-- A rule in memory, its root's cells written out. -/
theorem Rl.open {w : World} {op n m : Int} {x y : Nat} {s : ByteArray} {rs : List Rl} {c : List Value} {F : List Nat} (h : (Rl.mk op n m x y s rs).tr.own 7 w c F) :
    ∃ a cap, c = [.int .u8 op, .int .i64 n, .int .i64 m, .float .f64 x, .float .f64 y, .string s, .slice a rs.length cap] ∧ rs.length ≤ cap ∧ cap ≤ 9223372036854775807 ∧
      ((rs.length = 0 ∧ F = []) ∨ (0 < rs.length ∧ ∃ b o cs F', a = some ⟨b, o, none⟩ ∧ F = b :: F' ∧ w.rangeAt b o cs ∧ Tr.ownL 7 w (Rl.trs rs) cs F')) := by
  unfold Rl.tr Tr.own at h
  obtain ⟨a, len, cap, hc, _, _, rfl, h4, h5, h6⟩ := h
  rw [Rl.trs_len] at *
  exact ⟨a, cap, hc, h4, h5, h6⟩
theorem Rl.shape {w : World} {r : Rl} {c : List Value} {F : List Nat} (h : r.tr.own 7 w c F) : ∃ v0 v1 v2 v3 v4 v5 v6, c = [v0, v1, v2, v3, v4, v5, v6] := by
  cases r
  obtain ⟨a, cap, rfl, _⟩ := Rl.open h
  exact ⟨_, _, _, _, _, _, _, rfl⟩
/-- The kid with the number k: its cells as the walk asks for them. -/
theorem Rl.kid {w : World} {rs : List Rl} {cs : List Value} {F : List Nat} {b o : Nat} (k : Nat) (hk : k < rs.length) (h : Tr.ownL 7 w (Rl.trs rs) cs F) (hc : w.rangeAt b o cs) :
    ∃ v0 v1 v2 v3 v4 v5 v6 Fa F1 Fb, F = Fa ++ (F1 ++ Fb) ∧ rs[k].tr.own 7 w [v0, v1, v2, v3, v4, v5, v6] F1 ∧
      w.cell? ⟨b, o + k * 7, none⟩ = some v0 ∧ w.cell? ⟨b, o + k * 7 + 1, none⟩ = some v1 ∧ w.cell? ⟨b, o + k * 7 + 2, none⟩ = some v2 ∧ w.cell? ⟨b, o + k * 7 + 3, none⟩ = some v3 ∧
      w.cell? ⟨b, o + k * 7 + 4, none⟩ = some v4 ∧ w.cell? ⟨b, o + k * 7 + 5, none⟩ = some v5 ∧ w.cell? ⟨b, o + k * 7 + 6, none⟩ = some v6 := by
  obtain ⟨c, Fa, F1, Fb, r1, r2, r3, _⟩ := Tr.ownL_at b o k (by rw [Rl.trs_len]; exact hk) h hc
  rw [Rl.trs_at rs k hk] at r3
  obtain ⟨v0, v1, v2, v3, v4, v5, v6, rfl⟩ := Rl.shape r3
  exact ⟨v0, v1, v2, v3, v4, v5, v6, Fa, F1, Fb, r2, r3, r1 0 _ rfl, r1 1 _ rfl, r1 2 _ rfl, r1 3 _ rfl, r1 4 _ rfl, r1 5 _ rfl, r1 6 _ rfl⟩

/-- The same, the kid's own fields told. -/
theorem Rl.kidO {w : World} {rs : List Rl} {cs : List Value} {F : List Nat} {b o : Nat} (k : Nat) (hk : k < rs.length) (h : Tr.ownL 7 w (Rl.trs rs) cs F) (hc : w.rangeAt b o cs) :
    ∃ kop kn km kx ky ks krs ka kcap Fa F1 Fb, F = Fa ++ (F1 ++ Fb) ∧ rs[k] = Rl.mk kop kn km kx ky ks krs ∧ rs[k].tr.own 7 w [.int .u8 kop, .int .i64 kn, .int .i64 km, .float .f64 kx, .float .f64 ky, .string ks, .slice ka krs.length kcap] F1 ∧
      w.cell? ⟨b, o + k * 7, none⟩ = some (.int .u8 kop) ∧ w.cell? ⟨b, o + k * 7 + 1, none⟩ = some (.int .i64 kn) ∧ w.cell? ⟨b, o + k * 7 + 2, none⟩ = some (.int .i64 km) ∧ w.cell? ⟨b, o + k * 7 + 3, none⟩ = some (.float .f64 kx) ∧
      w.cell? ⟨b, o + k * 7 + 4, none⟩ = some (.float .f64 ky) ∧ w.cell? ⟨b, o + k * 7 + 5, none⟩ = some (.string ks) ∧ w.cell? ⟨b, o + k * 7 + 6, none⟩ = some (.slice ka krs.length kcap) := by
  obtain ⟨c, Fa, F1, Fb, r1, r2, r3, _⟩ := Tr.ownL_at b o k (by rw [Rl.trs_len]; exact hk) h hc
  rw [Rl.trs_at rs k hk] at r3
  cases he : rs[k] with
  | mk kop kn km kx ky ks krs =>
    rw [he] at r3
    obtain ⟨ka, kcap, rfl, _⟩ := Rl.open r3
    exact ⟨kop, kn, km, kx, ky, ks, krs, ka, kcap, Fa, F1, Fb, r2, rfl, r3, r1 0 _ rfl, r1 1 _ rfl, r1 2 _ rfl, r1 3 _ rfl, r1 4 _ rfl, r1 5 _ rfl, r1 6 _ rfl⟩

/-- What a call gives that makes a rule anew. -/
def GivesR (r : Rl) (w : World) (e : Ending) (w' : World) : Prop := ∃ v0 v1 v2 v3 v4 v5 v6 F, e = .returned (.agg #[v0, v1, v2, v3, v4, v5, v6]) ∧ r.tr.own 7 w' [v0, v1, v2, v3, v4, v5, v6] F ∧ Apart w.heap.size F ∧ Soft w' F ∧ Below w.heap.size w w'
theorem run_store_float (P : Program) (w : World) (a : Addr) (m : Mode) (k : FloatKind) (b : Nat) : (store a (.float k b) m).run P w = stored P w a (.float k b) m := run_store P w a _ m rfl
theorem bnew {w W : World} (h : Below w.heap.size w W) (o : Obj) : Below w.heap.size w (W.alloc o) := h.alloc h.size o
theorem bdrewN {B : Nat} {w W : World} (h : Below B w W) (n : Nat) : Below B w (W.drewN n) := ⟨h.os, h.tape, h.output, h.size, h.block⟩
theorem bthen {w W1 W2 : World} (h : Below w.heap.size w W1) (k : Below W1.heap.size W1 W2) : Below w.heap.size w W2 := h.trans (k.mono h.size)
theorem rb {a b : Bool} (h : a = b) : Ending.returned (.bool a) = .returned (.bool b) := by rw [h]
theorem ri {k : IntKind} {a b : Int} (h : a = b) : Ending.returned (.int k a) = .returned (.int k b) := by rw [h]
end Go.Proofs.Ytlejmlkojohnbaa
