/- Values as plain data, and as trees in memory. Floats: how two stand to each other. No program. Values in plain words: which may be, how two are compared. No program. Values that were lent: marks behind their lists. Which values may be: the parts of one that may be may be; a value written over. No program. The walks of the reference's small functions: zero, only, count, Check. -/
import Derived.Test.YtaglklcjolcgeaaTree
import Derived.Laws.Entries
import Derived.WalkKit
import Derived.Laws.FloatBits
import Derived.Lib.Bytealg
import Derived.Test.YtaglklcjolcgeaaProg
import Derived.WalkLawsBesides
import Derived.WalkSpells
import Derived.Lib.Hide
import Derived.Laws.Externs
import Derived.Laws.BitsAllLaws
import Derived.Deep.QuietTactic
import Derived.BigQuiet
import Derived.StillTailTactics
namespace Go.Proofs.Ytaglklcjolcgeaa
open Go.RowKit
set_option linter.unusedVariables false

/-- A value as plain data. -/
inductive Va where
  | mk (kd n : Int) (x y : Nat) (s : ByteArray) (list : List Va)

mutual
def Va.size : Va → Nat
  | .mk _ _ _ _ _ rs => 1 + Va.sizes rs
def Va.sizes : List Va → Nat
  | [] => 0
  | r :: rs => r.size + Va.sizes rs
end
mutual
def Va.tr : Va → Tr
  | .mk kd n x y s rs => .mk [.int .u8 kd, .int .i64 n, .float .f64 x, .float .f64 y, .string s] rs.length (Va.trs rs)
def Va.trs : List Va → List Tr
  | [] => []
  | r :: rs => r.tr :: Va.trs rs
end
mutual
/-- The fields fit their kinds. -/
def Va.wf : Va → Prop
  | .mk kd n x y s rs => 0 ≤ kd ∧ kd ≤ 255 ∧ -9223372036854775808 ≤ n ∧ n ≤ 9223372036854775807 ∧ x < 18446744073709551616 ∧ y < 18446744073709551616 ∧ Va.wfs rs
def Va.wfs : List Va → Prop
  | [] => True
  | r :: rs => r.wf ∧ Va.wfs rs
end

theorem Va.trs_eq : ∀ rs : List Va, Va.trs rs = rs.map Va.tr
  | [] => rfl
  | r :: rs => by unfold Va.trs; rw [Va.trs_eq rs]; rfl
theorem Va.trs_len (rs : List Va) : (Va.trs rs).length = rs.length := by rw [Va.trs_eq, List.length_map]
theorem Va.trs_at (rs : List Va) (k : Nat) (hk : k < rs.length) (hk' : k < (Va.trs rs).length) : (Va.trs rs)[k] = rs[k].tr := by simp [Va.trs_eq]
theorem Va.sizes_at : ∀ (rs : List Va) (k : Nat) (hk : k < rs.length), rs[k].size ≤ Va.sizes rs
  | r :: rs, 0, _ => by unfold Va.sizes; simp
  | r :: rs, k + 1, h => by
    unfold Va.sizes
    have := Va.sizes_at rs k (by simpa using h)
    simp
    omega
theorem Va.size_pos (r : Va) : 0 < r.size := by cases r; unfold Va.size; omega
theorem Va.sizes_len : ∀ rs : List Va, rs.length ≤ Va.sizes rs
  | [] => by simp [Va.sizes]
  | r :: rs => by
    unfold Va.sizes
    have := Va.sizes_len rs
    have := r.size_pos
    simp
    omega
theorem Va.wfs_at : ∀ (rs : List Va) (k : Nat) (hk : k < rs.length), Va.wfs rs → rs[k].wf
  | r :: rs, 0, _, h => by unfold Va.wfs at h; exact h.1
  | r :: rs, k + 1, hk, h => by
    unfold Va.wfs at h
    exact Va.wfs_at rs k (by simpa using hk) h.2

theorem Va.trs_take (rs : List Va) (k : Nat) (hk : k < rs.length) : Va.trs (rs.take (k + 1)) = Va.trs (rs.take k) ++ [rs[k].tr] := by
  rw [Va.trs_eq, Va.trs_eq, List.take_succ_eq_append_getElem hk, List.map_append]
  rfl

/-- A value in memory, its root's cells written out. -/
theorem Va.open {w : World} {kd n : Int} {x y : Nat} {s : ByteArray} {rs : List Va} {c : List Value} {F : List Nat} (h : (Va.mk kd n x y s rs).tr.own 6 w c F) :
    ∃ a cap, c = [.int .u8 kd, .int .i64 n, .float .f64 x, .float .f64 y, .string s, .slice a rs.length cap] ∧ rs.length ≤ cap ∧ cap ≤ 9223372036854775807 ∧
      ((rs.length = 0 ∧ F = []) ∨ (0 < rs.length ∧ ∃ b o cs F', a = some ⟨b, o, none⟩ ∧ F = b :: F' ∧ w.rangeAt b o cs ∧ Tr.ownL 6 w (Va.trs rs) cs F')) := by
  unfold Va.tr Tr.own at h
  obtain ⟨a, len, cap, hc, _, _, ⟨rfl, _⟩, h4, h5, h6⟩ := h
  rw [Va.trs_len] at *
  exact ⟨a, cap, hc, h4, h5, h6⟩
theorem Va.shape {w : World} {r : Va} {c : List Value} {F : List Nat} (h : r.tr.own 6 w c F) : ∃ v0 v1 v2 v3 v4 v5, c = [v0, v1, v2, v3, v4, v5] := by
  cases r
  obtain ⟨a, cap, rfl, _⟩ := Va.open h
  exact ⟨_, _, _, _, _, _, rfl⟩
/-- The kid with the number k: its cells as the walk asks for them. -/
theorem Va.kid {w : World} {rs : List Va} {cs : List Value} {F : List Nat} {b o : Nat} (k : Nat) (hk : k < rs.length) (h : Tr.ownL 6 w (Va.trs rs) cs F) (hc : w.rangeAt b o cs) :
    ∃ v0 v1 v2 v3 v4 v5 Fa F1 Fb, F = Fa ++ (F1 ++ Fb) ∧ rs[k].tr.own 6 w [v0, v1, v2, v3, v4, v5] F1 ∧
      w.cell? ⟨b, o + k * 6, none⟩ = some v0 ∧ w.cell? ⟨b, o + k * 6 + 1, none⟩ = some v1 ∧ w.cell? ⟨b, o + k * 6 + 2, none⟩ = some v2 ∧ w.cell? ⟨b, o + k * 6 + 3, none⟩ = some v3 ∧
      w.cell? ⟨b, o + k * 6 + 4, none⟩ = some v4 ∧ w.cell? ⟨b, o + k * 6 + 5, none⟩ = some v5 := by
  obtain ⟨c, Fa, F1, Fb, r1, r2, r3, _⟩ := Tr.ownL_at b o k (by rw [Va.trs_len]; exact hk) h hc
  rw [Va.trs_at rs k hk] at r3
  obtain ⟨v0, v1, v2, v3, v4, v5, rfl⟩ := Va.shape r3
  exact ⟨v0, v1, v2, v3, v4, v5, Fa, F1, Fb, r2, r3, r1 0 _ rfl, r1 1 _ rfl, r1 2 _ rfl, r1 3 _ rfl, r1 4 _ rfl, r1 5 _ rfl⟩

/-- The same, the kid's own fields told. -/
theorem Va.kidO {w : World} {rs : List Va} {cs : List Value} {F : List Nat} {b o : Nat} (k : Nat) (hk : k < rs.length) (h : Tr.ownL 6 w (Va.trs rs) cs F) (hc : w.rangeAt b o cs) :
    ∃ kkd kn kx ky ks krs ka kcap Fa F1 Fb, F = Fa ++ (F1 ++ Fb) ∧ rs[k] = Va.mk kkd kn kx ky ks krs ∧ rs[k].tr.own 6 w [.int .u8 kkd, .int .i64 kn, .float .f64 kx, .float .f64 ky, .string ks, .slice ka krs.length kcap] F1 ∧
      w.cell? ⟨b, o + k * 6, none⟩ = some (.int .u8 kkd) ∧ w.cell? ⟨b, o + k * 6 + 1, none⟩ = some (.int .i64 kn) ∧ w.cell? ⟨b, o + k * 6 + 2, none⟩ = some (.float .f64 kx) ∧ w.cell? ⟨b, o + k * 6 + 3, none⟩ = some (.float .f64 ky) ∧
      w.cell? ⟨b, o + k * 6 + 4, none⟩ = some (.string ks) ∧ w.cell? ⟨b, o + k * 6 + 5, none⟩ = some (.slice ka krs.length kcap) := by
  obtain ⟨c, Fa, F1, Fb, r1, r2, r3, _⟩ := Tr.ownL_at b o k (by rw [Va.trs_len]; exact hk) h hc
  rw [Va.trs_at rs k hk] at r3
  cases he : rs[k] with
  | mk kkd kn kx ky ks krs =>
    rw [he] at r3
    obtain ⟨ka, kcap, rfl, _⟩ := Va.open r3
    exact ⟨kkd, kn, kx, ky, ks, krs, ka, kcap, Fa, F1, Fb, r2, rfl, r3, r1 0 _ rfl, r1 1 _ rfl, r1 2 _ rfl, r1 3 _ rfl, r1 4 _ rfl, r1 5 _ rfl⟩

/-- What a call gives that makes a value anew. -/
def GivesR (r : Va) (w : World) (e : Ending) (w' : World) : Prop := ∃ v0 v1 v2 v3 v4 v5 F, e = .returned (.agg #[v0, v1, v2, v3, v4, v5]) ∧ r.tr.own 6 w' [v0, v1, v2, v3, v4, v5] F ∧ Apart w.heap.size F ∧ Soft w' F ∧ Below w.heap.size w w'
theorem run_store_float (P : Program) (w : World) (a : Addr) (m : Mode) (k : FloatKind) (b : Nat) : (store a (.float k b) m).run P w = stored P w a (.float k b) m := run_store P w a _ m rfl
theorem bnew {w W : World} (h : Below w.heap.size w W) (o : Obj) : Below w.heap.size w (W.alloc o) := h.alloc h.size o
theorem bdrewN {B : Nat} {w W : World} (h : Below B w W) (n : Nat) : Below B w (W.drewN n) := ⟨h.os, h.tape, h.output, h.size, h.block⟩
theorem bthen {w W1 W2 : World} (h : Below w.heap.size w W1) (k : Below W1.heap.size W1 W2) : Below w.heap.size w W2 := h.trans (k.mono h.size)
theorem rb {a b : Bool} (h : a = b) : Ending.returned (.bool a) = .returned (.bool b) := by rw [h]
theorem ri {k : IntKind} {a b : Int} (h : a = b) : Ending.returned (.int k a) = .returned (.int k b) := by rw [h]
end Go.Proofs.Ytaglklcjolcgeaa
namespace Go.Proofs.Ytaglklcjolcgeaa
open Go.RowKit Ieee
set_option linter.unusedVariables false
set_option linter.unusedSimpArgs false

def fo (x y : Nat) : Option Ordering := FloatKind.f64.format.order x y
def nanB (x : Nat) : Bool := (FloatKind.f64.format.read x).isNaN
def zerB (x : Nat) : Bool := (FloatKind.f64.format.read x).isZero
theorem cmp_swap (a b : Int) : compare b a = (compare a b).swap := by
  simp only [compare, compareOfLessAndEq]
  rcases Int.lt_trichotomy a b with h | h | h
  · have h1 : ¬ b < a := by omega
    have h2 : ¬ b = a := by omega
    simp [h, h1, h2]
  · subst h; simp
  · have h1 : ¬ a < b := by omega
    have h2 : ¬ a = b := by omega
    simp [h, h1, h2]
theorem cmp_eq {a b : Int} : compare a b = .eq ↔ a = b := by
  simp only [compare, compareOfLessAndEq]
  constructor
  · intro h
    split at h
    · cases h
    · split at h
      · assumption
      · cases h
  · rintro rfl
    simp
theorem cmpN_swap (a b : Nat) : compare b a = (compare a b).swap := by
  simp only [compare, compareOfLessAndEq]
  rcases Nat.lt_trichotomy a b with h | h | h
  · have h1 : ¬ b < a := by omega
    have h2 : ¬ b = a := by omega
    simp [h, h1, h2]
  · subst h; simp
  · have h1 : ¬ a < b := by omega
    have h2 : ¬ a = b := by omega
    simp [h, h1, h2]
theorem datum_swap (a b : Datum) : b.order a = (a.order b).map Ordering.swap := by
  cases a with
  | nan s t => cases b <;> rfl
  | infinity s =>
    cases b with
    | nan t u => rfl
    | infinity t => simp only [Datum.order, Option.map_some]; rw [cmpN_swap]
    | number t m i => cases s <;> rfl
  | number s m i =>
    cases b with
    | nan t u => rfl
    | infinity t => cases t <;> rfl
    | number t n j => simp only [Datum.order, Option.map_some]; rw [Int.min_comm j i, cmp_swap]
theorem fo_swap (x y : Nat) : fo y x = (fo x y).map Ordering.swap := datum_swap _ _
theorem datum_none (a b : Datum) : a.order b = none ↔ a.isNaN = true ∨ b.isNaN = true := by
  cases a <;> cases b <;> simp [Datum.order, Datum.isNaN]
theorem fo_none (x y : Nat) : fo x y = none ↔ nanB x = true ∨ nanB y = true := datum_none _ _
theorem datum_self (d : Datum) : d.order d = if d.isNaN then none else some .eq := by
  cases d with
  | number s m i => simp [Datum.order, Datum.isNaN, compare, compareOfLessAndEq]
  | infinity s => simp [Datum.order, Datum.isNaN]
  | nan s t => simp [Datum.order, Datum.isNaN]
theorem fo_self (x : Nat) : fo x x = if nanB x then none else some .eq := datum_self _
theorem signed_zero (s : Bool) (m k : Nat) : signed s m k = 0 ↔ m = 0 := by
  unfold signed
  have h : m <<< k = 0 ↔ m = 0 := by
    rw [Nat.shiftLeft_eq]
    constructor
    · intro h
      rcases Nat.mul_eq_zero.1 h with h | h
      · exact h
      · have := Nat.two_pow_pos k
        omega
    · rintro rfl
      simp
  cases s
  · simp [h]
  · simp [h]
theorem zero_read : FloatKind.f64.format.read 0 = .number false 0 (-1074) := by decide +kernel
theorem datum_zero (a b : Datum) (h : a.order b = some .eq) : a.isZero = b.isZero := by
  cases a with
  | nan s t => cases b <;> cases h
  | infinity s =>
    cases b with
    | nan t u => cases h
    | infinity t => rfl
    | number t m i => cases s <;> cases h
  | number s m i =>
    cases b with
    | nan t u => cases h
    | infinity t => cases t <;> cases h
    | number t n j =>
      simp only [Datum.order, Option.some.injEq, cmp_eq] at h
      have h1 := signed_zero s m (i - min i j).toNat
      have h2 := signed_zero t n (j - min i j).toNat
      rw [h] at h1
      have h3 : m = 0 ↔ n = 0 := h1.symm.trans h2
      cases m <;> cases n <;> simp_all [Datum.isZero]
theorem fo_zeros {x y : Nat} (h : fo x y = some .eq) : zerB x = zerB y := datum_zero _ _ h
theorem fo_zero (x : Nat) : fo x 0 = some .eq ↔ zerB x = true := by
  unfold fo zerB Format.order
  rw [zero_read]
  cases FloatKind.f64.format.read x with
  | nan s t => simp [Datum.order, Datum.isZero]
  | infinity s => cases s <;> simp [Datum.order, Datum.isZero]
  | number s m i =>
    simp only [Datum.order, Option.some.injEq, cmp_eq]
    have h1 := signed_zero s m (i - min i (-1074)).toNat
    have h2 := signed_zero false 0 (-1074 - min i (-1074)).toNat
    rw [h2.2 rfl, h1]
    cases m <;> simp [Datum.isZero]
theorem zer_eq {x y : Nat} (hx : zerB x = true) (hy : zerB y = true) : fo x y = some .eq := by
  unfold zerB at hx hy
  unfold fo Format.order
  cases ha : FloatKind.f64.format.read x with
  | nan s t => rw [ha] at hx; cases hx
  | infinity s => rw [ha] at hx; cases hx
  | number s m i =>
    cases hb : FloatKind.f64.format.read y with
    | nan s t => rw [hb] at hy; cases hy
    | infinity s => rw [hb] at hy; cases hy
    | number t n j =>
      rw [ha] at hx
      rw [hb] at hy
      have hm : m = 0 := by cases m <;> simp_all [Datum.isZero]
      have hn : n = 0 := by cases n <;> simp_all [Datum.isZero]
      simp only [Datum.order, Option.some.injEq, cmp_eq]
      rw [(signed_zero s m _).2 hm, (signed_zero t n _).2 hn]
end Go.Proofs.Ytaglklcjolcgeaa
namespace Go.Proofs.Ytaglklcjolcgeaa
open Go.RowKit
set_option linter.unusedVariables false
set_option linter.unusedSimpArgs false

/-! #### Which values may be -/
/-- The root alone: its fields beside those that count are nought; 'nest': so many lists stand about it. -/
def okB (kd n : Int) (x y : Nat) (s : ByteArray) (len : Nat) (nest : Int) : Bool :=
  if kd = 0 then decide (n = 0 ∧ x = 0 ∧ y = 0 ∧ s.size = 0 ∧ len = 0)
  else if kd = 1 then decide ((n = 0 ∨ n = 1) ∧ x = 0 ∧ y = 0 ∧ s.size = 0 ∧ len = 0)
  else if kd = 2 then decide (x = 0 ∧ y = 0 ∧ s.size = 0 ∧ len = 0)
  else if kd = 3 then decide (n = 0 ∧ y = 0 ∧ s.size = 0 ∧ len = 0)
  else if kd = 4 then decide (n = 0 ∧ s.size = 0 ∧ len = 0)
  else if kd = 5 ∨ kd = 6 then decide (n = 0 ∧ x = 0 ∧ y = 0 ∧ s.size ≤ 4096 ∧ len = 0)
  else if kd = 7 then decide (n = 0 ∧ x = 0 ∧ y = 0 ∧ s.size = 0 ∧ nest < 16)
  else false
mutual
def Va.cnt : Va → Int → Int → Int
  | .mk kd n x y s rs, nest, left => if okB kd n x y s rs.length nest = false ∨ left - 1 < 0 then -1 else Va.cnts rs (nest + 1) (left - 1)
def Va.cnts : List Va → Int → Int → Int
  | [], _, left => left
  | r :: rs, nest, left => if r.cnt nest left < 0 then -1 else Va.cnts rs nest (r.cnt nest left)
end
mutual
theorem Va.cnt_bd : ∀ (r : Va) (nest left : Int), -1 ≤ r.cnt nest left ∧ (0 ≤ r.cnt nest left → r.cnt nest left < left)
  | .mk kd n x y s rs, nest, left => by
    unfold Va.cnt
    split
    · omega
    · rename_i h
      have := Va.cnts_bd rs (nest + 1) (left - 1) (by omega)
      omega
theorem Va.cnts_bd : ∀ (rs : List Va) (nest left : Int), 0 ≤ left → -1 ≤ Va.cnts rs nest left ∧ (0 ≤ Va.cnts rs nest left → Va.cnts rs nest left ≤ left)
  | [], _, left => fun h => by unfold Va.cnts; omega
  | r :: rs, nest, left => fun h => by
    unfold Va.cnts
    have h1 := Va.cnt_bd r nest left
    split
    · omega
    · have h2 := Va.cnts_bd rs nest (r.cnt nest left) (by omega)
      omega
end
mutual
theorem Va.cnt_size : ∀ (r : Va) (nest left : Int), 0 ≤ r.cnt nest left → r.cnt nest left = left - r.size
  | .mk kd n x y s rs, nest, left => fun h => by
    unfold Va.cnt at h ⊢
    unfold Va.size
    split at h
    · omega
    · rename_i hc
      rw [if_neg hc]
      have := Va.cnts_size rs (nest + 1) (left - 1) h
      omega
theorem Va.cnts_size : ∀ (rs : List Va) (nest left : Int), 0 ≤ Va.cnts rs nest left → Va.cnts rs nest left = left - Va.sizes rs
  | [], _, left => fun h => by unfold Va.cnts Va.sizes; simp
  | r :: rs, nest, left => fun h => by
    unfold Va.cnts at h ⊢
    unfold Va.sizes
    split at h
    · omega
    · rename_i hc
      rw [if_neg hc]
      have h1 := Va.cnt_size r nest left (by omega)
      have h2 := Va.cnts_size rs nest (r.cnt nest left) h
      omega
end
theorem Va.cnts_drop (rs : List Va) (k : Nat) (hk : k < rs.length) (nest l : Int) (h : 0 ≤ rs[k].cnt nest l) : Va.cnts (rs.drop k) nest l = Va.cnts (rs.drop (k + 1)) nest (rs[k].cnt nest l) := by
  rw [List.drop_eq_getElem_cons hk]
  conv => lhs; unfold Va.cnts
  rw [if_neg (by omega)]
theorem Va.cnts_bad (rs : List Va) (k : Nat) (hk : k < rs.length) (nest l : Int) (h : rs[k].cnt nest l < 0) : Va.cnts (rs.drop k) nest l = -1 := by
  rw [List.drop_eq_getElem_cons hk]
  unfold Va.cnts
  rw [if_pos h]
/-- It may be. -/
def Va.okV (r : Va) : Bool := decide (0 ≤ r.cnt 0 1024)
theorem Va.ok_size {r : Va} (h : r.okV = true) : r.size ≤ 1024 := by
  have h1 : 0 ≤ r.cnt 0 1024 := of_decide_eq_true h
  have := Va.cnt_size r 0 1024 h1
  omega
mutual
/-- Every root of the value may be (whatever stands about it). -/
def Va.all : Va → Prop
  | .mk kd n x y s rs => okB kd n x y s rs.length 0 = true ∧ Va.alls rs
def Va.alls : List Va → Prop
  | [] => True
  | r :: rs => r.all ∧ Va.alls rs
end
theorem okB_nest {kd n : Int} {x y : Nat} {s : ByteArray} {len : Nat} {nest : Int} (h : okB kd n x y s len nest = true) : okB kd n x y s len 0 = true := by
  unfold okB at h ⊢
  repeat (split at h <;> rename_i hc; · rw [if_pos hc] <;> first | exact h | (simp only [decide_eq_true_eq] at h ⊢; omega)
          rw [if_neg hc])
  exact h
mutual
theorem Va.all_of_cnt : ∀ (r : Va) (nest left : Int), 0 ≤ r.cnt nest left → r.all
  | .mk kd n x y s rs, nest, left => fun h => by
    unfold Va.cnt at h
    unfold Va.all
    split at h
    · omega
    · rename_i hc
      refine ⟨okB_nest (nest := nest) ?_, Va.alls_of_cnts rs (nest + 1) (left - 1) h⟩
      cases ho : okB kd n x y s rs.length nest with
      | true => rfl
      | false => exact absurd (.inl ho) hc
theorem Va.alls_of_cnts : ∀ (rs : List Va) (nest left : Int), 0 ≤ Va.cnts rs nest left → Va.alls rs
  | [], _, left => fun h => by unfold Va.alls; trivial
  | r :: rs, nest, left => fun h => by
    unfold Va.cnts at h
    unfold Va.alls
    split at h
    · omega
    · exact ⟨Va.all_of_cnt r nest left (by omega), Va.alls_of_cnts rs nest _ h⟩
end
theorem Va.ok_all {r : Va} (h : r.okV = true) : r.all := Va.all_of_cnt r 0 1024 (of_decide_eq_true h)
theorem Va.alls_at : ∀ (rs : List Va) (k : Nat) (hk : k < rs.length), Va.alls rs → rs[k].all
  | r :: rs, 0, _, h => by unfold Va.alls at h; exact h.1
  | r :: rs, k + 1, hk, h => by
    unfold Va.alls at h
    exact Va.alls_at rs k (by simpa using hk) h.2

/-! #### The order -/
def numb (less more : Bool) : Int := if less then -1 else if more then 1 else 0
def sgB (x : Nat) : Bool := decide (9223372036854775808 ≤ x)
/-- The order of two floats. -/
def ordF (x y : Nat) : Int :=
  if nanB x || nanB y then numb (nanB x && !nanB y) (!nanB x && nanB y)
  else if zerB x && zerB y then numb (sgB x && !sgB y) (!sgB x && sgB y)
  else numb (fo x y == some .lt) (fo x y == some .gt)
theorem numb_neg (a b : Bool) (h : ¬ (a = true ∧ b = true)) : numb b a = - numb a b := by
  cases a <;> cases b <;> first | rfl | exact absurd ⟨rfl, rfl⟩ h
theorem ordF_neg (x y : Nat) : ordF y x = - ordF x y := by
  unfold ordF
  rw [fo_swap x y, Bool.or_comm (nanB y) (nanB x), Bool.and_comm (zerB y) (zerB x)]
  cases hx : nanB x <;> cases hy : nanB y
  · simp only [Bool.or_self, Bool.false_eq_true, if_false]
    cases hz : (zerB x && zerB y)
    · simp only [Bool.false_eq_true, if_false]
      cases hf : fo x y with
      | none => rfl
      | some o => cases o <;> rfl
    · simp only [if_true]
      cases sgB x <;> cases sgB y <;> rfl
  · rfl
  · rfl
  · rfl
theorem ordF_zero : ordF 0 0 = 0 := by
  unfold ordF
  split
  · unfold numb; simp
  · split
    · rfl
    · rw [fo_self]
      split <;> rfl
theorem ordF_self (x : Nat) : ordF x x = 0 := by
  have := ordF_neg x x
  omega
/-- The order of two texts. -/
def ordS (a b : ByteArray) : Int := Lib.compareBytes a.data.toList b.data.toList
theorem cmpB_neg : ∀ (a b : List UInt8), Lib.compareBytes b a = - Lib.compareBytes a b
  | [], [] => rfl
  | [], _ :: _ => rfl
  | _ :: _, [] => rfl
  | a :: as2, b :: bs => by
    unfold Lib.compareBytes
    by_cases h1 : a < b
    · have h2 : ¬ b < a := by simp only [UInt8.lt_iff_toNat_lt] at h1 ⊢; omega
      rw [if_neg h2, if_pos h1, if_pos h1]
      rfl
    · by_cases h2 : b < a
      · rw [if_pos h2, if_neg h1, if_pos h2]
      · rw [if_neg h2, if_neg h1, if_neg h1, if_neg h2]
        exact cmpB_neg as2 bs
theorem ordS_neg (a b : ByteArray) : ordS b a = - ordS a b := cmpB_neg _ _
theorem ordS_self (a : ByteArray) : ordS a a = 0 := by have := ordS_neg a a; omega
mutual
/-- The reference's order of two values. -/
def ordV : Va → Va → Int
  | .mk kd n x y s rs, .mk kd2 n2 x2 y2 s2 rs2 =>
    if kd ≠ kd2 then numb (decide (kd < kd2)) true
    else if kd = 1 ∨ kd = 2 then numb (decide (n < n2)) (decide (n2 < n))
    else if kd = 3 then ordF x x2
    else if kd = 4 then (if ordF x x2 ≠ 0 then ordF x x2 else ordF y y2)
    else if kd = 5 ∨ kd = 6 then ordS s s2
    else if kd = 7 then ordL rs rs2
    else 0
def ordL : List Va → List Va → Int
  | [], [] => 0
  | [], _ :: _ => -1
  | _ :: _, [] => 1
  | a :: as2, b :: bs => if ordV a b ≠ 0 then ordV a b else ordL as2 bs
end
mutual
theorem ordV_neg : ∀ (a b : Va), ordV b a = - ordV a b
  | .mk kd n x y s rs, .mk kd2 n2 x2 y2 s2 rs2 => by
    unfold ordV
    by_cases h : kd = kd2
    · subst h
      simp only [ne_eq, not_true_eq_false, if_false]
      split
      · rw [numb_neg]
        rintro ⟨h1, h2⟩
        have := of_decide_eq_true h1
        have := of_decide_eq_true h2
        omega
      split
      · exact ordF_neg x x2
      split
      · rw [ordF_neg x x2, ordF_neg y y2]
        by_cases h0 : ordF x x2 = 0
        · simp [h0]
        · rw [if_pos (by omega), if_pos h0]
      split
      · exact ordS_neg s s2
      split
      · exact ordL_neg rs rs2
      · rfl
    · rw [if_pos (fun e => h e.symm), if_pos h]
      rcases Int.lt_trichotomy kd kd2 with h1 | h1 | h1
      · have h2 : ¬ kd2 < kd := by omega
        simp [numb, h1, h2]
      · exact absurd h1 h
      · have h2 : ¬ kd < kd2 := by omega
        simp [numb, h1, h2]
theorem ordL_neg : ∀ (as2 bs : List Va), ordL bs as2 = - ordL as2 bs
  | [], [] => by unfold ordL; rfl
  | [], _ :: _ => by unfold ordL; rfl
  | _ :: _, [] => by unfold ordL; rfl
  | a :: as2, b :: bs => by
    unfold ordL
    rw [ordV_neg a b, ordL_neg as2 bs]
    by_cases h0 : ordV a b = 0
    · simp [h0]
    · rw [if_pos (by omega), if_pos h0]
end
theorem ordV_self (a : Va) : ordV a a = 0 := by have := ordV_neg a a; omega
/-- The first that is not nought. -/
def orN : List Int → Int
  | [] => 0
  | a :: l => if a ≠ 0 then a else orN l
mutual
/-- The program's order of two values. -/
def pordV : Va → Va → Int
  | .mk kd n x y s rs, .mk kd2 n2 x2 y2 s2 rs2 =>
    if numb (decide (kd < kd2)) (decide (kd2 < kd)) ≠ 0 then numb (decide (kd < kd2)) (decide (kd2 < kd))
    else orN [numb (decide (n < n2)) (decide (n2 < n)), ordF x x2, ordF y y2, ordS s s2, pordL rs rs2]
def pordL : List Va → List Va → Int
  | [], [] => 0
  | [], _ :: _ => -1
  | _ :: _, [] => 1
  | a :: as2, b :: bs => if pordV a b ≠ 0 then pordV a b else pordL as2 bs
end
theorem numb_ff : numb false false = 0 := rfl
theorem ite_self0 (a : Int) : (if a = 0 then 0 else a) = a := by split <;> simp_all
theorem numb_self (n : Int) : numb (decide (n < n)) (decide (n < n)) = 0 := by simp [numb]
theorem size_nil {s : ByteArray} (h : s.size = 0) : s = ⟨#[]⟩ := by
  cases s with
  | mk d =>
    have : d.size = 0 := h
    rw [Array.eq_empty_of_size_eq_zero this]
mutual
theorem pord_eq : ∀ (a b : Va), a.all → b.all → pordV a b = ordV a b
  | .mk kd n x y s rs, .mk kd2 n2 x2 y2 s2 rs2 => fun ha hb => by
    unfold Va.all at ha hb
    obtain ⟨h1, ha⟩ := ha
    obtain ⟨h2, hb⟩ := hb
    unfold pordV ordV
    by_cases hk : kd = kd2
    · subst hk
      rw [if_neg (by rw [numb_self]; simp), if_neg (by simp)]
      unfold okB at h1 h2
      by_cases k0 : kd = 0
      · subst k0
        rw [if_pos rfl] at h1 h2
        obtain ⟨rfl, rfl, rfl, e1, e2⟩ := of_decide_eq_true h1
        obtain ⟨rfl, rfl, rfl, e3, e4⟩ := of_decide_eq_true h2
        rw [size_nil e1, size_nil e3, List.eq_nil_of_length_eq_zero e2, List.eq_nil_of_length_eq_zero e4]
        simp [orN, numb, ordF_zero, ordS_self, pordL]
      rw [if_neg k0] at h1 h2
      by_cases k1 : kd = 1
      · subst k1
        rw [if_pos rfl] at h1 h2
        obtain ⟨_, rfl, rfl, e1, e2⟩ := of_decide_eq_true h1
        obtain ⟨_, rfl, rfl, e3, e4⟩ := of_decide_eq_true h2
        rw [size_nil e1, size_nil e3, List.eq_nil_of_length_eq_zero e2, List.eq_nil_of_length_eq_zero e4]
        simp [orN, ordF_zero, ordS_self, pordL, ite_self0]
      rw [if_neg k1] at h1 h2
      by_cases k2 : kd = 2
      · subst k2
        rw [if_pos rfl] at h1 h2
        obtain ⟨rfl, rfl, e1, e2⟩ := of_decide_eq_true h1
        obtain ⟨rfl, rfl, e3, e4⟩ := of_decide_eq_true h2
        rw [size_nil e1, size_nil e3, List.eq_nil_of_length_eq_zero e2, List.eq_nil_of_length_eq_zero e4]
        simp [orN, ordF_zero, ordS_self, pordL, ite_self0]
      rw [if_neg k2] at h1 h2
      by_cases k3 : kd = 3
      · subst k3
        rw [if_pos rfl] at h1 h2
        obtain ⟨rfl, rfl, e1, e2⟩ := of_decide_eq_true h1
        obtain ⟨rfl, rfl, e3, e4⟩ := of_decide_eq_true h2
        rw [size_nil e1, size_nil e3, List.eq_nil_of_length_eq_zero e2, List.eq_nil_of_length_eq_zero e4]
        simp [orN, numb_self, numb_ff, ite_self0, ordF_zero, ordS_self, pordL]
      rw [if_neg k3] at h1 h2
      by_cases k4 : kd = 4
      · subst k4
        rw [if_pos rfl] at h1 h2
        obtain ⟨rfl, e1, e2⟩ := of_decide_eq_true h1
        obtain ⟨rfl, e3, e4⟩ := of_decide_eq_true h2
        rw [size_nil e1, size_nil e3, List.eq_nil_of_length_eq_zero e2, List.eq_nil_of_length_eq_zero e4]
        simp [orN, numb_self, numb_ff, ite_self0, ordF_zero, ordS_self, pordL]
      rw [if_neg k4] at h1 h2
      by_cases k5 : kd = 5 ∨ kd = 6
      · rw [if_pos k5] at h1 h2
        obtain ⟨rfl, rfl, rfl, e1, e2⟩ := of_decide_eq_true h1
        obtain ⟨rfl, rfl, rfl, e3, e4⟩ := of_decide_eq_true h2
        rw [if_neg (by omega), if_neg k3, if_neg k4, if_pos k5, List.eq_nil_of_length_eq_zero e2, List.eq_nil_of_length_eq_zero e4]
        simp [orN, numb_self, numb_ff, ite_self0, ordF_zero, pordL]
      rw [if_neg k5] at h1 h2
      by_cases k7 : kd = 7
      · rw [if_pos k7] at h1 h2
        obtain ⟨rfl, rfl, rfl, e1, _⟩ := of_decide_eq_true h1
        obtain ⟨rfl, rfl, rfl, e3, _⟩ := of_decide_eq_true h2
        rw [if_neg (by omega), if_neg k3, if_neg k4, if_neg k5, if_pos k7, size_nil e1, size_nil e3, pordL_eq rs rs2 ha hb]
        simp [orN, numb_self, numb_ff, ite_self0, ordF_zero, ordS_self]
      · rw [if_neg k7] at h1
        cases h1
    · rw [if_pos hk]
      rcases Int.lt_trichotomy kd kd2 with h3 | h3 | h3
      · simp [numb, h3]
      · exact absurd h3 hk
      · have h4 : ¬ kd < kd2 := by omega
        simp [numb, h3, h4]
theorem pordL_eq : ∀ (as2 bs : List Va), Va.alls as2 → Va.alls bs → pordL as2 bs = ordL as2 bs
  | [], [] => fun _ _ => by unfold pordL ordL; rfl
  | [], _ :: _ => fun _ _ => by unfold pordL ordL; rfl
  | _ :: _, [] => fun _ _ => by unfold pordL ordL; rfl
  | a :: as2, b :: bs => fun ha hb => by
    unfold Va.alls at ha hb
    unfold pordL ordL
    rw [pord_eq a b ha.1 hb.1, pordL_eq as2 bs ha.2 hb.2]
end
end Go.Proofs.Ytaglklcjolcgeaa
namespace Go.Proofs.Ytaglklcjolcgeaa
open Go.RowKit
set_option linter.unusedVariables false
set_option linter.unusedSimpArgs false

theorem Tr.ownL_split {sz : Nat} {w : World} : ∀ {ts us : List Tr} {cs : List Value} {F : List Nat}, Tr.ownL sz w (ts ++ us) cs F → ∃ c1 c2 F1 F2, cs = c1 ++ c2 ∧ F = F1 ++ F2 ∧ Tr.ownL sz w ts c1 F1 ∧ Tr.ownL sz w us c2 F2
  | [], us, cs, F, h => ⟨[], cs, [], F, rfl, rfl, by simp [Tr.ownL], h⟩
  | t :: ts, us, cs, F, h => by
    rw [List.cons_append] at h
    unfold Tr.ownL at h
    obtain ⟨c, cs', F1, F2, rfl, rfl, h1, h2⟩ := h
    obtain ⟨c1, c2, G1, G2, rfl, rfl, h3, h4⟩ := Tr.ownL_split h2
    refine ⟨c ++ c1, c2, F1 ++ G1, G2, by simp, by simp, ?_, h4⟩
    unfold Tr.ownL
    exact ⟨c, c1, F1, G1, rfl, rfl, h1, h3⟩
def markV (k : Nat) : Va := .mk 2 (900 + (k : Int)) 0 0 ⟨#[]⟩ []
def marks (m : Nat) : List Va := (List.range m).map markV
theorem marks_len (m : Nat) : (marks m).length = m := by simp [marks]
theorem marks_succ (m : Nat) : marks (m + 1) = marks m ++ [markV m] := by simp [marks, List.range_succ]
mutual
/-- A value that was lent, as a tree. -/
def Va.ltr : Va → Tr
  | .mk kd n x y s rs => .mk [.int .u8 kd, .int .i64 n, .float .f64 x, .float .f64 y, .string s] rs.length (if rs.length = 0 then [] else Va.ltrs rs ++ Va.trs (marks 20))
def Va.ltrs : List Va → List Tr
  | [] => []
  | r :: rs => r.ltr :: Va.ltrs rs
end
theorem Va.ltrs_eq : ∀ rs : List Va, Va.ltrs rs = rs.map Va.ltr
  | [] => rfl
  | r :: rs => by unfold Va.ltrs; rw [Va.ltrs_eq rs]; rfl
theorem Va.ltrs_len (rs : List Va) : (Va.ltrs rs).length = rs.length := by rw [Va.ltrs_eq, List.length_map]
theorem Va.ltrs_take (rs : List Va) (k : Nat) (hk : k < rs.length) : Va.ltrs (rs.take (k + 1)) = Va.ltrs (rs.take k) ++ [rs[k].ltr] := by
  rw [Va.ltrs_eq, Va.ltrs_eq, List.take_succ_eq_append_getElem hk, List.map_append]
  rfl
theorem mark_F {w : World} {k : Nat} {c : List Value} {F : List Nat} (h : (markV k).tr.own 6 w c F) : F = [] := by
  unfold markV Va.tr Tr.own at h
  obtain ⟨a, len, cap, _, _, _, _, _, _, h6⟩ := h
  rcases h6 with ⟨_, h6⟩ | ⟨h6, _⟩
  · exact h6
  · simp [Va.trs] at h6
theorem marks_F {w : World} : ∀ {m : Nat} {cs : List Value} {F : List Nat}, Tr.ownL 6 w (Va.trs (marks m)) cs F → F = []
  | 0, cs, F, h => by
    simp only [marks, List.range_zero, List.map_nil, Va.trs] at h
    unfold Tr.ownL at h
    exact h.2
  | m + 1, cs, F, h => by
    rw [marks_succ, Va.trs_eq, List.map_append] at h
    obtain ⟨c1, c2, F1, F2, rfl, rfl, h1, h2⟩ := Tr.ownL_split h
    rw [← Va.trs_eq] at h1
    rw [marks_F h1]
    simp only [List.map_cons, List.map_nil] at h2
    unfold Tr.ownL at h2
    obtain ⟨c, cs', G1, G2, rfl, rfl, h3, h4⟩ := h2
    unfold Tr.ownL at h4
    rw [mark_F h3, h4.2]
    rfl
mutual
/-- The marks forgotten. -/
theorem Va.own_ltr {w : World} : ∀ (r : Va) (c : List Value) (F : List Nat), r.ltr.own 6 w c F → r.tr.own 6 w c F
  | .mk kd n x y s rs, c, F => fun h => by
    unfold Va.ltr Tr.own at h
    unfold Va.tr Tr.own
    obtain ⟨a, len, cap, h0, h1, h2, h3, h4, h5, h6⟩ := h
    by_cases hz : rs.length = 0
    · rw [if_pos hz] at h3 h6
      refine ⟨a, rs.length, cap, h0, h1, h2, ⟨by rw [Va.trs_len], Nat.le_refl _⟩, by omega, h5, .inl ⟨by rw [Va.trs_len]; exact hz, ?_⟩⟩
      rcases h6 with h6 | h6
      · exact h6.2
      · simp at h6
    · rw [if_neg hz] at h3 h6
      rw [List.length_append, Va.ltrs_len, Va.trs_len, marks_len] at h3 h6
      refine ⟨a, rs.length, cap, h0, h1, h2, ⟨by rw [Va.trs_len], Nat.le_refl _⟩, by omega, h5, .inr ⟨by rw [Va.trs_len]; omega, ?_⟩⟩
      rcases h6 with h6 | ⟨_, b, o, cs, F', ha, hF, hr, hk⟩
      · omega
      · obtain ⟨c1, c2, F1, F2, rfl, rfl, k1, k2⟩ := Tr.ownL_split hk
        rw [marks_F k2, List.append_nil] at hF
        exact ⟨b, o, c1, F1, ha, hF, rangeAt_left hr, Va.ownL_ltr rs c1 F1 k1⟩
theorem Va.ownL_ltr {w : World} : ∀ (rs : List Va) (cs : List Value) (F : List Nat), Tr.ownL 6 w (Va.ltrs rs) cs F → Tr.ownL 6 w (Va.trs rs) cs F
  | [], cs, F => fun h => by
    unfold Va.ltrs at h
    unfold Va.trs
    exact h
  | r :: rs, cs, F => fun h => by
    unfold Va.ltrs Tr.ownL at h
    unfold Va.trs Tr.ownL
    obtain ⟨c, cs', F1, F2, h1, h2, h3, h4⟩ := h
    exact ⟨c, cs', F1, F2, h1, h2, Va.own_ltr r c F1 h3, Va.ownL_ltr rs cs' F2 h4⟩
end
/-- A value that was lent, its root's cells written out. -/
theorem Va.openL {w : World} {kd n : Int} {x y : Nat} {s : ByteArray} {rs : List Va} {c : List Value} {F : List Nat} (h : (Va.mk kd n x y s rs).ltr.own 6 w c F) :
    ∃ a cap, c = [.int .u8 kd, .int .i64 n, .float .f64 x, .float .f64 y, .string s, .slice a rs.length cap] ∧ rs.length ≤ cap ∧ cap ≤ 9223372036854775807 ∧
      ((rs.length = 0 ∧ F = []) ∨ (0 < rs.length ∧ rs.length + 20 ≤ cap ∧ ∃ b o cs cm F', a = some ⟨b, o, none⟩ ∧ F = b :: F' ∧ w.rangeAt b o (cs ++ cm) ∧ Tr.ownL 6 w (Va.ltrs rs) cs F' ∧ Tr.ownL 6 w (Va.trs (marks 20)) cm [])) := by
  unfold Va.ltr Tr.own at h
  obtain ⟨a, len, cap, hc, _, _, h3, h4, h5, h6⟩ := h
  by_cases hz : rs.length = 0
  · rw [if_pos hz] at h3 h6
    refine ⟨a, cap, hc, by omega, h5, .inl ⟨hz, ?_⟩⟩
    rcases h6 with h6 | h6
    · exact h6.2
    · simp at h6
  · rw [if_neg hz] at h3 h6
    rw [List.length_append, Va.ltrs_len, Va.trs_len, marks_len] at h3 h6
    refine ⟨a, cap, hc, by omega, h5, .inr ⟨by omega, by omega, ?_⟩⟩
    rcases h6 with h6 | ⟨_, b, o, cs, F', ha, hF, hr, hk⟩
    · omega
    · obtain ⟨c1, c2, F1, F2, rfl, rfl, k1, k2⟩ := Tr.ownL_split hk
      have e := marks_F k2
      subst e
      rw [List.append_nil] at hF
      exact ⟨b, o, c1, c2, F1, ha, hF, hr, k1, k2⟩
theorem Va.shapeL {w : World} {r : Va} {c : List Value} {F : List Nat} (h : r.ltr.own 6 w c F) : ∃ v0 v1 v2 v3 v4 v5, c = [v0, v1, v2, v3, v4, v5] := by
  cases r
  obtain ⟨a, cap, rfl, _⟩ := Va.openL h
  exact ⟨_, _, _, _, _, _, rfl⟩
end Go.Proofs.Ytaglklcjolcgeaa
namespace Go.Proofs.Ytaglklcjolcgeaa
open Go.RowKit
set_option linter.unusedVariables false
set_option linter.unusedSimpArgs false

mutual
/-- Every root may be where it stands. -/
def Va.alln : Va → Int → Prop
  | .mk kd n x y s rs, nest => okB kd n x y s rs.length nest = true ∧ Va.allns rs (nest + 1)
def Va.allns : List Va → Int → Prop
  | [], _ => True
  | r :: rs, nest => r.alln nest ∧ Va.allns rs nest
end
theorem okB_mono {kd n : Int} {x y : Nat} {s : ByteArray} {len : Nat} {nest nest' : Int} (hle : nest' ≤ nest) (h : okB kd n x y s len nest = true) : okB kd n x y s len nest' = true := by
  unfold okB at h ⊢
  repeat (split at h <;> rename_i hc; · rw [if_pos hc] <;> first | exact h | (simp only [decide_eq_true_eq] at h ⊢; omega)
          rw [if_neg hc])
  exact h
mutual
theorem Va.alln_mono : ∀ (r : Va) (nest nest' : Int), nest' ≤ nest → r.alln nest → r.alln nest'
  | .mk kd n x y s rs, nest, nest' => fun hle h => by
    unfold Va.alln at h ⊢
    exact ⟨okB_mono hle h.1, Va.allns_mono rs _ _ (by omega) h.2⟩
theorem Va.allns_mono : ∀ (rs : List Va) (nest nest' : Int), nest' ≤ nest → Va.allns rs nest → Va.allns rs nest'
  | [], _, _ => fun _ _ => by unfold Va.allns; trivial
  | r :: rs, nest, nest' => fun hle h => by
    unfold Va.allns at h ⊢
    exact ⟨Va.alln_mono r _ _ hle h.1, Va.allns_mono rs _ _ hle h.2⟩
end
mutual
theorem Va.cnt_alln : ∀ (r : Va) (nest left : Int), 0 ≤ r.cnt nest left → r.alln nest
  | .mk kd n x y s rs, nest, left => fun h => by
    unfold Va.cnt at h
    unfold Va.alln
    split at h
    · omega
    · rename_i hc
      refine ⟨?_, Va.cnts_allns rs (nest + 1) (left - 1) h⟩
      cases ho : okB kd n x y s rs.length nest with
      | true => rfl
      | false => exact absurd (.inl ho) hc
theorem Va.cnts_allns : ∀ (rs : List Va) (nest left : Int), 0 ≤ Va.cnts rs nest left → Va.allns rs nest
  | [], _, left => fun h => by unfold Va.allns; trivial
  | r :: rs, nest, left => fun h => by
    unfold Va.cnts at h
    unfold Va.allns
    split at h
    · omega
    · exact ⟨Va.cnt_alln r nest left (by omega), Va.cnts_allns rs nest _ h⟩
end
mutual
theorem Va.cnt_of : ∀ (r : Va) (nest left : Int), r.alln nest → (r.size : Int) ≤ left → r.cnt nest left = left - r.size
  | .mk kd n x y s rs, nest, left => fun h hs => by
    unfold Va.alln at h
    unfold Va.size at hs ⊢
    unfold Va.cnt
    rw [if_neg (by rw [h.1]; simp; omega), Va.cnts_of rs (nest + 1) (left - 1) h.2 (by omega)]
    omega
theorem Va.cnts_of : ∀ (rs : List Va) (nest left : Int), Va.allns rs nest → (Va.sizes rs : Int) ≤ left → Va.cnts rs nest left = left - Va.sizes rs
  | [], _, left => fun h hs => by unfold Va.cnts Va.sizes; simp
  | r :: rs, nest, left => fun h hs => by
    unfold Va.allns at h
    unfold Va.sizes at hs ⊢
    unfold Va.cnts
    have h1 := Va.cnt_of r nest left h.1 (by omega)
    rw [if_neg (by omega), Va.cnts_of rs nest _ h.2 (by omega)]
    omega
end
theorem Va.ok_iff (r : Va) : r.okV = true ↔ r.alln 0 ∧ r.size ≤ 1024 := by
  constructor
  · intro h
    exact ⟨Va.cnt_alln r 0 1024 (of_decide_eq_true h), Va.ok_size h⟩
  · rintro ⟨h1, h2⟩
    have := Va.cnt_of r 0 1024 h1 (by omega)
    exact decide_eq_true (by omega)
theorem Va.allns_at : ∀ (rs : List Va) (k : Nat) (hk : k < rs.length) (nest : Int), Va.allns rs nest → rs[k].alln nest
  | r :: rs, 0, _, _, h => by unfold Va.allns at h; exact h.1
  | r :: rs, k + 1, hk, nest, h => by
    unfold Va.allns at h
    exact Va.allns_at rs k (by simpa using hk) nest h.2
/-- A list's things may be where the list may. -/
theorem Va.ok_kid {kd n : Int} {x y : Nat} {s : ByteArray} {rs : List Va} (h : (Va.mk kd n x y s rs).okV = true) (k : Nat) (hk : k < rs.length) : rs[k].okV = true := by
  have h1 := (Va.ok_iff _).1 h
  unfold Va.alln Va.size at h1
  have := Va.sizes_at rs k hk
  exact (Va.ok_iff _).2 ⟨Va.alln_mono _ _ _ (by omega) (Va.allns_at rs k hk _ h1.1.2), by omega⟩
/-- What is no list has no things. -/
theorem okB_list {kd n : Int} {x y : Nat} {s : ByteArray} {len : Nat} {nest : Int} (h : okB kd n x y s len nest = true) (hk : kd ≠ 7) : len = 0 := by
  unfold okB at h
  repeat (split at h <;> rename_i hc; · first | (simp only [decide_eq_true_eq] at h; omega) | exact absurd hc hk)
  cases h
theorem Va.ok_nolist {kd n : Int} {x y : Nat} {s : ByteArray} {rs : List Va} (h : (Va.mk kd n x y s rs).okV = true) (hk : kd ≠ 7) : rs = [] := by
  have h1 := (Va.ok_iff _).1 h
  unfold Va.alln at h1
  exact List.eq_nil_of_length_eq_zero (okB_list h1.1.1 hk)

def Va.kd : Va → Int
  | .mk kd _ _ _ _ _ => kd
mutual
/-- A value whose lists' things that are no lists were written over. -/
def overV : Va → Int → Va
  | .mk kd n x y s rs, m => .mk kd n x y s (overL rs m 0)
def overL : List Va → Int → Nat → List Va
  | [], _, _ => []
  | r :: rs, m, i => (if r.kd = 7 then overV r m else .mk 2 (100 * m + i) 0 0 ⟨#[]⟩ []) :: overL rs m (i + 1)
end
theorem overL_len : ∀ (rs : List Va) (m : Int) (i : Nat), (overL rs m i).length = rs.length
  | [], _, _ => by unfold overL; rfl
  | r :: rs, m, i => by unfold overL; simp [overL_len rs m (i + 1)]
theorem overL_cons (r : Va) (rs : List Va) (m : Int) (i : Nat) : overL (r :: rs) m i = (if r.kd = 7 then overV r m else .mk 2 (100 * m + i) 0 0 ⟨#[]⟩ []) :: overL rs m (i + 1) := by rw [overL]
theorem overL_at : ∀ (rs : List Va) (m : Int) (i k : Nat) (hk : k < rs.length), overL (rs.take (k + 1)) m i = overL (rs.take k) m i ++ [if rs[k].kd = 7 then overV rs[k] m else .mk 2 (100 * m + (i + k : Nat)) 0 0 ⟨#[]⟩ []]
  | r :: rs, m, i, 0, _ => by simp [overL_cons, overL]
  | r :: rs, m, i, k + 1, hk => by
    have h := overL_at rs m (i + 1) k (by simpa using hk)
    have e1 : i + 1 + k = i + (k + 1) := by omega
    rw [List.take_succ_cons, overL_cons, h, List.take_succ_cons, overL_cons, e1]
    rfl
end Go.Proofs.Ytaglklcjolcgeaa
namespace Go.Proofs.Ytaglklcjolcgeaa
open Go.RowKit
attribute [local go_sem] run_store_float
theorem run_bits (x : Nat) (w : World) : Sem.run Try.prog (callFunc 45 #[.float .f64 x]) w = .ok (.value (.int .u64 x)) w := by
  have h := run_callFunc_extern (P := Try.prog) (f := 45) (fn := Try.f45) (e := Extern.MathFloatBits.float64bits) Try.func45 (by kernel_rfl) (by kernel_rfl) (by kernel_rfl) (by kernel_rfl) #[.float .f64 x] w
  rw [h]; rfl
theorem rzero_any (x : Nat) (w : World) : Calls Try.prog 62 #[.float .f64 x] w fun e w' => e = .returned (.bool ((x : Int) == 0)) ∧ w = w' := by
  have kb := run_bits
  go_enter Try.func62, Try.ntmps62
  go_wp2_with fail
  go_ret
  exact ⟨rfl, rfl⟩
/-- Are the fields but the named ones nought? -/
def onlyB (n : Int) (x y : Nat) (s : ByteArray) (len : Nat) (bn bx bz bt bl : Bool) : Bool := (bn || n == 0) && ((bx || (x : Int) == 0) && ((bz || (y : Int) == 0) && ((bt || s.toList.isEmpty) && (bl || (len : Int) == 0))))
set_option maxHeartbeats 1000000 in
theorem only_any (kd n : Int) (x y : Nat) (s : ByteArray) (a : Option Addr) (len cap : Nat) (bn bx bz bt bl : Bool) (w : World) :
    Calls Try.prog 43 #[.agg #[.int .u8 kd, .int .i64 n, .float .f64 x, .float .f64 y, .string s, .slice a len cap], .bool bn, .bool bx, .bool bz, .bool bt, .bool bl] w fun e w' =>
      e = .returned (.bool (onlyB n x y s len bn bx bz bt bl)) ∧ Below w.heap.size w w' := by
  go_enter Try.func43, Try.ntmps43
  go_wp2_with (go_at_call 62; (with_reducible refine (rzero_any _ _).mono ?_); rintro e w' ⟨rfl, rfl⟩)
  all_goals
    go_ret
    refine ⟨rb ?_, (Below.refl _ _).alloc (Nat.le_refl _) _⟩
    simp [onlyB, *]
end Go.Proofs.Ytaglklcjolcgeaa
