/- Values in plain words: which may be, how two are compared. No program. -/
import Derived.Test.YtbbpngoffpegbaaGreatDoorVa
import Derived.Test.YtbbpngoffpegbaaGreatDoorFlo
import Derived.Lib.Bytealg
namespace Go.Proofs.YtbbpngoffpegbaaGreatDoor
open Go.RowKit
set_option linter.unusedVariables false
set_option linter.unusedSimpArgs false

/-! #### Which values may be -/
/-- The root alone: its fields beside those that count are nought; 'nest': so many lists stand about it. -/
def okB (kd n : Int) (x y : Nat) (s : ByteArray) (len : Nat) (nest : Int) : Bool :=
  if kd = 0 then decide (n = 0 ∧ x = 0 ∧ y = 0 ∧ s.size = 0 ∧ len = 0)
  else if kd = 1 then decide ((n = 0 ∨ n = 1) ∧ x = 0 ∧ y = 0 ∧ s.size = 0 ∧ len = 0)
  else if kd = 2 then decide (x = 0 ∧ y = 0 ∧ s.size = 0 ∧ len = 0)
  else if kd = 3 then decide (n = 0 ∧ y = 0 ∧ s.size = 0 ∧ len = 0)
  else if kd = 4 then decide (n = 0 ∧ s.size = 0 ∧ len = 0)
  else if kd = 5 ∨ kd = 6 then decide (n = 0 ∧ x = 0 ∧ y = 0 ∧ s.size ≤ 4096 ∧ len = 0)
  else if kd = 7 then decide (n = 0 ∧ x = 0 ∧ y = 0 ∧ s.size = 0 ∧ nest < 16)
  else false
mutual
def Va.cnt : Va → Int → Int → Int
  | .mk kd n x y s rs, nest, left => if okB kd n x y s rs.length nest = false ∨ left - 1 < 0 then -1 else Va.cnts rs (nest + 1) (left - 1)
def Va.cnts : List Va → Int → Int → Int
  | [], _, left => left
  | r :: rs, nest, left => if r.cnt nest left < 0 then -1 else Va.cnts rs nest (r.cnt nest left)
end
mutual
theorem Va.cnt_bd : ∀ (r : Va) (nest left : Int), -1 ≤ r.cnt nest left ∧ (0 ≤ r.cnt nest left → r.cnt nest left < left)
  | .mk kd n x y s rs, nest, left => by
    unfold Va.cnt
    split
    · omega
    · rename_i h
      have := Va.cnts_bd rs (nest + 1) (left - 1) (by omega)
      omega
theorem Va.cnts_bd : ∀ (rs : List Va) (nest left : Int), 0 ≤ left → -1 ≤ Va.cnts rs nest left ∧ (0 ≤ Va.cnts rs nest left → Va.cnts rs nest left ≤ left)
  | [], _, left => fun h => by unfold Va.cnts; omega
  | r :: rs, nest, left => fun h => by
    unfold Va.cnts
    have h1 := Va.cnt_bd r nest left
    split
    · omega
    · have h2 := Va.cnts_bd rs nest (r.cnt nest left) (by omega)
      omega
end
mutual
theorem Va.cnt_size : ∀ (r : Va) (nest left : Int), 0 ≤ r.cnt nest left → r.cnt nest left = left - r.size
  | .mk kd n x y s rs, nest, left => fun h => by
    unfold Va.cnt at h ⊢
    unfold Va.size
    split at h
    · omega
    · rename_i hc
      rw [if_neg hc]
      have := Va.cnts_size rs (nest + 1) (left - 1) h
      omega
theorem Va.cnts_size : ∀ (rs : List Va) (nest left : Int), 0 ≤ Va.cnts rs nest left → Va.cnts rs nest left = left - Va.sizes rs
  | [], _, left => fun h => by unfold Va.cnts Va.sizes; simp
  | r :: rs, nest, left => fun h => by
    unfold Va.cnts at h ⊢
    unfold Va.sizes
    split at h
    · omega
    · rename_i hc
      rw [if_neg hc]
      have h1 := Va.cnt_size r nest left (by omega)
      have h2 := Va.cnts_size rs nest (r.cnt nest left) h
      omega
end
theorem Va.cnts_drop (rs : List Va) (k : Nat) (hk : k < rs.length) (nest l : Int) (h : 0 ≤ rs[k].cnt nest l) : Va.cnts (rs.drop k) nest l = Va.cnts (rs.drop (k + 1)) nest (rs[k].cnt nest l) := by
  rw [List.drop_eq_getElem_cons hk]
  conv => lhs; unfold Va.cnts
  rw [if_neg (by omega)]
theorem Va.cnts_bad (rs : List Va) (k : Nat) (hk : k < rs.length) (nest l : Int) (h : rs[k].cnt nest l < 0) : Va.cnts (rs.drop k) nest l = -1 := by
  rw [List.drop_eq_getElem_cons hk]
  unfold Va.cnts
  rw [if_pos h]
/-- It may be. -/
def Va.okV (r : Va) : Bool := decide (0 ≤ r.cnt 0 1024)
theorem Va.ok_size {r : Va} (h : r.okV = true) : r.size ≤ 1024 := by
  have h1 : 0 ≤ r.cnt 0 1024 := of_decide_eq_true h
  have := Va.cnt_size r 0 1024 h1
  omega
mutual
/-- Every root of the value may be (whatever stands about it). -/
def Va.all : Va → Prop
  | .mk kd n x y s rs => okB kd n x y s rs.length 0 = true ∧ Va.alls rs
def Va.alls : List Va → Prop
  | [] => True
  | r :: rs => r.all ∧ Va.alls rs
end
theorem okB_nest {kd n : Int} {x y : Nat} {s : ByteArray} {len : Nat} {nest : Int} (h : okB kd n x y s len nest = true) : okB kd n x y s len 0 = true := by
  unfold okB at h ⊢
  repeat (split at h <;> rename_i hc; · rw [if_pos hc] <;> first | exact h | (simp only [decide_eq_true_eq] at h ⊢; omega)
          rw [if_neg hc])
  exact h
mutual
theorem Va.all_of_cnt : ∀ (r : Va) (nest left : Int), 0 ≤ r.cnt nest left → r.all
  | .mk kd n x y s rs, nest, left => fun h => by
    unfold Va.cnt at h
    unfold Va.all
    split at h
    · omega
    · rename_i hc
      refine ⟨okB_nest (nest := nest) ?_, Va.alls_of_cnts rs (nest + 1) (left - 1) h⟩
      cases ho : okB kd n x y s rs.length nest with
      | true => rfl
      | false => exact absurd (.inl ho) hc
theorem Va.alls_of_cnts : ∀ (rs : List Va) (nest left : Int), 0 ≤ Va.cnts rs nest left → Va.alls rs
  | [], _, left => fun h => by unfold Va.alls; trivial
  | r :: rs, nest, left => fun h => by
    unfold Va.cnts at h
    unfold Va.alls
    split at h
    · omega
    · exact ⟨Va.all_of_cnt r nest left (by omega), Va.alls_of_cnts rs nest _ h⟩
end
theorem Va.ok_all {r : Va} (h : r.okV = true) : r.all := Va.all_of_cnt r 0 1024 (of_decide_eq_true h)
theorem Va.alls_at : ∀ (rs : List Va) (k : Nat) (hk : k < rs.length), Va.alls rs → rs[k].all
  | r :: rs, 0, _, h => by unfold Va.alls at h; exact h.1
  | r :: rs, k + 1, hk, h => by
    unfold Va.alls at h
    exact Va.alls_at rs k (by simpa using hk) h.2

/-! #### The order -/
def numb (less more : Bool) : Int := if less then -1 else if more then 1 else 0
def sgB (x : Nat) : Bool := decide (9223372036854775808 ≤ x)
/-- The order of two floats. -/
def ordF (x y : Nat) : Int :=
  if nanB x || nanB y then numb (nanB x && !nanB y) (!nanB x && nanB y)
  else if zerB x && zerB y then numb (sgB x && !sgB y) (!sgB x && sgB y)
  else numb (fo x y == some .lt) (fo x y == some .gt)
theorem numb_neg (a b : Bool) (h : ¬ (a = true ∧ b = true)) : numb b a = - numb a b := by
  cases a <;> cases b <;> first | rfl | exact absurd ⟨rfl, rfl⟩ h
theorem ordF_neg (x y : Nat) : ordF y x = - ordF x y := by
  unfold ordF
  rw [fo_swap x y, Bool.or_comm (nanB y) (nanB x), Bool.and_comm (zerB y) (zerB x)]
  cases hx : nanB x <;> cases hy : nanB y
  · simp only [Bool.or_self, Bool.false_eq_true, if_false]
    cases hz : (zerB x && zerB y)
    · simp only [Bool.false_eq_true, if_false]
      cases hf : fo x y with
      | none => rfl
      | some o => cases o <;> rfl
    · simp only [if_true]
      cases sgB x <;> cases sgB y <;> rfl
  · rfl
  · rfl
  · rfl
theorem ordF_zero : ordF 0 0 = 0 := by
  unfold ordF
  split
  · unfold numb; simp
  · split
    · rfl
    · rw [fo_self]
      split <;> rfl
theorem ordF_self (x : Nat) : ordF x x = 0 := by
  have := ordF_neg x x
  omega
/-- The order of two texts. -/
def ordS (a b : ByteArray) : Int := Lib.compareBytes a.data.toList b.data.toList
theorem cmpB_neg : ∀ (a b : List UInt8), Lib.compareBytes b a = - Lib.compareBytes a b
  | [], [] => rfl
  | [], _ :: _ => rfl
  | _ :: _, [] => rfl
  | a :: as2, b :: bs => by
    unfold Lib.compareBytes
    by_cases h1 : a < b
    · have h2 : ¬ b < a := by simp only [UInt8.lt_iff_toNat_lt] at h1 ⊢; omega
      rw [if_neg h2, if_pos h1, if_pos h1]
      rfl
    · by_cases h2 : b < a
      · rw [if_pos h2, if_neg h1, if_pos h2]
      · rw [if_neg h2, if_neg h1, if_neg h1, if_neg h2]
        exact cmpB_neg as2 bs
theorem ordS_neg (a b : ByteArray) : ordS b a = - ordS a b := cmpB_neg _ _
theorem ordS_self (a : ByteArray) : ordS a a = 0 := by have := ordS_neg a a; omega
mutual
/-- The reference's order of two values. -/
def ordV : Va → Va → Int
  | .mk kd n x y s rs, .mk kd2 n2 x2 y2 s2 rs2 =>
    if kd ≠ kd2 then numb (decide (kd < kd2)) true
    else if kd = 1 ∨ kd = 2 then numb (decide (n < n2)) (decide (n2 < n))
    else if kd = 3 then ordF x x2
    else if kd = 4 then (if ordF x x2 ≠ 0 then ordF x x2 else ordF y y2)
    else if kd = 5 ∨ kd = 6 then ordS s s2
    else if kd = 7 then ordL rs rs2
    else 0
def ordL : List Va → List Va → Int
  | [], [] => 0
  | [], _ :: _ => -1
  | _ :: _, [] => 1
  | a :: as2, b :: bs => if ordV a b ≠ 0 then ordV a b else ordL as2 bs
end
mutual
theorem ordV_neg : ∀ (a b : Va), ordV b a = - ordV a b
  | .mk kd n x y s rs, .mk kd2 n2 x2 y2 s2 rs2 => by
    unfold ordV
    by_cases h : kd = kd2
    · subst h
      simp only [ne_eq, not_true_eq_false, if_false]
      split
      · rw [numb_neg]
        rintro ⟨h1, h2⟩
        have := of_decide_eq_true h1
        have := of_decide_eq_true h2
        omega
      split
      · exact ordF_neg x x2
      split
      · rw [ordF_neg x x2, ordF_neg y y2]
        by_cases h0 : ordF x x2 = 0
        · simp [h0]
        · rw [if_pos (by omega), if_pos h0]
      split
      · exact ordS_neg s s2
      split
      · exact ordL_neg rs rs2
      · rfl
    · rw [if_pos (fun e => h e.symm), if_pos h]
      rcases Int.lt_trichotomy kd kd2 with h1 | h1 | h1
      · have h2 : ¬ kd2 < kd := by omega
        simp [numb, h1, h2]
      · exact absurd h1 h
      · have h2 : ¬ kd < kd2 := by omega
        simp [numb, h1, h2]
theorem ordL_neg : ∀ (as2 bs : List Va), ordL bs as2 = - ordL as2 bs
  | [], [] => by unfold ordL; rfl
  | [], _ :: _ => by unfold ordL; rfl
  | _ :: _, [] => by unfold ordL; rfl
  | a :: as2, b :: bs => by
    unfold ordL
    rw [ordV_neg a b, ordL_neg as2 bs]
    by_cases h0 : ordV a b = 0
    · simp [h0]
    · rw [if_pos (by omega), if_pos h0]
end
theorem ordV_self (a : Va) : ordV a a = 0 := by have := ordV_neg a a; omega
/-- The first that is not nought. -/
def orN : List Int → Int
  | [] => 0
  | a :: l => if a ≠ 0 then a else orN l
mutual
/-- The program's order of two values. -/
def pordV : Va → Va → Int
  | .mk kd n x y s rs, .mk kd2 n2 x2 y2 s2 rs2 =>
    if numb (decide (kd < kd2)) (decide (kd2 < kd)) ≠ 0 then numb (decide (kd < kd2)) (decide (kd2 < kd))
    else orN [numb (decide (n < n2)) (decide (n2 < n)), ordF x x2, ordF y y2, ordS s s2, pordL rs rs2]
def pordL : List Va → List Va → Int
  | [], [] => 0
  | [], _ :: _ => -1
  | _ :: _, [] => 1
  | a :: as2, b :: bs => if pordV a b ≠ 0 then pordV a b else pordL as2 bs
end
theorem numb_ff : numb false false = 0 := rfl
theorem ite_self0 (a : Int) : (if a = 0 then 0 else a) = a := by split <;> simp_all
theorem numb_self (n : Int) : numb (decide (n < n)) (decide (n < n)) = 0 := by simp [numb]
theorem size_nil {s : ByteArray} (h : s.size = 0) : s = ⟨#[]⟩ := by
  cases s with
  | mk d =>
    have : d.size = 0 := h
    rw [Array.eq_empty_of_size_eq_zero this]
mutual
theorem pord_eq : ∀ (a b : Va), a.all → b.all → pordV a b = ordV a b
  | .mk kd n x y s rs, .mk kd2 n2 x2 y2 s2 rs2 => fun ha hb => by
    unfold Va.all at ha hb
    obtain ⟨h1, ha⟩ := ha
    obtain ⟨h2, hb⟩ := hb
    unfold pordV ordV
    by_cases hk : kd = kd2
    · subst hk
      rw [if_neg (by rw [numb_self]; simp), if_neg (by simp)]
      unfold okB at h1 h2
      by_cases k0 : kd = 0
      · subst k0
        rw [if_pos rfl] at h1 h2
        obtain ⟨rfl, rfl, rfl, e1, e2⟩ := of_decide_eq_true h1
        obtain ⟨rfl, rfl, rfl, e3, e4⟩ := of_decide_eq_true h2
        rw [size_nil e1, size_nil e3, List.eq_nil_of_length_eq_zero e2, List.eq_nil_of_length_eq_zero e4]
        simp [orN, numb, ordF_zero, ordS_self, pordL]
      rw [if_neg k0] at h1 h2
      by_cases k1 : kd = 1
      · subst k1
        rw [if_pos rfl] at h1 h2
        obtain ⟨_, rfl, rfl, e1, e2⟩ := of_decide_eq_true h1
        obtain ⟨_, rfl, rfl, e3, e4⟩ := of_decide_eq_true h2
        rw [size_nil e1, size_nil e3, List.eq_nil_of_length_eq_zero e2, List.eq_nil_of_length_eq_zero e4]
        simp [orN, ordF_zero, ordS_self, pordL, ite_self0]
      rw [if_neg k1] at h1 h2
      by_cases k2 : kd = 2
      · subst k2
        rw [if_pos rfl] at h1 h2
        obtain ⟨rfl, rfl, e1, e2⟩ := of_decide_eq_true h1
        obtain ⟨rfl, rfl, e3, e4⟩ := of_decide_eq_true h2
        rw [size_nil e1, size_nil e3, List.eq_nil_of_length_eq_zero e2, List.eq_nil_of_length_eq_zero e4]
        simp [orN, ordF_zero, ordS_self, pordL, ite_self0]
      rw [if_neg k2] at h1 h2
      by_cases k3 : kd = 3
      · subst k3
        rw [if_pos rfl] at h1 h2
        obtain ⟨rfl, rfl, e1, e2⟩ := of_decide_eq_true h1
        obtain ⟨rfl, rfl, e3, e4⟩ := of_decide_eq_true h2
        rw [size_nil e1, size_nil e3, List.eq_nil_of_length_eq_zero e2, List.eq_nil_of_length_eq_zero e4]
        simp [orN, numb_self, numb_ff, ite_self0, ordF_zero, ordS_self, pordL]
      rw [if_neg k3] at h1 h2
      by_cases k4 : kd = 4
      · subst k4
        rw [if_pos rfl] at h1 h2
        obtain ⟨rfl, e1, e2⟩ := of_decide_eq_true h1
        obtain ⟨rfl, e3, e4⟩ := of_decide_eq_true h2
        rw [size_nil e1, size_nil e3, List.eq_nil_of_length_eq_zero e2, List.eq_nil_of_length_eq_zero e4]
        simp [orN, numb_self, numb_ff, ite_self0, ordF_zero, ordS_self, pordL]
      rw [if_neg k4] at h1 h2
      by_cases k5 : kd = 5 ∨ kd = 6
      · rw [if_pos k5] at h1 h2
        obtain ⟨rfl, rfl, rfl, e1, e2⟩ := of_decide_eq_true h1
        obtain ⟨rfl, rfl, rfl, e3, e4⟩ := of_decide_eq_true h2
        rw [if_neg (by omega), if_neg k3, if_neg k4, if_pos k5, List.eq_nil_of_length_eq_zero e2, List.eq_nil_of_length_eq_zero e4]
        simp [orN, numb_self, numb_ff, ite_self0, ordF_zero, pordL]
      rw [if_neg k5] at h1 h2
      by_cases k7 : kd = 7
      · rw [if_pos k7] at h1 h2
        obtain ⟨rfl, rfl, rfl, e1, _⟩ := of_decide_eq_true h1
        obtain ⟨rfl, rfl, rfl, e3, _⟩ := of_decide_eq_true h2
        rw [if_neg (by omega), if_neg k3, if_neg k4, if_neg k5, if_pos k7, size_nil e1, size_nil e3, pordL_eq rs rs2 ha hb]
        simp [orN, numb_self, numb_ff, ite_self0, ordF_zero, ordS_self]
      · rw [if_neg k7] at h1
        cases h1
    · rw [if_pos hk]
      rcases Int.lt_trichotomy kd kd2 with h3 | h3 | h3
      · simp [numb, h3]
      · exact absurd h3 hk
      · have h4 : ¬ kd < kd2 := by omega
        simp [numb, h3, h4]
theorem pordL_eq : ∀ (as2 bs : List Va), Va.alls as2 → Va.alls bs → pordL as2 bs = ordL as2 bs
  | [], [] => fun _ _ => by unfold pordL ordL; rfl
  | [], _ :: _ => fun _ _ => by unfold pordL ordL; rfl
  | _ :: _, [] => fun _ _ => by unfold pordL ordL; rfl
  | a :: as2, b :: bs => fun ha hb => by
    unfold Va.alls at ha hb
    unfold pordL ordL
    rw [pord_eq a b ha.1 hb.1, pordL_eq as2 bs ha.2 hb.2]
end
end Go.Proofs.YtbbpngoffpegbaaGreatDoor
