/- Which values may be: the parts of one that may be may be; a value written over. No program. -/
import Derived.Test.YtbbpngoffpegbaaGreatDoorVaT
namespace Go.Proofs.YtbbpngoffpegbaaGreatDoor
open Go.RowKit
set_option linter.unusedVariables false
set_option linter.unusedSimpArgs false

mutual
/-- Every root may be where it stands. -/
def Va.alln : Va → Int → Prop
  | .mk kd n x y s rs, nest => okB kd n x y s rs.length nest = true ∧ Va.allns rs (nest + 1)
def Va.allns : List Va → Int → Prop
  | [], _ => True
  | r :: rs, nest => r.alln nest ∧ Va.allns rs nest
end
theorem okB_mono {kd n : Int} {x y : Nat} {s : ByteArray} {len : Nat} {nest nest' : Int} (hle : nest' ≤ nest) (h : okB kd n x y s len nest = true) : okB kd n x y s len nest' = true := by
  unfold okB at h ⊢
  repeat (split at h <;> rename_i hc; · rw [if_pos hc] <;> first | exact h | (simp only [decide_eq_true_eq] at h ⊢; omega)
          rw [if_neg hc])
  exact h
mutual
theorem Va.alln_mono : ∀ (r : Va) (nest nest' : Int), nest' ≤ nest → r.alln nest → r.alln nest'
  | .mk kd n x y s rs, nest, nest' => fun hle h => by
    unfold Va.alln at h ⊢
    exact ⟨okB_mono hle h.1, Va.allns_mono rs _ _ (by omega) h.2⟩
theorem Va.allns_mono : ∀ (rs : List Va) (nest nest' : Int), nest' ≤ nest → Va.allns rs nest → Va.allns rs nest'
  | [], _, _ => fun _ _ => by unfold Va.allns; trivial
  | r :: rs, nest, nest' => fun hle h => by
    unfold Va.allns at h ⊢
    exact ⟨Va.alln_mono r _ _ hle h.1, Va.allns_mono rs _ _ hle h.2⟩
end
mutual
theorem Va.cnt_alln : ∀ (r : Va) (nest left : Int), 0 ≤ r.cnt nest left → r.alln nest
  | .mk kd n x y s rs, nest, left => fun h => by
    unfold Va.cnt at h
    unfold Va.alln
    split at h
    · omega
    · rename_i hc
      refine ⟨?_, Va.cnts_allns rs (nest + 1) (left - 1) h⟩
      cases ho : okB kd n x y s rs.length nest with
      | true => rfl
      | false => exact absurd (.inl ho) hc
theorem Va.cnts_allns : ∀ (rs : List Va) (nest left : Int), 0 ≤ Va.cnts rs nest left → Va.allns rs nest
  | [], _, left => fun h => by unfold Va.allns; trivial
  | r :: rs, nest, left => fun h => by
    unfold Va.cnts at h
    unfold Va.allns
    split at h
    · omega
    · exact ⟨Va.cnt_alln r nest left (by omega), Va.cnts_allns rs nest _ h⟩
end
mutual
theorem Va.cnt_of : ∀ (r : Va) (nest left : Int), r.alln nest → (r.size : Int) ≤ left → r.cnt nest left = left - r.size
  | .mk kd n x y s rs, nest, left => fun h hs => by
    unfold Va.alln at h
    unfold Va.size at hs ⊢
    unfold Va.cnt
    rw [if_neg (by rw [h.1]; simp; omega), Va.cnts_of rs (nest + 1) (left - 1) h.2 (by omega)]
    omega
theorem Va.cnts_of : ∀ (rs : List Va) (nest left : Int), Va.allns rs nest → (Va.sizes rs : Int) ≤ left → Va.cnts rs nest left = left - Va.sizes rs
  | [], _, left => fun h hs => by unfold Va.cnts Va.sizes; simp
  | r :: rs, nest, left => fun h hs => by
    unfold Va.allns at h
    unfold Va.sizes at hs ⊢
    unfold Va.cnts
    have h1 := Va.cnt_of r nest left h.1 (by omega)
    rw [if_neg (by omega), Va.cnts_of rs nest _ h.2 (by omega)]
    omega
end
theorem Va.ok_iff (r : Va) : r.okV = true ↔ r.alln 0 ∧ r.size ≤ 1024 := by
  constructor
  · intro h
    exact ⟨Va.cnt_alln r 0 1024 (of_decide_eq_true h), Va.ok_size h⟩
  · rintro ⟨h1, h2⟩
    have := Va.cnt_of r 0 1024 h1 (by omega)
    exact decide_eq_true (by omega)
theorem Va.allns_at : ∀ (rs : List Va) (k : Nat) (hk : k < rs.length) (nest : Int), Va.allns rs nest → rs[k].alln nest
  | r :: rs, 0, _, _, h => by unfold Va.allns at h; exact h.1
  | r :: rs, k + 1, hk, nest, h => by
    unfold Va.allns at h
    exact Va.allns_at rs k (by simpa using hk) nest h.2
/-- A list's things may be where the list may. -/
theorem Va.ok_kid {kd n : Int} {x y : Nat} {s : ByteArray} {rs : List Va} (h : (Va.mk kd n x y s rs).okV = true) (k : Nat) (hk : k < rs.length) : rs[k].okV = true := by
  have h1 := (Va.ok_iff _).1 h
  unfold Va.alln Va.size at h1
  have := Va.sizes_at rs k hk
  exact (Va.ok_iff _).2 ⟨Va.alln_mono _ _ _ (by omega) (Va.allns_at rs k hk _ h1.1.2), by omega⟩
/-- What is no list has no things. -/
theorem okB_list {kd n : Int} {x y : Nat} {s : ByteArray} {len : Nat} {nest : Int} (h : okB kd n x y s len nest = true) (hk : kd ≠ 7) : len = 0 := by
  unfold okB at h
  repeat (split at h <;> rename_i hc; · first | (simp only [decide_eq_true_eq] at h; omega) | exact absurd hc hk)
  cases h
theorem Va.ok_nolist {kd n : Int} {x y : Nat} {s : ByteArray} {rs : List Va} (h : (Va.mk kd n x y s rs).okV = true) (hk : kd ≠ 7) : rs = [] := by
  have h1 := (Va.ok_iff _).1 h
  unfold Va.alln at h1
  exact List.eq_nil_of_length_eq_zero (okB_list h1.1.1 hk)

def Va.kd : Va → Int
  | .mk kd _ _ _ _ _ => kd
mutual
/-- A value whose lists' things that are no lists were written over. -/
def overV : Va → Int → Va
  | .mk kd n x y s rs, m => .mk kd n x y s (overL rs m 0)
def overL : List Va → Int → Nat → List Va
  | [], _, _ => []
  | r :: rs, m, i => (if r.kd = 7 then overV r m else .mk 2 (100 * m + i) 0 0 ⟨#[]⟩ []) :: overL rs m (i + 1)
end
theorem overL_len : ∀ (rs : List Va) (m : Int) (i : Nat), (overL rs m i).length = rs.length
  | [], _, _ => by unfold overL; rfl
  | r :: rs, m, i => by unfold overL; simp [overL_len rs m (i + 1)]
theorem overL_cons (r : Va) (rs : List Va) (m : Int) (i : Nat) : overL (r :: rs) m i = (if r.kd = 7 then overV r m else .mk 2 (100 * m + i) 0 0 ⟨#[]⟩ []) :: overL rs m (i + 1) := by rw [overL]
theorem overL_at : ∀ (rs : List Va) (m : Int) (i k : Nat) (hk : k < rs.length), overL (rs.take (k + 1)) m i = overL (rs.take k) m i ++ [if rs[k].kd = 7 then overV rs[k] m else .mk 2 (100 * m + (i + k : Nat)) 0 0 ⟨#[]⟩ []]
  | r :: rs, m, i, 0, _ => by simp [overL_cons, overL]
  | r :: rs, m, i, k + 1, hk => by
    have h := overL_at rs m (i + 1) k (by simpa using hk)
    have e1 : i + 1 + k = i + (k + 1) := by omega
    rw [List.take_succ_cons, overL_cons, h, List.take_succ_cons, overL_cons, e1]
    rfl
end Go.Proofs.YtbbpngoffpegbaaGreatDoor
