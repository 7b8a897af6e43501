/- Values from bytes, in plain words: the program's reader, the reference's, the bytes of a value. No program. -/
import Derived.Test.YtbbpngoffpegbaaGreatDoorVaQ
namespace Go.Proofs.YtbbpngoffpegbaaGreatDoor
open Go.RowKit
set_option linter.unusedVariables false
set_option linter.unusedSimpArgs false

abbrev Bs := List UInt8
/-- A number's bytes, the highest first. -/
def be : Bs → Nat
  | l => l.foldl (fun n c => 256 * n + c.toNat) 0
/-- As many bytes as there are, of a number, the highest first. -/
def eb : Nat → Nat → Bs
  | 0, _ => []
  | k + 1, n => eb k (n / 256) ++ [UInt8.ofNat n]
theorem eb_len : ∀ k n, (eb k n).length = k
  | 0, _ => rfl
  | k + 1, n => by unfold eb; simp [eb_len k]
/-- A float's bits as they are written. -/
def fbits (x : Nat) : Nat := if nanB x then 9221120237041090560 else x
/-- A whole number's word. -/
def word (n : Int) : Nat := (n % 18446744073709551616).toNat
def unword (n : Nat) : Int := wrap64 (n : Int)
mutual
/-- The bytes of a value. -/
def encV : Va → Bs
  | .mk kd n x y s rs => UInt8.ofNat kd.toNat ::
    (if kd = 1 then [UInt8.ofNat (word n)]
     else if kd = 2 then eb 8 (word n)
     else if kd = 3 then eb 8 (fbits x)
     else if kd = 4 then eb 8 (fbits x) ++ eb 8 (fbits y)
     else if kd = 5 ∨ kd = 6 then eb 2 s.size ++ s.data.toList
     else if kd = 7 then eb 2 rs.length ++ encL rs
     else [])
def encL : List Va → Bs
  | [] => []
  | r :: rs => encV r ++ encL rs
end
/-- The first bytes, if there are so many. -/
def takeN (k : Nat) (l : Bs) : Option (Bs × Bs) := if l.length < k then none else some (l.take k, l.drop k)
/-- So many values, one behind the other. -/
def rep (f : Bs → Option (Va × Bs)) : Nat → Bs → Option (List Va × Bs)
  | 0, l => some ([], l)
  | n + 1, l => match f l with
    | none => none
    | some (v, l2) => match rep f n l2 with
      | none => none
      | some (vs, l3) => some (v :: vs, l3)
def mkI (kd : Int) (n : Int) : Va := .mk kd n 0 0 ⟨#[]⟩ []
/-- The program's reader; k: so many lists may still stand within one another. -/
def progV (k : Nat) (l : Bs) : Option (Va × Bs) :=
  match l with
  | [] => none
  | c :: l =>
    if c = 1 then (takeN 1 l).map fun h => (mkI 1 (be h.1), h.2)
    else if c = 2 then (takeN 8 l).map fun h => (mkI 2 (unword (be h.1)), h.2)
    else if c = 3 then (takeN 8 l).map fun h => (.mk 3 0 (be h.1) 0 ⟨#[]⟩ [], h.2)
    else if c = 4 then (takeN 8 l).bind fun h => (takeN 8 h.2).map fun g => (.mk 4 0 (be h.1) (be g.1) ⟨#[]⟩ [], g.2)
    else if c = 5 ∨ c = 6 then (takeN 2 l).bind fun h => (takeN (be h.1) h.2).map fun g => (.mk c.toNat 0 0 0 ⟨g.1.toArray⟩ [], g.2)
    else if c = 7 then
      match k with
      | 0 => none
      | k + 1 => (takeN 2 l).bind fun h => (rep (progV k) (be h.1) h.2).map fun g => (.mk 7 0 0 0 ⟨#[]⟩ g.1, g.2)
    else some (mkI c.toNat 0, l)
/-- The reference's reader: bytes, and whether there were too few. -/
def takeR (k : Nat) (l : Bs × Bool) : Bs × (Bs × Bool) := if l.2 = true ∨ l.1.length < k then ([], (l.1, true)) else (l.1.take k, (l.1.drop k, false))
def repR (f : Bs × Bool → Va × (Bs × Bool)) : Nat → Bs × Bool → List Va × (Bs × Bool)
  | 0, l => ([], l)
  | n + 1, l => if l.2 = true then ([], l) else ((f l).1 :: (repR f n (f l).2).1, (repR f n (f l).2).2)
def refV (k : Nat) (l : Bs × Bool) : Va × (Bs × Bool) :=
  let h := takeR 1 l
  let c := be h.1
  if c = 1 then (mkI 1 (be (takeR 1 h.2).1), (takeR 1 h.2).2)
  else if c = 2 then (mkI 2 (unword (be (takeR 8 h.2).1)), (takeR 8 h.2).2)
  else if c = 3 then (.mk 3 0 (be (takeR 8 h.2).1) 0 ⟨#[]⟩ [], (takeR 8 h.2).2)
  else if c = 4 then (.mk 4 0 (be (takeR 8 h.2).1) (be (takeR 8 (takeR 8 h.2).2).1) ⟨#[]⟩ [], (takeR 8 (takeR 8 h.2).2).2)
  else if c = 5 ∨ c = 6 then (.mk c 0 0 0 ⟨(takeR (be (takeR 2 h.2).1) (takeR 2 h.2).2).1.toArray⟩ [], (takeR (be (takeR 2 h.2).1) (takeR 2 h.2).2).2)
  else if c = 7 then
    match k with
    | 0 => (.mk 7 0 0 0 ⟨#[]⟩ [], (takeR 2 h.2).2)
    | k + 1 => (.mk 7 0 0 0 ⟨#[]⟩ (repR (refV k) (be (takeR 2 h.2).1) (takeR 2 h.2).2).1, (repR (refV k) (be (takeR 2 h.2).1) (takeR 2 h.2).2).2)
  else (mkI c 0, h.2)
theorem takeN_R {k : Nat} {l a b : Bs} (h : takeN k l = some (a, b)) : takeR k (l, false) = (a, (b, false)) := by
  unfold takeN at h
  unfold takeR
  split at h
  · cases h
  · rename_i hc
    injection h with h
    injection h with h1 h2
    subst h1 h2
    rw [if_neg (by simp; omega)]
theorem takeN_no {k : Nat} {l : Bs} (h : takeN k l = none) : l.length < k ∧ takeR k (l, false) = ([], (l, true)) := by
  unfold takeN at h
  split at h
  · rename_i hc
    refine ⟨hc, ?_⟩
    unfold takeR
    rw [if_pos (.inr hc)]
  · cases h
theorem takeN_len {k : Nat} {l a b : Bs} (h : takeN k l = some (a, b)) : l = a ++ b ∧ a.length = k := by
  unfold takeN at h
  split at h
  · cases h
  · injection h with h
    injection h with h1 h2
    subst h1 h2
    exact ⟨(List.take_append_drop k l).symm, by rw [List.length_take]; omega⟩
theorem be_one (c : UInt8) : be [c] = c.toNat := by simp [be]
theorem be_two (c d : UInt8) : be [c, d] = 256 * c.toNat + d.toNat := by simp [be]
theorem rep_len {f : Bs → Option (Va × Bs)} (hf : ∀ l v l2, f l = some (v, l2) → (encV v).length + l2.length = l.length) : ∀ (n : Nat) (l : Bs) (vs : List Va) (l2 : Bs), rep f n l = some (vs, l2) → vs.length = n ∧ (encL vs).length + l2.length = l.length
  | 0, l, vs, l2, h => by
    unfold rep at h
    injection h with h
    injection h with h1 h2
    subst h1 h2
    exact ⟨rfl, by simp [encL]⟩
  | n + 1, l, vs, l2, h => by
    unfold rep at h
    split at h
    · cases h
    · rename_i v l3 h1
      split at h
      · cases h
      · rename_i vs2 l4 h2
        injection h with h
        injection h with e1 e2
        subst e1 e2
        obtain ⟨k1, k2⟩ := rep_len hf n l3 vs2 l4 h2
        have := hf l v l3 h1
        refine ⟨by simp [k1], ?_⟩
        unfold encL
        rw [List.length_append]
        omega
end Go.Proofs.YtbbpngoffpegbaaGreatDoor
