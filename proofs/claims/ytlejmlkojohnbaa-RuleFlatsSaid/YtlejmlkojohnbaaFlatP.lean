/- A rule made flat, as plain data. -/
import Derived.Test.YtlejmlkojohnbaaRl
namespace Go.Proofs.Ytlejmlkojohnbaa
open Go.RowKit

def Rl.op : Rl → Int
  | .mk op _ _ _ _ _ _ => op
def Rl.args : Rl → List Rl
  | .mk _ _ _ _ _ _ rs => rs
def Rl.lit (op : Int) : Rl := .mk op 0 0 0 0 ⟨#[]⟩ []
/-- What becomes of a rule whose Args are flat. -/
def Rl.shut (op n m : Int) (x y : Nat) (s : ByteArray) (as : List Rl) : Rl :=
  if op = 14 then
    match as with
    | a :: _ => if a.op = 14 then a.args.headD a else if a.op = 1 then Rl.lit 2 else if a.op = 2 then Rl.lit 1 else .mk op n m x y s as
    | [] => .mk op n m x y s as
  else if op = 15 then
    match as with
    | [] => Rl.lit 1
    | [a] => a
    | _ => .mk op n m x y s as
  else if op = 16 then
    match as with
    | [] => Rl.lit 2
    | [a] => a
    | _ => .mk op n m x y s as
  else if op = 17 then
    match as with
    | a :: b :: c :: _ => if a.op = 1 then b else if a.op = 2 then c else .mk op n m x y s as
    | _ => .mk op n m x y s as
  else if op = 18 then
    match as with
    | a :: _ => if a.op = 18 ∨ a.op = 1 ∨ a.op = 2 then a else .mk op n m x y s as
    | [] => .mk op n m x y s as
  else .mk op n m x y s as
/-- What stands for one of the Args. -/
def Rl.keep (op : Int) (a : Rl) : List Rl :=
  if (op = 15 ∨ op = 16) ∧ a.op = op then a.args else if (op = 15 ∧ a.op = 1) ∨ (op = 16 ∧ a.op = 2) then [] else [a]
mutual
def Rl.flt : Rl → Rl
  | .mk op n m x y s rs => Rl.shut op n m x y s (Rl.flts op rs)
def Rl.flts (op : Int) : List Rl → List Rl
  | [] => []
  | r :: rs => Rl.keep op r.flt ++ Rl.flts op rs
end
theorem Rl.flts_cons (op : Int) (r : Rl) (rs : List Rl) : Rl.flts op (r :: rs) = Rl.keep op r.flt ++ Rl.flts op rs := by rw [Rl.flts]
theorem Rl.sizes_cons (r : Rl) (rs : List Rl) : Rl.sizes (r :: rs) = r.size + Rl.sizes rs := by rw [Rl.sizes]
theorem Rl.size_mk (op n m : Int) (x y : Nat) (s : ByteArray) (rs : List Rl) : (Rl.mk op n m x y s rs).size = 1 + Rl.sizes rs := by rw [Rl.size]
theorem Rl.flts_app (op : Int) : ∀ rs ss : List Rl, Rl.flts op (rs ++ ss) = Rl.flts op rs ++ Rl.flts op ss
  | [], ss => by simp [Rl.flts]
  | r :: rs, ss => by
    rw [List.cons_append, Rl.flts_cons, Rl.flts_cons, Rl.flts_app op rs ss, List.append_assoc]
theorem Rl.flts_take (op : Int) (rs : List Rl) (k : Nat) (hk : k < rs.length) : Rl.flts op (rs.take (k + 1)) = Rl.flts op (rs.take k) ++ Rl.keep op rs[k].flt := by
  rw [List.take_succ_eq_append_getElem hk, Rl.flts_app]
  congr 1
  simp [Rl.flts]
theorem Rl.trs_app : ∀ rs ss : List Rl, Rl.trs (rs ++ ss) = Rl.trs rs ++ Rl.trs ss := fun rs ss => by simp [Rl.trs_eq]

/-! ### Sizes -/
theorem Rl.sizes_app : ∀ rs ss : List Rl, Rl.sizes (rs ++ ss) = Rl.sizes rs + Rl.sizes ss
  | [], ss => by simp [Rl.sizes]
  | r :: rs, ss => by
    rw [List.cons_append, Rl.sizes_cons, Rl.sizes_cons, Rl.sizes_app rs ss]
    omega
theorem Rl.size_args (a : Rl) : Rl.sizes a.args + 1 = a.size := by
  cases a
  rw [Rl.size_mk]
  simp only [Rl.args]
  omega
theorem Rl.sizes_mem : ∀ {rs : List Rl} {a : Rl}, a ∈ rs → a.size ≤ Rl.sizes rs
  | r :: rs, a, h => by
    unfold Rl.sizes
    rcases List.mem_cons.1 h with rfl | h
    · omega
    · have := Rl.sizes_mem h
      omega
theorem Rl.keep_sizes (op : Int) (a : Rl) : Rl.sizes (Rl.keep op a) ≤ a.size := by
  have := a.size_args
  unfold Rl.keep
  split
  · omega
  · split
    · simp [Rl.sizes]
    · simp [Rl.sizes]
theorem Rl.lit_size (op : Int) : (Rl.lit op).size = 1 := by simp [Rl.lit, Rl.size, Rl.sizes]
theorem Rl.shut_size (op n m : Int) (x y : Nat) (s : ByteArray) (as : List Rl) : (Rl.shut op n m x y s as).size ≤ 1 + Rl.sizes as := by
  have hmk := Rl.size_mk op n m x y s as
  have hl := Rl.lit_size
  unfold Rl.shut
  repeat' split
  all_goals first
    | omega
    | (rw [Rl.lit_size]; omega)
    | (rename_i a t h
       have h1 := a.size_args
       have h2 : a.size ≤ Rl.sizes (a :: t) := Rl.sizes_mem (by simp)
       cases ha : a.args with
       | nil => simp only [List.headD_nil]; omega
       | cons b u => have := Rl.sizes_mem (rs := a.args) (a := b) (by rw [ha]; simp); simp only [List.headD_cons]; omega)
    | (rename_i a; have h2 : a.size ≤ Rl.sizes [a] := Rl.sizes_mem (by simp); omega)
    | (simp only [Rl.sizes_cons] at *; omega)
mutual
theorem Rl.flt_size : ∀ r : Rl, r.flt.size ≤ r.size
  | .mk op n m x y s rs => by
    unfold Rl.flt
    have h1 := Rl.shut_size op n m x y s (Rl.flts op rs)
    have h2 := Rl.flts_sizes op rs
    have h3 := Rl.size_mk op n m x y s rs
    omega
theorem Rl.flts_sizes (op : Int) : ∀ rs : List Rl, Rl.sizes (Rl.flts op rs) ≤ Rl.sizes rs
  | [] => by simp [Rl.flts]
  | r :: rs => by
    unfold Rl.flts
    rw [Rl.sizes_app]
    have h1 := Rl.keep_sizes op r.flt
    have h2 := Rl.flt_size r
    have h3 := Rl.flts_sizes op rs
    have h4 := Rl.sizes_cons r rs
    omega
end
theorem Rl.sizes_take (rs : List Rl) (k : Nat) : Rl.sizes (rs.take k) ≤ Rl.sizes rs := by
  have := Rl.sizes_app (rs.take k) (rs.drop k)
  rw [List.take_append_drop] at this
  omega

/-! ### As many Args as there must be -/
mutual
def Rl.ar : Rl → Prop
  | .mk op _ _ _ _ _ rs => ((op = 14 ∨ op = 18) → rs.length = 1) ∧ (op = 17 → rs.length = 3) ∧ Rl.ars rs
def Rl.ars : List Rl → Prop
  | [] => True
  | r :: rs => r.ar ∧ Rl.ars rs
end
theorem Rl.ars_mem : ∀ {rs : List Rl} {a : Rl}, Rl.ars rs → a ∈ rs → a.ar
  | r :: rs, a, h, hm => by
    unfold Rl.ars at h
    rcases List.mem_cons.1 hm with rfl | hm
    · exact h.1
    · exact Rl.ars_mem h.2 hm
theorem Rl.ars_of : ∀ {rs : List Rl}, (∀ a ∈ rs, a.ar) → Rl.ars rs
  | [], _ => by unfold Rl.ars; trivial
  | r :: rs, h => by
    unfold Rl.ars
    exact ⟨h r (by simp), Rl.ars_of fun a ha => h a (by simp [ha])⟩
theorem Rl.ar_args {a : Rl} (h : a.ar) : Rl.ars a.args := by
  cases a; unfold Rl.ar at h; exact h.2.2
theorem Rl.ar_lit (op : Int) (h : op = 1 ∨ op = 2) : (Rl.lit op).ar := by
  unfold Rl.lit Rl.ar
  refine ⟨fun h' => ?_, fun h' => ?_, by unfold Rl.ars; trivial⟩
  · omega
  · omega
theorem Rl.keep_ars (op : Int) (a : Rl) (h : a.ar) : ∀ b ∈ Rl.keep op a, b.ar := by
  unfold Rl.keep
  intro b hb
  split at hb
  · exact Rl.ars_mem (Rl.ar_args h) hb
  · split at hb
    · simp at hb
    · simp at hb; rw [hb]; exact h
theorem Rl.shut_ar (op n m : Int) (x y : Nat) (s : ByteArray) (as : List Rl) (h : ∀ a ∈ as, a.ar) (h1 : (op = 14 ∨ op = 18) → as.length = 1) (h2 : op = 17 → as.length = 3) : (Rl.shut op n m x y s as).ar := by
  have hmk : (Rl.mk op n m x y s as).ar := by unfold Rl.ar; exact ⟨h1, h2, Rl.ars_of h⟩
  unfold Rl.shut
  repeat' split
  all_goals first
    | exact hmk
    | exact Rl.ar_lit _ (by omega)
    | (rename_i a t h3
       have ha : a.ar := h a (by simp)
       cases hb : a.args with
       | nil => simpa only [List.headD_nil] using ha
       | cons b u => simpa only [List.headD_cons] using Rl.ars_mem (a := b) (Rl.ar_args ha) (by rw [hb]; simp))
    | exact h _ (by simp)
theorem Rl.flts_len (op : Int) (h15 : op ≠ 15) (h16 : op ≠ 16) : ∀ rs : List Rl, Rl.flts op rs = rs.map Rl.flt
  | [] => by simp [Rl.flts]
  | r :: rs => by
    unfold Rl.flts
    rw [Rl.flts_len op h15 h16 rs]
    unfold Rl.keep
    rw [if_neg (by omega), if_neg (by omega)]
    rfl
mutual
theorem Rl.flt_ar : ∀ r : Rl, r.ar → r.flt.ar
  | .mk op n m x y s rs => fun h => by
    unfold Rl.flt
    unfold Rl.ar at h
    refine Rl.shut_ar op n m x y s _ (Rl.flts_ar op rs h.2.2) (fun h' => ?_) (fun h' => ?_)
    · rw [Rl.flts_len op (by omega) (by omega), List.length_map]; exact h.1 h'
    · rw [Rl.flts_len op (by omega) (by omega), List.length_map]; exact h.2.1 h'
theorem Rl.flts_ar (op : Int) : ∀ rs : List Rl, Rl.ars rs → ∀ b ∈ Rl.flts op rs, b.ar
  | [] => fun _ b hb => by simp [Rl.flts] at hb
  | r :: rs => fun h b hb => by
    unfold Rl.ars at h
    unfold Rl.flts at hb
    rcases List.mem_append.1 hb with hb | hb
    · exact Rl.keep_ars op _ (Rl.flt_ar r h.1) b hb
    · exact Rl.flts_ar op rs h.2 b hb
end
theorem Rl.ars_at (rs : List Rl) (k : Nat) (hk : k < rs.length) (h : Rl.ars rs) : rs[k].ar := Rl.ars_mem h (List.getElem_mem hk)
theorem Rl.form (r : Rl) : ∃ op n m x y s rs, r = Rl.mk op n m x y s rs := by cases r; exact ⟨_, _, _, _, _, _, _, rfl⟩
/-- What a call gives that makes a rule anew, its root told. -/
theorem GivesR.told {op n m : Int} {x y : Nat} {s : ByteArray} {rs : List Rl} {w : World} {e : Ending} {w' : World} (h : GivesR (Rl.mk op n m x y s rs) w e w') :
    ∃ a cap F, e = .returned (.agg #[.int .u8 op, .int .i64 n, .int .i64 m, .float .f64 x, .float .f64 y, .string s, .slice a rs.length cap]) ∧
      (Rl.mk op n m x y s rs).tr.own 7 w' [.int .u8 op, .int .i64 n, .int .i64 m, .float .f64 x, .float .f64 y, .string s, .slice a rs.length cap] F ∧ Apart w.heap.size F ∧ Soft w' F ∧ Below w.heap.size w w' := by
  obtain ⟨v0, v1, v2, v3, v4, v5, v6, F, rfl, h1, h2, h3, h4⟩ := h
  obtain ⟨a, cap, hc, _⟩ := Rl.open h1
  simp only [List.cons.injEq, and_true] at hc
  obtain ⟨rfl, rfl, rfl, rfl, rfl, rfl, rfl⟩ := hc
  exact ⟨a, cap, F, rfl, h1, h2, h3, h4⟩
end Go.Proofs.Ytlejmlkojohnbaa
