/- The walk of 'value.order'. (Printed by genorder.py.) The walk of '(*value.census).may', kind 0. -/
import Derived.Test.YtaglklcjolcgeaaMay
import Derived.Test.YtaglklcjolcgeaaWLast
import Derived.Test.YtaglklcjolcgeaaWWords
namespace Go.Proofs.Ytaglklcjolcgeaa
open Go Go.RowKit Go.Proofs.YtaglklcjolcgeaaW.PrintWords Go.Proofs.YtaglklcjolcgeaaW.PrintLast
set_option linter.unusedVariables false
set_option linter.unusedSimpArgs false
attribute [local go_sem] run_store_float
/-- What the two boxes hold. -/
structure OBox (B : Nat) (n n2 : Int) (x x2 y y2 : Nat) (s s2 : ByteArray) (l l2 : Value) (W : World) : Prop where
  c1 : W.cell? ⟨B, 1, none⟩ = some (.int .i64 n)
  c2 : W.cell? ⟨B, 2, none⟩ = some (.float .f64 x)
  c3 : W.cell? ⟨B, 3, none⟩ = some (.float .f64 y)
  c4 : W.cell? ⟨B, 4, none⟩ = some (.string s)
  c5 : W.cell? ⟨B, 5, none⟩ = some l
  d1 : W.cell? ⟨B + 1, 1, none⟩ = some (.int .i64 n2)
  d2 : W.cell? ⟨B + 1, 2, none⟩ = some (.float .f64 x2)
  d3 : W.cell? ⟨B + 1, 3, none⟩ = some (.float .f64 y2)
  d4 : W.cell? ⟨B + 1, 4, none⟩ = some (.string s2)
  d5 : W.cell? ⟨B + 1, 5, none⟩ = some l2
theorem OBox.below {B : Nat} {n n2 : Int} {x x2 y y2 : Nat} {s s2 : ByteArray} {l l2 : Value} {W W' : World} (h : OBox B n n2 x x2 y y2 s s2 l l2 W) (hb : Below W.heap.size W W') : OBox B n n2 x x2 y y2 s s2 l l2 W' :=
  have k : ∀ {p v}, W.cell? p = some v → W'.cell? p = some v := fun {p v} hv => (hb.cell (World.block_lt_of_cell? W p hv)).trans hv
  ⟨k h.c1, k h.c2, k h.c3, k h.c4, k h.c5, k h.d1, k h.d2, k h.d3, k h.d4, k h.d5⟩
theorem OBox.new {B : Nat} {n n2 : Int} {x x2 y y2 : Nat} {s s2 : ByteArray} {l l2 : Value} {W : World} (h : OBox B n n2 x x2 y y2 s s2 l l2 W) (ob : Obj) : OBox B n n2 x x2 y y2 s s2 l l2 (W.alloc ob) := h.below (bnew (Below.refl _ _) ob)
theorem obox_of (w : World) (k k2 : Value) (n n2 : Int) (x x2 y y2 : Nat) (s s2 : ByteArray) (l l2 : Value) : OBox w.heap.size n n2 x x2 y y2 s s2 l l2 ((w.alloc (.cells #[k, .int .i64 n, .float .f64 x, .float .f64 y, .string s, l] 25)).alloc (.cells #[k2, .int .i64 n2, .float .f64 x2, .float .f64 y2, .string s2, l2] 25)).drew := by
  have h1 := box_all (t := 25) (two1 w (.cells #[k, .int .i64 n, .float .f64 x, .float .f64 y, .string s, l] 25) (.cells #[k2, .int .i64 n2, .float .f64 x2, .float .f64 y2, .string s2, l2] 25))
  have h2 := box_all (t := 25) (two2 w (.cells #[k, .int .i64 n, .float .f64 x, .float .f64 y, .string s, l] 25) (.cells #[k2, .int .i64 n2, .float .f64 x2, .float .f64 y2, .string s2, l2] 25))
  exact ⟨(h1 1).trans rfl, (h1 2).trans rfl, (h1 3).trans rfl, (h1 4).trans rfl, (h1 5).trans rfl, (h2 1).trans rfl, (h2 2).trans rfl, (h2 3).trans rfl, (h2 4).trans rfl, (h2 5).trans rfl⟩
theorem own_since {w W : World} {rs : List Va} {a : Option Addr} {F : List Nat} (hc : (rs.length = 0 ∧ F = []) ∨ (0 < rs.length ∧ ∃ b o cs F', a = some ⟨b, o, none⟩ ∧ F = b :: F' ∧ w.rangeAt b o cs ∧ Tr.ownL 6 w (Va.trs rs) cs F')) (hb : Below w.heap.size w W) :
    rs.length = 0 ∨ ∃ b o cs F', a = some ⟨b, o, none⟩ ∧ W.rangeAt b o cs ∧ Tr.ownL 6 W (Va.trs rs) cs F' := by
  rcases hc with ⟨h, _⟩ | ⟨hp, b, o, cs, F', h1, _, h3, h4⟩
  · exact .inl h
  · have hbl : b < w.heap.size := rangeAt_lt h3 (by rw [Tr.ownL_len h4, Va.trs_len]; omega)
    exact .inr ⟨b, o, cs, F', h1, rangeAt_of_block h3 (hb.block b hbl), Tr.ownL_below h4 hb⟩
theorem row5 (w : World) (a b c d e : Int) : (w.alloc (.cells #[.int .i64 a, .int .i64 b, .int .i64 c, .int .i64 d, .int .i64 e] 3)).rangeAt w.heap.size 0 ([a, b, c, d, e].map (Value.int .i64)) := fun j v hv => by
  have h := box_all (t := 3) (heap_alloc_new w (.cells #[.int .i64 a, .int .i64 b, .int .i64 c, .int .i64 d, .int .i64 e] 3)) j
  rw [Nat.zero_add, h]
  simpa using hv
set_option maxRecDepth 100000 in
set_option maxHeartbeats 4000000 in
theorem order_eq (kd n n2 : Int) (x x2 y y2 : Nat) (s s2 : ByteArray) (rs rs2 : List Va) (a a2 : Option Addr) (cap cap2 : Nat) (F F2 : List Nat) (w : World) (hx : x < 18446744073709551616) (hx2 : x2 < 18446744073709551616) (hy : y < 18446744073709551616) (hy2 : y2 < 18446744073709551616)
    (hcap : rs.length ≤ cap) (hcap' : cap ≤ 9223372036854775807) (hcap2 : rs2.length ≤ cap2) (hcap2' : cap2 ≤ 9223372036854775807)
    (hc : (rs.length = 0 ∧ F = []) ∨ (0 < rs.length ∧ ∃ b o cs F', a = some ⟨b, o, none⟩ ∧ F = b :: F' ∧ w.rangeAt b o cs ∧ Tr.ownL 6 w (Va.trs rs) cs F'))
    (hc2 : (rs2.length = 0 ∧ F2 = []) ∨ (0 < rs2.length ∧ ∃ b o cs F', a2 = some ⟨b, o, none⟩ ∧ F2 = b :: F' ∧ w.rangeAt b o cs ∧ Tr.ownL 6 w (Va.trs rs2) cs F'))
    (hO : ∀ (k : Nat) (h1 : k < rs.length) (h2 : k < rs2.length) (c c2 : List Value) (F F2 : List Nat) (W : World), rs[k].tr.own 6 W c F → rs2[k].tr.own 6 W c2 F2 → Calls Try.prog 34 #[.agg c.toArray, .agg c2.toArray] W (OrdI (pordV rs[k] rs2[k]) W)) :
    Calls Try.prog 34 #[.agg #[.int .u8 kd, .int .i64 n, .float .f64 x, .float .f64 y, .string s, .slice a rs.length cap], .agg #[.int .u8 kd, .int .i64 n2, .float .f64 x2, .float .f64 y2, .string s2, .slice a2 rs2.length cap2]] w
      (OrdI (orN [numb (decide (n < n2)) (decide (n2 < n)), ordF x x2, ordF y y2, ordS s s2, pordL rs rs2]) w) := by
  have HO := Lib.hid hO
  have HCA := Lib.hid (And.intro hcap (And.intro hcap' (And.intro hcap2 hcap2')))
  clear hO hcap hcap' hcap2 hcap2'
  have h0 : numb (decide (kd < kd)) (decide (kd < kd)) = 0 := numb_self kd
  have HBox := Lib.hid (obox_of w (.int .u8 kd) (.int .u8 kd) n n2 x x2 y y2 s s2 (.slice a rs.length cap) (.slice a2 rs2.length cap2))
  go_enter Try.func34, Try.ntmps34
  go_wp2_with (go_at_call 50; (with_reducible refine (cmpU_any kd kd _).mono ?_); rintro e w' ⟨rfl, rfl⟩; rw [h0])
  refine start_ (n := 28) (S := OBox w.heap.size n n2 x x2 y y2 s s2 (.slice a rs.length cap) (.slice a2 rs2.length cap2)) (ds := []) #[false, false, false, false, false, false, false, false, false, false, false, false, false, false, false, false, false, false, false, false, false, false, false, false, false, false, false, false] (by kernel_rfl) rfl rfl HBox.out (fun hHeld => ?_)
  have HB1 := Lib.hid ((bb2 w (.cells #[.int .u8 kd, .int .i64 n, .float .f64 x, .float .f64 y, .string s, .slice a rs.length cap] 25) (.cells #[.int .u8 kd, .int .i64 n2, .float .f64 x2, .float .f64 y2, .string s2, .slice a2 rs2.length cap2] 25)).drew)
  generalize World.drew _ = wd at hHeld HB1 ⊢
  refine pure_ (i := 0) (N := some 14) (v := ?_) (a' := ?_) #[true, false, false, false, false, false, false, false, false, false, false, false, false, false, false, false, false, false, false, false, false, false, false, false, false, false, false, false] rfl rfl (by kernel_rfl) (fun _ _ _ h => h) (Or.inl ⟨by rfl, ?_⟩) ?_ ?_
  rotate_left
  · intro w'
    go_simp
    with_reducible rfl
  rotate_left
  · simp only [Act.put, List.setIfInBounds_toArray, List.set_cons_zero, List.set_cons_succ, i64_w, i32_w]
    rfl
  refine take_ (i := 1) (N := some 15) (v := ?_) (a' := ?_) #[true, true, false, false, false, false, false, false, false, false, false, false, false, false, false, false, false, false, false, false, false, false, false, false, false, false, false, false] rfl rfl (by kernel_rfl) (fun _ _ _ h => h) (Or.inl ⟨by rfl, ?_⟩) hHeld ?_ ?_
  rotate_left
  · rintro w' ⟨s0, s1, s2, s3, s4, s5, s6, s7, s8, s9⟩
    go_simp
    with_reducible rfl
  rotate_left
  · simp only [Act.put, List.setIfInBounds_toArray, List.set_cons_zero, List.set_cons_succ, i64_w, i32_w]
    rfl
  refine pure_ (i := 2) (N := some 16) (v := ?_) (a' := ?_) #[true, true, true, false, false, false, false, false, false, false, false, false, false, false, false, false, false, false, false, false, false, false, false, false, false, false, false, false] rfl rfl (by kernel_rfl) (fun _ _ _ h => h) (Or.inl ⟨by rfl, ?_⟩) ?_ ?_
  rotate_left
  · intro w'
    go_simp
    with_reducible rfl
  rotate_left
  · simp only [Act.put, List.setIfInBounds_toArray, List.set_cons_zero, List.set_cons_succ, i64_w, i32_w]
    rfl
  refine take_ (i := 3) (N := some 17) (v := ?_) (a' := ?_) #[true, true, true, true, false, false, false, false, false, false, false, false, false, false, false, false, false, false, false, false, false, false, false, false, false, false, false, false] rfl rfl (by kernel_rfl) (fun _ _ _ h => h) (Or.inl ⟨by rfl, ?_⟩) hHeld ?_ ?_
  rotate_left
  · rintro w' ⟨s0, s1, s2, s3, s4, s5, s6, s7, s8, s9⟩
    go_simp
    with_reducible rfl
  rotate_left
  · simp only [Act.put, List.setIfInBounds_toArray, List.set_cons_zero, List.set_cons_succ, i64_w, i32_w]
    rfl
  refine pure_ (i := 5) (N := some 19) (v := ?_) (a' := ?_) #[true, true, true, true, false, true, false, false, false, false, false, false, false, false, false, false, false, false, false, false, false, false, false, false, false, false, false, false] rfl rfl (by kernel_rfl) (fun _ _ _ h => h) (Or.inl ⟨by rfl, ?_⟩) ?_ ?_
  rotate_left
  · intro w'
    go_simp
    with_reducible rfl
  rotate_left
  · simp only [Act.put, List.setIfInBounds_toArray, List.set_cons_zero, List.set_cons_succ, i64_w, i32_w]
    rfl
  refine take_ (i := 6) (N := some 20) (v := ?_) (a' := ?_) #[true, true, true, true, false, true, true, false, false, false, false, false, false, false, false, false, false, false, false, false, false, false, false, false, false, false, false, false] rfl rfl (by kernel_rfl) (fun _ _ _ h => h) (Or.inl ⟨by rfl, ?_⟩) hHeld ?_ ?_
  rotate_left
  · rintro w' ⟨s0, s1, s2, s3, s4, s5, s6, s7, s8, s9⟩
    go_simp
    with_reducible rfl
  rotate_left
  · simp only [Act.put, List.setIfInBounds_toArray, List.set_cons_zero, List.set_cons_succ, i64_w, i32_w]
    rfl
  refine pure_ (i := 7) (N := some 21) (v := ?_) (a' := ?_) #[true, true, true, true, false, true, true, true, false, false, false, false, false, false, false, false, false, false, false, false, false, false, false, false, false, false, false, false] rfl rfl (by kernel_rfl) (fun _ _ _ h => h) (Or.inl ⟨by rfl, ?_⟩) ?_ ?_
  rotate_left
  · intro w'
    go_simp
    with_reducible rfl
  rotate_left
  · simp only [Act.put, List.setIfInBounds_toArray, List.set_cons_zero, List.set_cons_succ, i64_w, i32_w]
    rfl
  refine take_ (i := 8) (N := some 22) (v := ?_) (a' := ?_) #[true, true, true, true, false, true, true, true, true, false, false, false, false, false, false, false, false, false, false, false, false, false, false, false, false, false, false, false] rfl rfl (by kernel_rfl) (fun _ _ _ h => h) (Or.inl ⟨by rfl, ?_⟩) hHeld ?_ ?_
  rotate_left
  · rintro w' ⟨s0, s1, s2, s3, s4, s5, s6, s7, s8, s9⟩
    go_simp
    with_reducible rfl
  rotate_left
  · simp only [Act.put, List.setIfInBounds_toArray, List.set_cons_zero, List.set_cons_succ, i64_w, i32_w]
    rfl
  refine pure_ (i := 10) (N := some 24) (v := ?_) (a' := ?_) #[true, true, true, true, false, true, true, true, true, false, true, false, false, false, false, false, false, false, false, false, false, false, false, false, false, false, false, false] rfl rfl (by kernel_rfl) (fun _ _ _ h => h) (Or.inl ⟨by rfl, ?_⟩) ?_ ?_
  rotate_left
  · intro w'
    go_simp
    with_reducible rfl
  rotate_left
  · simp only [Act.put, List.setIfInBounds_toArray, List.set_cons_zero, List.set_cons_succ, i64_w, i32_w]
    rfl
  refine take_ (i := 11) (N := some 25) (v := ?_) (a' := ?_) #[true, true, true, true, false, true, true, true, true, false, true, true, false, false, false, false, false, false, false, false, false, false, false, false, false, false, false, false] rfl rfl (by kernel_rfl) (fun _ _ _ h => h) (Or.inl ⟨by rfl, ?_⟩) hHeld ?_ ?_
  rotate_left
  · rintro w' ⟨s0, s1, s2, s3, s4, s5, s6, s7, s8, s9⟩
    go_simp
    with_reducible rfl
  rotate_left
  · simp only [Act.put, List.setIfInBounds_toArray, List.set_cons_zero, List.set_cons_succ, i64_w, i32_w]
    rfl
  refine pure_ (i := 12) (N := some 26) (v := ?_) (a' := ?_) #[true, true, true, true, false, true, true, true, true, false, true, true, true, false, false, false, false, false, false, false, false, false, false, false, false, false, false, false] rfl rfl (by kernel_rfl) (fun _ _ _ h => h) (Or.inl ⟨by rfl, ?_⟩) ?_ ?_
  rotate_left
  · intro w'
    go_simp
    with_reducible rfl
  rotate_left
  · simp only [Act.put, List.setIfInBounds_toArray, List.set_cons_zero, List.set_cons_succ, i64_w, i32_w]
    rfl
  refine take_ (i := 13) (N := some 27) (v := ?_) (a' := ?_) #[true, true, true, true, false, true, true, true, true, false, true, true, true, true, false, false, false, false, false, false, false, false, false, false, false, false, false, false] rfl rfl (by kernel_rfl) (fun _ _ _ h => h) (Or.inl ⟨by rfl, ?_⟩) hHeld ?_ ?_
  rotate_left
  · rintro w' ⟨s0, s1, s2, s3, s4, s5, s6, s7, s8, s9⟩
    go_simp
    with_reducible rfl
  rotate_left
  · simp only [Act.put, List.setIfInBounds_toArray, List.set_cons_zero, List.set_cons_succ, i64_w, i32_w]
    rfl
  refine pure_ (i := 15) (N := some 29) (v := ?_) (a' := ?_) #[true, true, true, true, false, true, true, true, true, false, true, true, true, true, false, true, false, false, false, false, false, false, false, false, false, false, false, false] rfl rfl (by kernel_rfl) (fun _ _ _ h => h) (Or.inl ⟨by rfl, ?_⟩) ?_ ?_
  rotate_left
  · intro w'
    go_simp
    with_reducible rfl
  rotate_left
  · simp only [Act.put, List.setIfInBounds_toArray, List.set_cons_zero, List.set_cons_succ, i64_w, i32_w]
    rfl
  refine take_ (i := 16) (N := some 30) (v := ?_) (a' := ?_) #[true, true, true, true, false, true, true, true, true, false, true, true, true, true, false, true, true, false, false, false, false, false, false, false, false, false, false, false] rfl rfl (by kernel_rfl) (fun _ _ _ h => h) (Or.inl ⟨by rfl, ?_⟩) hHeld ?_ ?_
  rotate_left
  · rintro w' ⟨s0, s1, s2, s3, s4, s5, s6, s7, s8, s9⟩
    go_simp
    with_reducible rfl
  rotate_left
  · simp only [Act.put, List.setIfInBounds_toArray, List.set_cons_zero, List.set_cons_succ, i64_w, i32_w]
    rfl
  refine pure_ (i := 17) (N := some 31) (v := ?_) (a' := ?_) #[true, true, true, true, false, true, true, true, true, false, true, true, true, true, false, true, true, true, false, false, false, false, false, false, false, false, false, false] rfl rfl (by kernel_rfl) (fun _ _ _ h => h) (Or.inl ⟨by rfl, ?_⟩) ?_ ?_
  rotate_left
  · intro w'
    go_simp
    with_reducible rfl
  rotate_left
  · simp only [Act.put, List.setIfInBounds_toArray, List.set_cons_zero, List.set_cons_succ, i64_w, i32_w]
    rfl
  refine take_ (i := 18) (N := some 32) (v := ?_) (a' := ?_) #[true, true, true, true, false, true, true, true, true, false, true, true, true, true, false, true, true, true, true, false, false, false, false, false, false, false, false, false] rfl rfl (by kernel_rfl) (fun _ _ _ h => h) (Or.inl ⟨by rfl, ?_⟩) hHeld ?_ ?_
  rotate_left
  · rintro w' ⟨s0, s1, s2, s3, s4, s5, s6, s7, s8, s9⟩
    go_simp
    with_reducible rfl
  rotate_left
  · simp only [Act.put, List.setIfInBounds_toArray, List.set_cons_zero, List.set_cons_succ, i64_w, i32_w]
    rfl
  refine pure_ (i := 20) (N := some 34) (v := ?_) (a' := ?_) #[true, true, true, true, false, true, true, true, true, false, true, true, true, true, false, true, true, true, true, false, true, false, false, false, false, false, false, false] rfl rfl (by kernel_rfl) (fun _ _ _ h => h) (Or.inl ⟨by rfl, ?_⟩) ?_ ?_
  rotate_left
  · intro w'
    go_simp
    with_reducible rfl
  rotate_left
  · simp only [Act.put, List.setIfInBounds_toArray, List.set_cons_zero, List.set_cons_succ, i64_w, i32_w]
    rfl
  refine take_ (i := 21) (N := some 35) (v := ?_) (a' := ?_) #[true, true, true, true, false, true, true, true, true, false, true, true, true, true, false, true, true, true, true, false, true, true, false, false, false, false, false, false] rfl rfl (by kernel_rfl) (fun _ _ _ h => h) (Or.inl ⟨by rfl, ?_⟩) hHeld ?_ ?_
  rotate_left
  · rintro w' ⟨s0, s1, s2, s3, s4, s5, s6, s7, s8, s9⟩
    go_simp
    with_reducible rfl
  rotate_left
  · simp only [Act.put, List.setIfInBounds_toArray, List.set_cons_zero, List.set_cons_succ, i64_w, i32_w]
    rfl
  refine pure_ (i := 22) (N := some 36) (v := ?_) (a' := ?_) #[true, true, true, true, false, true, true, true, true, false, true, true, true, true, false, true, true, true, true, false, true, true, true, false, false, false, false, false] rfl rfl (by kernel_rfl) (fun _ _ _ h => h) (Or.inl ⟨by rfl, ?_⟩) ?_ ?_
  rotate_left
  · intro w'
    go_simp
    with_reducible rfl
  rotate_left
  · simp only [Act.put, List.setIfInBounds_toArray, List.set_cons_zero, List.set_cons_succ, i64_w, i32_w]
    rfl
  refine take_ (i := 23) (N := some 37) (v := ?_) (a' := ?_) #[true, true, true, true, false, true, true, true, true, false, true, true, true, true, false, true, true, true, true, false, true, true, true, true, false, false, false, false] rfl rfl (by kernel_rfl) (fun _ _ _ h => h) (Or.inl ⟨by rfl, ?_⟩) hHeld ?_ ?_
  rotate_left
  · rintro w' ⟨s0, s1, s2, s3, s4, s5, s6, s7, s8, s9⟩
    go_simp
    with_reducible rfl
  rotate_left
  · simp only [Act.put, List.setIfInBounds_toArray, List.set_cons_zero, List.set_cons_succ, i64_w, i32_w]
    rfl
  refine one_ (i := 4) (N := some 18) #[true, true, true, true, true, true, true, true, true, false, true, true, true, true, false, true, true, true, true, false, true, true, true, true, false, false, false, false] rfl rfl (by kernel_rfl) (by decide) (fun K hK => ?_)
  refine goes_ Try.func52 (by kernel_rfl) (by kernel_rfl) #[.int .i64 n, .int .i64 n2] (by rfl) rfl rfl (by (try simp only [List.map_toArray, List.map_cons, List.map_nil]); first | done | rfl) ?_
  refine (cmpI_any n n2 _).mono ?_
  rintro e w2 ⟨rfl, rfl⟩
  refine ⟨_, rfl, ?_⟩
  refine hK.out _ _ hHeld (fun hHeld => ?_)
  clear hK K
  refine norm_ (a' := ?_) ?_ ?_
  rotate_left
  · show Act.put _ (some 18) _ = _
    simp only [Act.put, List.setIfInBounds_toArray, List.set_cons_zero, List.set_cons_succ, i64_w, i32_w]
    rfl
  refine one_ (i := 9) (N := some 23) #[true, true, true, true, true, true, true, true, true, true, true, true, true, true, false, true, true, true, true, false, true, true, true, true, false, false, false, false] rfl rfl (by kernel_rfl) (by decide) (fun K hK => ?_)
  refine goes_ Try.func53 (by kernel_rfl) (by kernel_rfl) #[.float .f64 x, .float .f64 x2] (by rfl) rfl rfl (by (try simp only [List.map_toArray, List.map_cons, List.map_nil]); first | done | rfl) ?_
  refine (floats_any x x2 hx hx2 _).mono ?_
  rintro e w2 ⟨rfl, rfl⟩
  refine ⟨_, rfl, ?_⟩
  refine hK.out _ _ hHeld (fun hHeld => ?_)
  clear hK K
  refine norm_ (a' := ?_) ?_ ?_
  rotate_left
  · show Act.put _ (some 23) _ = _
    simp only [Act.put, List.setIfInBounds_toArray, List.set_cons_zero, List.set_cons_succ, i64_w, i32_w]
    rfl
  refine one_ (i := 14) (N := some 28) #[true, true, true, true, true, true, true, true, true, true, true, true, true, true, true, true, true, true, true, false, true, true, true, true, false, false, false, false] rfl rfl (by kernel_rfl) (by decide) (fun K hK => ?_)
  refine goes_ Try.func53 (by kernel_rfl) (by kernel_rfl) #[.float .f64 y, .float .f64 y2] (by rfl) rfl rfl (by (try simp only [List.map_toArray, List.map_cons, List.map_nil]); first | done | rfl) ?_
  refine (floats_any y y2 hy hy2 _).mono ?_
  rintro e w2 ⟨rfl, rfl⟩
  refine ⟨_, rfl, ?_⟩
  refine hK.out _ _ hHeld (fun hHeld => ?_)
  clear hK K
  refine norm_ (a' := ?_) ?_ ?_
  rotate_left
  · show Act.put _ (some 28) _ = _
    simp only [Act.put, List.setIfInBounds_toArray, List.set_cons_zero, List.set_cons_succ, i64_w, i32_w]
    rfl
  refine one_ (i := 19) (N := some 33) #[true, true, true, true, true, true, true, true, true, true, true, true, true, true, true, true, true, true, true, true, true, true, true, true, false, false, false, false] rfl rfl (by kernel_rfl) (by decide) (fun K hK => ?_)
  refine goes_ Try.func54 (by kernel_rfl) (by kernel_rfl) #[.string s, .string s2] (by rfl) rfl rfl (by (try simp only [List.map_toArray, List.map_cons, List.map_nil]); first | done | rfl) ?_
  refine (strcmp_any s s2 _).mono ?_
  rintro e w2 ⟨rfl, rfl⟩
  refine ⟨_, rfl, ?_⟩
  refine hK.out _ _ hHeld (fun hHeld => ?_)
  clear hK K
  refine norm_ (a' := ?_) ?_ ?_
  rotate_left
  · show Act.put _ (some 33) _ = _
    simp only [Act.put, List.setIfInBounds_toArray, List.set_cons_zero, List.set_cons_succ, i64_w, i32_w]
    rfl
  refine one_ (i := 24) (N := some 38) #[true, true, true, true, true, true, true, true, true, true, true, true, true, true, true, true, true, true, true, true, true, true, true, true, true, false, false, false] rfl rfl (by kernel_rfl) (by decide) (fun K hK => ?_)
  refine goes_ Try.func55 (by kernel_rfl) (by kernel_rfl) #[.slice a rs.length cap, .slice a2 rs2.length cap2, .func (.func 34) #[] #[]] (by rfl) rfl rfl (by (try simp only [List.map_toArray, List.map_cons, List.map_nil]); first | done | rfl) ?_
  refine (cmpFunc_any rs rs2 a a2 cap cap2 _ HCA.out.1 HCA.out.2.1 HCA.out.2.2.1 HCA.out.2.2.2 (own_since hc HB1.out) (own_since hc2 HB1.out) HO.out).mono ?_
  rintro e w2 ⟨rfl, hb⟩
  have HB2 := Lib.hid (bthen HB1.out hb)
  have hHeld2 := hHeld.below hb
  clear hb hHeld
  refine ⟨_, rfl, ?_⟩
  refine hK.out _ _ hHeld2 (fun hHeld => ?_)
  clear hK K hHeld2
  refine norm_ (a' := ?_) ?_ ?_
  rotate_left
  · show Act.put _ (some 38) _ = _
    simp only [Act.put, List.setIfInBounds_toArray, List.set_cons_zero, List.set_cons_succ, i64_w, i32_w]
    rfl
  refine one_ (i := 25) (N := some 39) #[true, true, true, true, true, true, true, true, true, true, true, true, true, true, true, true, true, true, true, true, true, true, true, true, true, true, false, false] rfl rfl (by kernel_rfl) (by decide) (fun K hK => ?_)
  refine value_ (w1 := ?_) (v := ?_) (by rfl) rfl ?_ ?_
  rotate_left 2
  · go_simp
    constructor <;> rfl
  have HB3 := Lib.hid (bnew HB2.out (.cells #[.int .i64 (numb (decide (n < n2)) (decide (n2 < n))), .int .i64 (ordF x x2), .int .i64 (ordF y y2), .int .i64 (ordS s s2), .int .i64 (pordL rs rs2)] 3))
  have HRow := Lib.hid (row5 w2 (numb (decide (n < n2)) (decide (n2 < n))) (ordF x x2) (ordF y y2) (ordS s s2) (pordL rs rs2))
  refine hK.out _ _ (hHeld.new _) (fun hHeld => ?_)
  clear hK K
  refine norm_ (a' := ?_) ?_ ?_
  rotate_left
  · show Act.put _ (some 39) _ = _
    simp only [Act.put, List.setIfInBounds_toArray, List.set_cons_zero, List.set_cons_succ, i64_w, i32_w]
    rfl
  refine one_ (i := 26) (N := some 40) #[true, true, true, true, true, true, true, true, true, true, true, true, true, true, true, true, true, true, true, true, true, true, true, true, true, true, true, false] rfl rfl (by kernel_rfl) (by decide) (fun K hK => ?_)
  refine goes_ Try.func51 (by kernel_rfl) (by kernel_rfl) #[.slice (some ⟨w2.heap.size, 0, none⟩) 5 5] (by rfl) rfl rfl (by (try simp only [List.map_toArray, List.map_cons, List.map_nil]); first | done | rfl) ?_
  refine (or_any [numb (decide (n < n2)) (decide (n2 < n)), ordF x x2, ordF y y2, ordS s s2, pordL rs rs2] w2.heap.size 5 _ (by simp) HRow.out).mono ?_
  rintro e w3 ⟨rfl, rfl⟩
  refine ⟨_, rfl, ?_⟩
  refine hK.out _ _ hHeld (fun hHeld => ?_)
  clear hK K
  refine norm_ (a' := ?_) ?_ ?_
  rotate_left
  · show Act.put _ (some 40) _ = _
    simp only [Act.put, List.setIfInBounds_toArray, List.set_cons_zero, List.set_cons_succ, i64_w, i32_w]
    rfl
  refine pure_ (i := 27) (N := some 4) (v := ?_) (a' := ?_) #[true, true, true, true, true, true, true, true, true, true, true, true, true, true, true, true, true, true, true, true, true, true, true, true, true, true, true, true] rfl rfl (by kernel_rfl) (fun _ _ _ h => h) (Or.inl ⟨by rfl, ?_⟩) ?_ ?_
  rotate_left
  · intro w'
    go_simp
    with_reducible rfl
  rotate_left
  · simp only [Act.put, List.setIfInBounds_toArray, List.set_cons_zero, List.set_cons_succ, i64_w, i32_w]
    rfl
  refine done_ (by kernel_rfl) ?_
  go_wp2_with fail
  go_ret
  exact ⟨rfl, HB3.out⟩
set_option maxRecDepth 100000 in
set_option maxHeartbeats 1000000 in
theorem order_ne (kd kd2 : Int) (v1 v2 v3 v4 v5 x1 x2 x3 x4 x5 : Value) (w : World) (hne : ¬ numb (decide (kd < kd2)) (decide (kd2 < kd)) = 0) :
    Calls Try.prog 34 #[.agg #[.int .u8 kd, v1, v2, v3, v4, v5], .agg #[.int .u8 kd2, x1, x2, x3, x4, x5]] w (OrdI (numb (decide (kd < kd2)) (decide (kd2 < kd))) w) := by
  have h0 : (numb (decide (kd < kd2)) (decide (kd2 < kd)) != 0) = true := bne_iff_ne.2 hne
  clear hne
  go_enter Try.func34, Try.ntmps34
  go_wp2_with (go_at_call 50; (with_reducible refine (cmpU_any kd kd2 _).mono ?_); rintro e w' ⟨rfl, rfl⟩)
  go_ret
  exact ⟨rfl, bb2 w _ _⟩
theorem order_N (N : Nat) : ∀ (r r2 : Va) (_ : r.size ≤ N) (_ : r.wf) (_ : r2.wf) (c c2 : List Value) (F F2 : List Nat) (w : World) (_ : r.tr.own 6 w c F) (_ : r2.tr.own 6 w c2 F2),
    Calls Try.prog 34 #[.agg c.toArray, .agg c2.toArray] w (OrdI (pordV r r2) w) := by
  induction N with
  | zero => intro r r2 hN; have := r.size_pos; omega
  | succ N ih =>
  intro r r2 hN hwf hwf2 c c2 F F2 w hr hr2
  obtain ⟨kd, n, x, y, s, rs⟩ := r
  obtain ⟨kd2, n2, x2, y2, s2, rs2⟩ := r2
  obtain ⟨a, cap, rfl, hcap, hcap', hc⟩ := Va.open hr
  obtain ⟨a2, cap2, rfl, hcap2, hcap2', hc2⟩ := Va.open hr2
  unfold Va.wf at hwf hwf2
  obtain ⟨_, _, _, _, hx, hy, hws⟩ := hwf
  obtain ⟨_, _, _, _, hx2, hy2, hws2⟩ := hwf2
  unfold Va.size at hN
  unfold pordV
  by_cases hne : numb (decide (kd < kd2)) (decide (kd2 < kd)) = 0
  · rw [if_neg (by omega)]
    have hk : kd = kd2 := by
      rcases Int.lt_trichotomy kd kd2 with h | h | h
      · rw [decide_eq_true h] at hne; cases hne
      · exact h
      · rw [decide_eq_false (by omega), decide_eq_true h] at hne; cases hne
    subst hk
    exact order_eq kd n n2 x x2 y y2 s s2 rs rs2 a a2 cap cap2 F F2 w hx hx2 hy hy2 hcap hcap' hcap2 hcap2' hc hc2 fun k h1 h2 c c2 F F2 W g1 g2 => by
      have := Va.sizes_at rs k h1
      exact ih rs[k] rs2[k] (by omega) (Va.wfs_at rs k h1 hws) (Va.wfs_at rs2 k h2 hws2) c c2 F F2 W g1 g2
  · rw [if_pos hne]
    exact order_ne kd kd2 _ _ _ _ _ _ _ _ _ _ w hne
end Go.Proofs.Ytaglklcjolcgeaa
namespace Go.Proofs.Ytaglklcjolcgeaa
open Go.RowKit
set_option linter.unusedVariables false
set_option linter.unusedSimpArgs false
attribute [local go_sem] run_store_float
set_option maxRecDepth 100000 in
set_option maxHeartbeats 4000000 in
theorem mayL_0 (n : Int) (x : Nat) (y : Nat) (s : ByteArray) (len : Nat) (a : Option Addr) (cap : Nat) (nest left : Int) (p : Addr) (w : World) (hp : w.cell? p = some (.int .i64 left)) (hz : w.frozen? p = false) (g0 : 0 ≤ left) (g1 : left ≤ 1024) (q : decide (left - 1 < 0) = true) :
    Calls Try.prog 29 #[.pointer (some p), .agg #[.int .u8 0, .int .i64 n, .float .f64 x, .float .f64 y, .string s, .slice a len cap], .int .i64 nest] w (MayNot left p w) := by
  have hpb : p.block < w.heap.size := World.block_lt_of_cell? w p hp
  have kb := run_bits
  have HP := Lib.hid (And.intro hp hz)
  have hfz : ∀ o, (w.alloc o).frozen? p = false := fun o => (frozen_new w o p hpb).trans hz
  have hc1 : ∀ j, ((w.alloc (.cells #[.int .u8 0, .int .i64 n, .float .f64 x, .float .f64 y, .string s, .slice a len cap] 25)).setCell p (.int .i64 (left - 1))).cell? ⟨w.heap.size, j, none⟩ = (#[.int .u8 0, .int .i64 n, .float .f64 x, .float .f64 y, .string s, .slice a len cap])[j]? := box_all (may_box hpb)
  go_enter Try.func29, Try.ntmps29
  simp only [List.append_eq, List.cons_append, List.nil_append]
  go_wp2_with ((go_at_call 44; (with_reducible refine (counts_0 _).mono ?_); rintro e w1 ⟨rfl, hb1⟩; have HE := Lib.hid (may_end HP.out.1 HP.out.2 hb1); have j1 := box_keep (may_box hpb) hb1; have j2 := HE.out.1; have j3 := fun ob => (cell_new w1 ob p (World.block_lt_of_cell? w1 p j2)).trans j2; have j4 := fun ob j => (cell_new w1 ob ⟨w.heap.size, j, none⟩ (by have := HE.out.2.2.size; have := hb1.size; simp [World.setCell] at this; show w.heap.size < _; omega)).trans (j1 j)))
  go_ret
  exact ⟨rfl, end_alloc HE.out _⟩
set_option maxRecDepth 100000 in
set_option maxHeartbeats 4000000 in
theorem mayN_0_n (n : Int) (x : Nat) (y : Nat) (s : ByteArray) (len : Nat) (a : Option Addr) (cap : Nat) (nest left : Int) (p : Addr) (w : World) (hp : w.cell? p = some (.int .i64 left)) (hz : w.frozen? p = false) (g0 : 0 ≤ left) (g1 : left ≤ 1024) (hl : decide (left - 1 < 0) = false) (q : (n != 0) = true) :
    Calls Try.prog 29 #[.pointer (some p), .agg #[.int .u8 0, .int .i64 n, .float .f64 x, .float .f64 y, .string s, .slice a len cap], .int .i64 nest] w (MayNot left p w) := by
  have hpb : p.block < w.heap.size := World.block_lt_of_cell? w p hp
  have kb := run_bits
  have HP := Lib.hid (And.intro hp hz)
  have hfz : ∀ o, (w.alloc o).frozen? p = false := fun o => (frozen_new w o p hpb).trans hz
  have hc1 : ∀ j, ((w.alloc (.cells #[.int .u8 0, .int .i64 n, .float .f64 x, .float .f64 y, .string s, .slice a len cap] 25)).setCell p (.int .i64 (left - 1))).cell? ⟨w.heap.size, j, none⟩ = (#[.int .u8 0, .int .i64 n, .float .f64 x, .float .f64 y, .string s, .slice a len cap])[j]? := box_all (may_box hpb)
  go_enter Try.func29, Try.ntmps29
  simp only [List.append_eq, List.cons_append, List.nil_append]
  go_wp2_with ((go_at_call 44; (with_reducible refine (counts_0 _).mono ?_); rintro e w1 ⟨rfl, hb1⟩; have HE := Lib.hid (may_end HP.out.1 HP.out.2 hb1); have j1 := box_keep (may_box hpb) hb1; have j2 := HE.out.1; have j3 := fun ob => (cell_new w1 ob p (World.block_lt_of_cell? w1 p j2)).trans j2; have j4 := fun ob j => (cell_new w1 ob ⟨w.heap.size, j, none⟩ (by have := HE.out.2.2.size; have := hb1.size; simp [World.setCell] at this; show w.heap.size < _; omega)).trans (j1 j)))
  go_ret
  exact ⟨rfl, end_alloc HE.out _⟩
set_option maxRecDepth 100000 in
set_option maxHeartbeats 4000000 in
theorem mayN_0_x (x : Nat) (y : Nat) (s : ByteArray) (len : Nat) (a : Option Addr) (cap : Nat) (nest left : Int) (p : Addr) (w : World) (hp : w.cell? p = some (.int .i64 left)) (hz : w.frozen? p = false) (g0 : 0 ≤ left) (g1 : left ≤ 1024) (hl : decide (left - 1 < 0) = false) (q : ((x : Int) != 0) = true) :
    Calls Try.prog 29 #[.pointer (some p), .agg #[.int .u8 0, .int .i64 0, .float .f64 x, .float .f64 y, .string s, .slice a len cap], .int .i64 nest] w (MayNot left p w) := by
  have hpb : p.block < w.heap.size := World.block_lt_of_cell? w p hp
  have kb := run_bits
  have HP := Lib.hid (And.intro hp hz)
  have hfz : ∀ o, (w.alloc o).frozen? p = false := fun o => (frozen_new w o p hpb).trans hz
  have hc1 : ∀ j, ((w.alloc (.cells #[.int .u8 0, .int .i64 0, .float .f64 x, .float .f64 y, .string s, .slice a len cap] 25)).setCell p (.int .i64 (left - 1))).cell? ⟨w.heap.size, j, none⟩ = (#[.int .u8 0, .int .i64 0, .float .f64 x, .float .f64 y, .string s, .slice a len cap])[j]? := box_all (may_box hpb)
  go_enter Try.func29, Try.ntmps29
  simp only [List.append_eq, List.cons_append, List.nil_append]
  go_wp2_with ((go_at_call 44; (with_reducible refine (counts_0 _).mono ?_); rintro e w1 ⟨rfl, hb1⟩; have HE := Lib.hid (may_end HP.out.1 HP.out.2 hb1); have j1 := box_keep (may_box hpb) hb1; have j2 := HE.out.1; have j3 := fun ob => (cell_new w1 ob p (World.block_lt_of_cell? w1 p j2)).trans j2; have j4 := fun ob j => (cell_new w1 ob ⟨w.heap.size, j, none⟩ (by have := HE.out.2.2.size; have := hb1.size; simp [World.setCell] at this; show w.heap.size < _; omega)).trans (j1 j)))
  go_ret
  exact ⟨rfl, end_alloc HE.out _⟩
set_option maxRecDepth 100000 in
set_option maxHeartbeats 4000000 in
theorem mayN_0_y (y : Nat) (s : ByteArray) (len : Nat) (a : Option Addr) (cap : Nat) (nest left : Int) (p : Addr) (w : World) (hp : w.cell? p = some (.int .i64 left)) (hz : w.frozen? p = false) (g0 : 0 ≤ left) (g1 : left ≤ 1024) (hl : decide (left - 1 < 0) = false) (q : ((y : Int) != 0) = true) :
    Calls Try.prog 29 #[.pointer (some p), .agg #[.int .u8 0, .int .i64 0, .float .f64 0, .float .f64 y, .string s, .slice a len cap], .int .i64 nest] w (MayNot left p w) := by
  have hpb : p.block < w.heap.size := World.block_lt_of_cell? w p hp
  have kb := run_bits
  have HP := Lib.hid (And.intro hp hz)
  have hfz : ∀ o, (w.alloc o).frozen? p = false := fun o => (frozen_new w o p hpb).trans hz
  have hc1 : ∀ j, ((w.alloc (.cells #[.int .u8 0, .int .i64 0, .float .f64 0, .float .f64 y, .string s, .slice a len cap] 25)).setCell p (.int .i64 (left - 1))).cell? ⟨w.heap.size, j, none⟩ = (#[.int .u8 0, .int .i64 0, .float .f64 0, .float .f64 y, .string s, .slice a len cap])[j]? := box_all (may_box hpb)
  go_enter Try.func29, Try.ntmps29
  simp only [List.append_eq, List.cons_append, List.nil_append]
  go_wp2_with ((go_at_call 44; (with_reducible refine (counts_0 _).mono ?_); rintro e w1 ⟨rfl, hb1⟩; have HE := Lib.hid (may_end HP.out.1 HP.out.2 hb1); have j1 := box_keep (may_box hpb) hb1; have j2 := HE.out.1; have j3 := fun ob => (cell_new w1 ob p (World.block_lt_of_cell? w1 p j2)).trans j2; have j4 := fun ob j => (cell_new w1 ob ⟨w.heap.size, j, none⟩ (by have := HE.out.2.2.size; have := hb1.size; simp [World.setCell] at this; show w.heap.size < _; omega)).trans (j1 j)))
  go_ret
  exact ⟨rfl, end_alloc HE.out _⟩
set_option maxRecDepth 100000 in
set_option maxHeartbeats 4000000 in
theorem mayN_0_s (s : ByteArray) (len : Nat) (a : Option Addr) (cap : Nat) (nest left : Int) (p : Addr) (w : World) (hp : w.cell? p = some (.int .i64 left)) (hz : w.frozen? p = false) (g0 : 0 ≤ left) (g1 : left ≤ 1024) (hl : decide (left - 1 < 0) = false) (q : ¬ s.toList = []) :
    Calls Try.prog 29 #[.pointer (some p), .agg #[.int .u8 0, .int .i64 0, .float .f64 0, .float .f64 0, .string s, .slice a len cap], .int .i64 nest] w (MayNot left p w) := by
  have hpb : p.block < w.heap.size := World.block_lt_of_cell? w p hp
  have kb := run_bits
  have HP := Lib.hid (And.intro hp hz)
  have hfz : ∀ o, (w.alloc o).frozen? p = false := fun o => (frozen_new w o p hpb).trans hz
  have hc1 : ∀ j, ((w.alloc (.cells #[.int .u8 0, .int .i64 0, .float .f64 0, .float .f64 0, .string s, .slice a len cap] 25)).setCell p (.int .i64 (left - 1))).cell? ⟨w.heap.size, j, none⟩ = (#[.int .u8 0, .int .i64 0, .float .f64 0, .float .f64 0, .string s, .slice a len cap])[j]? := box_all (may_box hpb)
  go_enter Try.func29, Try.ntmps29
  simp only [List.append_eq, List.cons_append, List.nil_append]
  go_wp2_with ((go_at_call 44; (with_reducible refine (counts_0 _).mono ?_); rintro e w1 ⟨rfl, hb1⟩; have HE := Lib.hid (may_end HP.out.1 HP.out.2 hb1); have j1 := box_keep (may_box hpb) hb1; have j2 := HE.out.1; have j3 := fun ob => (cell_new w1 ob p (World.block_lt_of_cell? w1 p j2)).trans j2; have j4 := fun ob j => (cell_new w1 ob ⟨w.heap.size, j, none⟩ (by have := HE.out.2.2.size; have := hb1.size; simp [World.setCell] at this; show w.heap.size < _; omega)).trans (j1 j)))
  go_ret
  exact ⟨rfl, end_alloc HE.out _⟩
set_option maxRecDepth 100000 in
set_option maxHeartbeats 4000000 in
theorem mayN_0_len (len : Nat) (a : Option Addr) (cap : Nat) (nest left : Int) (p : Addr) (w : World) (hp : w.cell? p = some (.int .i64 left)) (hz : w.frozen? p = false) (g0 : 0 ≤ left) (g1 : left ≤ 1024) (hl : decide (left - 1 < 0) = false) (q : ¬ len = 0) :
    Calls Try.prog 29 #[.pointer (some p), .agg #[.int .u8 0, .int .i64 0, .float .f64 0, .float .f64 0, .string ⟨#[]⟩, .slice a len cap], .int .i64 nest] w (MayNot left p w) := by
  have hpb : p.block < w.heap.size := World.block_lt_of_cell? w p hp
  have kb := run_bits
  have HP := Lib.hid (And.intro hp hz)
  have hfz : ∀ o, (w.alloc o).frozen? p = false := fun o => (frozen_new w o p hpb).trans hz
  have hc1 : ∀ j, ((w.alloc (.cells #[.int .u8 0, .int .i64 0, .float .f64 0, .float .f64 0, .string ⟨#[]⟩, .slice a len cap] 25)).setCell p (.int .i64 (left - 1))).cell? ⟨w.heap.size, j, none⟩ = (#[.int .u8 0, .int .i64 0, .float .f64 0, .float .f64 0, .string ⟨#[]⟩, .slice a len cap])[j]? := box_all (may_box hpb)
  go_enter Try.func29, Try.ntmps29
  simp only [List.append_eq, List.cons_append, List.nil_append]
  go_wp2_with ((go_at_call 44; (with_reducible refine (counts_0 _).mono ?_); rintro e w1 ⟨rfl, hb1⟩; have HE := Lib.hid (may_end HP.out.1 HP.out.2 hb1); have j1 := box_keep (may_box hpb) hb1; have j2 := HE.out.1; have j3 := fun ob => (cell_new w1 ob p (World.block_lt_of_cell? w1 p j2)).trans j2; have j4 := fun ob j => (cell_new w1 ob ⟨w.heap.size, j, none⟩ (by have := HE.out.2.2.size; have := hb1.size; simp [World.setCell] at this; show w.heap.size < _; omega)).trans (j1 j)))
  go_ret
  exact ⟨rfl, end_alloc HE.out _⟩
set_option maxRecDepth 100000 in
set_option maxHeartbeats 4000000 in
theorem mayY_0  (a : Option Addr) (cap : Nat) (nest left : Int) (p : Addr) (w : World) (hp : w.cell? p = some (.int .i64 left)) (hz : w.frozen? p = false) (g0 : 0 ≤ left) (g1 : left ≤ 1024) (hl : decide (left - 1 < 0) = false) :
    Calls Try.prog 29 #[.pointer (some p), .agg #[.int .u8 0, .int .i64 0, .float .f64 0, .float .f64 0, .string ⟨#[]⟩, .slice a 0 cap], .int .i64 nest] w (MayYes left p w) := by
  have hpb : p.block < w.heap.size := World.block_lt_of_cell? w p hp
  have kb := run_bits
  have HP := Lib.hid (And.intro hp hz)
  have hfz : ∀ o, (w.alloc o).frozen? p = false := fun o => (frozen_new w o p hpb).trans hz
  have hc1 : ∀ j, ((w.alloc (.cells #[.int .u8 0, .int .i64 0, .float .f64 0, .float .f64 0, .string ⟨#[]⟩, .slice a 0 cap] 25)).setCell p (.int .i64 (left - 1))).cell? ⟨w.heap.size, j, none⟩ = (#[.int .u8 0, .int .i64 0, .float .f64 0, .float .f64 0, .string ⟨#[]⟩, .slice a 0 cap])[j]? := box_all (may_box hpb)
  go_enter Try.func29, Try.ntmps29
  simp only [List.append_eq, List.cons_append, List.nil_append]
  go_wp2_with ((go_at_call 44; (with_reducible refine (counts_0 _).mono ?_); rintro e w1 ⟨rfl, hb1⟩; have HE := Lib.hid (may_end HP.out.1 HP.out.2 hb1); have j1 := box_keep (may_box hpb) hb1; have j2 := HE.out.1; have j3 := fun ob => (cell_new w1 ob p (World.block_lt_of_cell? w1 p j2)).trans j2; have j4 := fun ob j => (cell_new w1 ob ⟨w.heap.size, j, none⟩ (by have := HE.out.2.2.size; have := hb1.size; simp [World.setCell] at this; show w.heap.size < _; omega)).trans (j1 j)))
  go_loopw [118] (fun u118 wr => u118 = .int .i64 0 ∧ Hid (wr.cell? p = some (.int .i64 (left - 1)) ∧ wr.frozen? p = false ∧ Wr (fun k => k = p.block) w wr)) (fun _ _ => 0)
  case atStart => exact ⟨rfl, end_alloc HE.out _⟩
  case round =>
    obtain ⟨rfl, HX⟩ := hrel
    go_wp2_with fail
    go_ret
    exact ⟨rfl, HX.out⟩
set_option maxRecDepth 100000 in
set_option maxHeartbeats 4000000 in
theorem mayL_big (n : Int) (x : Nat) (y : Nat) (s : ByteArray) (len : Nat) (a : Option Addr) (cap : Nat) (nest left : Int) (p : Addr) (w : World) (hp : w.cell? p = some (.int .i64 left)) (hz : w.frozen? p = false) (g0 : 0 ≤ left) (g1 : left ≤ 1024) (kd : Int) (hk0 : 8 ≤ kd) (hk1 : kd ≤ 255) :
    Calls Try.prog 29 #[.pointer (some p), .agg #[.int .u8 kd, .int .i64 n, .float .f64 x, .float .f64 y, .string s, .slice a len cap], .int .i64 nest] w (MayNot left p w) := by
  have hpb : p.block < w.heap.size := World.block_lt_of_cell? w p hp
  have kb := run_bits
  have HP := Lib.hid (And.intro hp hz)
  have hfz : ∀ o, (w.alloc o).frozen? p = false := fun o => (frozen_new w o p hpb).trans hz
  have hc1 : ∀ j, ((w.alloc (.cells #[.int .u8 kd, .int .i64 n, .float .f64 x, .float .f64 y, .string s, .slice a len cap] 25)).setCell p (.int .i64 (left - 1))).cell? ⟨w.heap.size, j, none⟩ = (#[.int .u8 kd, .int .i64 n, .float .f64 x, .float .f64 y, .string s, .slice a len cap])[j]? := box_all (may_box hpb)
  go_enter Try.func29, Try.ntmps29
  simp only [List.append_eq, List.cons_append, List.nil_append]
  go_wp2_with ((go_at_call 44; (with_reducible refine (counts_big kd hk0 hk1 _).mono ?_); rintro e w1 ⟨rfl, hb1⟩; have HE := Lib.hid (may_end HP.out.1 HP.out.2 hb1); have j1 := box_keep (may_box hpb) hb1; have j2 := HE.out.1; have j3 := fun ob => (cell_new w1 ob p (World.block_lt_of_cell? w1 p j2)).trans j2; have j4 := fun ob j => (cell_new w1 ob ⟨w.heap.size, j, none⟩ (by have := HE.out.2.2.size; have := hb1.size; simp [World.setCell] at this; show w.heap.size < _; omega)).trans (j1 j)))
  go_ret
  exact ⟨rfl, end_alloc HE.out _⟩
end Go.Proofs.Ytaglklcjolcgeaa
