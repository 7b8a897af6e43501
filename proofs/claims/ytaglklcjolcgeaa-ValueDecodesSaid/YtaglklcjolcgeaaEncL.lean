/- The walks of the reference's writers: short, fixed, bits. The walk of the reference's bits. The walk of the reference's bytes: the bytes of a value. The walk of the reference's bytes: kind 1. The walk of the reference's bytes: kind 4. (Printed by genencs.py.) The walk of the reference's bytes: kinds 5, 6. (Printed by genencs.py.) How many bytes a value has at most. No program. -/
import Derived.Test.YtaglklcjolcgeaaNumb
import Derived.Laws.BytesArg
import Derived.Laws.IdiomStrings
import Derived.Test.YtaglklcjolcgeaaRTop
import Derived.Test.YtaglklcjolcgeaaWLast
import Derived.Test.YtaglklcjolcgeaaWWords
namespace Go.Proofs.Ytaglklcjolcgeaa
open Go.RowKit
set_option linter.unusedVariables false
set_option linter.unusedSimpArgs false
attribute [local go_sem] run_store_float
theorem two_bytes (n : Nat) : strOfNums [(n : Int) / 256 % 256, (n : Int) % 256] = ⟨(eb 2 n).toArray⟩ := by
  have e1 : UInt8.ofNat ((n : Int) / 256 % 256).toNat = UInt8.ofNat (n / 256) := by
    apply UInt8.toNat_inj.mp
    rw [UInt8.toNat_ofNat', UInt8.toNat_ofNat']
    omega
  have e2 : UInt8.ofNat ((n : Int) % 256).toNat = UInt8.ofNat n := by
    apply UInt8.toNat_inj.mp
    rw [UInt8.toNat_ofNat', UInt8.toNat_ofNat']
    omega
  show ByteArray.mk [UInt8.ofNat ((n : Int) / 256 % 256).toNat, UInt8.ofNat ((n : Int) % 256).toNat].toArray = _
  rw [e1, e2]
  rfl
theorem rshort_any (n : Nat) (hn : n ≤ 9223372036854775807) (w : World) :
    Calls Try.prog 58 #[.int .i64 n] w fun e w' => e = .returned (.string ⟨(eb 2 n).toArray⟩) ∧ Below w.heap.size w w' := by
  have hcv : ∀ z1 z2 : Int, (convert 68 9 (.slice (some ⟨w.heap.size, 0, none⟩) 2 2)).run Try.prog (w.alloc (.cells #[.int .u8 z1, .int .u8 z2] 5)) = .ok (.string (strOfNums [z1, z2])) (w.alloc (.cells #[.int .u8 z1, .int .u8 z2] 5)) := fun z1 z2 =>
    run_convert_bytes_arg (P := Try.prog) (w.alloc (.cells #[.int .u8 z1, .int .u8 z2] 5)) 68 5 Try.underlying68 Try.underlying5 w.heap.size 0 2 2 [z1, z2] rfl (fun i hi => by
      unfold World.cell?
      rw [heap_alloc_new]
      match i, hi with
      | 0, _ => rfl
      | 1, _ => rfl) 9 Try.underlying9
  go_enter Try.func58, Try.ntmps58
  go_wp2
  go_ret
  refine ⟨?_, bnew (Below.refl _ w) _⟩
  show Ending.returned (.string (strOfNums [(n : Int) / 256 % 256, (n : Int) % 256])) = _
  rw [two_bytes]
theorem eb_get : ∀ (k n j : Nat) (h : j < (eb k n).length), j < k → (eb k n)[j] = UInt8.ofNat (n / 256 ^ (k - 1 - j))
  | 0, n, j, h, hj => by omega
  | k + 1, n, j, h, hj => by
    have hl := eb_len k (n / 256)
    by_cases hjk : j < k
    · have e : (eb (k + 1) n)[j] = (eb k (n / 256))[j]'(by omega) := by
        show (eb k (n / 256) ++ [UInt8.ofNat n])[j]'(by simp; omega) = _
        rw [List.getElem_append_left (by omega)]
      rw [e, eb_get k (n / 256) j (by omega) hjk, Nat.div_div_eq_div_mul, Nat.mul_comm, ← Nat.pow_succ]
      congr 3
      omega
    · have e : (eb (k + 1) n)[j] = UInt8.ofNat n := by
        show (eb k (n / 256) ++ [UInt8.ofNat n])[j]'(by simp; omega) = _
        rw [List.getElem_append_right (by omega)]
        simp
      rw [e, show k + 1 - 1 - j = 0 by omega]
      simp
/-- The row of a number's bytes, so many of them written, from behind. -/
def RowB (w : World) (b n i : Nat) : Prop := ∀ j, j < 8 → w.frozen? ⟨b, j, none⟩ = false ∧ ∃ z : Int, w.cell? ⟨b, j, none⟩ = some (.int .u8 z) ∧ (8 - i ≤ j → z = ((UInt8.ofNat (n / 256 ^ (7 - j))).toNat : Int))
theorem RowB.put {w : World} {b n i m : Nat} (h : RowB w b n i) (hi : i < 8) (hm : n / 256 ^ i = m) : RowB (w.setCell ⟨b, 7 - i, none⟩ (.int .u8 ((m : Int) % 256))) b n (i + 1) := by
  subst hm
  refine fun j hj => ⟨(World.frozen?_setCell ..).trans (h j hj).1, ?_⟩
  by_cases hji : j = 7 - i
  · obtain ⟨z, hz, _⟩ := (h j hj).2
    subst hji
    refine ⟨_, World.cell?_setCell_same _ _ _ (by rw [hz]), fun _ => ?_⟩
    rw [UInt8.toNat_ofNat', show 7 - (7 - i) = i by omega]
    rfl
  · obtain ⟨z, hz, hv⟩ := (h j hj).2
    exact ⟨z, (World.cell?_setCell_other _ _ _ _ (by simp <;> omega)).trans hz, fun h8 => hv (by omega)⟩
theorem RowB.all {w : World} {b n : Nat} (h : RowB w b n 8) (j : Nat) (hj : j < (eb 8 n).length) : w.cell? ((⟨b, 0, none⟩ : Addr).add j) = some (.int .u8 ((eb 8 n)[j].toNat : Int)) := by
  have h8 : j < 8 := by rwa [eb_len] at hj
  obtain ⟨z, hz, hv⟩ := (h j h8).2
  rw [eb_get 8 n j hj h8, show 8 - 1 - j = 7 - j by omega, ← hv (by omega), ← hz]
  have e : ((⟨b, 0, none⟩ : Addr).add j) = ⟨b, j, none⟩ := by
    unfold Addr.add
    by_cases h0 : j = 0
    · subst h0; rfl
    · simp [h0]
  rw [e]
theorem rowB_new (w : World) (n : Nat) : RowB (w.alloc (.cells #[.int .u8 0, .int .u8 0, .int .u8 0, .int .u8 0, .int .u8 0, .int .u8 0, .int .u8 0, .int .u8 0] 5)) w.heap.size n 0 := by
  intro j hj
  have hn := heap_alloc_new w (.cells #[.int .u8 0, .int .u8 0, .int .u8 0, .int .u8 0, .int .u8 0, .int .u8 0, .int .u8 0, .int .u8 0] 5)
  refine ⟨?_, 0, ?_, fun h => by omega⟩
  · unfold World.frozen?
    rw [hn]
    simp
  · unfold World.cell?
    rw [hn]
    match j, hj with
    | 0, _ => rfl
    | 1, _ => rfl
    | 2, _ => rfl
    | 3, _ => rfl
    | 4, _ => rfl
    | 5, _ => rfl
    | 6, _ => rfl
    | 7, _ => rfl
theorem rfixed_any (n : Nat) (hn : n < 18446744073709551616) (w : World) :
    Calls Try.prog 56 #[.int .u64 n] w fun e w' => e = .returned (.string ⟨(eb 8 n).toArray⟩) ∧ Below w.heap.size w w' := by
  have hmk : (Instr.makeSlice 68 (.int .i64 8) (.int .i64 8)).run Try.prog w = .ok (.slice (some ⟨w.heap.size, 0, none⟩) 8 8) (w.alloc (.cells #[.int .u8 0, .int .u8 0, .int .u8 0, .int .u8 0, .int .u8 0, .int .u8 0, .int .u8 0, .int .u8 0] 5)) := by kernel_rfl
  go_enter Try.func56, Try.ntmps56
  go_wp2
  have hr0 := Lib.hid (rowB_new w n)
  have hb0 := Lib.hid (bnew (Below.refl w.heap.size w) (.cells #[.int .u8 0, .int .u8 0, .int .u8 0, .int .u8 0, .int .u8 0, .int .u8 0, .int .u8 0, .int .u8 0] 5))
  clear hmk
  go_loopw [0, 4] (fun u0 u4 wr => ∃ i m : Nat, i ≤ 8 ∧ u4 = .int .i64 i ∧ u0 = .int .u64 m ∧ m < 18446744073709551616 ∧ Hid (n / 256 ^ i = m) ∧ Hid (RowB wr w.heap.size n i) ∧ Hid (Below w.heap.size w wr)) (fun _ u4 _ => 8 - (intOf u4).toNat)
  case atStart => exact ⟨0, n, by omega, rfl, rfl, hn, by simp [Hid], hr0, hb0⟩
  case round =>
    obtain ⟨i, m, hi, rfl, rfl, hm2, hm, hr, hb⟩ := hrel
    clear hr0 hb0
    by_cases hlt : i < 8
    · have hq := Lib.hid (show n / 256 ^ (i + 1) = m / 256 by rw [← hm.out, Nat.div_div_eq_div_mul, Nat.pow_succ])
      obtain ⟨hz, z, hc, _⟩ := hr.out (7 - i) (by omega)
      have hp := Lib.hid (hr.out.put hlt hm.out)
      have hb' := Lib.hid (hb.out.setCell (p := ⟨w.heap.size, 7 - i, none⟩) (Nat.le_refl _) (.int .u8 ((m : Int) % 256)))
      go_wp2_with fail
      go_roundw
      case rel => exact ⟨i + 1, m / 256, by omega, by go_num, congrArg _ (by omega), by omega, hq, hp, hb'⟩
      case measure => simp [intOf]; omega
    · have h8 : i = 8 := by omega
      subst h8
      have hcv := run_convert_bytes_back (P := Try.prog) wr 68 9 5 ⟨w.heap.size, 0, none⟩ 8 (eb 8 n) Try.underlying68 Try.underlying5 Try.underlying9 (fun j hj => hr.out.all j hj)
      rw [eb_len] at hcv
      go_wp2_with fail
      go_ret
      exact ⟨rfl, hb.out⟩
end Go.Proofs.Ytaglklcjolcgeaa
namespace Go.Proofs.Ytaglklcjolcgeaa
open Go.RowKit
set_option linter.unusedVariables false
set_option linter.unusedSimpArgs false
attribute [local go_sem] run_store_float
theorem run_bits_e (x : Nat) (w : World) : Sem.run Try.prog (callFunc 45 #[.float .f64 x]) w = .ok (.value (.int .u64 x)) w := by
  have h := run_callFunc_extern (P := Try.prog) (f := 45) (fn := Try.f45) (e := Extern.MathFloatBits.float64bits) Try.func45 (by kernel_rfl) (by kernel_rfl) (by kernel_rfl) (by kernel_rfl) #[.float .f64 x] w
  rw [h]; rfl
theorem rbits_any (x : Nat) (hx : x < 18446744073709551616) (w : World) :
    Calls Try.prog 57 #[.float .f64 x] w fun e w' => e = .returned (.string ⟨(eb 8 (fbits x)).toArray⟩) ∧ Below w.heap.size w w' := by
  have kb := run_bits_e
  unfold fbits
  have hs : FloatKind.f64.format.order x x = if nanB x then none else some .eq := fo_self x
  cases hn : nanB x
  · rw [hn] at hs
    have hs : FloatKind.f64.format.order x x = some .eq := hs
    have ht : (FloatKind.f64.format.order x x != some .eq) = false := by rw [hs]; rfl
    go_enter Try.func57, Try.ntmps57
    go_wp2_with (go_at_call 56; (with_reducible refine (rfixed_any x hx _).mono ?_); rintro e w1 ⟨rfl, hb⟩)
    go_ret
    exact ⟨rfl, hb⟩
  · rw [hn] at hs
    have hs : FloatKind.f64.format.order x x = none := hs
    have ht : (FloatKind.f64.format.order x x != some .eq) = true := by rw [hs]; rfl
    have hR : ∀ W : World, Calls Try.prog 56 #[.int .u64 9221120237041090560] W fun e w' => e = .returned (.string ⟨(eb 8 9221120237041090560).toArray⟩) ∧ Below W.heap.size W w' := fun W => rfixed_any 9221120237041090560 (by omega) W
    rw [if_pos rfl]
    generalize eb 8 9221120237041090560 = z at hR ⊢
    go_enter Try.func57, Try.ntmps57
    go_wp2_with (go_at_call 56; (with_reducible refine (hR _).mono ?_); rintro e w1 ⟨rfl, hb⟩)
    go_ret
    exact ⟨rfl, hb⟩
end Go.Proofs.Ytaglklcjolcgeaa
namespace Go.Proofs.Ytaglklcjolcgeaa
open Go.RowKit
set_option linter.unusedVariables false
set_option linter.unusedSimpArgs false
attribute [local go_sem] run_store_float
def EncIs (l : Bs) (w : World) (e : Ending) (w' : World) : Prop := e = .returned (.string ⟨l.toArray⟩) ∧ Below w.heap.size w w'
theorem one_byte (w : World) (z : Int) (W : World) (h : W.cell? ⟨w.heap.size, 0, none⟩ = some (.int .u8 z)) : (convert 68 9 (.slice (some ⟨w.heap.size, 0, none⟩) 1 1)).run Try.prog W = .ok (.string (strOfNums [z])) W :=
  run_convert_bytes_arg (P := Try.prog) W 68 5 Try.underlying68 Try.underlying5 w.heap.size 0 1 1 [z] rfl (fun i hi => by
    match i, hi with
    | 0, _ => exact h) 9 Try.underlying9
theorem conv1 (w : World) (o : Obj) (z : Int) : (convert 68 9 (.slice (some ⟨w.heap.size + 1, 0, none⟩) 1 1)).run Try.prog ((w.alloc o).alloc (.cells #[.int .u8 z] 5)) = .ok (.string (strOfNums [z])) ((w.alloc o).alloc (.cells #[.int .u8 z] 5)) := by
  have h : (w.alloc o).heap.size = w.heap.size + 1 := by simp
  rw [← h]
  exact one_byte (w.alloc o) z _ (by unfold World.cell?; rw [heap_alloc_new]; rfl)
theorem word_wrap (n : Int) : IntKind.u64.wrap n = (word n : Int) := by
  rw [IntKind.wrap_u64]
  unfold word
  omega
theorem word_lt (n : Int) : word n < 18446744073709551616 := by unfold word; omega
theorem rfixed_w (n : Int) (W : World) : Calls Try.prog 56 #[.int .u64 (IntKind.u64.wrap n)] W fun e w' => e = .returned (.string ⟨(eb 8 (word n)).toArray⟩) ∧ Below W.heap.size W w' := by
  rw [word_wrap]
  exact rfixed_any (word n) (word_lt n) W
theorem put_one (z : Nat) (l : Bs) : strOfNums [(z : Int)] ++ (⟨l.toArray⟩ : ByteArray) = ⟨(UInt8.ofNat z :: l).toArray⟩ := by
  apply ByteArray.ext
  apply Array.ext'
  simp [strOfNums]
theorem rbytes_2 (n : Int) (x y : Nat) (s : ByteArray) (v5 : Value) (w : World) (hn : -9223372036854775808 ≤ n) (hn2 : n ≤ 9223372036854775807) :
    Calls Try.prog 38 #[.agg #[.int .u8 2, .int .i64 n, .float .f64 x, .float .f64 y, .string s, v5]] w (EncIs (2 :: eb 8 (word n)) w) := by
  have hc := fun o z => conv1 w o z
  go_enter Try.func38, Try.ntmps38
  go_wp2_with (go_at_call 56; (with_reducible refine (rfixed_w n _).mono ?_); rintro e w1 ⟨rfl, hb⟩)
  go_ret
  refine ⟨?_, bthen (bb2 w _ _) hb⟩
  show Ending.returned (.string (strOfNums [((2 : Nat) : Int)] ++ ⟨(eb 8 (word n)).toArray⟩)) = _
  rw [put_one]
  rfl
theorem rbytes_3 (n : Int) (x y : Nat) (s : ByteArray) (v5 : Value) (w : World) (hx : x < 18446744073709551616) :
    Calls Try.prog 38 #[.agg #[.int .u8 3, .int .i64 n, .float .f64 x, .float .f64 y, .string s, v5]] w (EncIs (3 :: eb 8 (fbits x)) w) := by
  have hc := fun o z => conv1 w o z
  have hl := eb_len 8 (fbits x)
  go_enter Try.func38, Try.ntmps38
  go_wp2_with (go_at_call 57; (with_reducible refine (rbits_any x hx _).mono ?_); rintro e w1 ⟨rfl, hb⟩)
  go_ret
  refine ⟨?_, bthen (bb2 w _ _) hb⟩
  show Ending.returned (.string (strOfNums [((3 : Nat) : Int)] ++ ⟨(eb 8 (fbits x)).toArray⟩)) = _
  rw [put_one]
  rfl
theorem rbytes_0 (k : Nat) (n : Int) (x y : Nat) (s : ByteArray) (v5 : Value) (w : World) (h1 : ¬ (k : Int) = 1) (h2 : ¬ (k : Int) = 2) (h3 : ¬ (k : Int) = 3) (h4 : ¬ (k : Int) = 4) (h5 : ¬ (k : Int) = 5) (h6 : ¬ (k : Int) = 6) (h7 : ¬ (k : Int) = 7) :
    Calls Try.prog 38 #[.agg #[.int .u8 k, .int .i64 n, .float .f64 x, .float .f64 y, .string s, v5]] w (EncIs [UInt8.ofNat k] w) := by
  have hc := fun o z => conv1 w o z
  go_enter Try.func38, Try.ntmps38
  go_wp2_with fail
  go_ret
  exact ⟨rfl, bb2 w _ _⟩
end Go.Proofs.Ytaglklcjolcgeaa
namespace Go.Proofs.Ytaglklcjolcgeaa
open Go.RowKit
set_option linter.unusedVariables false
set_option linter.unusedSimpArgs false
attribute [local go_sem] run_store_float
theorem conv2 (w : World) (o o2 : Obj) (z : Int) : (convert 68 9 (.slice (some ⟨w.heap.size + 2, 0, none⟩) 1 1)).run Try.prog (((w.alloc o).alloc o2).alloc (.cells #[.int .u8 z] 5)) = .ok (.string (strOfNums [z])) (((w.alloc o).alloc o2).alloc (.cells #[.int .u8 z] 5)) := by
  have h : ((w.alloc o).alloc o2).heap.size = w.heap.size + 2 := by simp
  rw [← h]
  exact one_byte ((w.alloc o).alloc o2) z _ (by unfold World.cell?; rw [heap_alloc_new]; rfl)
theorem rbytes_1 (n : Int) (x y : Nat) (s : ByteArray) (v5 : Value) (w : World) (hn : n = 0 ∨ n = 1) :
    Calls Try.prog 38 #[.agg #[.int .u8 1, .int .i64 n, .float .f64 x, .float .f64 y, .string s, v5]] w (EncIs [1, UInt8.ofNat (word n)] w) := by
  have hc := fun o z => conv1 w o z
  have hc2 := fun o o2 z => conv2 w o o2 z
  rcases hn with rfl | rfl
  · go_enter Try.func38, Try.ntmps38
    go_wp2_with fail
    go_ret
    refine ⟨rfl, bnew (bb2 w _ _) _⟩
  · go_enter Try.func38, Try.ntmps38
    go_wp2_with fail
    go_ret
    refine ⟨rfl, bnew (bb2 w _ _) _⟩
end Go.Proofs.Ytaglklcjolcgeaa
namespace Go.Proofs.Ytaglklcjolcgeaa
open Go Go.RowKit Go.Proofs.YtaglklcjolcgeaaW.PrintWords Go.Proofs.YtaglklcjolcgeaaW.PrintLast
set_option linter.unusedVariables false
set_option linter.unusedSimpArgs false
attribute [local go_sem] run_store_float
/-- A box. -/
def Box1 (B : Nat) (A : Array Value) (W : World) : Prop := (∀ j, W.cell? ⟨B, j, none⟩ = A[j]?) ∧ B < W.heap.size
theorem box1_below {B : Nat} {A : Array Value} {W W' : World} (h : Box1 B A W) (hb : Below W.heap.size W W') : Box1 B A W' :=
  ⟨fun j => (hb.cell (p := ⟨B, j, none⟩) h.2).trans (h.1 j), Nat.lt_of_lt_of_le h.2 hb.size⟩
theorem box1_all {W : World} {B : Nat} {cs : Array Value} {t : TypeId} (h : W.heap[B]? = some (.cells cs t (0, 0))) : ∀ j, W.cell? ⟨B, j, none⟩ = cs[j]? := fun j => by
  unfold World.cell?
  rw [h]
  rfl
theorem box1_of (w : World) (A : Array Value) (o : Obj) : Box1 w.heap.size A ((w.alloc (.cells A 25)).alloc o) := ⟨box1_all (two1 w _ _), by simp; omega⟩
set_option maxRecDepth 100000 in
set_option maxHeartbeats 2000000 in
theorem rbytes_4 (n : Int) (x y : Nat) (s : ByteArray) (v5 : Value) (w : World) (hx : x < 18446744073709551616) (hy : y < 18446744073709551616) :
    Calls Try.prog 38 #[.agg #[.int .u8 4, .int .i64 n, .float .f64 x, .float .f64 y, .string s, v5]] w (EncIs (4 :: (eb 8 (fbits x) ++ eb 8 (fbits y))) w) := by
  have hc := fun o z => conv1 w o z
  have hl := eb_len 8 (fbits x)
  have hl2 := eb_len 8 (fbits y)
  have hz1 : (strOfNums [4]).size = 1 := rfl
  have hz2 : (strOfNums [4] ++ (⟨(eb 8 (fbits x)).toArray⟩ : ByteArray)).size = 9 := by
    rw [ByteArray.size_append, hz1]
    show 1 + (eb 8 (fbits x)).length = 9
    rw [hl]
  have HX := Lib.hid (And.intro hx hy)
  have HT := Lib.hid (box1_of w #[.int .u8 4, .int .i64 n, .float .f64 x, .float .f64 y, .string s, v5] (.cells #[.int .u8 4] 5))
  have HB0 := Lib.hid (bb2 w (.cells #[.int .u8 4, .int .i64 n, .float .f64 x, .float .f64 y, .string s, v5] 25) (.cells #[.int .u8 4] 5))
  go_enter Try.func38, Try.ntmps38
  go_wp2_with fail
  refine start_ (n := 10) (S := Box1 w.heap.size #[.int .u8 4, .int .i64 n, .float .f64 x, .float .f64 y, .string s, v5]) (ds := []) #[false, false, false, false, false, false, false, false, false, false] (by kernel_rfl) rfl rfl (show Box1 _ _ (World.drew _) from HT.out) (fun hHeld => ?_)
  have HB1 := Lib.hid (show Below w.heap.size w (World.drew _) from HB0.out.drew)
  generalize World.drew _ = wd at hHeld HB1 ⊢
  refine pure_ (i := 0) (N := some 37) (v := ?_) (a' := ?_) #[true, false, false, false, false, false, false, false, false, false] rfl rfl (by kernel_rfl) (fun _ _ _ h => h) (Or.inl ⟨by rfl, ?_⟩) ?_ ?_
  rotate_left
  · intro w'
    go_simp
    with_reducible rfl
  rotate_left
  · simp only [Act.put, List.setIfInBounds_toArray, List.set_cons_zero, List.set_cons_succ, i64_w, i32_w]
    rfl
  refine pure_ (i := 1) (N := some 38) (v := ?_) (a' := ?_) #[true, true, false, false, false, false, false, false, false, false] rfl rfl (by kernel_rfl) (fun _ _ _ h => h) (Or.inl ⟨by rfl, ?_⟩) ?_ ?_
  rotate_left
  · intro w'
    go_simp
    with_reducible rfl
  rotate_left
  · simp only [Act.put, List.setIfInBounds_toArray, List.set_cons_zero, List.set_cons_succ, i64_w, i32_w]
    rfl
  refine take_ (i := 2) (N := some 39) (v := ?_) (a' := ?_) #[true, true, true, false, false, false, false, false, false, false] rfl rfl (by kernel_rfl) (fun _ _ _ h => h) (Or.inl ⟨by rfl, ?_⟩) hHeld ?_ ?_
  rotate_left
  · rintro w' ⟨s0, s1⟩
    go_simp
    with_reducible rfl
  rotate_left
  · simp only [Act.put, List.setIfInBounds_toArray, List.set_cons_zero, List.set_cons_succ, i64_w, i32_w]
    rfl
  refine pure_ (i := 5) (N := some 42) (v := ?_) (a' := ?_) #[true, true, true, false, false, true, false, false, false, false] rfl rfl (by kernel_rfl) (fun _ _ _ h => h) (Or.inl ⟨by rfl, ?_⟩) ?_ ?_
  rotate_left
  · intro w'
    go_simp
    with_reducible rfl
  rotate_left
  · simp only [Act.put, List.setIfInBounds_toArray, List.set_cons_zero, List.set_cons_succ, i64_w, i32_w]
    rfl
  refine take_ (i := 6) (N := some 43) (v := ?_) (a' := ?_) #[true, true, true, false, false, true, true, false, false, false] rfl rfl (by kernel_rfl) (fun _ _ _ h => h) (Or.inl ⟨by rfl, ?_⟩) hHeld ?_ ?_
  rotate_left
  · rintro w' ⟨s0, s1⟩
    go_simp
    with_reducible rfl
  rotate_left
  · simp only [Act.put, List.setIfInBounds_toArray, List.set_cons_zero, List.set_cons_succ, i64_w, i32_w]
    rfl
  refine one_ (i := 3) (N := some 40) #[true, true, true, true, false, true, true, false, false, false] rfl rfl (by kernel_rfl) (by decide) (fun K hK => ?_)
  refine goes_ Try.func57 (by kernel_rfl) (by kernel_rfl) #[.float .f64 x] (by rfl) rfl rfl (by (try simp only [List.map_toArray, List.map_cons, List.map_nil]); first | done | rfl) ?_
  refine (rbits_any x HX.out.1 _).mono ?_
  rintro e w2 ⟨rfl, hb⟩
  have HB2 := Lib.hid (bthen HB1.out hb)
  have hHeld2 := box1_below hHeld hb
  clear hb hHeld
  refine ⟨_, rfl, ?_⟩
  refine hK.out _ _ hHeld2 (fun hHeld => ?_)
  clear hK K hHeld2
  refine norm_ (a' := ?_) ?_ ?_
  rotate_left
  · show Act.put _ (some 40) _ = _
    simp only [Act.put, List.setIfInBounds_toArray, List.set_cons_zero, List.set_cons_succ, i64_w, i32_w]
    rfl
  refine pure_ (i := 4) (N := some 41) (v := ?_) (a' := ?_) #[true, true, true, true, true, true, true, false, false, false] rfl rfl (by kernel_rfl) (fun _ _ _ h => h) (Or.inl ⟨by rfl, ?_⟩) ?_ ?_
  rotate_left
  · intro w'
    go_simp
    with_reducible rfl
  rotate_left
  · simp only [Act.put, List.setIfInBounds_toArray, List.set_cons_zero, List.set_cons_succ, i64_w, i32_w]
    rfl
  refine one_ (i := 7) (N := some 44) #[true, true, true, true, true, true, true, true, false, false] rfl rfl (by kernel_rfl) (by decide) (fun K hK => ?_)
  refine goes_ Try.func57 (by kernel_rfl) (by kernel_rfl) #[.float .f64 y] (by rfl) rfl rfl (by (try simp only [List.map_toArray, List.map_cons, List.map_nil]); first | done | rfl) ?_
  refine (rbits_any y HX.out.2 _).mono ?_
  rintro e w3 ⟨rfl, hb⟩
  have HB3 := Lib.hid (bthen HB2.out hb)
  have hHeld2 := box1_below hHeld hb
  clear hb hHeld
  refine ⟨_, rfl, ?_⟩
  refine hK.out _ _ hHeld2 (fun hHeld => ?_)
  clear hK K hHeld2
  refine norm_ (a' := ?_) ?_ ?_
  rotate_left
  · show Act.put _ (some 44) _ = _
    simp only [Act.put, List.setIfInBounds_toArray, List.set_cons_zero, List.set_cons_succ, i64_w, i32_w]
    rfl
  refine pure_ (i := 8) (N := some 45) (v := ?_) (a' := ?_) #[true, true, true, true, true, true, true, true, true, false] rfl rfl (by kernel_rfl) (fun _ _ _ h => h) (Or.inl ⟨by rfl, ?_⟩) ?_ ?_
  rotate_left
  · intro w'
    go_simp
    with_reducible rfl
  rotate_left
  · simp only [Act.put, List.setIfInBounds_toArray, List.set_cons_zero, List.set_cons_succ, i64_w, i32_w]
    rfl
  refine pure_ (i := 9) (N := some 3) (v := ?_) (a' := ?_) #[true, true, true, true, true, true, true, true, true, true] rfl rfl (by kernel_rfl) (fun _ _ _ h => h) (Or.inl ⟨by rfl, ?_⟩) ?_ ?_
  rotate_left
  · intro w'
    go_simp
    with_reducible rfl
  rotate_left
  · simp only [Act.put, List.setIfInBounds_toArray, List.set_cons_zero, List.set_cons_succ, i64_w, i32_w]
    rfl
  refine done_ (by kernel_rfl) ?_
  go_wp2_with fail
  go_ret
  refine ⟨?_, HB3.out⟩
  show Ending.returned (.string (strOfNums [((4 : Nat) : Int)] ++ ⟨(eb 8 (fbits x)).toArray⟩ ++ ⟨(eb 8 (fbits y)).toArray⟩)) = _
  rw [put_one]
  rfl
end Go.Proofs.Ytaglklcjolcgeaa
namespace Go.Proofs.Ytaglklcjolcgeaa
open Go Go.RowKit Go.Proofs.YtaglklcjolcgeaaW.PrintWords Go.Proofs.YtaglklcjolcgeaaW.PrintLast
set_option linter.unusedVariables false
set_option linter.unusedSimpArgs false
attribute [local go_sem] run_store_float
set_option maxRecDepth 100000 in
set_option maxHeartbeats 2000000 in
theorem rbytes_5 (n : Int) (x y : Nat) (s : ByteArray) (v5 : Value) (w : World) (hs : s.size ≤ 4096) :
    Calls Try.prog 38 #[.agg #[.int .u8 5, .int .i64 n, .float .f64 x, .float .f64 y, .string s, v5]] w (EncIs (5 :: (eb 2 s.size ++ s.data.toList)) w) := by
  have hc := fun o z => conv1 w o z
  have hl := eb_len 2 s.size
  have hz1 : (strOfNums [5]).size = 1 := rfl
  have hz2 : (strOfNums [5] ++ (⟨(eb 2 s.size).toArray⟩ : ByteArray)).size = 3 := by
    rw [ByteArray.size_append, hz1]
    show 1 + (eb 2 s.size).length = 3
    rw [hl]
  have hz3 : ¬ 9223372036854775807 < 3 + s.size := by omega
  have HX := Lib.hid (show s.size ≤ 9223372036854775807 by omega)
  have HT := Lib.hid (box1_of w #[.int .u8 5, .int .i64 n, .float .f64 x, .float .f64 y, .string s, v5] (.cells #[.int .u8 5] 5))
  have HB0 := Lib.hid (bb2 w (.cells #[.int .u8 5, .int .i64 n, .float .f64 x, .float .f64 y, .string s, v5] 25) (.cells #[.int .u8 5] 5))
  go_enter Try.func38, Try.ntmps38
  go_wp2_with fail
  refine start_ (n := 10) (S := Box1 w.heap.size #[.int .u8 5, .int .i64 n, .float .f64 x, .float .f64 y, .string s, v5]) (ds := []) #[false, false, false, false, false, false, false, false, false, false] (by kernel_rfl) rfl rfl (show Box1 _ _ (World.drew _) from HT.out) (fun hHeld => ?_)
  have HB1 := Lib.hid (show Below w.heap.size w (World.drew _) from HB0.out.drew)
  generalize World.drew _ = wd at hHeld HB1 ⊢
  refine pure_ (i := 0) (N := some 49) (v := ?_) (a' := ?_) #[true, false, false, false, false, false, false, false, false, false] rfl rfl (by kernel_rfl) (fun _ _ _ h => h) (Or.inl ⟨by rfl, ?_⟩) ?_ ?_
  rotate_left
  · intro w'
    go_simp
    with_reducible rfl
  rotate_left
  · simp only [Act.put, List.setIfInBounds_toArray, List.set_cons_zero, List.set_cons_succ, i64_w, i32_w]
    rfl
  refine pure_ (i := 1) (N := some 50) (v := ?_) (a' := ?_) #[true, true, false, false, false, false, false, false, false, false] rfl rfl (by kernel_rfl) (fun _ _ _ h => h) (Or.inl ⟨by rfl, ?_⟩) ?_ ?_
  rotate_left
  · intro w'
    go_simp
    with_reducible rfl
  rotate_left
  · simp only [Act.put, List.setIfInBounds_toArray, List.set_cons_zero, List.set_cons_succ, i64_w, i32_w]
    rfl
  refine take_ (i := 2) (N := some 51) (v := ?_) (a' := ?_) #[true, true, true, false, false, false, false, false, false, false] rfl rfl (by kernel_rfl) (fun _ _ _ h => h) (Or.inl ⟨by rfl, ?_⟩) hHeld ?_ ?_
  rotate_left
  · rintro w' ⟨s0, s1⟩
    go_simp
    with_reducible rfl
  rotate_left
  · simp only [Act.put, List.setIfInBounds_toArray, List.set_cons_zero, List.set_cons_succ, i64_w, i32_w]
    rfl
  refine pure_ (i := 3) (N := some 52) (v := ?_) (a' := ?_) #[true, true, true, true, false, false, false, false, false, false] rfl rfl (by kernel_rfl) (fun _ _ _ h => h) (Or.inl ⟨by rfl, ?_⟩) ?_ ?_
  rotate_left
  · intro w'
    go_simp
    with_reducible rfl
  rotate_left
  · simp only [Act.put, List.setIfInBounds_toArray, List.set_cons_zero, List.set_cons_succ, i64_w, i32_w]
    rfl
  refine pure_ (i := 6) (N := some 55) (v := ?_) (a' := ?_) #[true, true, true, true, false, false, true, false, false, false] rfl rfl (by kernel_rfl) (fun _ _ _ h => h) (Or.inl ⟨by rfl, ?_⟩) ?_ ?_
  rotate_left
  · intro w'
    go_simp
    with_reducible rfl
  rotate_left
  · simp only [Act.put, List.setIfInBounds_toArray, List.set_cons_zero, List.set_cons_succ, i64_w, i32_w]
    rfl
  refine take_ (i := 7) (N := some 56) (v := ?_) (a' := ?_) #[true, true, true, true, false, false, true, true, false, false] rfl rfl (by kernel_rfl) (fun _ _ _ h => h) (Or.inl ⟨by rfl, ?_⟩) hHeld ?_ ?_
  rotate_left
  · rintro w' ⟨s0, s1⟩
    go_simp
    with_reducible rfl
  rotate_left
  · simp only [Act.put, List.setIfInBounds_toArray, List.set_cons_zero, List.set_cons_succ, i64_w, i32_w]
    rfl
  refine one_ (i := 4) (N := some 53) #[true, true, true, true, true, false, true, true, false, false] rfl rfl (by kernel_rfl) (by decide) (fun K hK => ?_)
  refine goes_ Try.func58 (by kernel_rfl) (by kernel_rfl) #[.int .i64 s.size] (by rfl) rfl rfl (by (try simp only [List.map_toArray, List.map_cons, List.map_nil]); first | done | rfl) ?_
  refine (rshort_any s.size HX.out _).mono ?_
  rintro e w2 ⟨rfl, hb⟩
  have HB2 := Lib.hid (bthen HB1.out hb)
  have hHeld2 := box1_below hHeld hb
  clear hb hHeld
  refine ⟨_, rfl, ?_⟩
  refine hK.out _ _ hHeld2 (fun hHeld => ?_)
  clear hK K hHeld2
  refine norm_ (a' := ?_) ?_ ?_
  rotate_left
  · show Act.put _ (some 53) _ = _
    simp only [Act.put, List.setIfInBounds_toArray, List.set_cons_zero, List.set_cons_succ, i64_w, i32_w]
    rfl
  refine pure_ (i := 5) (N := some 54) (v := ?_) (a' := ?_) #[true, true, true, true, true, true, true, true, false, false] rfl rfl (by kernel_rfl) (fun _ _ _ h => h) (Or.inl ⟨by rfl, ?_⟩) ?_ ?_
  rotate_left
  · intro w'
    go_simp
    with_reducible rfl
  rotate_left
  · simp only [Act.put, List.setIfInBounds_toArray, List.set_cons_zero, List.set_cons_succ, i64_w, i32_w]
    rfl
  refine pure_ (i := 8) (N := some 57) (v := ?_) (a' := ?_) #[true, true, true, true, true, true, true, true, true, false] rfl rfl (by kernel_rfl) (fun _ _ _ h => h) (Or.inl ⟨by rfl, ?_⟩) ?_ ?_
  rotate_left
  · intro w'
    go_simp
    with_reducible rfl
  rotate_left
  · simp only [Act.put, List.setIfInBounds_toArray, List.set_cons_zero, List.set_cons_succ, i64_w, i32_w]
    rfl
  refine pure_ (i := 9) (N := some 3) (v := ?_) (a' := ?_) #[true, true, true, true, true, true, true, true, true, true] rfl rfl (by kernel_rfl) (fun _ _ _ h => h) (Or.inl ⟨by rfl, ?_⟩) ?_ ?_
  rotate_left
  · intro w'
    go_simp
    with_reducible rfl
  rotate_left
  · simp only [Act.put, List.setIfInBounds_toArray, List.set_cons_zero, List.set_cons_succ, i64_w, i32_w]
    rfl
  refine done_ (by kernel_rfl) ?_
  go_wp2_with fail
  go_ret
  refine ⟨?_, HB2.out⟩
  show Ending.returned (.string (strOfNums [((5 : Nat) : Int)] ++ ⟨(eb 2 s.size).toArray⟩ ++ s)) = _
  rw [put_one]
  congr 2
set_option maxRecDepth 100000 in
set_option maxHeartbeats 2000000 in
theorem rbytes_6 (n : Int) (x y : Nat) (s : ByteArray) (v5 : Value) (w : World) (hs : s.size ≤ 4096) :
    Calls Try.prog 38 #[.agg #[.int .u8 6, .int .i64 n, .float .f64 x, .float .f64 y, .string s, v5]] w (EncIs (6 :: (eb 2 s.size ++ s.data.toList)) w) := by
  have hc := fun o z => conv1 w o z
  have hl := eb_len 2 s.size
  have hz1 : (strOfNums [6]).size = 1 := rfl
  have hz2 : (strOfNums [6] ++ (⟨(eb 2 s.size).toArray⟩ : ByteArray)).size = 3 := by
    rw [ByteArray.size_append, hz1]
    show 1 + (eb 2 s.size).length = 3
    rw [hl]
  have hz3 : ¬ 9223372036854775807 < 3 + s.size := by omega
  have HX := Lib.hid (show s.size ≤ 9223372036854775807 by omega)
  have HT := Lib.hid (box1_of w #[.int .u8 6, .int .i64 n, .float .f64 x, .float .f64 y, .string s, v5] (.cells #[.int .u8 6] 5))
  have HB0 := Lib.hid (bb2 w (.cells #[.int .u8 6, .int .i64 n, .float .f64 x, .float .f64 y, .string s, v5] 25) (.cells #[.int .u8 6] 5))
  go_enter Try.func38, Try.ntmps38
  go_wp2_with fail
  refine start_ (n := 10) (S := Box1 w.heap.size #[.int .u8 6, .int .i64 n, .float .f64 x, .float .f64 y, .string s, v5]) (ds := []) #[false, false, false, false, false, false, false, false, false, false] (by kernel_rfl) rfl rfl (show Box1 _ _ (World.drew _) from HT.out) (fun hHeld => ?_)
  have HB1 := Lib.hid (show Below w.heap.size w (World.drew _) from HB0.out.drew)
  generalize World.drew _ = wd at hHeld HB1 ⊢
  refine pure_ (i := 0) (N := some 49) (v := ?_) (a' := ?_) #[true, false, false, false, false, false, false, false, false, false] rfl rfl (by kernel_rfl) (fun _ _ _ h => h) (Or.inl ⟨by rfl, ?_⟩) ?_ ?_
  rotate_left
  · intro w'
    go_simp
    with_reducible rfl
  rotate_left
  · simp only [Act.put, List.setIfInBounds_toArray, List.set_cons_zero, List.set_cons_succ, i64_w, i32_w]
    rfl
  refine pure_ (i := 1) (N := some 50) (v := ?_) (a' := ?_) #[true, true, false, false, false, false, false, false, false, false] rfl rfl (by kernel_rfl) (fun _ _ _ h => h) (Or.inl ⟨by rfl, ?_⟩) ?_ ?_
  rotate_left
  · intro w'
    go_simp
    with_reducible rfl
  rotate_left
  · simp only [Act.put, List.setIfInBounds_toArray, List.set_cons_zero, List.set_cons_succ, i64_w, i32_w]
    rfl
  refine take_ (i := 2) (N := some 51) (v := ?_) (a' := ?_) #[true, true, true, false, false, false, false, false, false, false] rfl rfl (by kernel_rfl) (fun _ _ _ h => h) (Or.inl ⟨by rfl, ?_⟩) hHeld ?_ ?_
  rotate_left
  · rintro w' ⟨s0, s1⟩
    go_simp
    with_reducible rfl
  rotate_left
  · simp only [Act.put, List.setIfInBounds_toArray, List.set_cons_zero, List.set_cons_succ, i64_w, i32_w]
    rfl
  refine pure_ (i := 3) (N := some 52) (v := ?_) (a' := ?_) #[true, true, true, true, false, false, false, false, false, false] rfl rfl (by kernel_rfl) (fun _ _ _ h => h) (Or.inl ⟨by rfl, ?_⟩) ?_ ?_
  rotate_left
  · intro w'
    go_simp
    with_reducible rfl
  rotate_left
  · simp only [Act.put, List.setIfInBounds_toArray, List.set_cons_zero, List.set_cons_succ, i64_w, i32_w]
    rfl
  refine pure_ (i := 6) (N := some 55) (v := ?_) (a' := ?_) #[true, true, true, true, false, false, true, false, false, false] rfl rfl (by kernel_rfl) (fun _ _ _ h => h) (Or.inl ⟨by rfl, ?_⟩) ?_ ?_
  rotate_left
  · intro w'
    go_simp
    with_reducible rfl
  rotate_left
  · simp only [Act.put, List.setIfInBounds_toArray, List.set_cons_zero, List.set_cons_succ, i64_w, i32_w]
    rfl
  refine take_ (i := 7) (N := some 56) (v := ?_) (a' := ?_) #[true, true, true, true, false, false, true, true, false, false] rfl rfl (by kernel_rfl) (fun _ _ _ h => h) (Or.inl ⟨by rfl, ?_⟩) hHeld ?_ ?_
  rotate_left
  · rintro w' ⟨s0, s1⟩
    go_simp
    with_reducible rfl
  rotate_left
  · simp only [Act.put, List.setIfInBounds_toArray, List.set_cons_zero, List.set_cons_succ, i64_w, i32_w]
    rfl
  refine one_ (i := 4) (N := some 53) #[true, true, true, true, true, false, true, true, false, false] rfl rfl (by kernel_rfl) (by decide) (fun K hK => ?_)
  refine goes_ Try.func58 (by kernel_rfl) (by kernel_rfl) #[.int .i64 s.size] (by rfl) rfl rfl (by (try simp only [List.map_toArray, List.map_cons, List.map_nil]); first | done | rfl) ?_
  refine (rshort_any s.size HX.out _).mono ?_
  rintro e w2 ⟨rfl, hb⟩
  have HB2 := Lib.hid (bthen HB1.out hb)
  have hHeld2 := box1_below hHeld hb
  clear hb hHeld
  refine ⟨_, rfl, ?_⟩
  refine hK.out _ _ hHeld2 (fun hHeld => ?_)
  clear hK K hHeld2
  refine norm_ (a' := ?_) ?_ ?_
  rotate_left
  · show Act.put _ (some 53) _ = _
    simp only [Act.put, List.setIfInBounds_toArray, List.set_cons_zero, List.set_cons_succ, i64_w, i32_w]
    rfl
  refine pure_ (i := 5) (N := some 54) (v := ?_) (a' := ?_) #[true, true, true, true, true, true, true, true, false, false] rfl rfl (by kernel_rfl) (fun _ _ _ h => h) (Or.inl ⟨by rfl, ?_⟩) ?_ ?_
  rotate_left
  · intro w'
    go_simp
    with_reducible rfl
  rotate_left
  · simp only [Act.put, List.setIfInBounds_toArray, List.set_cons_zero, List.set_cons_succ, i64_w, i32_w]
    rfl
  refine pure_ (i := 8) (N := some 57) (v := ?_) (a' := ?_) #[true, true, true, true, true, true, true, true, true, false] rfl rfl (by kernel_rfl) (fun _ _ _ h => h) (Or.inl ⟨by rfl, ?_⟩) ?_ ?_
  rotate_left
  · intro w'
    go_simp
    with_reducible rfl
  rotate_left
  · simp only [Act.put, List.setIfInBounds_toArray, List.set_cons_zero, List.set_cons_succ, i64_w, i32_w]
    rfl
  refine pure_ (i := 9) (N := some 3) (v := ?_) (a' := ?_) #[true, true, true, true, true, true, true, true, true, true] rfl rfl (by kernel_rfl) (fun _ _ _ h => h) (Or.inl ⟨by rfl, ?_⟩) ?_ ?_
  rotate_left
  · intro w'
    go_simp
    with_reducible rfl
  rotate_left
  · simp only [Act.put, List.setIfInBounds_toArray, List.set_cons_zero, List.set_cons_succ, i64_w, i32_w]
    rfl
  refine done_ (by kernel_rfl) ?_
  go_wp2_with fail
  go_ret
  refine ⟨?_, HB2.out⟩
  show Ending.returned (.string (strOfNums [((6 : Nat) : Int)] ++ ⟨(eb 2 s.size).toArray⟩ ++ s)) = _
  rw [put_one]
  congr 2
end Go.Proofs.Ytaglklcjolcgeaa
namespace Go.Proofs.Ytaglklcjolcgeaa
open Go.RowKit
set_option linter.unusedVariables false
set_option linter.unusedSimpArgs false
theorem okB_str {kd n : Int} {x y : Nat} {s : ByteArray} {len : Nat} {nest : Int} (hk : kd = 5 ∨ kd = 6) (h : okB kd n x y s len nest = true) : s.size ≤ 4096 := by
  unfold okB at h
  rcases hk with rfl | rfl
  · simp at h; omega
  · simp at h; omega
mutual
theorem encV_len : ∀ (v : Va) (nest : Int), v.alln nest → (encV v).length ≤ 5000 * v.size
  | .mk kd n x y s rs, nest => fun h => by
    unfold Va.alln at h
    have hL := encL_len rs (nest + 1) h.2
    unfold encV Va.size
    rw [List.length_cons]
    split
    · simp; omega
    · split
      · rw [eb_len]; omega
      · split
        · rw [eb_len]; omega
        · split
          · rw [List.length_append, eb_len, eb_len]; omega
          · split
            · rename_i hk
              have := okB_str hk h.1
              rw [List.length_append, eb_len]
              have e : s.data.toList.length = s.size := by simp
              omega
            · split
              · rw [List.length_append, eb_len]; omega
              · simp; omega
theorem encL_len : ∀ (rs : List Va) (nest : Int), Va.allns rs nest → (encL rs).length ≤ 5000 * Va.sizes rs
  | [], nest => fun h => by unfold encL; simp
  | r :: rs, nest => fun h => by
    unfold Va.allns at h
    have h1 := encV_len r nest h.1
    have h2 := encL_len rs nest h.2
    unfold encL Va.sizes
    rw [List.length_append]
    omega
end
theorem encL_take (rs : List Va) (k : Nat) (hk : k < rs.length) : encL (rs.take (k + 1)) = encL (rs.take k) ++ encV rs[k] := by
  rw [List.take_succ_eq_append_getElem hk]
  generalize rs.take k = a
  induction a with
  | nil => show encL [rs[k]] = _; unfold encL encL; simp
  | cons r a ih => show encL (r :: (a ++ [rs[k]])) = _; unfold encL; rw [ih, List.append_assoc]
end Go.Proofs.Ytaglklcjolcgeaa
