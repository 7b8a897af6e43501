/- The walks of the reference's number, floats, texts; math.Signbit. The walks of cmp.Compare, cmp.Or, value.floats, strings.Compare. The walks of the reference's 'count' and 'Check'. -/
import Derived.Test.YtaglklcjolcgeaaRLeaf
import Derived.Defers
import Derived.Lib.Bytealg
import Derived.Laws.Externs
namespace Go.Proofs.Ytaglklcjolcgeaa
open Go.RowKit
set_option linter.unusedVariables false
set_option linter.unusedSimpArgs false
theorem number_any (a b : Bool) (w : World) : Calls Try.prog 47 #[.bool a, .bool b] w fun e w' => e = .returned (.int .i8 (numb a b)) ∧ w = w' := by
  cases a <;> cases b
  all_goals
    go_enter Try.func47, Try.ntmps47
    go_wp2_with fail
    go_ret
    exact ⟨rfl, rfl⟩
theorem bytesLess_cmp : ∀ a b : List UInt8, numb (Op.bytesLess a b) (!Op.bytesLess a b && !(a == b)) = Lib.compareBytes a b
  | [], [] => rfl
  | [], _ :: _ => rfl
  | _ :: _, [] => rfl
  | a :: u, b :: v => by
    have ih := bytesLess_cmp u v
    unfold Op.bytesLess Lib.compareBytes
    by_cases h1 : a < b
    · simp [h1, numb]
    · rw [if_neg h1]
      by_cases h2 : b < a
      · have h3 : (a == b) = false := by
          rw [beq_eq_false_iff_ne]
          rintro rfl
          exact h1 h2
        rw [if_pos h2]
        have h4 : ¬ a = b := by simpa using h3
        simp [h1, h3, h4, numb]
      · have h3 : a = b := by
          simp only [UInt8.lt_iff_toNat_lt] at h1 h2
          exact UInt8.toNat_inj.1 (by omega)
        subst h3
        rw [if_neg h2, ← ih]
        simp
theorem rtexts_any (s t : ByteArray) (w : World) : Calls Try.prog 49 #[.string s, .string t] w fun e w' => e = .returned (.int .i8 (ordS s t)) ∧ w = w' := by
  go_enter Try.func49, Try.ntmps49
  go_wp2_with (go_at_call 47; (with_reducible refine (number_any _ _ _).mono ?_); rintro e w' ⟨rfl, rfl⟩)
  go_ret
  refine ⟨?_, rfl⟩
  show Ending.returned (.int .i8 _) = _
  rw [bytesLess_cmp]
  unfold ordS
  rw [ByteArray.toList_eq, ByteArray.toList_eq]
theorem signbit_any (x : Nat) (hx : x < 18446744073709551616) (w : World) : Calls Try.prog 63 #[.float .f64 x] w fun e w' => e = .returned (.bool (sgB x)) ∧ w = w' := by
  have kb := run_bits
  go_enter Try.func63, Try.ntmps63
  go_wp2_with fail
  go_ret
  refine ⟨rb ?_, rfl⟩
  unfold sgB
  by_cases h : 9223372036854775808 ≤ x
  · rw [decide_eq_true h]
    exact decide_eq_true (by unfold wrap64; omega)
  · rw [decide_eq_false h]
    exact decide_eq_false (by unfold wrap64; omega)
theorem nan_ne {x : Nat} {b : Bool} (h : nanB x = b) : (FloatKind.f64.format.order x x != some .eq) = b := by
  have := fo_self x
  unfold fo at this
  rw [this, h]
  cases b <;> rfl
theorem nan_eq {x : Nat} {b : Bool} (h : nanB x = b) : (FloatKind.f64.format.order x x == some .eq) = !b := by
  have := fo_self x
  unfold fo at this
  rw [this, h]
  cases b <;> rfl
theorem zer_is {x : Nat} {b : Bool} (h : zerB x = b) : (FloatKind.f64.format.order x 0 == some .eq) = b := by
  have := fo_zero x
  unfold fo at this
  rw [h] at this
  cases b
  · rw [beq_eq_false_iff_ne]
    intro e
    exact absurd (this.1 e) (by simp)
  · rw [this.2 rfl]; rfl
theorem zer_ne {x : Nat} {b : Bool} (h : zerB x = b) : (FloatKind.f64.format.order x 0 != some .eq) = !b := by
  rw [bne, zer_is h]
set_option maxHeartbeats 1000000 in
theorem rfloats_any (x y : Nat) (hx : x < 18446744073709551616) (hy : y < 18446744073709551616) (w : World) : Calls Try.prog 48 #[.float .f64 x, .float .f64 y] w fun e w' => e = .returned (.int .i8 (ordF x y)) ∧ w = w' := by
  cases h1 : nanB x <;> cases h2 : nanB y <;> cases h3 : zerB x <;> cases h4 : zerB y
  all_goals
    have n1 := nan_ne h1
    have n2 := nan_ne h2
    have n3 := nan_eq h1
    have n4 := nan_eq h2
    have n5 := zer_is h3
    have n6 := zer_is h4
    have H := Lib.hid (And.intro h1 (And.intro h2 (And.intro h3 h4)))
    clear h1 h2 h3 h4
    simp only [Bool.not_true, Bool.not_false] at n3 n4
    go_enter Try.func48, Try.ntmps48
    go_wp2_with (first | (go_at_call 47; (with_reducible refine (number_any _ _ _).mono ?_); rintro e w' ⟨rfl, rfl⟩) | (go_at_call 63; (with_reducible refine (signbit_any x hx _).mono ?_); rintro e w' ⟨rfl, rfl⟩) | (go_at_call 63; (with_reducible refine (signbit_any y hy _).mono ?_); rintro e w' ⟨rfl, rfl⟩))
    all_goals
      go_ret
      refine ⟨?_, rfl⟩
      obtain ⟨h1, h2, h3, h4⟩ := H.out
      unfold ordF fo
      rw [h1, h2, h3, h4]
      first | rfl | simp [*]
end Go.Proofs.Ytaglklcjolcgeaa
namespace Go.Proofs.Ytaglklcjolcgeaa
open Go.RowKit
set_option linter.unusedVariables false
set_option linter.unusedSimpArgs false
theorem cmpU_any (a b : Int) (w : World) : Calls Try.prog 50 #[.int .u8 a, .int .u8 b] w fun e w' => e = .returned (.int .i64 (numb (decide (a < b)) (decide (b < a)))) ∧ w = w' := by
  have q1 : (a != a) = false := by simp
  have q2 : (b != b) = false := by simp
  rcases Int.lt_trichotomy a b with h | h | h
  · have d1 : decide (a < b) = true := decide_eq_true h
    go_enter Try.func50, Try.ntmps50
    go_wp2
    go_ret
    exact ⟨by rw [d1]; rfl, rfl⟩
  · have d1 : decide (a < b) = false := decide_eq_false (by omega)
    have d2 : decide (b < a) = false := decide_eq_false (by omega)
    go_enter Try.func50, Try.ntmps50
    go_wp2
    go_ret
    exact ⟨by rw [d1, d2]; rfl, rfl⟩
  · have d1 : decide (a < b) = false := decide_eq_false (by omega)
    have d2 : decide (b < a) = true := decide_eq_true h
    go_enter Try.func50, Try.ntmps50
    go_wp2
    go_ret
    exact ⟨by rw [d1, d2]; rfl, rfl⟩
theorem cmpI_any (a b : Int) (w : World) : Calls Try.prog 52 #[.int .i64 a, .int .i64 b] w fun e w' => e = .returned (.int .i64 (numb (decide (a < b)) (decide (b < a)))) ∧ w = w' := by
  have q1 : (a != a) = false := by simp
  have q2 : (b != b) = false := by simp
  rcases Int.lt_trichotomy a b with h | h | h
  · have d1 : decide (a < b) = true := decide_eq_true h
    go_enter Try.func52, Try.ntmps52
    go_wp2
    go_ret
    exact ⟨by rw [d1]; rfl, rfl⟩
  · have d1 : decide (a < b) = false := decide_eq_false (by omega)
    have d2 : decide (b < a) = false := decide_eq_false (by omega)
    go_enter Try.func52, Try.ntmps52
    go_wp2
    go_ret
    exact ⟨by rw [d1, d2]; rfl, rfl⟩
  · have d1 : decide (a < b) = false := decide_eq_false (by omega)
    have d2 : decide (b < a) = true := decide_eq_true h
    go_enter Try.func52, Try.ntmps52
    go_wp2
    go_ret
    exact ⟨by rw [d1, d2]; rfl, rfl⟩
/-- cmp.Compare of two floats. -/
def cmpFl (x y : Nat) : Int := if nanB x || nanB y then numb (nanB x && !nanB y) (!nanB x && nanB y) else numb (fo x y == some .lt) (fo x y == some .gt)
set_option maxHeartbeats 1000000 in
theorem cmpF_any (x y : Nat) (w : World) : Calls Try.prog 66 #[.float .f64 x, .float .f64 y] w fun e w' => e = .returned (.int .i64 (cmpFl x y)) ∧ w = w' := by
  cases h1 : nanB x <;> cases h2 : nanB y
  all_goals
    have n1 := nan_ne h1
    have n2 := nan_ne h2
    have H := Lib.hid (And.intro h1 h2)
    clear h1 h2
    cases f1 : (FloatKind.f64.format.order x y == some .lt) <;> cases f2 : (FloatKind.f64.format.order x y == some .gt)
    all_goals
      go_enter Try.func66, Try.ntmps66
      go_wp2
      go_ret
      refine ⟨?_, rfl⟩
      obtain ⟨h1, h2⟩ := H.out
      unfold cmpFl fo
      rw [h1, h2]
      first | rfl | (rw [f1, f2]; rfl) | (rw [f1]; rfl) | simp [*]
theorem sign_any (x : Nat) (hx : x < 18446744073709551616) (w : World) : Calls Try.prog 67 #[.float .f64 x] w fun e w' => e = .returned (.int .i64 (if sgB x then 0 else 1)) ∧ w = w' := by
  cases h : sgB x
  all_goals
    have H := Lib.hid h
    clear h
    go_enter Try.func67, Try.ntmps67
    go_wp2_with (go_at_call 63; (with_reducible refine (signbit_any x hx _).mono ?_); rintro e w' ⟨rfl, rfl⟩; rw [H.out])
    go_ret
    exact ⟨rfl, rfl⟩
/-- cmp.Compare says 0 and the first is a nought: the second is one too, and neither is NaN. -/
theorem cmpFl_zero {x y : Nat} (h : cmpFl x y = 0) (hz : zerB x = true) : nanB x = false ∧ nanB y = false ∧ zerB y = true := by
  have hnx : nanB x = false := by
    unfold zerB at hz
    unfold nanB
    cases hd : FloatKind.f64.format.read x with
    | nan s t => rw [hd] at hz; cases hz
    | infinity s => rfl
    | number s m i => rfl
  have hny : nanB y = false := by
    cases hy : nanB y
    · rfl
    · unfold cmpFl at h
      rw [hnx, hy] at h
      cases h
  refine ⟨hnx, hny, ?_⟩
  unfold cmpFl at h
  rw [hnx, hny] at h
  simp only [Bool.or_self, Bool.false_eq_true, if_false] at h
  cases hf : fo x y with
  | none =>
    rcases (fo_none x y).1 hf with h | h
    · rw [hnx] at h; cases h
    · rw [hny] at h; cases h
  | some o =>
    rw [hf] at h
    cases o
    · cases h
    · rw [← fo_zeros hf]; exact hz
    · cases h
set_option maxHeartbeats 1000000 in
theorem floats_any (x y : Nat) (hx : x < 18446744073709551616) (hy : y < 18446744073709551616) (w : World) : Calls Try.prog 53 #[.float .f64 x, .float .f64 y] w fun e w' => e = .returned (.int .i64 (ordF x y)) ∧ w = w' := by
  cases hc : (cmpFl x y != 0)
  · cases h3 : zerB x
    · have n5 := zer_ne h3
      have H := Lib.hid (And.intro hc h3)
      simp only [Bool.not_false] at n5
      clear h3
      go_enter Try.func53, Try.ntmps53
      go_wp2_with (go_at_call 66; (with_reducible refine (cmpF_any x y _).mono ?_); rintro e w' ⟨rfl, rfl⟩)
      go_ret
      refine ⟨?_, rfl⟩
      show Ending.returned (.int .i64 (cmpFl x y)) = _
      unfold ordF cmpFl
      rw [H.out.2]
      rfl
    · have n5 := zer_ne h3
      have h0 : cmpFl x y = 0 := by simpa using hc
      have H := Lib.hid (And.intro h0 (And.intro h3 (cmpFl_zero h0 h3)))
      simp only [Bool.not_true] at n5
      clear h3 h0
      go_enter Try.func53, Try.ntmps53
      go_wp2_with (first | (go_at_call 66; (with_reducible refine (cmpF_any x y _).mono ?_); rintro e w' ⟨rfl, rfl⟩) | (go_at_call 67; (with_reducible refine (sign_any x hx _).mono ?_); rintro e w' ⟨rfl, rfl⟩) | (go_at_call 67; (with_reducible refine (sign_any y hy _).mono ?_); rintro e w' ⟨rfl, rfl⟩))
      all_goals
        go_ret
        refine ⟨?_, rfl⟩
        obtain ⟨h0, h3, h4, h5, h6⟩ := H.out
        unfold ordF
        rw [h4, h5, h3, h6]
        cases hs : sgB x <;> cases ht : sgB y <;> first | rfl | (exfalso; simp_all; done)
  · have H := Lib.hid hc
    go_enter Try.func53, Try.ntmps53
    go_wp2_with (go_at_call 66; (with_reducible refine (cmpF_any x y _).mono ?_); rintro e w' ⟨rfl, rfl⟩)
    go_ret
    refine ⟨?_, rfl⟩
    show Ending.returned (.int .i64 (cmpFl x y)) = _
    unfold ordF
    cases h3 : (zerB x && zerB y)
    · unfold cmpFl; rfl
    · have hz : zerB x = true ∧ zerB y = true := by simpa using h3
      exfalso
      have he := zer_eq hz.1 hz.2
      have hne := H.out
      unfold cmpFl at hne
      have hn : fo x y ≠ none := by rw [he]; simp
      have hn1 : ¬ (nanB x = true ∨ nanB y = true) := fun h => hn ((fo_none x y).2 h)
      have a1 : nanB x = false := by cases h : nanB x; rfl; exact absurd (.inl h) hn1
      have a2 : nanB y = false := by cases h : nanB y; rfl; exact absurd (.inr h) hn1
      rw [a1, a2, he] at hne
      cases hne
theorem run_rtcmp (s t : ByteArray) (w : World) : (callFunc 70 #[.string s, .string t]).run Try.prog w = .ok (.value (.int .i64 (ordS s t))) w := by
  have h := run_callFunc_extern (P := Try.prog) (f := 70) (fn := Try.f70) (e := Extern.BytealgCompare.compare) Try.func70 (by kernel_rfl) (by kernel_rfl) (by kernel_rfl) (by kernel_rfl) #[.string s, .string t] w
  rw [h]
  have := Lib.run_compareString (P := Try.prog) s t w
  rw [this]
  rfl
theorem strcmp_any (s t : ByteArray) (w : World) : Calls Try.prog 54 #[.string s, .string t] w fun e w' => e = .returned (.int .i64 (ordS s t)) ∧ w = w' := by
  have kb := run_rtcmp
  go_enter Try.func54, Try.ntmps54
  go_wp2
  go_ret
  exact ⟨rfl, rfl⟩
theorem orN_zero (xs : List Int) (k : Nat) (hk : k < xs.length) (h : xs[k] = 0) : orN (xs.drop k) = orN (xs.drop (k + 1)) := by
  rw [List.drop_eq_getElem_cons hk]
  conv => lhs; unfold orN
  rw [if_neg (by omega)]
theorem orN_some (xs : List Int) (k : Nat) (hk : k < xs.length) (h : ¬ xs[k] = 0) : orN (xs.drop k) = xs[k] := by
  rw [List.drop_eq_getElem_cons hk]
  unfold orN
  rw [if_pos h]
set_option maxHeartbeats 1000000 in
theorem or_any (xs : List Int) (g cap : Nat) (w : World) (hl : xs.length ≤ 1000) (hx : w.rangeAt g 0 (xs.map (Value.int .i64))) :
    Calls Try.prog 51 #[.slice (some ⟨g, 0, none⟩) xs.length cap] w fun e w' => e = .returned (.int .i64 (orN xs)) ∧ w = w' := by
  go_enter Try.func51, Try.ntmps51
  go_wp2_with fail
  go_loopw [8] (fun u8 wr => ∃ k : Nat, k ≤ xs.length ∧ u8 = .int .i64 k ∧ Hid (orN (xs.drop k) = orN xs) ∧ w = wr) (fun u8 _ => xs.length - (intOf u8).toNat)
  case atStart => exact ⟨0, by omega, rfl, rfl, rfl⟩
  case round =>
    obtain ⟨k, hk, rfl, hf, rfl⟩ := hrel
    by_cases hlt : k < xs.length
    · have hri : (0:Int) ≤ (k:Int) := by omega
      have hri2 : (k:Int) < (xs.length:Int) := by omega
      have hc : w.cell? ⟨g, k, none⟩ = some (.int .i64 xs[k]) := by
        have := hx k (.int .i64 xs[k]) (by simp [hlt])
        simpa using this
      by_cases h0 : xs[k] = 0
      · have hb : (xs[k] != 0) = false := by simpa using h0
        have H0 := Lib.hid h0
        clear h0
        go_wp2_with fail
        go_roundw
        case rel => exact ⟨k + 1, by omega, by go_num, (orN_zero xs k hlt H0.out).symm.trans hf, by first | rfl | trivial⟩
        case measure => simp [intOf]; omega
      · have hb : (xs[k] != 0) = true := by simpa using h0
        have H0 := Lib.hid h0
        clear h0
        go_wp2_with fail
        go_ret
        exact ⟨by rw [← hf.out, orN_some xs k hlt H0.out]; rfl, rfl⟩
    · have hk' : k = xs.length := by omega
      go_wp2_with fail
      go_ret
      refine ⟨?_, rfl⟩
      rw [← hf.out, hk', List.drop_length]
      rfl
end Go.Proofs.Ytaglklcjolcgeaa
namespace Go.Proofs.Ytaglklcjolcgeaa
open Go.RowKit
set_option linter.unusedVariables false
set_option linter.unusedSimpArgs false
attribute [local go_sem] run_store_float
def CntIs (r : Va) (nest left : Int) (w : World) (e : Ending) (w' : World) : Prop := e = .returned (.int .i64 (r.cnt nest left)) ∧ Below w.heap.size w w'
theorem isEmpty_size (s : ByteArray) : s.toList.isEmpty = decide (s.size = 0) := by
  cases s with
  | mk d => cases d with
    | mk l => cases l <;> simp [ByteArray.size, ByteArray.isEmpty]
theorem cnt_leaf {kd n : Int} {x y : Nat} {s : ByteArray} {rs : List Va} {nest left : Int} (h7 : kd ≠ 7) : (Va.mk kd n x y s rs).cnt nest left = if okB kd n x y s rs.length nest = false ∨ left - 1 < 0 then -1 else left - 1 := by
  unfold Va.cnt
  split
  · rfl
  · rename_i h
    have hl : rs.length = 0 := okB_list (nest := nest) (by cases ho : okB kd n x y s rs.length nest with | true => rfl | false => exact absurd (.inl ho) h) h7
    rw [List.eq_nil_of_length_eq_zero hl]
    unfold Va.cnts
    rfl
theorem okB_ge {kd n : Int} {x y : Nat} {s : ByteArray} {len : Nat} {nest : Int} (h0 : kd ≠ 0) (h1 : kd ≠ 1) (h2 : kd ≠ 2) (h3 : kd ≠ 3) (h4 : kd ≠ 4) (h5 : kd ≠ 5) (h6 : kd ≠ 6) (h7 : kd ≠ 7) : okB kd n x y s len nest = false := by
  unfold okB
  rw [if_neg h0, if_neg h1, if_neg h2, if_neg h3, if_neg h4, if_neg (by omega), if_neg h7]
theorem okB_0 (n : Int) (x y : Nat) (s : ByteArray) (len : Nat) (nest : Int) : okB 0 n x y s len nest = onlyB n x y s len false false false false false := by
  unfold onlyB
  rw [isEmpty_size]
  apply Bool.eq_iff_iff.2
  simp [okB]
  try (constructor <;> (intro h; simp_all <;> try omega))
theorem okB_1 (n : Int) (x y : Nat) (s : ByteArray) (len : Nat) (nest : Int) : okB 1 n x y s len nest = (onlyB n x y s len true false false false false && (n == 0 || n == 1)) := by
  unfold onlyB
  rw [isEmpty_size]
  apply Bool.eq_iff_iff.2
  simp [okB]
  try (constructor <;> (intro h; simp_all <;> try omega))
theorem okB_2 (n : Int) (x y : Nat) (s : ByteArray) (len : Nat) (nest : Int) : okB 2 n x y s len nest = onlyB n x y s len true false false false false := by
  unfold onlyB
  rw [isEmpty_size]
  apply Bool.eq_iff_iff.2
  simp [okB]
  try (constructor <;> (intro h; simp_all <;> try omega))
theorem okB_3 (n : Int) (x y : Nat) (s : ByteArray) (len : Nat) (nest : Int) : okB 3 n x y s len nest = onlyB n x y s len false true false false false := by
  unfold onlyB
  rw [isEmpty_size]
  apply Bool.eq_iff_iff.2
  simp [okB]
  try (constructor <;> (intro h; simp_all <;> try omega))
theorem okB_4 (n : Int) (x y : Nat) (s : ByteArray) (len : Nat) (nest : Int) : okB 4 n x y s len nest = onlyB n x y s len false true true false false := by
  unfold onlyB
  rw [isEmpty_size]
  apply Bool.eq_iff_iff.2
  simp [okB]
  try (constructor <;> (intro h; simp_all <;> try omega))
theorem okB_5 (n : Int) (x y : Nat) (s : ByteArray) (len : Nat) (nest : Int) : okB 5 n x y s len nest = (onlyB n x y s len false false false true false && decide ((s.size : Int) ≤ 4096)) := by
  unfold onlyB
  rw [isEmpty_size]
  apply Bool.eq_iff_iff.2
  simp [okB]
  try (constructor <;> (intro h; simp_all <;> try omega))
theorem okB_6 (n : Int) (x y : Nat) (s : ByteArray) (len : Nat) (nest : Int) : okB 6 n x y s len nest = (onlyB n x y s len false false false true false && decide ((s.size : Int) ≤ 4096)) := by
  unfold onlyB
  rw [isEmpty_size]
  apply Bool.eq_iff_iff.2
  simp [okB]
  try (constructor <;> (intro h; simp_all <;> try omega))
theorem okB_7 (n : Int) (x y : Nat) (s : ByteArray) (len : Nat) (nest : Int) : okB 7 n x y s len nest = (onlyB n x y s len false false false false true && decide (nest < 16)) := by
  unfold onlyB
  rw [isEmpty_size]
  apply Bool.eq_iff_iff.2
  simp [okB]
  try (constructor <;> (intro h; simp_all <;> try omega))
def CntL (kd n : Int) (x y : Nat) (s : ByteArray) (len : Nat) (nest left : Int) (w : World) (e : Ending) (w' : World) : Prop := e = .returned (.int .i64 (if okB kd n x y s len nest = false ∨ left - 1 < 0 then -1 else left - 1)) ∧ Below w.heap.size w w'
set_option maxRecDepth 100000 in
set_option maxHeartbeats 1000000 in
theorem count_0 (n : Int) (x y : Nat) (s : ByteArray) (a : Option Addr) (len cap : Nat) (nest left : Int) (w : World) (g0 : 0 ≤ left) (g1 : left ≤ 1024) :
    Calls Try.prog 28 #[.agg #[.int .u8 0, .int .i64 n, .float .f64 x, .float .f64 y, .string s, .slice a len cap], .int .i64 nest, .int .i64 left] w (CntL 0 n x y s len nest left w) := by
  have HK := Lib.hid (okB_0 n x y s len nest)
  by_cases hl : left - 1 < 0
  all_goals
    cases ho : onlyB n x y s len false false false false false
    all_goals
      have HO := Lib.hid ho
      clear ho
      go_enter Try.func28, Try.ntmps28
      go_wp2_with (go_at_call 43; (with_reducible refine (only_any _ _ _ _ _ _ _ _ _ _ _ _ _ _).mono ?_); rintro e w1 ⟨rfl, hb1⟩; rw [HO.out]; have k0 : w1.cell? ⟨w.heap.size, 0, none⟩ = some (.int .u8 0) := (hb1.cell (p := ⟨w.heap.size, 0, none⟩) (by simp)).trans (by simp [go_sem]); have k1 : w1.cell? ⟨w.heap.size, 1, none⟩ = some (.int .i64 n) := (hb1.cell (p := ⟨w.heap.size, 1, none⟩) (by simp)).trans (by simp [go_sem]); have k4 : w1.cell? ⟨w.heap.size, 4, none⟩ = some (.string s) := (hb1.cell (p := ⟨w.heap.size, 4, none⟩) (by simp)).trans (by simp [go_sem]))
      all_goals
        go_ret
        refine ⟨ri ?_, bthen (bnew (Below.refl _ _) _) hb1⟩
        rw [HK.out, HO.out]
        simp [*]
        try omega
set_option maxRecDepth 100000 in
set_option maxHeartbeats 1000000 in
theorem count_1 (n : Int) (x y : Nat) (s : ByteArray) (a : Option Addr) (len cap : Nat) (nest left : Int) (w : World) (g0 : 0 ≤ left) (g1 : left ≤ 1024) :
    Calls Try.prog 28 #[.agg #[.int .u8 1, .int .i64 n, .float .f64 x, .float .f64 y, .string s, .slice a len cap], .int .i64 nest, .int .i64 left] w (CntL 1 n x y s len nest left w) := by
  have HK := Lib.hid (okB_1 n x y s len nest)
  by_cases hl : left - 1 < 0
  all_goals
    cases ho : onlyB n x y s len true false false false false
    all_goals
      have HO := Lib.hid ho
      clear ho
      go_enter Try.func28, Try.ntmps28
      go_wp2_with (go_at_call 43; (with_reducible refine (only_any _ _ _ _ _ _ _ _ _ _ _ _ _ _).mono ?_); rintro e w1 ⟨rfl, hb1⟩; rw [HO.out]; have k0 : w1.cell? ⟨w.heap.size, 0, none⟩ = some (.int .u8 1) := (hb1.cell (p := ⟨w.heap.size, 0, none⟩) (by simp)).trans (by simp [go_sem]); have k1 : w1.cell? ⟨w.heap.size, 1, none⟩ = some (.int .i64 n) := (hb1.cell (p := ⟨w.heap.size, 1, none⟩) (by simp)).trans (by simp [go_sem]); have k4 : w1.cell? ⟨w.heap.size, 4, none⟩ = some (.string s) := (hb1.cell (p := ⟨w.heap.size, 4, none⟩) (by simp)).trans (by simp [go_sem]))
      all_goals
        go_ret
        refine ⟨ri ?_, bthen (bnew (Below.refl _ _) _) hb1⟩
        rw [HK.out, HO.out]
        simp [*]
        try omega
set_option maxRecDepth 100000 in
set_option maxHeartbeats 1000000 in
theorem count_2 (n : Int) (x y : Nat) (s : ByteArray) (a : Option Addr) (len cap : Nat) (nest left : Int) (w : World) (g0 : 0 ≤ left) (g1 : left ≤ 1024) :
    Calls Try.prog 28 #[.agg #[.int .u8 2, .int .i64 n, .float .f64 x, .float .f64 y, .string s, .slice a len cap], .int .i64 nest, .int .i64 left] w (CntL 2 n x y s len nest left w) := by
  have HK := Lib.hid (okB_2 n x y s len nest)
  by_cases hl : left - 1 < 0
  all_goals
    cases ho : onlyB n x y s len true false false false false
    all_goals
      have HO := Lib.hid ho
      clear ho
      go_enter Try.func28, Try.ntmps28
      go_wp2_with (go_at_call 43; (with_reducible refine (only_any _ _ _ _ _ _ _ _ _ _ _ _ _ _).mono ?_); rintro e w1 ⟨rfl, hb1⟩; rw [HO.out]; have k0 : w1.cell? ⟨w.heap.size, 0, none⟩ = some (.int .u8 2) := (hb1.cell (p := ⟨w.heap.size, 0, none⟩) (by simp)).trans (by simp [go_sem]); have k1 : w1.cell? ⟨w.heap.size, 1, none⟩ = some (.int .i64 n) := (hb1.cell (p := ⟨w.heap.size, 1, none⟩) (by simp)).trans (by simp [go_sem]); have k4 : w1.cell? ⟨w.heap.size, 4, none⟩ = some (.string s) := (hb1.cell (p := ⟨w.heap.size, 4, none⟩) (by simp)).trans (by simp [go_sem]))
      all_goals
        go_ret
        refine ⟨ri ?_, bthen (bnew (Below.refl _ _) _) hb1⟩
        rw [HK.out, HO.out]
        simp [*]
        try omega
set_option maxRecDepth 100000 in
set_option maxHeartbeats 1000000 in
theorem count_3 (n : Int) (x y : Nat) (s : ByteArray) (a : Option Addr) (len cap : Nat) (nest left : Int) (w : World) (g0 : 0 ≤ left) (g1 : left ≤ 1024) :
    Calls Try.prog 28 #[.agg #[.int .u8 3, .int .i64 n, .float .f64 x, .float .f64 y, .string s, .slice a len cap], .int .i64 nest, .int .i64 left] w (CntL 3 n x y s len nest left w) := by
  have HK := Lib.hid (okB_3 n x y s len nest)
  by_cases hl : left - 1 < 0
  all_goals
    cases ho : onlyB n x y s len false true false false false
    all_goals
      have HO := Lib.hid ho
      clear ho
      go_enter Try.func28, Try.ntmps28
      go_wp2_with (go_at_call 43; (with_reducible refine (only_any _ _ _ _ _ _ _ _ _ _ _ _ _ _).mono ?_); rintro e w1 ⟨rfl, hb1⟩; rw [HO.out]; have k0 : w1.cell? ⟨w.heap.size, 0, none⟩ = some (.int .u8 3) := (hb1.cell (p := ⟨w.heap.size, 0, none⟩) (by simp)).trans (by simp [go_sem]); have k1 : w1.cell? ⟨w.heap.size, 1, none⟩ = some (.int .i64 n) := (hb1.cell (p := ⟨w.heap.size, 1, none⟩) (by simp)).trans (by simp [go_sem]); have k4 : w1.cell? ⟨w.heap.size, 4, none⟩ = some (.string s) := (hb1.cell (p := ⟨w.heap.size, 4, none⟩) (by simp)).trans (by simp [go_sem]))
      all_goals
        go_ret
        refine ⟨ri ?_, bthen (bnew (Below.refl _ _) _) hb1⟩
        rw [HK.out, HO.out]
        simp [*]
        try omega
set_option maxRecDepth 100000 in
set_option maxHeartbeats 1000000 in
theorem count_4 (n : Int) (x y : Nat) (s : ByteArray) (a : Option Addr) (len cap : Nat) (nest left : Int) (w : World) (g0 : 0 ≤ left) (g1 : left ≤ 1024) :
    Calls Try.prog 28 #[.agg #[.int .u8 4, .int .i64 n, .float .f64 x, .float .f64 y, .string s, .slice a len cap], .int .i64 nest, .int .i64 left] w (CntL 4 n x y s len nest left w) := by
  have HK := Lib.hid (okB_4 n x y s len nest)
  by_cases hl : left - 1 < 0
  all_goals
    cases ho : onlyB n x y s len false true true false false
    all_goals
      have HO := Lib.hid ho
      clear ho
      go_enter Try.func28, Try.ntmps28
      go_wp2_with (go_at_call 43; (with_reducible refine (only_any _ _ _ _ _ _ _ _ _ _ _ _ _ _).mono ?_); rintro e w1 ⟨rfl, hb1⟩; rw [HO.out]; have k0 : w1.cell? ⟨w.heap.size, 0, none⟩ = some (.int .u8 4) := (hb1.cell (p := ⟨w.heap.size, 0, none⟩) (by simp)).trans (by simp [go_sem]); have k1 : w1.cell? ⟨w.heap.size, 1, none⟩ = some (.int .i64 n) := (hb1.cell (p := ⟨w.heap.size, 1, none⟩) (by simp)).trans (by simp [go_sem]); have k4 : w1.cell? ⟨w.heap.size, 4, none⟩ = some (.string s) := (hb1.cell (p := ⟨w.heap.size, 4, none⟩) (by simp)).trans (by simp [go_sem]))
      all_goals
        go_ret
        refine ⟨ri ?_, bthen (bnew (Below.refl _ _) _) hb1⟩
        rw [HK.out, HO.out]
        simp [*]
        try omega
set_option maxRecDepth 100000 in
set_option maxHeartbeats 1000000 in
theorem count_5 (n : Int) (x y : Nat) (s : ByteArray) (a : Option Addr) (len cap : Nat) (nest left : Int) (w : World) (g0 : 0 ≤ left) (g1 : left ≤ 1024) :
    Calls Try.prog 28 #[.agg #[.int .u8 5, .int .i64 n, .float .f64 x, .float .f64 y, .string s, .slice a len cap], .int .i64 nest, .int .i64 left] w (CntL 5 n x y s len nest left w) := by
  have HK := Lib.hid (okB_5 n x y s len nest)
  by_cases hl : left - 1 < 0
  all_goals
    cases ho : onlyB n x y s len false false false true false
    all_goals
      have HO := Lib.hid ho
      clear ho
      go_enter Try.func28, Try.ntmps28
      go_wp2_with (go_at_call 43; (with_reducible refine (only_any _ _ _ _ _ _ _ _ _ _ _ _ _ _).mono ?_); rintro e w1 ⟨rfl, hb1⟩; rw [HO.out]; have k0 : w1.cell? ⟨w.heap.size, 0, none⟩ = some (.int .u8 5) := (hb1.cell (p := ⟨w.heap.size, 0, none⟩) (by simp)).trans (by simp [go_sem]); have k1 : w1.cell? ⟨w.heap.size, 1, none⟩ = some (.int .i64 n) := (hb1.cell (p := ⟨w.heap.size, 1, none⟩) (by simp)).trans (by simp [go_sem]); have k4 : w1.cell? ⟨w.heap.size, 4, none⟩ = some (.string s) := (hb1.cell (p := ⟨w.heap.size, 4, none⟩) (by simp)).trans (by simp [go_sem]))
      all_goals
        go_ret
        refine ⟨ri ?_, bthen (bnew (Below.refl _ _) _) hb1⟩
        rw [HK.out, HO.out]
        simp [*]
        try omega
set_option maxRecDepth 100000 in
set_option maxHeartbeats 1000000 in
theorem count_6 (n : Int) (x y : Nat) (s : ByteArray) (a : Option Addr) (len cap : Nat) (nest left : Int) (w : World) (g0 : 0 ≤ left) (g1 : left ≤ 1024) :
    Calls Try.prog 28 #[.agg #[.int .u8 6, .int .i64 n, .float .f64 x, .float .f64 y, .string s, .slice a len cap], .int .i64 nest, .int .i64 left] w (CntL 6 n x y s len nest left w) := by
  have HK := Lib.hid (okB_6 n x y s len nest)
  by_cases hl : left - 1 < 0
  all_goals
    cases ho : onlyB n x y s len false false false true false
    all_goals
      have HO := Lib.hid ho
      clear ho
      go_enter Try.func28, Try.ntmps28
      go_wp2_with (go_at_call 43; (with_reducible refine (only_any _ _ _ _ _ _ _ _ _ _ _ _ _ _).mono ?_); rintro e w1 ⟨rfl, hb1⟩; rw [HO.out]; have k0 : w1.cell? ⟨w.heap.size, 0, none⟩ = some (.int .u8 6) := (hb1.cell (p := ⟨w.heap.size, 0, none⟩) (by simp)).trans (by simp [go_sem]); have k1 : w1.cell? ⟨w.heap.size, 1, none⟩ = some (.int .i64 n) := (hb1.cell (p := ⟨w.heap.size, 1, none⟩) (by simp)).trans (by simp [go_sem]); have k4 : w1.cell? ⟨w.heap.size, 4, none⟩ = some (.string s) := (hb1.cell (p := ⟨w.heap.size, 4, none⟩) (by simp)).trans (by simp [go_sem]))
      all_goals
        go_ret
        refine ⟨ri ?_, bthen (bnew (Below.refl _ _) _) hb1⟩
        rw [HK.out, HO.out]
        simp [*]
        try omega
set_option maxRecDepth 100000 in
set_option maxHeartbeats 1000000 in
theorem count_none (kd n : Int) (x y : Nat) (s : ByteArray) (a : Option Addr) (len cap : Nat) (nest left : Int) (w : World) (g0 : 0 ≤ left) (g1 : left ≤ 1024) (h0 : (kd == 0) = false) (h1 : (kd == 1) = false) (h2 : (kd == 2) = false) (h3 : (kd == 3) = false) (h4 : (kd == 4) = false) (h5 : (kd == 5) = false) (h6 : (kd == 6) = false) (h7 : (kd == 7) = false) :
    Calls Try.prog 28 #[.agg #[.int .u8 kd, .int .i64 n, .float .f64 x, .float .f64 y, .string s, .slice a len cap], .int .i64 nest, .int .i64 left] w (CntL kd n x y s len nest left w) := by
  have HK : Hid (okB kd n x y s len nest = false) := by
    simp only [beq_eq_false_iff_ne, ne_eq] at *
    exact okB_ge h0 h1 h2 h3 h4 h5 h6 h7
  go_enter Try.func28, Try.ntmps28
  go_wp2_with fail
  go_ret
  exact ⟨ri (by rw [if_pos (.inl HK.out)]), bnew (Below.refl _ _) _⟩
theorem okB_list7 {n : Int} {x y : Nat} {s : ByteArray} {len : Nat} {nest : Int} (h : okB 7 n x y s len nest = true) : nest < 16 := by
  rw [okB_7] at h
  simp only [Bool.and_eq_true, decide_eq_true_eq] at h
  exact h.2
set_option maxRecDepth 100000 in
set_option maxHeartbeats 2000000 in
theorem count_N (N : Nat) : ∀ (r : Va) (_ : r.size ≤ N) (c : List Value) (F : List Nat) (w : World) (nest left : Int) (_ : r.tr.own 6 w c F) (_ : 0 ≤ nest) (_ : nest ≤ 16) (_ : 0 ≤ left) (_ : left ≤ 1024),
    Calls Try.prog 28 #[.agg c.toArray, .int .i64 nest, .int .i64 left] w (CntIs r nest left w) := by
  induction N with
  | zero => intro r hN; have := r.size_pos; omega
  | succ N ih =>
  intro r hN c F w nest left hr g0 g1 g2 g3
  obtain ⟨kd, n, x, y, s, rs⟩ := r
  obtain ⟨a, cap, rfl, hcap, hcap', hc⟩ := Va.open hr
  clear hr
  by_cases h7 : ¬ kd = 7
  · unfold CntIs
    rw [cnt_leaf h7]
    by_cases h0 : kd = 0
    · subst h0; exact count_0 n x y s a rs.length cap nest left w g2 g3
    by_cases h1 : kd = 1
    · subst h1; exact count_1 n x y s a rs.length cap nest left w g2 g3
    by_cases h2 : kd = 2
    · subst h2; exact count_2 n x y s a rs.length cap nest left w g2 g3
    by_cases h3 : kd = 3
    · subst h3; exact count_3 n x y s a rs.length cap nest left w g2 g3
    by_cases h4 : kd = 4
    · subst h4; exact count_4 n x y s a rs.length cap nest left w g2 g3
    by_cases h5 : kd = 5
    · subst h5; exact count_5 n x y s a rs.length cap nest left w g2 g3
    by_cases h6 : kd = 6
    · subst h6; exact count_6 n x y s a rs.length cap nest left w g2 g3
    exact count_none kd n x y s a rs.length cap nest left w g2 g3 (beq_eq_false_iff_ne.2 h0) (beq_eq_false_iff_ne.2 h1) (beq_eq_false_iff_ne.2 h2) (beq_eq_false_iff_ne.2 h3) (beq_eq_false_iff_ne.2 h4) (beq_eq_false_iff_ne.2 h5) (beq_eq_false_iff_ne.2 h6) (beq_eq_false_iff_ne.2 h7)
  have h7 := Classical.not_not.1 h7
  subst h7
  unfold Va.size at hN
  have IH := Lib.hid ih
  clear ih
  have HK := Lib.hid (okB_7 n x y s rs.length nest)
  by_cases hl : left - 1 < 0
  · cases ho : onlyB n x y s rs.length false false false false true
    all_goals
      have HO := Lib.hid ho
      clear ho
      go_enter Try.func28, Try.ntmps28
      go_wp2_with (go_at_call 43; (with_reducible refine (only_any _ _ _ _ _ _ _ _ _ _ _ _ _ _).mono ?_); rintro e w1 ⟨rfl, hb1⟩; rw [HO.out])
      all_goals
        go_ret
        refine ⟨ri ?_, bthen (bnew (Below.refl _ _) _) hb1⟩
        unfold Va.cnt
        rw [if_pos (.inr hl)]
  have HL := Lib.hid hl
  by_cases hne : ¬ nest < 16
  · cases ho : onlyB n x y s rs.length false false false false true
    all_goals
      have HO := Lib.hid ho
      clear ho
      go_enter Try.func28, Try.ntmps28
      go_wp2_with (go_at_call 43; (with_reducible refine (only_any _ _ _ _ _ _ _ _ _ _ _ _ _ _).mono ?_); rintro e w1 ⟨rfl, hb1⟩; rw [HO.out])
      all_goals
        go_ret
        refine ⟨ri ?_, bthen (bnew (Below.refl _ _) _) hb1⟩
        unfold Va.cnt
        rw [if_pos (.inl (by rw [HK.out, HO.out]; simp; try omega))]
  have hne := Classical.not_not.1 hne
  cases ho : onlyB n x y s rs.length false false false false true
  · have HO := Lib.hid ho
    clear ho
    go_enter Try.func28, Try.ntmps28
    go_wp2_with (go_at_call 43; (with_reducible refine (only_any _ _ _ _ _ _ _ _ _ _ _ _ _ _).mono ?_); rintro e w1 ⟨rfl, hb1⟩; rw [HO.out])
    go_ret
    refine ⟨ri ?_, bthen (bnew (Below.refl _ _) _) hb1⟩
    unfold Va.cnt
    rw [if_pos (.inl (by rw [HK.out, HO.out]; simp))]
  have HO : Hid (¬ (okB 7 n x y s rs.length nest = false ∨ left - 1 < 0)) := by
    show ¬ _
    rw [HK.out, ho]
    simp
    omega
  have HQ := Lib.hid ho
  clear ho
  go_enter Try.func28, Try.ntmps28
  go_wp2_with (go_at_call 43; (with_reducible refine (only_any _ _ _ _ _ _ _ _ _ _ _ _ _ _).mono ?_); rintro e w1 ⟨rfl, hb1⟩; rw [HQ.out]; have k0 : w1.cell? ⟨w.heap.size, 0, none⟩ = some (.int .u8 7) := (hb1.cell (p := ⟨w.heap.size, 0, none⟩) (by simp)).trans (by simp [go_sem]))
  go_loopw [2, 8] (fun u2 u8 wr => ∃ (k : Nat) (l : Int), k ≤ rs.length ∧ u8 = .int .i64 k ∧ u2 = .int .i64 l ∧ 0 ≤ l ∧ l ≤ 1024 ∧ Hid (Va.cnts (rs.drop k) (nest + 1) l = Va.cnts rs (nest + 1) (left - 1)) ∧ Below w.heap.size w wr ∧ w.heap.size < wr.heap.size ∧
    wr.cell? ⟨w.heap.size, 5, none⟩ = some (.slice a rs.length cap)) (fun _ u8 _ => rs.length - (intOf u8).toNat)
  case atStart =>
    have hs1 := hb1.size
    exact ⟨0, left - 1, by omega, rfl, rfl, by omega, by omega, rfl, bthen (bnew (Below.refl _ _) _) hb1, by simp at hs1; omega, (hb1.cell (p := ⟨w.heap.size, 5, none⟩) (by simp)).trans (by simp [go_sem])⟩
  case round =>
    obtain ⟨k, l, hk, rfl, rfl, l0, l1, hf, hb, hz, hcell⟩ := hrel
    by_cases hlt : k < rs.length
    · rcases hc with ⟨h0', _⟩ | ⟨_, b, o, cs, F', rfl, rfl, hra, hkl⟩
      · omega
      have hbl : b < w.heap.size := rangeAt_lt hra (by rw [Tr.ownL_len hkl, Va.trs_len]; omega)
      have hra' := rangeAt_of_block hra (hb.block b hbl)
      have hkl' := Tr.ownL_same _ _ _ (fun i hi => hb.block i (Tr.ownL_lt _ _ _ hkl i hi)) hkl
      obtain ⟨v0, v1, v2, v3, v4, v5, Fa, F1, Fb, hF, hkid, c0, c1, c2, c3, c4, c5⟩ := Va.kid k hlt hkl' hra'
      have HZ := Va.sizes_at rs k hlt
      have HF := Lib.hid hF
      clear hra hkl hra' hkl' hF hb1
      have hbd := Va.cnt_bd rs[k] (nest + 1) l
      by_cases hneg : rs[k].cnt (nest + 1) l < 0
      · go_wp2_with (go_at_call 28; refine (IH.out rs[k] (by omega) [v0, v1, v2, v3, v4, v5] F1 _ (nest + 1) l hkid (by omega) (by omega) (by omega) (by omega)).mono ?_; rintro e w' ⟨rfl, hb'⟩)
        go_ret
        refine ⟨ri ?_, bthen hb hb'⟩
        unfold Va.cnt
        rw [if_neg HO.out, ← hf.out, Va.cnts_bad rs k hlt _ _ hneg]
      · go_wp2_with (go_at_call 28; refine (IH.out rs[k] (by omega) [v0, v1, v2, v3, v4, v5] F1 _ (nest + 1) l hkid (by omega) (by omega) (by omega) (by omega)).mono ?_; rintro e w' ⟨rfl, hb'⟩)
        go_roundw
        case rel => exact ⟨k + 1, rs[k].cnt (nest + 1) l, by omega, by go_num, rfl, by omega, by omega, (Va.cnts_drop rs k hlt _ l (by omega)).symm.trans hf, bthen hb hb', by have := hb'.size; omega, by rw [hb'.cell (p := ⟨w.heap.size, 5, none⟩) (by simpa using hz)]; exact hcell⟩
        case measure => simp [intOf]; omega
    · have hk' : k = rs.length := by omega
      go_wp2_with fail
      go_ret
      refine ⟨ri ?_, hb⟩
      subst hk'
      unfold Va.cnt
      rw [if_neg HO.out, ← hf.out]
      simp [Va.cnts]
def CheckIs (r : Va) (w : World) (e : Ending) (w' : World) : Prop := e = .returned (.int .i64 (if r.okV then 0 else 20)) ∧ Below w.heap.size w w'
set_option maxHeartbeats 400000 in
theorem rCheck_any (r : Va) (c : List Value) (F : List Nat) (w : World) (hr : r.tr.own 6 w c F) :
    Calls Try.prog 14 #[.agg c.toArray] w (CheckIs r w) := by
  obtain ⟨v0, v1, v2, v3, v4, v5, rfl⟩ := Va.shape hr
  have HR := Lib.hid (fun o => Tr.own_below hr (bnew (Below.refl _ w) o))
  clear hr
  have hbd := Va.cnt_bd r 0 1024
  by_cases h1 : r.cnt 0 1024 < 0
  · go_enter Try.func14, Try.ntmps14
    go_wp2_with (go_at_call 28; refine (count_N _ r (Nat.le_refl _) [v0, v1, v2, v3, v4, v5] F _ 0 1024 (HR.out _) (by omega) (by omega) (by omega) (by omega)).mono ?_; rintro e w1 ⟨rfl, hb1⟩)
    go_ret
    exact ⟨ri (by unfold Va.okV; rw [decide_eq_false (by omega)]; rfl), bthen (bnew (Below.refl _ _) _) hb1⟩
  · go_enter Try.func14, Try.ntmps14
    go_wp2_with (go_at_call 28; refine (count_N _ r (Nat.le_refl _) [v0, v1, v2, v3, v4, v5] F _ 0 1024 (HR.out _) (by omega) (by omega) (by omega) (by omega)).mono ?_; rintro e w1 ⟨rfl, hb1⟩)
    go_ret
    exact ⟨ri (by unfold Va.okV; rw [decide_eq_true (by omega)]; rfl), bthen (bnew (Below.refl _ _) _) hb1⟩
end Go.Proofs.Ytaglklcjolcgeaa
