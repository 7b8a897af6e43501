/- The walks of cmp.Compare, cmp.Or, value.floats, strings.Compare. -/
import Derived.Test.YtaglklcjolcgeaaROrd
import Derived.Defers
import Derived.Lib.Bytealg
import Derived.Laws.Externs
namespace Go.Proofs.Ytaglklcjolcgeaa
open Go.RowKit
set_option linter.unusedVariables false
set_option linter.unusedSimpArgs false
theorem cmpU_any (a b : Int) (w : World) : Calls Try.prog 50 #[.int .u8 a, .int .u8 b] w fun e w' => e = .returned (.int .i64 (numb (decide (a < b)) (decide (b < a)))) ∧ w = w' := by
  have q1 : (a != a) = false := by simp
  have q2 : (b != b) = false := by simp
  rcases Int.lt_trichotomy a b with h | h | h
  · have d1 : decide (a < b) = true := decide_eq_true h
    go_enter Try.func50, Try.ntmps50
    go_wp2
    go_ret
    exact ⟨by rw [d1]; rfl, rfl⟩
  · have d1 : decide (a < b) = false := decide_eq_false (by omega)
    have d2 : decide (b < a) = false := decide_eq_false (by omega)
    go_enter Try.func50, Try.ntmps50
    go_wp2
    go_ret
    exact ⟨by rw [d1, d2]; rfl, rfl⟩
  · have d1 : decide (a < b) = false := decide_eq_false (by omega)
    have d2 : decide (b < a) = true := decide_eq_true h
    go_enter Try.func50, Try.ntmps50
    go_wp2
    go_ret
    exact ⟨by rw [d1, d2]; rfl, rfl⟩
theorem cmpI_any (a b : Int) (w : World) : Calls Try.prog 52 #[.int .i64 a, .int .i64 b] w fun e w' => e = .returned (.int .i64 (numb (decide (a < b)) (decide (b < a)))) ∧ w = w' := by
  have q1 : (a != a) = false := by simp
  have q2 : (b != b) = false := by simp
  rcases Int.lt_trichotomy a b with h | h | h
  · have d1 : decide (a < b) = true := decide_eq_true h
    go_enter Try.func52, Try.ntmps52
    go_wp2
    go_ret
    exact ⟨by rw [d1]; rfl, rfl⟩
  · have d1 : decide (a < b) = false := decide_eq_false (by omega)
    have d2 : decide (b < a) = false := decide_eq_false (by omega)
    go_enter Try.func52, Try.ntmps52
    go_wp2
    go_ret
    exact ⟨by rw [d1, d2]; rfl, rfl⟩
  · have d1 : decide (a < b) = false := decide_eq_false (by omega)
    have d2 : decide (b < a) = true := decide_eq_true h
    go_enter Try.func52, Try.ntmps52
    go_wp2
    go_ret
    exact ⟨by rw [d1, d2]; rfl, rfl⟩
/-- cmp.Compare of two floats. -/
def cmpFl (x y : Nat) : Int := if nanB x || nanB y then numb (nanB x && !nanB y) (!nanB x && nanB y) else numb (fo x y == some .lt) (fo x y == some .gt)
set_option maxHeartbeats 1000000 in
theorem cmpF_any (x y : Nat) (w : World) : Calls Try.prog 66 #[.float .f64 x, .float .f64 y] w fun e w' => e = .returned (.int .i64 (cmpFl x y)) ∧ w = w' := by
  cases h1 : nanB x <;> cases h2 : nanB y
  all_goals
    have n1 := nan_ne h1
    have n2 := nan_ne h2
    have H := Lib.hid (And.intro h1 h2)
    clear h1 h2
    cases f1 : (FloatKind.f64.format.order x y == some .lt) <;> cases f2 : (FloatKind.f64.format.order x y == some .gt)
    all_goals
      go_enter Try.func66, Try.ntmps66
      go_wp2
      go_ret
      refine ⟨?_, rfl⟩
      obtain ⟨h1, h2⟩ := H.out
      unfold cmpFl fo
      rw [h1, h2]
      first | rfl | (rw [f1, f2]; rfl) | (rw [f1]; rfl) | simp [*]
theorem sign_any (x : Nat) (hx : x < 18446744073709551616) (w : World) : Calls Try.prog 67 #[.float .f64 x] w fun e w' => e = .returned (.int .i64 (if sgB x then 0 else 1)) ∧ w = w' := by
  cases h : sgB x
  all_goals
    have H := Lib.hid h
    clear h
    go_enter Try.func67, Try.ntmps67
    go_wp2_with (go_at_call 63; (with_reducible refine (signbit_any x hx _).mono ?_); rintro e w' ⟨rfl, rfl⟩; rw [H.out])
    go_ret
    exact ⟨rfl, rfl⟩
/-- cmp.Compare says 0 and the first is a nought: the second is one too, and neither is NaN. -/
theorem cmpFl_zero {x y : Nat} (h : cmpFl x y = 0) (hz : zerB x = true) : nanB x = false ∧ nanB y = false ∧ zerB y = true := by
  have hnx : nanB x = false := by
    unfold zerB at hz
    unfold nanB
    cases hd : FloatKind.f64.format.read x with
    | nan s t => rw [hd] at hz; cases hz
    | infinity s => rfl
    | number s m i => rfl
  have hny : nanB y = false := by
    cases hy : nanB y
    · rfl
    · unfold cmpFl at h
      rw [hnx, hy] at h
      cases h
  refine ⟨hnx, hny, ?_⟩
  unfold cmpFl at h
  rw [hnx, hny] at h
  simp only [Bool.or_self, Bool.false_eq_true, if_false] at h
  cases hf : fo x y with
  | none =>
    rcases (fo_none x y).1 hf with h | h
    · rw [hnx] at h; cases h
    · rw [hny] at h; cases h
  | some o =>
    rw [hf] at h
    cases o
    · cases h
    · rw [← fo_zeros hf]; exact hz
    · cases h
set_option maxHeartbeats 1000000 in
theorem floats_any (x y : Nat) (hx : x < 18446744073709551616) (hy : y < 18446744073709551616) (w : World) : Calls Try.prog 53 #[.float .f64 x, .float .f64 y] w fun e w' => e = .returned (.int .i64 (ordF x y)) ∧ w = w' := by
  cases hc : (cmpFl x y != 0)
  · cases h3 : zerB x
    · have n5 := zer_ne h3
      have H := Lib.hid (And.intro hc h3)
      simp only [Bool.not_false] at n5
      clear h3
      go_enter Try.func53, Try.ntmps53
      go_wp2_with (go_at_call 66; (with_reducible refine (cmpF_any x y _).mono ?_); rintro e w' ⟨rfl, rfl⟩)
      go_ret
      refine ⟨?_, rfl⟩
      show Ending.returned (.int .i64 (cmpFl x y)) = _
      unfold ordF cmpFl
      rw [H.out.2]
      rfl
    · have n5 := zer_ne h3
      have h0 : cmpFl x y = 0 := by simpa using hc
      have H := Lib.hid (And.intro h0 (And.intro h3 (cmpFl_zero h0 h3)))
      simp only [Bool.not_true] at n5
      clear h3 h0
      go_enter Try.func53, Try.ntmps53
      go_wp2_with (first | (go_at_call 66; (with_reducible refine (cmpF_any x y _).mono ?_); rintro e w' ⟨rfl, rfl⟩) | (go_at_call 67; (with_reducible refine (sign_any x hx _).mono ?_); rintro e w' ⟨rfl, rfl⟩) | (go_at_call 67; (with_reducible refine (sign_any y hy _).mono ?_); rintro e w' ⟨rfl, rfl⟩))
      all_goals
        go_ret
        refine ⟨?_, rfl⟩
        obtain ⟨h0, h3, h4, h5, h6⟩ := H.out
        unfold ordF
        rw [h4, h5, h3, h6]
        cases hs : sgB x <;> cases ht : sgB y <;> first | rfl | (exfalso; simp_all; done)
  · have H := Lib.hid hc
    go_enter Try.func53, Try.ntmps53
    go_wp2_with (go_at_call 66; (with_reducible refine (cmpF_any x y _).mono ?_); rintro e w' ⟨rfl, rfl⟩)
    go_ret
    refine ⟨?_, rfl⟩
    show Ending.returned (.int .i64 (cmpFl x y)) = _
    unfold ordF
    cases h3 : (zerB x && zerB y)
    · unfold cmpFl; rfl
    · have hz : zerB x = true ∧ zerB y = true := by simpa using h3
      exfalso
      have he := zer_eq hz.1 hz.2
      have hne := H.out
      unfold cmpFl at hne
      have hn : fo x y ≠ none := by rw [he]; simp
      have hn1 : ¬ (nanB x = true ∨ nanB y = true) := fun h => hn ((fo_none x y).2 h)
      have a1 : nanB x = false := by cases h : nanB x; rfl; exact absurd (.inl h) hn1
      have a2 : nanB y = false := by cases h : nanB y; rfl; exact absurd (.inr h) hn1
      rw [a1, a2, he] at hne
      cases hne
theorem run_rtcmp (s t : ByteArray) (w : World) : (callFunc 70 #[.string s, .string t]).run Try.prog w = .ok (.value (.int .i64 (ordS s t))) w := by
  have h := run_callFunc_extern (P := Try.prog) (f := 70) (fn := Try.f70) (e := Extern.BytealgCompare.compare) Try.func70 (by kernel_rfl) (by kernel_rfl) (by kernel_rfl) (by kernel_rfl) #[.string s, .string t] w
  rw [h]
  have := Lib.run_compareString (P := Try.prog) s t w
  rw [this]
  rfl
theorem strcmp_any (s t : ByteArray) (w : World) : Calls Try.prog 54 #[.string s, .string t] w fun e w' => e = .returned (.int .i64 (ordS s t)) ∧ w = w' := by
  have kb := run_rtcmp
  go_enter Try.func54, Try.ntmps54
  go_wp2
  go_ret
  exact ⟨rfl, rfl⟩
theorem orN_zero (xs : List Int) (k : Nat) (hk : k < xs.length) (h : xs[k] = 0) : orN (xs.drop k) = orN (xs.drop (k + 1)) := by
  rw [List.drop_eq_getElem_cons hk]
  conv => lhs; unfold orN
  rw [if_neg (by omega)]
theorem orN_some (xs : List Int) (k : Nat) (hk : k < xs.length) (h : ¬ xs[k] = 0) : orN (xs.drop k) = xs[k] := by
  rw [List.drop_eq_getElem_cons hk]
  unfold orN
  rw [if_pos h]
set_option maxHeartbeats 1000000 in
theorem or_any (xs : List Int) (g cap : Nat) (w : World) (hl : xs.length ≤ 1000) (hx : w.rangeAt g 0 (xs.map (Value.int .i64))) :
    Calls Try.prog 51 #[.slice (some ⟨g, 0, none⟩) xs.length cap] w fun e w' => e = .returned (.int .i64 (orN xs)) ∧ w = w' := by
  go_enter Try.func51, Try.ntmps51
  go_wp2_with fail
  go_loopw [8] (fun u8 wr => ∃ k : Nat, k ≤ xs.length ∧ u8 = .int .i64 k ∧ Hid (orN (xs.drop k) = orN xs) ∧ w = wr) (fun u8 _ => xs.length - (intOf u8).toNat)
  case atStart => exact ⟨0, by omega, rfl, rfl, rfl⟩
  case round =>
    obtain ⟨k, hk, rfl, hf, rfl⟩ := hrel
    by_cases hlt : k < xs.length
    · have hri : (0:Int) ≤ (k:Int) := by omega
      have hri2 : (k:Int) < (xs.length:Int) := by omega
      have hc : w.cell? ⟨g, k, none⟩ = some (.int .i64 xs[k]) := by
        have := hx k (.int .i64 xs[k]) (by simp [hlt])
        simpa using this
      by_cases h0 : xs[k] = 0
      · have hb : (xs[k] != 0) = false := by simpa using h0
        have H0 := Lib.hid h0
        clear h0
        go_wp2_with fail
        go_roundw
        case rel => exact ⟨k + 1, by omega, by go_num, (orN_zero xs k hlt H0.out).symm.trans hf, by first | rfl | trivial⟩
        case measure => simp [intOf]; omega
      · have hb : (xs[k] != 0) = true := by simpa using h0
        have H0 := Lib.hid h0
        clear h0
        go_wp2_with fail
        go_ret
        exact ⟨by rw [← hf.out, orN_some xs k hlt H0.out]; rfl, rfl⟩
    · have hk' : k = xs.length := by omega
      go_wp2_with fail
      go_ret
      refine ⟨?_, rfl⟩
      rw [← hf.out, hk', List.drop_length]
      rfl
end Go.Proofs.Ytaglklcjolcgeaa
