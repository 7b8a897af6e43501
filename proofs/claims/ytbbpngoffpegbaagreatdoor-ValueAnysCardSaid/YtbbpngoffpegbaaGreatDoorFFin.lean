/- The walk of ftoa64 at a finite float that is not nought. -/
import Derived.Test.YtbbpngoffpegbaaGreatDoorFTo
import Derived.Deep.RegionWith
import Derived.Lib.SmallJoins
namespace Go.Proofs.YtbbpngoffpegbaaGreatDoor
open Go Go.RowKit
set_option linter.unusedVariables false
set_option linter.unusedSimpArgs false
abbrev zeros32 : Array Value := #[.int .u8 0, .int .u8 0, .int .u8 0, .int .u8 0, .int .u8 0, .int .u8 0, .int .u8 0, .int .u8 0, .int .u8 0, .int .u8 0, .int .u8 0, .int .u8 0, .int .u8 0, .int .u8 0, .int .u8 0, .int .u8 0,
  .int .u8 0, .int .u8 0, .int .u8 0, .int .u8 0, .int .u8 0, .int .u8 0, .int .u8 0, .int .u8 0, .int .u8 0, .int .u8 0, .int .u8 0, .int .u8 0, .int .u8 0, .int .u8 0, .int .u8 0, .int .u8 0]
theorem zeros32_at (j : Nat) (h : j < 32) : zeros32[j]? = some (.int .u8 0) := by
  have e : zeros32 = Array.replicate 32 (.int .u8 0) := rfl
  rw [e, Array.getElem?_replicate, if_pos h]
theorem buf_new (w : World) (t : TypeId) (j : Nat) (h : j < 32) : (w.alloc (.cells zeros32 t)).cell? ⟨w.heap.size, j, none⟩ = some (.int .u8 0) ∧ (w.alloc (.cells zeros32 t)).frozen? ⟨w.heap.size, j, none⟩ = false :=
  ⟨(cell_top _ _ _ _ _ rfl).trans (zeros32_at j h), World.frozen?_alloc_new _ _ _ _⟩
/-- How many digits a number has; nought has none. -/
def ndOf (D : Nat) : Nat := if D = 0 then 0 else Lib.nDigits D
theorem ndOf_le (D : Nat) (h : D < 18446744073709551616) : ndOf D ≤ 20 := by
  unfold ndOf
  split
  · omega
  · exact Lib.nDigits_le20 D h
theorem ndOf_lt (D : Nat) : D < 10 ^ ndOf D := by
  unfold ndOf
  split
  · subst_vars; decide
  · exact Lib.lt_pow_nDigits D
theorem numDigits_all (D : Nat) (h : D < 18446744073709551616) (w : World) (htab : Lib.TabIs Tryz.prog w "internal/strconv.uint64pow10" .u64 Lib.pow10Tab) : Calls Tryz.prog 92 #[.int .u64 D] w fun e w' => e = .returned (.int .i64 (ndOf D)) ∧ w' = w := by
  unfold ndOf
  split
  · subst_vars
    exact (numDigits_zero w htab).mono fun e w' h => h
  · exact Tryz.internal_strconv_numDigits D (by omega) h w htab
set_option maxRecDepth 100000 in
set_option maxHeartbeats 4000000 in
theorem ftoa_fin (B : Nat) (wb : World) (b : Nat) (v : Value) (w : World) (x E M mu L m : Nat) (neg : Bool) (hx : x < 18446744073709551616) (h : TX B wb b [] v [] w) (hi lo : Nat → Nat) (hT : Pows w hi lo)
    (hE : bits .and .i64 ((x : Int) / 4503599627370496) 2047 = (E : Int)) (hM : bits .and .u64 (x : Int) 4503599627370495 = (M : Int)) (hE1 : 1 ≤ E) (hE2 : E ≤ 2046) (hn : ((x : Int) / 9223372036854775808 != 0) = neg)
    (hmu : bits .or .u64 (M : Int) 4503599627370496 = (mu : Int)) (hmu0 : 1 ≤ mu) (hmu1 : mu < 9007199254740992) (hL : Lib.bitLen mu = L) (hL1 : 1 ≤ L) (hL2 : L ≤ 53) (hm : IntKind.u64.wrap ((mu : Int) * 2 ^ (64 - L)) = (m : Int)) (hm0 : 9223372036854775808 ≤ m) (hm1 : m < 18446744073709551616) (e : Int) (he : (E : Int) + -1023 - ((64 - L : Nat) : Int) - 52 = e) (hg : 4 < w.heap.size) (htab : Lib.TabIs Tryz.prog w "internal/strconv.uint64pow10" .u64 Lib.pow10Tab) (D : Nat) (P : Int) (hDP : shortN hi lo m e = (D, P)) (T : List UInt8)
    (HF : ∀ w6, TX B wb w.heap.size (digs D (ndOf D)) v [] w6 → Calls Tryz.prog 109 #[v, .bool neg, .slice (some ⟨w.heap.size, 0, none⟩) 32 32, .int .i64 (ndOf D + P), .int .i64 (trimN (digs D (ndOf D)) (ndOf D)), .int .i64 (trimN (digs D (ndOf D)) (ndOf D)), .int .u8 103, .bool true] w6 (EfgIs B wb w.heap.size (digs D (ndOf D)) T)) :
    Calls Tryz.prog 78 #[v, .float .f64 x, .int .u8 103, .int .i64 (-1)] w (ToIs B wb T) := by
  have HF' := Lib.hid HF
  have HTAB := Lib.hid htab
  have hDP' := Lib.hid hDP
  clear HF htab hDP
  have HT := Lib.hid h
  have HP := Lib.hid hT
  have kb := run_f64bits
  have C1 : ∀ w : World, Calls Tryz.prog 110 #[.int .u64 mu] w fun e w' => e = .returned (.int .i64 (L : Int)) ∧ w' = w := fun w => by
    have := Tryz.bits_Len64 (mu : Int) w (by omega) (by omega)
    rwa [Int.toNat_natCast, hL] at this
  have s1 : (64 : Int) - (L : Int) = ((64 - L : Nat) : Int) := by omega
  have HL := Lib.hid hL
  clear hL
  have k1 : ((E : Int) == 2047) = false := by simp; omega
  have k2 : ((E : Int) == 0) = false := by simp; omega
  have k3 : ((mu : Int) == 0) = false := by simp; omega
  clear h hT
  go_enter Tryz.func78, Tryz.ntmps78
  go_wp2_with (at_builtin; refine Hid.out ?_)
  go_quiet (fail)
  go_wp2_with (at_builtin; refine Hid.out ?_)
  have HZ : Hid (∀ j, j < 32 → ((w.drewN nq).alloc (.cells zeros32 157)).cell? ⟨w.heap.size, j, none⟩ = some (.int .u8 0) ∧ ((w.drewN nq).alloc (.cells zeros32 157)).frozen? ⟨w.heap.size, j, none⟩ = false) := Lib.hid fun j h => buf_new (w.drewN nq) _ j h
  have HB : Hid (Below w.heap.size w ((w.drewN nq).alloc (.cells zeros32 157))) := Lib.hid ((show Below w.heap.size w (w.drewN nq) from ⟨rfl, rfl, rfl, Nat.le_refl _, fun _ _ => rfl⟩).alloc (Nat.le_refl _) _)
  have HS : Hid (w.heap.size < ((w.drewN nq).alloc (.cells zeros32 157)).heap.size) := Lib.hid (by simp)
  revert HZ HB HS
  generalize (w.drewN nq).alloc (.cells zeros32 157) = w2
  intro HZ HB HS
  refine (C1 _).mono ?_
  rintro e w3 ⟨rfl, rfl⟩
  go_wp2_with (at_builtin; refine Hid.out ?_)
  refine (short_any hi lo m e w3 (HP.out.below HB.out hg) hm1 hm0 (by omega) (by omega) (Nat.lt_trans hg HS.out)).mono ?_
  obtain ⟨d1, d2, d3⟩ := shortN_lt hi lo m e (by omega) (by omega)
  have e1 : (shortN hi lo m e).1 = D := by rw [hDP'.out]
  have e2 : (shortN hi lo m e).2 = P := by rw [hDP'.out]
  rw [e1] at d1 ⊢
  rw [e2] at d2 d3 ⊢
  clear hDP' e1 e2
  rintro r w4 ⟨rfl, h4⟩
  have H4 := Lib.hid h4
  clear h4
  go_wp2_with (at_builtin; refine Hid.out ?_)
  have hB4 : ∀ n, Below w.heap.size w (w4.drewN n) := fun n => (HB.out.trans (H4.out.mono (Nat.le_of_lt HS.out))).trans ⟨rfl, rfl, rfl, Nat.le_refl _, fun _ _ => rfl⟩
  have X1 : ∀ n, Calls Tryz.prog 92 #[.int .u64 D] (w4.drewN n) fun e w' => e = .returned (.int .i64 (ndOf D)) ∧ w' = w4.drewN n := fun n =>
    numDigits_all D (by omega) _ (Joins.tab_stays (g := 2) (by kernel_rfl) HTAB.out (hB4 n) (Nat.le_refl _))
  have X2 : ∀ n, Calls Tryz.prog 112 #[.slice (some ⟨w.heap.size, 0, none⟩) 32 32, .int .u64 D, .int .i64 P, .int .i64 (ndOf D)] (w4.drewN n) fun e w' =>
      e = .returned (.tuple #[.int .i64 (ndOf D + P), .int .i64 (trimN (digs D (ndOf D)) (ndOf D))]) ∧ Hid (TX B wb w.heap.size (digs D (ndOf D)) v [] w') := fun n => by
    refine (setDigits_any w.heap.size D (ndOf D) P _ (fun j hj => ?_) (ndOf_le D (by omega)) (ndOf_lt D) (by omega) d2 d3).mono ?_
    · have h1 := HZ.out j hj
      exact ⟨(H4.out.cell (p := ⟨w.heap.size, j, none⟩) HS.out).trans h1.1, (H4.out.frozen (p := ⟨w.heap.size, j, none⟩) HS.out).trans h1.2⟩
    · rintro e w' ⟨rfl, hD, hW⟩
      refine ⟨rfl, Lib.hid ?_⟩
      have hBW : Below w.heap.size w w' := (hB4 n).trans (hW.below (by have := (hB4 n).size; exact this) (fun k hk => by omega))
      have hT := HT.out
      refine ⟨hT.own.kept (row := none) ⟨hBW.os, hBW.tape, hBW.output, hBW.size, fun k hk _ => hBW.block k hk⟩ (by cases v.ownBlock <;> simp), hT.bel.trans (hBW.mono hT.low), Nat.le_trans hT.low hBW.size, hD, ?_, ?_⟩
      · exact Nat.lt_of_lt_of_le HS.out (Nat.le_trans H4.out.size hW.size)
      · intro hv
        rcases hT.own.2 with ⟨rfl, _⟩ | ⟨g', cap', cur, rfl, _, hgg, _⟩
        · simp [Value.ownBlock] at hv
        · have hgl := (Array.getElem?_eq_some_iff.1 hgg).1
          simp only [Value.ownBlock, Option.some.injEq] at hv
          omega
  clear C1 kb HT HP HZ HB HS H4 hB4 HTAB
  clear hE hM hmu hm s1 k1 k2 k3
  go_region_with (first | (go_at_call 92; refine (X1 _).mono ?_; rintro r w5 ⟨rfl, rfl⟩) | (go_at_call 112; refine (X2 _).mono ?_; rintro r w6 ⟨rfl, HX⟩))
  go_wp2_with (at_builtin; refine Hid.out ?_)
  refine (HF'.out _ HX.out).mono ?_
  rintro r w7 ⟨v7, rfl, h7⟩
  have H7 := Lib.hid h7
  clear h7
  go_wp2_with fail
  go_ret
  exact ⟨_, rfl, H7.out.own, H7.out.bel⟩
end Go.Proofs.YtbbpngoffpegbaaGreatDoor
