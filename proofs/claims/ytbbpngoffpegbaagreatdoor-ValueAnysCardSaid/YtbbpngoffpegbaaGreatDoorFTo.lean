/- The walk of ftoa64, 'g' and as few digits as tell the float. -/
import Derived.Test.YtbbpngoffpegbaaGreatDoorFEfgE
import Derived.Test.YtbbpngoffpegbaaGreatDoorFEfgF
import Derived.Lib.AppendStr
namespace Go.Proofs.YtbbpngoffpegbaaGreatDoor
open Go Go.RowKit
set_option linter.unusedVariables false
set_option linter.unusedSimpArgs false
theorem run_f64bits (x : Nat) (w : World) : Sem.run Tryz.prog (callFunc 106 #[.float .f64 x]) w = .ok (.value (.int .u64 x)) w := by
  have h := run_callFunc_extern (P := Tryz.prog) (f := 106) (fn := Tryz.f106) (e := Extern.MathFloatBits.float64bits) Tryz.func106 (by kernel_rfl) (by kernel_rfl) (by kernel_rfl) (by kernel_rfl) #[.float .f64 x] w
  rw [h]; rfl
/-- What ftoa64 gives: the text's bytes in a row of their own. -/
def ToIs (B : Nat) (wb : World) (l : List UInt8) (e : Ending) (w' : World) : Prop := ∃ v', e = .returned v' ∧ w'.ownsRow B 5 1 v' l.length (cellsB l) ∧ Below B wb w'
/-- A text's bytes put behind. -/
theorem TX.appS {B : Nat} {wb : World} {b : Nat} {ds : List UInt8} {v : Value} {l : List UInt8} {w : World} (h : TX B wb b ds v l w) (s : ByteArray) (hl : l.length + s.size ≤ 100000) (ty : TypeId) :
    ∃ v' w', (Builtin.append_ #[32, 9] ty #[v, .string s]).run Tryz.prog w = .ok v' w' ∧ (w'.ownsRow B 5 1 v' (l.length + s.size) (cellsB l ++ Lib.strCells s) ∧ Below B wb w') := by
  obtain ⟨i, hi, hz, hs, hb⟩ := info_u8x
  obtain ⟨v', w', hr, h2, h3, h4⟩ := Lib.run_append_own_string (P := Tryz.prog) (w := w) B 32 9 ty 5 i Tryz.underlying32 Tryz.underlying9 hi hz hs hb v l.length (cellsB l) h.own s (by simp only [maxLen]; omega) (by omega) h.low
  refine ⟨v', w', hr, h2, h.bel.grown h3 h.low fun k hk => ?_⟩
  rcases h.own.2 with ⟨rfl, _⟩ | ⟨g', cap', cur, rfl, hbg, _⟩
  · simp [Value.ownBlock] at hk
  · simp only [Value.ownBlock, Option.some.injEq] at hk; omega
set_option maxRecDepth 100000 in
set_option maxHeartbeats 4000000 in
theorem ftoa_nan (B : Nat) (wb : World) (b : Nat) (v : Value) (w : World) (x M : Nat) (hx : x < 18446744073709551616) (h : TX B wb b [] v [] w)
    (hE : bits .and .i64 ((x : Int) / 4503599627370496) 2047 = 2047) (hM : bits .and .u64 (x : Int) 4503599627370495 = (M : Int)) (hM0 : 1 ≤ M) :
    Calls Tryz.prog 78 #[v, .float .f64 x, .int .u8 103, .int .i64 (-1)] w (ToIs B wb [78, 97, 78]) := by
  have HT := Lib.hid h
  have kb := run_f64bits
  have k1 : ((M : Int) != 0) = true := by simp; omega
  clear h
  go_enter Tryz.func78, Tryz.ntmps78
  go_wp2_with (at_builtin; refine Hid.out ?_)
  go_quiet (fail)
  go_wp2_with (at_builtin; refine Hid.out ?_)
  have HT := HT.drewN nq
  refine Lib.hid (wpList_app rfl _ _ _ _ rfl _ _ rfl rfl (HT.appS ⟨#[78, 97, 78]⟩ (by decide)) ?_)
  rintro v' w' ⟨h1, h2⟩
  have H1 := Lib.hid h1
  have H2 := Lib.hid h2
  clear h1 h2
  go_wp2_with fail
  go_ret
  exact ⟨_, rfl, H1, H2⟩
set_option maxRecDepth 100000 in
set_option maxHeartbeats 4000000 in
theorem ftoa_inf (B : Nat) (wb : World) (b : Nat) (v : Value) (w : World) (x : Nat) (hx : x < 18446744073709551616) (h : TX B wb b [] v [] w)
    (hE : bits .and .i64 ((x : Int) / 4503599627370496) 2047 = 2047) (hM : bits .and .u64 (x : Int) 4503599627370495 = 0) :
    Calls Tryz.prog 78 #[v, .float .f64 x, .int .u8 103, .int .i64 (-1)] w (ToIs B wb (if x / 9223372036854775808 = 0 then [43, 73, 110, 102] else [45, 73, 110, 102])) := by
  have HT := Lib.hid h
  have kb := run_f64bits
  clear h
  by_cases hn : x / 9223372036854775808 = 0
  · rw [if_pos hn]
    have k1 : ((x : Int) / 9223372036854775808 != 0) = false := by simp; omega
    clear hn
    go_enter Tryz.func78, Tryz.ntmps78
    go_wp2_with (at_builtin; refine Hid.out ?_)
    go_quiet (fail)
    go_wp2_with (at_builtin; refine Hid.out ?_)
    have HT := HT.drewN nq
    refine Lib.hid (wpList_app rfl _ _ _ _ rfl _ _ rfl rfl (HT.appS ⟨#[43, 73, 110, 102]⟩ (by decide)) ?_)
    rintro v' w' ⟨h1, h2⟩
    have H1 := Lib.hid h1
    have H2 := Lib.hid h2
    clear h1 h2
    go_wp2_with fail
    go_ret
    exact ⟨_, rfl, H1, H2⟩
  · rw [if_neg hn]
    have k1 : ((x : Int) / 9223372036854775808 != 0) = true := by simp; omega
    clear hn
    go_enter Tryz.func78, Tryz.ntmps78
    go_wp2_with (at_builtin; refine Hid.out ?_)
    go_quiet (fail)
    go_wp2_with (at_builtin; refine Hid.out ?_)
    have HT := HT.drewN nq
    refine Lib.hid (wpList_app rfl _ _ _ _ rfl _ _ rfl rfl (HT.appS ⟨#[45, 73, 110, 102]⟩ (by decide)) ?_)
    rintro v' w' ⟨h1, h2⟩
    have H1 := Lib.hid h1
    have H2 := Lib.hid h2
    clear h1 h2
    go_wp2_with fail
    go_ret
    exact ⟨_, rfl, H1, H2⟩
theorem numDigits_zero (w : World) (htab : Lib.TabIs Tryz.prog w "internal/strconv.uint64pow10" .u64 Lib.pow10Tab) : Calls Tryz.prog 92 #[.int .u64 0] w fun e w' => e = .returned (.int .i64 0) ∧ w' = w := by
  have hc : w.cell? ⟨2, 0, none⟩ = some (.int .u64 1) := htab.cell (g := 2) (by kernel_rfl) 0 (by decide)
  go_enter Tryz.func92, Tryz.ntmps92
  go_wp2_with fail
  refine (Tryz.bits_Len64 0 w (by decide) (by decide)).mono ?_
  rintro e w1 ⟨rfl, rfl⟩
  rw [show ((Lib.bitLen (0 : Int).toNat : Nat) : Int) = 0 by decide]
  go_wp2_with fail
  refine (log10Pow2_any 0 (by decide) (by decide) _).mono ?_
  rintro e w1 ⟨rfl, rfl⟩
  go_wp2_with fail
  refine (Tryz.internal_strconv_bool2_int false w1).mono ?_
  rintro e w2 ⟨rfl, rfl⟩
  go_wp2_with fail
  go_ret
  exact ⟨rfl, rfl⟩
end Go.Proofs.YtbbpngoffpegbaaGreatDoor
