/- FormatFloat at three floats: 100000, 1e6 and 1. -/
import Derived.Test.YtbbpngoffpegbaaGreatDoorFForm
import Derived.Test.YtbbpngoffpegbaaGreatDoorRows
namespace Go.Proofs.YtbbpngoffpegbaaGreatDoor
open Go Go.RowKit
set_option linter.unusedVariables false
set_option linter.unusedSimpArgs false
/-- The table of powers as Go's library lays it. -/
def hiP (p : Nat) : Nat := (Go.Pinned.pow10Rows.getD p (0, 0)).1
def loP (p : Nat) : Nat := (Go.Pinned.pow10Rows.getD p (0, 0)).2
/-- What FormatFloat reads of its memory. -/
structure FTabs (w : World) : Prop where
  pows : Pows w hiP loP
  lt : 4 < w.heap.size
  tab : Lib.TabIs Tryz.prog w "internal/strconv.uint64pow10" .u64 Lib.pow10Tab
theorem FTabs.below {w w' : World} (h : FTabs w) (hb : Below w.heap.size w w') : FTabs w' :=
  ⟨h.pows.below hb h.lt, Nat.lt_of_lt_of_le h.lt hb.size, Joins.tab_stays (g := 2) (by kernel_rfl) h.tab hb (Nat.le_refl _)⟩
theorem ftoT_1 (w : World) (h : FTabs w) : FtoT 4607182418800017408 [49] w := fun w1 v hx => by
  have h1 := h.below hx.bel
  refine ftoa_fin w.heap.size w 0 v w1 4607182418800017408 1023 0 4503599627370496 53 9223372036854775808 false (by decide) hx hiP loP h1.pows (by decide +kernel) (by decide +kernel) (by decide) (by decide) (by decide +kernel)
    (by decide +kernel) (by decide) (by decide) (by decide +kernel) (by decide) (by decide) (by decide +kernel) (by decide) (by decide) (-63) (by decide) h1.lt h1.tab 1000000000000000 (-15) (by decide +kernel) [49] fun w6 h6 => ?_
  have e1 : ndOf 1000000000000000 = 16 := by decide +kernel
  have e2 : trimN (digs 1000000000000000 16) 16 = 1 := by decide +kernel
  rw [e1] at h6 ⊢
  rw [e2]
  have := eff_a_p w.heap.size w w1.heap.size (digs 1000000000000000 16) v w6 1 0 (by decide) (by decide) (by decide +kernel) h6
  have e3 : ([] ++ (digs 1000000000000000 16).take 1 ++ List.replicate 0 48) = [49] := by decide +kernel
  rw [e3] at this
  exact this
theorem ftoT_100000 (w : World) (h : FTabs w) : FtoT 4681608360884174848 [49, 48, 48, 48, 48, 48] w := fun w1 v hx => by
  have h1 := h.below hx.bel
  refine ftoa_fin w.heap.size w 0 v w1 4681608360884174848 1039 2368348046229504 6871947673600000 53 14073748835532800000 false (by decide) hx hiP loP h1.pows (by decide +kernel) (by decide +kernel) (by decide) (by decide) (by decide +kernel)
    (by decide +kernel) (by decide) (by decide) (by decide +kernel) (by decide) (by decide) (by decide +kernel) (by decide) (by decide) (-47) (by decide) h1.lt h1.tab 1000000000000000 (-10) (by decide +kernel) [49, 48, 48, 48, 48, 48] fun w6 h6 => ?_
  have e1 : ndOf 1000000000000000 = 16 := by decide +kernel
  have e2 : trimN (digs 1000000000000000 16) 16 = 1 := by decide +kernel
  rw [e1] at h6 ⊢
  rw [e2]
  have := eff_a_p w.heap.size w w1.heap.size (digs 1000000000000000 16) v w6 1 5 (by decide) (by decide) (by decide +kernel) h6
  have e3 : ([] ++ (digs 1000000000000000 16).take 1 ++ List.replicate 5 48) = [49, 48, 48, 48, 48, 48] := by decide +kernel
  rw [e3] at this
  exact this
theorem ftoT_1e6 (w : World) (h : FTabs w) : FtoT 4696837146684686336 [49, 101, 43, 48, 54] w := fun w1 v hx => by
  have h1 := h.below hx.bel
  refine ftoa_fin w.heap.size w 0 v w1 4696837146684686336 1042 4086334964629504 8589934592000000 53 17592186044416000000 false (by decide) hx hiP loP h1.pows (by decide +kernel) (by decide +kernel) (by decide) (by decide) (by decide +kernel)
    (by decide +kernel) (by decide) (by decide) (by decide +kernel) (by decide) (by decide) (by decide +kernel) (by decide) (by decide) (-44) (by decide) h1.lt h1.tab 1000000000000000 (-9) (by decide +kernel) [49, 101, 43, 48, 54] fun w6 h6 => ?_
  have e1 : ndOf 1000000000000000 = 16 := by decide +kernel
  have e2 : trimN (digs 1000000000000000 16) 16 = 1 := by decide +kernel
  rw [e1] at h6 ⊢
  rw [e2]
  have := efg_pop w.heap.size w w1.heap.size (digs 1000000000000000 16) [] 49 v w6 6 0 7 h6 (by decide +kernel) rfl (by decide) (fun j x hj => by simp at hj) (by decide) (by decide) (by decide)
  have e3 : ([] ++ [49] ++ [101] ++ [43] ++ expD 6) = [49, 101, 43, 48, 54] := by decide +kernel
  rw [e3] at this
  exact this
def asciiB (T : List UInt8) : Bool := T.all fun b => decide (b.toNat < 128)
theorem ascii_of {T : List UInt8} (h : asciiB T = true) (j : Nat) (b : UInt8) (hj : T[j]? = some b) : b.toNat < 128 := by
  have := List.all_eq_true.1 h b (List.mem_of_getElem? hj)
  exact of_decide_eq_true this
theorem Float_1 (w : World) (h : FTabs w) : Calls Tryz.prog 19 #[.float .f64 4607182418800017408] w (FmtIs [49, 46, 48] w) :=
  Float_of _ [49] w (Nat.lt_of_le_of_lt (Nat.zero_le _) h.lt) (ftoT_1 w h) (by decide) (ascii_of (by decide +kernel))
theorem Float_100000 (w : World) (h : FTabs w) : Calls Tryz.prog 19 #[.float .f64 4681608360884174848] w (FmtIs [49, 48, 48, 48, 48, 48, 46, 48] w) :=
  Float_of _ [49, 48, 48, 48, 48, 48] w (Nat.lt_of_le_of_lt (Nat.zero_le _) h.lt) (ftoT_100000 w h) (by decide) (ascii_of (by decide +kernel))
theorem Float_1e6 (w : World) (h : FTabs w) : Calls Tryz.prog 19 #[.float .f64 4696837146684686336] w (FmtIs [49, 101, 43, 48, 54] w) :=
  Float_of _ [49, 101, 43, 48, 54] w (Nat.lt_of_le_of_lt (Nat.zero_le _) h.lt) (ftoT_1e6 w h) (by decide) (ascii_of (by decide +kernel))
end Go.Proofs.YtbbpngoffpegbaaGreatDoor
