/- FormatFloat, 'g' and as few digits as tell the float, given what ftoa64 gives. -/
import Derived.Test.YtbbpngoffpegbaaGreatDoorFFin
import Derived.Laws.MakeOwn
import Derived.Laws.IdiomStrings
namespace Go.Proofs.YtbbpngoffpegbaaGreatDoor
open Go Go.RowKit
set_option linter.unusedVariables false
set_option linter.unusedSimpArgs false
theorem conv_flo (W : World) (B : Nat) (v : Value) (l : List UInt8) (h : W.ownsRow B 5 1 v l.length (cellsB l)) : Sem.run Tryz.prog (convert 32 9 v) W = .ok (.string ⟨l.toArray⟩) W := by
  rcases h.2 with ⟨rfl, h0⟩ | ⟨g, cap, cur, rfl, _⟩
  · rw [List.eq_nil_of_length_eq_zero h0]
    exact run_convert_bytes_nil (P := Tryz.prog) W 32 5 Tryz.underlying32 Tryz.underlying5 0 0 9 Tryz.underlying9
  · have hr := own_range h
    refine run_convert_bytes_back (P := Tryz.prog) W 32 9 5 ⟨g, 0, none⟩ cap l Tryz.underlying32 Tryz.underlying5 Tryz.underlying9 fun j hj => ?_
    have := hr j (encB l[j]) (by simp [cellsB, List.getElem?_eq_getElem hj])
    rw [Nat.zero_add] at this
    rw [Addr.add_mid, Nat.zero_add]
    exact this
theorem slc_flo {w : World} {base : Nat} {e : TypeId} {sz n : Nat} {v : Value} {xs : List Value} (h : w.ownsRow base e sz v n xs) : ∃ a m c, v = .slice a m c := by
  rcases h.2 with ⟨rfl, _⟩ | ⟨g, cap, cur, rfl, _⟩
  · exact ⟨_, _, _, rfl⟩
  · exact ⟨_, _, _, rfl⟩
/-- What FormatFloat gives. -/
def FmtIs (l : List UInt8) (w : World) (e : Ending) (w' : World) : Prop := e = .returned (.string ⟨l.toArray⟩) ∧ Below w.heap.size w w'
/-- ftoa64 gives the text T at x, behind w. -/
def FtoT (x : Nat) (T : List UInt8) (w : World) : Prop := ∀ w1 v, TX w.heap.size w 0 [] v [] w1 → Calls Tryz.prog 78 #[v, .float .f64 x, .int .u8 103, .int .i64 (-1)] w1 (ToIs w.heap.size w T)
set_option maxRecDepth 100000 in
theorem ifmt_of (x : Nat) (T : List UInt8) (w : World) (h0 : 0 < w.heap.size) (HF : FtoT x T w) :
    Calls Tryz.prog 56 #[.float .f64 x, .int .u8 103, .int .i64 (-1), .int .i64 64] w (FmtIs T w) := by
  obtain ⟨i, hi, hz, hs, hb⟩ := info_u8x
  have HM := Lib.hid (fun W : World => run_makeSlice_owned (P := Tryz.prog) W w.heap.size 32 5 i (.int .u8 0) 1 Tryz.underlying32 hi hz hs .i64 .i64 24 (by omega) (by omega) (by simp only [maxLen]; omega))
  have HFF := Lib.hid HF
  clear HF hi hz hs hb
  obtain ⟨w1, m1, m2, m3⟩ := HM.out w (Nat.le_refl _)
  have hTX : TX w.heap.size w 0 [] (.slice (some ⟨w.heap.size, 0, none⟩) 0 24) [] w1 :=
    ⟨m2, (Below.refl _ _).grown m3 (Nat.le_refl _) (fun k hk => by cases hk), m3.size, fun j x hx => by simp at hx, Nat.lt_of_lt_of_le h0 m3.size, by simp only [Value.ownBlock, ne_eq, Option.some.injEq]; omega⟩
  have m1' : (Instr.makeSlice 32 (.int .i64 0) (.int .i64 (max 3 24))).run Tryz.prog w = .ok (.slice (some ⟨w.heap.size, 0, none⟩) 0 24) w1 := m1
  clear m1
  have HX := Lib.hid hTX
  clear hTX m2 m3 HM
  go_enter Tryz.func56, Tryz.ntmps56
  go_wp2_with fail
  refine (HFF.out _ _ HX.out).mono ?_
  rintro e w2 ⟨v, rfl, h2, hb2⟩
  have hcv := conv_flo w2 _ _ _ h2
  obtain ⟨a3, n3, c3, rfl⟩ := slc_flo h2
  have HB := Lib.hid hb2
  clear h2 hb2 m1'
  go_wp2_with fail
  go_ret
  exact ⟨rfl, HB.out⟩
theorem fmt_of (x : Nat) (T : List UInt8) (w : World) (h0 : 0 < w.heap.size) (HF : FtoT x T w) :
    Calls Tryz.prog 36 #[.float .f64 x, .int .u8 103, .int .i64 (-1), .int .i64 64] w (FmtIs T w) := by
  have HFF := Lib.hid HF
  have H0 := Lib.hid h0
  clear HF h0
  go_enter Tryz.func36, Tryz.ntmps36
  go_wp2_with fail
  refine (ifmt_of x T _ H0.out HFF.out).mono ?_
  rintro e w2 ⟨rfl, hb2⟩
  go_wp2_with fail
  go_ret
  exact ⟨rfl, hb2⟩
/-- The float's text as value.Float tells it. -/
def floT (T : List UInt8) : List UInt8 := if Lib.containsAny T [46, 101, 78, 73] then T else T ++ [46, 48]
theorem asc4 (j : Nat) (b : UInt8) (h : (⟨#[46, 101, 78, 73]⟩ : ByteArray).data.toList[j]? = some b) : b.toNat < 128 :=
  (show ∀ b ∈ [(46 : UInt8), 101, 78, 73], b.toNat < 128 by decide) b (List.mem_of_getElem? h)
theorem Float_of (x : Nat) (T : List UInt8) (w : World) (h0 : 0 < w.heap.size) (HF : FtoT x T w) (hl : T.length ≤ 1000) (ha : ∀ (j : Nat) b, T[j]? = some b → b.toNat < 128) :
    Calls Tryz.prog 19 #[.float .f64 x] w (FmtIs (floT T) w) := by
  have HFF := Lib.hid HF
  have H0 := Lib.hid h0
  have HA := Lib.hid ha
  have hsz : (⟨T.toArray⟩ : ByteArray).size ≤ 1000 := by simpa [ByteArray.size] using hl
  have hsz2 : ((⟨T.toArray⟩ : ByteArray) ++ ⟨#[46, 48]⟩).size ≤ 1002 := by rw [ByteArray.size_append]; have : (⟨#[46, 48]⟩ : ByteArray).size = 2 := rfl; omega
  clear HF h0 ha
  have hcat : ((⟨T.toArray⟩ : ByteArray) ++ ⟨#[46, 48]⟩) = ⟨(T ++ [46, 48]).toArray⟩ := by
    apply ByteArray.ext
    rw [ByteArray.data_append]
    simp
  unfold floT
  cases hc : Lib.containsAny T [46, 101, 78, 73]
  · have HC := Lib.hid hc
    have HS := Lib.hid hsz
    have HS2 := Lib.hid hsz2
    have HCAT := Lib.hid hcat
    clear hc hsz hcat
    obtain ⟨S, hS⟩ : ∃ S : ByteArray, S = ⟨T.toArray⟩ := ⟨_, rfl⟩
    clear hsz2
    obtain ⟨n, hn⟩ : ∃ n, S.size = n := ⟨_, rfl⟩
    have hn2 : n ≤ 1000 := by rw [← hn, hS]; exact HS.out
    go_enter Tryz.func19, Tryz.ntmps19
    go_wp2_with fail
    refine (fmt_of x T _ H0.out HFF.out).mono ?_
    rintro e w2 ⟨rfl, hb2⟩
    have HB := Lib.hid hb2
    clear hb2
    rw [← hS]
    have HE := Lib.hid hS
    clear hS
    go_wp2_with fail
    refine (Tryz.strings_ContainsAny_laid S ⟨#[46, 101, 78, 73]⟩ _ (by have := HS.out; rw [← HE.out] at this; omega) (by decide) (by rw [HE.out]; simpa using HA.out) asc4).mono ?_
    rintro e w3 ⟨rfl, hb3⟩
    have hc2 : Lib.containsAny S.data.toList [46, 101, 78, 73] = false := by rw [HE.out]; simpa using HC.out
    have HB2 := Lib.hid (HB.out.trans (hb3.mono HB.out.size))
    rw [show (⟨#[46, 101, 78, 73]⟩ : ByteArray).data.toList = [46, 101, 78, 73] from rfl, hc2]
    clear hb3 hc2
    go_wp2_with fail
    go_ret
    refine ⟨?_, HB2.out⟩
    rw [HE.out, HCAT.out]
    rfl
  · have HC := Lib.hid hc
    have HS := Lib.hid hsz
    clear hc hsz hcat hsz2
    obtain ⟨S, hS⟩ : ∃ S : ByteArray, S = ⟨T.toArray⟩ := ⟨_, rfl⟩
    go_enter Tryz.func19, Tryz.ntmps19
    go_wp2_with fail
    refine (fmt_of x T _ H0.out HFF.out).mono ?_
    rintro e w2 ⟨rfl, hb2⟩
    have HB := Lib.hid hb2
    clear hb2
    rw [← hS]
    have HE := Lib.hid hS
    clear hS
    go_wp2_with fail
    refine (Tryz.strings_ContainsAny_laid S ⟨#[46, 101, 78, 73]⟩ _ (by have := HS.out; rw [← HE.out] at this; omega) (by decide) (by rw [HE.out]; simpa using HA.out) asc4).mono ?_
    rintro e w3 ⟨rfl, hb3⟩
    have hc2 : Lib.containsAny S.data.toList [46, 101, 78, 73] = true := by rw [HE.out]; simpa using HC.out
    have HB2 := Lib.hid (HB.out.trans (hb3.mono HB.out.size))
    rw [show (⟨#[46, 101, 78, 73]⟩ : ByteArray).data.toList = [46, 101, 78, 73] from rfl, hc2]
    clear hb3 hc2
    go_wp2_with fail
    go_ret
    refine ⟨?_, HB2.out⟩
    rw [HE.out]
    rfl
end Go.Proofs.YtbbpngoffpegbaaGreatDoor
