/- The walks of the source's readers: next, word; number and value at the two words of "[none, 1.0]". The walks of the source's value and list at "[none, 1.0]". The walks of the source's list, value and of Parse's reading at "[none, 1.0]". The walks of told, Text and Any at the list of nothing and 1.0. The walks of Any and Text; of Parse at "[none, 1.0]"; of 'awake'. The walks of Parse at "[none, 1.0]" and of 'awake'. The walk of 'is': the Go value of a value is told to be it. The walk of 'spoil': all lists of a Go value are written over and grown; nothing else is written. The walk of 'ValueAnys'. The listed variables: what they hold, a start that meets them. The Go value of every value, as assertions and a switch over its type tell it, in new memory: 'ValueAnys' returns true whatever value comes in, and the value reads as it did. No condition; the listed package-level variables hold what the program's text lays (the tied card). -/
import Derived.Test.YtbbpngoffpegbaaGreatDoorPF
import Derived.Test.YtbbpngoffpegbaaGreatDoorShelf
import Derived.Test.YtbbpngoffpegbaaGreatDoorFText
import Derived.Test.YtbbpngoffpegbaaGreatDoorPlain
import Derived.LoopN
import Derived.Test.YtbbpngoffpegbaaGreatDoorPlainI
import Derived.Test.YtbbpngoffpegbaaGreatDoorTas
import Derived.Test.YtbbpngoffpegbaaGreatDoorFOne
import Derived.Test.YtbbpngoffpegbaaGreatDoorHeld7
import Derived.Laws.CopyOwn
import Derived.Deep.AppendLies
import Derived.Test.YtbbpngoffpegbaaGreatDoorLent
import Derived.Test.YtbbpngoffpegbaaGreatDoorRows
import Derived.Test.YtbbpngoffpegbaaGreatDoorOpen
import Derived.WalkKit
import Derived.ProofKit
import Derived.OpenShut
import Derived.ChangeOld
import Derived.ChangeSame
import Derived.Below
import Derived.LaidLaws
import Derived.LaidHandle
import Derived.Stop.LaidErr
import Derived.Lib.LaidTab
import Derived.Lay
import Derived.LaidMore
import Derived.Stop.Joined
import Derived.Deep.Slices
import Derived.Deep.Strs
import Derived.Deep.Fields
import Derived.HandedShaped
import Derived.Test.YtbbpngoffpegbaaGreatDoorTie
import Derived.Test.YtbbpngoffpegbaaGreatDoorCards
import Derived.SevenTiedAt
namespace Go.Proofs.YtbbpngoffpegbaaGreatDoor
open Go Go.RowKit
set_option linter.unusedVariables false
set_option linter.unusedSimpArgs false
/-- The source at p holds the text u; but for its block nothing has been written. -/
structure Sx (p : Addr) (u : ByteArray) (w w' : World) : Prop where
  cell : w'.cell? p = some (.string u)
  fz : w'.frozen? p = false
  wr : Wr (fun j => j = p.block) w w'
theorem Sx.below {p : Addr} {u : ByteArray} {w w1 w2 : World} (h : Sx p u w w1) (hb : Below w1.heap.size w1 w2) : Sx p u w w2 := by
  have hl := World.block_lt_of_cell? w1 p h.cell
  exact ⟨(hb.cell hl).trans h.cell, (hb.frozen hl).trans h.fz, h.wr.andThen (Wr.of_below hb (fun j => j = p.block)) fun _ _ h => h⟩
theorem Sx.put {p : Addr} {u : ByteArray} {w w1 : World} (h : Sx p u w w1) (v : ByteArray) : Sx p v w (w1.setCell p (.string v)) :=
  ⟨World.cell?_setCell_same _ _ _ (by rw [h.cell]), (World.frozen?_setCell ..).trans h.fz, h.wr.setCell (.inl rfl) _⟩
theorem Sx.thenS {p : Addr} {u v : ByteArray} {w w1 w2 : World} (h : Sx p u w w1) (k : Sx p v w1 w2) : Sx p v w w2 := ⟨k.cell, k.fz, h.wr.andThen k.wr fun _ _ h => h⟩
theorem Sx.refl {p : Addr} {u : ByteArray} {w : World} (h : w.cell? p = some (.string u)) (hz : w.frozen? p = false) : Sx p u w w := ⟨h, hz, Wr.refl _ _⟩
theorem next_any (s t : ByteArray) (p : Addr) (w : World) (hp : w.cell? p = some (.string s)) (hz : w.frozen? p = false) (b : Bool) (u : ByteArray) (hb : Lib.hasPrefix s.data.toList t.data.toList = b) (hu : (Lib.trimPrefix s.data.toList t.data.toList).toArray = u.data) :
    Calls Tryz.prog 58 #[.pointer (some p), .string t] w fun e w' => e = .returned (.bool b) ∧ Sx p u w w' := by
  have HS := Lib.hid (Sx.refl hp hz)
  have HC := Lib.hid (Tryz.strings_CutPrefix s t w)
  rw [hb, show (⟨(Lib.trimPrefix s.data.toList t.data.toList).toArray⟩ : ByteArray) = u from ByteArray.ext hu] at HC
  clear hb hu
  go_enter Tryz.func58, Tryz.ntmps58
  go_wp2_with fail
  refine HC.out.mono ?_
  rintro e w1 ⟨rfl, rfl⟩
  go_wp2_with fail
  go_ret
  exact ⟨rfl, HS.out.put u⟩
theorem word_any (s : ByteArray) (k : Nat) (p : Addr) (w : World) (hp : w.cell? p = some (.string s)) (hz : w.frozen? p = false) (hk : Lib.indexAny s.data.toList [44, 93] = (k : Int)) (hks : k ≤ s.size) (hs : s.size < 4294967281) (has : ∀ (j : Nat) b, s.data.toList[j]? = some b → b.toNat < 128) :
    Calls Tryz.prog 65 #[.pointer (some p)] w fun e w' => e = .returned (.string (s.extract 0 k)) ∧ Sx p (s.extract k s.size) w w' := by
  have HS := Lib.hid (Sx.refl hp hz)
  have HC := Lib.hid (Tryz.strings_IndexAny_laid s ⟨#[44, 93]⟩ w hs (by decide) has (by
    intro j b hb
    exact (show ∀ b ∈ [(44 : UInt8), 93], b.toNat < 128 by decide) b (List.mem_of_getElem? hb)))
  rw [show (⟨#[44, 93]⟩ : ByteArray).data.toList = [44, 93] from rfl, hk] at HC
  have d1 : decide ((k : Int) < 0) = false := decide_eq_false (by omega)
  have d2 : ¬ ((k : Int) < 0) := by omega
  have d3 : (k : Int) ≤ (s.size : Int) := by omega
  clear hk has
  go_enter Tryz.func65, Tryz.ntmps65
  go_wp2_with fail
  refine HC.out.mono ?_
  rintro e w1 ⟨rfl, hb⟩
  have HB := Lib.hid (HS.out.below hb)
  have hp1 := HB.out.cell
  have hz1 := HB.out.fz
  clear hb hp hz
  go_wp2_with fail
  go_ret
  exact ⟨rfl, HB.out.put _⟩
theorem PTabs.below {w w' : World} (h : PTabs w) (hb : Below w.heap.size w w') : PTabs w' := by
  obtain ⟨a, n, c, h1, h2, h3, h4⟩ := h.pow
  exact ⟨(hb.cell (World.block_lt_of_cell? w _ h.opt)).trans h.opt, (hb.cell (World.block_lt_of_cell? w _ h.info)).trans h.info, a, n, c, (hb.cell (World.block_lt_of_cell? w _ h1)).trans h1, h2, h3, (hb.cell (World.block_lt_of_cell? w _ h4)).trans h4⟩
/-- The table's blocks are not the source's. -/
theorem number_none (w : World) : Calls Tryz.prog 64 #[.string ⟨#[110, 111, 110, 101]⟩] w fun e w' => e = .returned (.tuple #[.nilIface, .bool true]) ∧ w' = w := by
  go_enter Tryz.func64, Tryz.ntmps64
  go_wp2_with fail
  go_ret2
  exact ⟨rfl, rfl⟩
def isOkB : Lib.NumEnd Int → Bool
  | .ok _ => true
  | _ => false
def isRangeB : Lib.NumEnd Int → Bool
  | .range => true
  | _ => false
theorem bad10 : (∀ v, Lib.parseIntB 64 [49, 46, 48] ≠ .ok v) ∧ Lib.parseIntB 64 [49, 46, 48] ≠ .range := by
  have h1 : isOkB (Lib.parseIntB 64 [49, 46, 48]) = false := by decide +kernel
  have h2 : isRangeB (Lib.parseIntB 64 [49, 46, 48]) = false := by decide +kernel
  refine ⟨fun v h => ?_, fun h => ?_⟩
  · rw [h] at h1; cases h1
  · rw [h] at h2; cases h2
theorem number_1 (w : World) (h : PTabs w) (hsyn : ∃ tp p, w.var? Tryz.prog "strconv.ErrSyntax" = some #[.iface tp p]) :
    Calls Tryz.prog 64 #[.string s10] w fun e w' => e = .returned (.tuple #[.iface 22 (.float .f64 4607182418800017408), .bool true]) ∧ Below w.heap.size w w' := by
  obtain ⟨tp, pp, hv⟩ := hsyn
  have HC := Lib.hid (Tryz.strconv_ParseInt_10_at64_bad_var s10 (by decide) bad10.1 bad10.2 tp pp w hv)
  have HP := Lib.hid h
  clear h hv
  go_enter Tryz.func64, Tryz.ntmps64
  go_wp2_with fail
  refine HC.out.mono ?_
  rintro e w1 ⟨N, rfl, _, _, hb⟩
  have HB := Lib.hid hb
  clear hb
  go_wp2_with fail
  refine (ParseFloat_1 w1 (HP.out.below HB.out)).mono ?_
  rintro e w2 ⟨rfl, rfl⟩
  go_wp2_with fail
  go_ret2
  exact ⟨rfl, HB.out⟩
end Go.Proofs.YtbbpngoffpegbaaGreatDoor
namespace Go.Proofs.YtbbpngoffpegbaaGreatDoor
open Go Go.RowKit
set_option linter.unusedVariables false
set_option linter.unusedSimpArgs false
abbrev sA : ByteArray := ⟨#[91, 110, 111, 110, 101, 44, 32, 49, 46, 48, 93]⟩
abbrev sB : ByteArray := ⟨#[110, 111, 110, 101, 44, 32, 49, 46, 48, 93]⟩
abbrev sC : ByteArray := ⟨#[44, 32, 49, 46, 48, 93]⟩
abbrev sD : ByteArray := ⟨#[49, 46, 48, 93]⟩
abbrev sE : ByteArray := ⟨#[93]⟩
abbrev sF : ByteArray := ⟨#[]⟩
abbrev one64 : Value := .iface 22 (.float .f64 4607182418800017408)
/-- What ParseFloat, ParseInt and FormatFloat read of their memory. -/
structure ATabs (w : World) : Prop where
  p : PTabs w
  syn : ∃ tp p, w.var? Tryz.prog "strconv.ErrSyntax" = some #[.iface tp p]
theorem var_below {w w' : World} {n : String} {cs : Array Value} (h : w.var? Tryz.prog n = some cs) (hb : Below w.heap.size w w') : w'.var? Tryz.prog n = some cs := by
  unfold World.var? at h ⊢
  cases hg : Tryz.prog.globalNamed n with
  | none => rw [hg] at h; cases h
  | some g =>
    rw [hg] at h
    simp only [Option.bind_some] at h ⊢
    rcases Nat.lt_or_ge g w.heap.size with hl | hl
    · rw [hb.block g hl]; exact h
    · rw [Array.getElem?_eq_none hl] at h; cases h
theorem ATabs.below {w w' : World} (h : ATabs w) (hb : Below w.heap.size w w') : ATabs w' := by
  obtain ⟨h1, t, p, h2⟩ := h
  exact ⟨h1.below hb, t, p, var_below h2 hb⟩
theorem asc_of {s : ByteArray} (h : (s.data.toList.all fun b => decide (b.toNat < 128)) = true) (j : Nat) (b : UInt8) (hj : s.data.toList[j]? = some b) : b.toNat < 128 :=
  of_decide_eq_true (List.all_eq_true.1 h b (List.mem_of_getElem? hj))
theorem Sx.low {w0 : World} {p : Addr} {u : ByteArray} {w w' : World} (h : Sx p u w w') (h0 : Below w0.heap.size w0 w) (hp : w0.heap.size ≤ p.block) : Below w0.heap.size w0 w' :=
  h0.trans (h.wr.below h0.size fun k hk => by subst hk; exact hp)
set_option maxHeartbeats 4000000 in
theorem svalue_none (p : Addr) (w : World) (hp : w.cell? p = some (.string sB)) (hz : w.frozen? p = false) :
    Calls Tryz.prog 38 #[.pointer (some p), .int .i64 1] w fun e w' => e = .returned (.tuple #[.nilIface, .bool true]) ∧ Sx p sC w w' := by
  have HS := Lib.hid (Sx.refl hp hz)
  clear hp hz
  go_enter Tryz.func38, Tryz.ntmps38
  go_wp2_with fail
  refine (next_any sB ⟨#[91]⟩ p w HS.out.cell HS.out.fz false sB (by decide) (by decide)).mono ?_
  rintro e w1 ⟨rfl, h⟩
  have H1 := Lib.hid (HS.out.thenS h)
  clear h
  go_wp2_with fail
  refine (next_any sB ⟨#[120]⟩ p w1 H1.out.cell H1.out.fz false sB (by decide) (by decide)).mono ?_
  rintro e w2 ⟨rfl, h⟩
  have H2 := Lib.hid (H1.out.thenS h)
  clear h
  have hc := H2.out.cell
  go_wp2_with fail
  refine (Tryz.strings_HasPrefix sB ⟨#[34]⟩ w2).mono ?_
  rintro e w3 ⟨rfl, rfl⟩
  rw [show Lib.hasPrefix sB.data.toList (⟨#[34]⟩ : ByteArray).data.toList = false by decide]
  go_wp2_with fail
  refine (word_any sB 4 p w3 H2.out.cell H2.out.fz (by decide) (by decide) (by decide) (asc_of (by decide +kernel))).mono ?_
  rintro e w4 ⟨rfl, h⟩
  have H4 := Lib.hid (H2.out.thenS h)
  rw [show sB.extract 4 sB.size = sC by decide] at H4
  rw [show sB.extract 0 4 = ⟨#[110, 111, 110, 101]⟩ by decide]
  clear h hc
  go_wp2_with fail
  refine (number_none w4).mono ?_
  rintro e w5 ⟨rfl, rfl⟩
  go_wp2_with fail
  go_ret2
  exact ⟨rfl, H4.out⟩
set_option maxHeartbeats 4000000 in
theorem svalue_1 (w0 : World) (ht : ATabs w0) (p : Addr) (w : World) (h0 : Below w0.heap.size w0 w) (hpb : w0.heap.size ≤ p.block) (hp : w.cell? p = some (.string sD)) (hz : w.frozen? p = false) :
    Calls Tryz.prog 38 #[.pointer (some p), .int .i64 1] w fun e w' => e = .returned (.tuple #[one64, .bool true]) ∧ Sx p sE w w' := by
  have HS := Lib.hid (Sx.refl hp hz)
  have HT := Lib.hid ht
  have H0 := Lib.hid h0
  have HPB := Lib.hid hpb
  clear hp hz ht h0 hpb
  go_enter Tryz.func38, Tryz.ntmps38
  go_wp2_with fail
  refine (next_any sD ⟨#[91]⟩ p w HS.out.cell HS.out.fz false sD (by decide) (by decide)).mono ?_
  rintro e w1 ⟨rfl, h⟩
  have H1 := Lib.hid (HS.out.thenS h)
  clear h
  go_wp2_with fail
  refine (next_any sD ⟨#[120]⟩ p w1 H1.out.cell H1.out.fz false sD (by decide) (by decide)).mono ?_
  rintro e w2 ⟨rfl, h⟩
  have H2 := Lib.hid (H1.out.thenS h)
  clear h
  have hc := H2.out.cell
  go_wp2_with fail
  refine (Tryz.strings_HasPrefix sD ⟨#[34]⟩ w2).mono ?_
  rintro e w3 ⟨rfl, rfl⟩
  rw [show Lib.hasPrefix sD.data.toList (⟨#[34]⟩ : ByteArray).data.toList = false by decide]
  go_wp2_with fail
  refine (word_any sD 3 p w3 H2.out.cell H2.out.fz (by decide) (by decide) (by decide) (asc_of (by decide +kernel))).mono ?_
  rintro e w4 ⟨rfl, h⟩
  have H4 := Lib.hid (H2.out.thenS h)
  rw [show sD.extract 3 sD.size = sE by decide] at H4
  rw [show sD.extract 0 3 = s10 by decide]
  clear h hc
  go_wp2_with fail
  have HT4 := Lib.hid (HT.out.below (H4.out.low H0.out HPB.out))
  refine (number_1 w4 HT4.out.p HT4.out.syn).mono ?_
  rintro e w5 ⟨rfl, hb⟩
  have H5 := Lib.hid (H4.out.below hb)
  clear hb
  go_wp2_with fail
  go_ret2
  exact ⟨rfl, H5.out⟩
end Go.Proofs.YtbbpngoffpegbaaGreatDoor
namespace Go.Proofs.YtbbpngoffpegbaaGreatDoor
open Go Go.RowKit
set_option linter.unusedVariables false
set_option linter.unusedSimpArgs false
/-- A list that is made while the source is read. -/
structure LX (p : Addr) (u : ByteArray) (w : World) (v : Value) (n : Nat) (xs : List Value) (W : World) : Prop where
  sx : Sx p u w W
  row : W.ownsRow w.heap.size 20 1 v n xs
  pl : p.block < w.heap.size
theorem LX.thenS {p : Addr} {u u2 : ByteArray} {w : World} {v : Value} {n : Nat} {xs : List Value} {W W2 : World} (h : LX p u w v n xs W) (k : Sx p u2 W W2) : LX p u2 w v n xs W2 := by
  refine ⟨h.sx.thenS k, ?_, h.pl⟩
  refine h.row.kept (row := some p.block) ⟨k.wr.os, k.wr.tape, k.wr.output, k.wr.size, fun i hi hne => k.wr.block i hi (fun e => hne (by rw [e]))⟩ ?_
  rcases h.row.2 with ⟨rfl, _⟩ | ⟨g, cap, cur, rfl, hg, _⟩
  · left; simp [Value.ownBlock]
  · right
    intro e
    simp only [Value.ownBlock, Option.some.injEq] at e
    have := h.pl
    omega
theorem LX.app {p : Addr} {u : ByteArray} {w : World} {v : Value} {n : Nat} {xs : List Value} {W : World} (h : LX p u w v n xs W) (hn : n ≤ 1000) (x : Value) (hx : x.oneCell' = true) (ty : TypeId) :
    ∃ v' w', (Builtin.append_ #[34, 34] ty #[v, .slice (some ⟨W.heap.size, 0, none⟩) 1 1]).run Tryz.prog (W.alloc (.cells #[x] 20)) = .ok v' w' ∧ ((∃ g cap, v' = .slice (some ⟨g, 0, none⟩) (n + 1) cap) ∧ LX p u w v' (n + 1) (xs ++ [x]) w') := by
  obtain ⟨i, hi, hz, hs, hb⟩ := info_parts info_any
  have hB := bnew (Below.refl W.heap.size W) (.cells #[x] 20)
  have hown : (W.alloc (.cells #[x] 20)).ownsRow w.heap.size 20 1 v n xs := h.row.kept (row := none) ⟨hB.os, hB.tape, hB.output, hB.size, fun k hk _ => hB.block k hk⟩ (by cases v.ownBlock <;> simp)
  obtain ⟨g, cap, w', hr, h2, h3, h4, h5⟩ := run_append_lies (P := Tryz.prog) (w := W.alloc (.cells #[x] 20)) 34 ty w.heap.size 20 i .nilIface 1 16 Tryz.underlying34 hi hz hs hb rfl (by omega) v n xs hown ⟨W.heap.size, 0, none⟩ 1 1 [x] rfl (fun j y hy => by
    rw [Addr.add_mid, Nat.zero_add]
    exact (box_all (heap_alloc_new W (.cells #[x] 20)) j).trans (by simpa using hy)) (by simpa using hx) (by omega) (by simp only [maxLen]; omega) (by omega) (Nat.le_trans h.sx.wr.size hB.size) _ rfl
  refine ⟨_, w', hr, ⟨g, cap, rfl⟩, ?_, h2, h.pl⟩
  have hpl := h.pl
  have hs1 := h.sx.wr.size
  have hrow : ∀ k, v.ownBlock = some k → w.heap.size ≤ k := fun k hk => by
    rcases h.row.2 with ⟨rfl, _⟩ | ⟨g', cap', cur, rfl, hg, _⟩
    · simp [Value.ownBlock] at hk
    · simp only [Value.ownBlock, Option.some.injEq] at hk; omega
  have hblk : w'.heap[p.block]? = W.heap[p.block]? := by
    rw [h3.block p.block (by simp; omega) (fun e => by have := hrow _ e.symm; omega), Below.heap_alloc _ _ _ (by omega)]
  refine ⟨(World.cell?_of_block (w := W) hblk).trans h.sx.cell, (World.frozen?_of_block (w := W) hblk).trans h.sx.fz, ?_⟩
  refine ((h.sx.wr.alloc (.cells #[x] 20)).grown h3 fun k hk => .inr (hrow k hk))
set_option maxHeartbeats 4000000 in
theorem list_1 (w0 : World) (ht : ATabs w0) (p : Addr) (w : World) (h0 : Below w0.heap.size w0 w) (hpb : w0.heap.size ≤ p.block) (hp : w.cell? p = some (.string sB)) (hz : w.frozen? p = false) :
    Calls Tryz.prog 59 #[.pointer (some p), .int .i64 0] w fun e w' => ∃ g cap, e = .returned (.tuple #[.iface 34 (.slice (some ⟨g, 0, none⟩) 2 cap), .bool true]) ∧ LX p sF w (.slice (some ⟨g, 0, none⟩) 2 cap) 2 [.nilIface, one64] w' := by
  have hpl := World.block_lt_of_cell? w p hp
  have hA := bnew (Below.refl w.heap.size w) (.cells #[] 20)
  have HS := Lib.hid (show LX p sB w (.slice (some ⟨w.heap.size, 0, none⟩) 0 0) 0 [] (w.alloc (.cells #[] 20)) from
    ⟨(Sx.refl hp hz).below hA, own_none _ w.heap.size 20 (heap_alloc_new w _) _ (Nat.le_refl _), hpl⟩)
  have HT := Lib.hid ht
  have H0 := Lib.hid h0
  have HPB := Lib.hid hpb
  clear hp hz ht h0 hpb hpl hA
  go_enter Tryz.func59, Tryz.ntmps59
  go_wp2_with fail
  revert HS
  generalize w.alloc (.cells #[] 20) = w1
  intro HS
  refine (next_any sB ⟨#[93]⟩ p w1 HS.out.sx.cell HS.out.sx.fz false sB (by decide) (by decide)).mono ?_
  rintro e w2 ⟨rfl, h⟩
  have H1 := Lib.hid (HS.out.thenS h)
  clear h
  go_wp2_with fail
  refine wp_loop_rounds 2 ?_
  rw [rounds_succ]
  go_wp2_with fail
  refine (svalue_none p w2 H1.out.sx.cell H1.out.sx.fz).mono ?_
  rintro e w3 ⟨rfl, h⟩
  have H2 := Lib.hid (H1.out.thenS h)
  clear h
  go_wp2_with (at_builtin; refine Hid.out ?_)
  refine Lib.hid (wpList_app rfl _ _ _ _ rfl _ _ rfl rfl (H2.out.app (by omega) .nilIface rfl) ?_)
  rintro v4 w4 ⟨⟨g4, cap4, rfl⟩, h⟩
  have H3 := Lib.hid h
  clear h
  go_wp2_with fail
  refine (next_any sC ⟨#[93]⟩ p w4 H3.out.sx.cell H3.out.sx.fz false sC (by decide) (by decide)).mono ?_
  rintro e w5 ⟨rfl, h⟩
  have H4 := Lib.hid (H3.out.thenS h)
  clear h
  go_wp2_with fail
  refine (next_any sC ⟨#[44, 32]⟩ p w5 H4.out.sx.cell H4.out.sx.fz true sD (by decide) (by decide)).mono ?_
  rintro e w6 ⟨rfl, h⟩
  have H5 := Lib.hid (H4.out.thenS h)
  clear h
  go_wp2_with fail
  rw [rounds_succ]
  go_wp2_with fail
  refine (svalue_1 w0 HT.out p w6 (H5.out.sx.low H0.out HPB.out) HPB.out H5.out.sx.cell H5.out.sx.fz).mono ?_
  rintro e w7 ⟨rfl, h⟩
  have H6 := Lib.hid (H5.out.thenS h)
  clear h
  go_wp2_with (at_builtin; refine Hid.out ?_)
  refine Lib.hid (wpList_app rfl _ _ _ _ rfl _ _ rfl rfl (H6.out.app (by omega) one64 rfl) ?_)
  rintro v8 w8 ⟨⟨g8, cap8, rfl⟩, h⟩
  have H7 := Lib.hid h
  clear h
  go_wp2_with fail
  refine (next_any sE ⟨#[93]⟩ p w8 H7.out.sx.cell H7.out.sx.fz true sF (by decide) (by decide)).mono ?_
  rintro e w9 ⟨rfl, h⟩
  have H8 := Lib.hid (H7.out.thenS h)
  clear h
  go_wp2_with fail
  go_ret2
  exact ⟨g8, cap8, rfl, H8.out⟩
set_option maxHeartbeats 4000000 in
theorem svalue_0 (w0 : World) (ht : ATabs w0) (p : Addr) (w : World) (h0 : Below w0.heap.size w0 w) (hpb : w0.heap.size ≤ p.block) (hp : w.cell? p = some (.string sA)) (hz : w.frozen? p = false) :
    Calls Tryz.prog 38 #[.pointer (some p), .int .i64 0] w fun e w' => ∃ g cap, e = .returned (.tuple #[.iface 34 (.slice (some ⟨g, 0, none⟩) 2 cap), .bool true]) ∧ w'.ownsRow w.heap.size 20 1 (.slice (some ⟨g, 0, none⟩) 2 cap) 2 [.nilIface, one64] ∧ Sx p sF w w' := by
  have HS := Lib.hid (Sx.refl hp hz)
  have HT := Lib.hid ht
  have H0 := Lib.hid h0
  have HPB := Lib.hid hpb
  clear hp hz ht h0 hpb
  go_enter Tryz.func38, Tryz.ntmps38
  go_wp2_with fail
  refine (next_any sA ⟨#[91]⟩ p w HS.out.cell HS.out.fz true sB (by decide) (by decide)).mono ?_
  rintro e w1 ⟨rfl, h⟩
  have H1 := Lib.hid (HS.out.thenS h)
  clear h
  go_wp2_with fail
  refine (list_1 w0 HT.out p w1 (H1.out.low H0.out HPB.out) HPB.out H1.out.cell H1.out.fz).mono ?_
  rintro e w2 ⟨g, cap, rfl, h⟩
  have H2 := Lib.hid h
  clear h
  go_wp2_with fail
  go_ret2
  have hs := H1.out.wr.size
  refine ⟨g, cap, rfl, ?_, H1.out.thenS H2.out.sx⟩
  refine ⟨H2.out.row.1, ?_⟩
  rcases H2.out.row.2 with h | ⟨g', cap', cur, h1, h2, h3⟩
  · exact .inl h
  · exact .inr ⟨g', cap', cur, h1, by omega, h3⟩
end Go.Proofs.YtbbpngoffpegbaaGreatDoor
namespace Go.Proofs.YtbbpngoffpegbaaGreatDoor
open Go Go.RowKit
set_option linter.unusedVariables false
set_option linter.unusedSimpArgs false
def StrIs (s : ByteArray) (w : World) (e : Ending) (w' : World) : Prop := e = .returned (.string s) ∧ Below w.heap.size w w'
set_option maxRecDepth 100000 in
set_option maxHeartbeats 4000000 in
theorem told_nil (w : World) : Calls Tryz.prog 33 #[.nilIface] w (StrIs ⟨#[110, 111, 110, 101]⟩ w) := by
  have a0 := ta_nb
  have a1 := ta_ni
  have a2 := ta_nf
  have a3 := ta_nc
  have a4 := ta_ns
  have a5 := ta_ny
  have a6 := ta_na
  go_enter Tryz.func33, Tryz.ntmps33
  go_wp2_with fail
  go_ret
  exact ⟨rfl, Below.refl _ _⟩
set_option maxRecDepth 100000 in
set_option maxHeartbeats 4000000 in
theorem told_one (w : World) (h : FTabs w) : Calls Tryz.prog 33 #[one64] w (StrIs s10 w) := by
  have a0 := ta_fb
  have a1 := ta_fi
  have a2 := ta_ff
  have HF := Lib.hid h
  clear h
  go_enter Tryz.func33, Tryz.ntmps33
  go_wp2_with fail
  refine (Float_1 w HF.out).mono ?_
  rintro e w1 ⟨rfl, hb⟩
  have HB := Lib.hid hb
  clear hb
  go_wp2_with fail
  go_ret
  exact ⟨rfl, HB.out⟩
theorem info_str : (Tryz.prog.info? 9).map (fun i => (i.zero, i.size, i.bytes)) = some (some (.string ⟨#[]⟩), 1, 16) := by kernel_rfl
theorem str_cap {w : World} {base b n cap : Nat} {e : TypeId} {xs : List Value} (h : w.ownsRow base e 1 (.slice (some ⟨b, 0, none⟩) n cap) n xs) : n ≤ cap := by
  rcases h.2 with ⟨h, _⟩ | ⟨g, cap2, cur, h1, h2, h3, h4, h5⟩
  · cases h
  · simp only [Value.slice.injEq, Option.some.injEq, Addr.mk.injEq, and_true, true_and] at h1
    obtain ⟨rfl, rfl⟩ := h1
    exact h4
/-- A list of strings that is made. -/
structure LW (w : World) (v : Value) (n : Nat) (xs : List Value) (W : World) : Prop where
  row : W.ownsRow w.heap.size 9 1 v n xs
  low : Below w.heap.size w W
theorem LW.below {w : World} {v : Value} {n : Nat} {xs : List Value} {W W2 : World} (h : LW w v n xs W) (hb : Below W.heap.size W W2) : LW w v n xs W2 :=
  ⟨h.row.kept (row := none) ⟨hb.os, hb.tape, hb.output, hb.size, fun k hk _ => hb.block k hk⟩ (by cases v.ownBlock <;> simp), bthen h.low hb⟩
theorem LW.app {w : World} {v : Value} {n : Nat} {xs : List Value} {W : World} (h : LW w v n xs W) (hn : n ≤ 5000) (x : ByteArray) (ty : TypeId) :
    ∃ v' w', (Builtin.append_ #[82, 82] ty #[v, .slice (some ⟨W.heap.size, 0, none⟩) 1 1]).run Tryz.prog (W.alloc (.cells #[.string x] 9)) = .ok v' w' ∧ ((∃ g cap, v' = .slice (some ⟨g, 0, none⟩) (n + 1) cap) ∧ LW w v' (n + 1) (xs ++ [.string x]) w') := by
  obtain ⟨i, hi, hz, hs, hb⟩ := info_parts info_str
  have hB := bnew (Below.refl W.heap.size W) (.cells #[.string x] 9)
  have hown : (W.alloc (.cells #[.string x] 9)).ownsRow w.heap.size 9 1 v n xs := h.row.kept (row := none) ⟨hB.os, hB.tape, hB.output, hB.size, fun k hk _ => hB.block k hk⟩ (by cases v.ownBlock <;> simp)
  obtain ⟨g, cap, w', hr, h2, h3, h4, h5⟩ := run_append_lies (P := Tryz.prog) (w := W.alloc (.cells #[.string x] 9)) 82 ty w.heap.size 9 i (.string ⟨#[]⟩) 1 16 Tryz.underlying82 hi hz hs hb rfl (by omega) v n xs hown ⟨W.heap.size, 0, none⟩ 1 1 [.string x] rfl (fun j y hy => by
    rw [Addr.add_mid, Nat.zero_add]
    exact (box_all (heap_alloc_new W (.cells #[.string x] 9)) j).trans (by simpa using hy)) (by simp [Value.oneCell']) (by omega) (by simp only [maxLen]; omega) (by omega) (Nat.le_trans h.low.size hB.size) _ rfl
  refine ⟨_, w', hr, ⟨g, cap, rfl⟩, h2, ?_⟩
  have hrow : ∀ k, v.ownBlock = some k → w.heap.size ≤ k := fun k hk => by
    rcases h.row.2 with ⟨rfl, _⟩ | ⟨g', cap', cur, rfl, hg, _⟩
    · simp [Value.ownBlock] at hk
    · simp only [Value.ownBlock, Option.some.injEq] at hk; omega
  exact (bthen h.low hB).grown h3 (Nat.le_trans h.low.size hB.size) hrow
theorem LW.new (w : World) (c : Nat) (hc : c ≤ 5000) : ∃ w', (Instr.makeSlice 82 (.int .i64 0) (.int .i64 c)).run Tryz.prog w = .ok (.slice (some ⟨w.heap.size, 0, none⟩) 0 c) w' ∧ LW w (.slice (some ⟨w.heap.size, 0, none⟩) 0 c) 0 [] w' := by
  obtain ⟨i, hi, hz, hs, hb⟩ := info_parts info_str
  obtain ⟨w1, m1, m2, m3⟩ := run_makeSlice_owned (P := Tryz.prog) w w.heap.size 82 9 i (.string ⟨#[]⟩) 1 Tryz.underlying82 hi hz hs .i64 .i64 c (by omega) (by rw [hb]; omega) (by simp only [maxLen]; omega) (Nat.le_refl _)
  exact ⟨w1, m1, m2, (Below.refl _ _).grown m3 (Nat.le_refl _) (fun k hk => by cases hk)⟩
set_option maxRecDepth 100000 in
set_option maxHeartbeats 4000000 in
theorem told_two (b cap : Nat) (w : World) (h : FTabs w) (h0 : w.cell? ⟨b, 0, none⟩ = some .nilIface) (h1 : w.cell? ⟨b, 1, none⟩ = some one64) :
    Calls Tryz.prog 33 #[.iface 34 (.slice (some ⟨b, 0, none⟩) 2 cap)] w (StrIs sA w) := by
  have a0 := ta_ab
  have a1 := ta_ai
  have a2 := ta_af
  have a3 := ta_ac
  have a4 := ta_as
  have a5 := ta_ay
  have a6 := ta_aa
  obtain ⟨w1, m1, m2⟩ := LW.new w 2 (by omega)
  have HL := Lib.hid m2
  have HF := Lib.hid h
  have hbl := World.block_lt_of_cell? w _ h0
  have HC := Lib.hid (show ∀ W, Below w.heap.size w W → W.cell? ⟨b, 0, none⟩ = some .nilIface ∧ W.cell? ⟨b, 1, none⟩ = some one64 from fun W hW => ⟨(hW.cell hbl).trans h0, (hW.cell (p := ⟨b, 1, none⟩) hbl).trans h1⟩)
  clear h h0 h1 m2 hbl
  simp only [Int.cast_ofNat_Int] at m1
  go_enter Tryz.func33, Tryz.ntmps33
  have j0 := HC.out w1 HL.out.low
  go_wp2_with fail
  refine wp_loop_rounds 3 ?_
  rw [rounds_succ]
  clear m1
  go_wp2_with fail
  refine (told_nil w1).mono ?_
  rintro e w2 ⟨rfl, hb⟩
  have HL2 := Lib.hid (HL.out.below hb)
  clear hb j0
  go_wp2_with (at_builtin; refine Hid.out ?_)
  refine Lib.hid (wpList_app rfl _ _ _ _ rfl _ _ rfl rfl (HL2.out.app (by omega) _) ?_)
  rintro v3 w3 ⟨⟨g3, cap3, rfl⟩, h⟩
  have HL3 := Lib.hid h
  clear h
  have j0 := HC.out w3 HL3.out.low
  go_wp2_with fail
  rw [rounds_succ]
  go_wp2_with fail
  refine (told_one w3 (HF.out.below HL3.out.low)).mono ?_
  rintro e w4 ⟨rfl, hb⟩
  have HL4 := Lib.hid (HL3.out.below hb)
  clear hb j0
  go_wp2_with (at_builtin; refine Hid.out ?_)
  refine Lib.hid (wpList_app rfl _ _ _ _ rfl _ _ rfl rfl (HL4.out.app (by omega) _) ?_)
  rintro v5 w5 ⟨⟨g5, cap5, rfl⟩, h⟩
  have HL5 := Lib.hid h
  clear h
  go_wp2_with fail
  rw [rounds_succ]
  go_wp2_with fail
  have hr := own_range HL5.out.row
  have hlt := (HL5.out.row.lt g5 (by simp [Value.ownBlock])).2
  have hJ := Tryz.strings_Join g5 0 cap5 [⟨#[110, 111, 110, 101]⟩, s10] ⟨#[44, 32]⟩ w5 (fun j x hx => by
    rw [Nat.zero_add]
    match j, hx with
    | 0, hx => simp only [List.getElem?_cons_zero, Option.some.injEq] at hx; subst hx; exact hr 0 _ rfl
    | 1, hx => simp only [List.getElem?_cons_succ, List.getElem?_cons_zero, Option.some.injEq] at hx; subst hx; exact hr 1 _ rfl
    | j + 2, hx => simp at hx) hlt (by decide) (str_cap HL5.out.row) (by decide)
  have hJ2 : (⟨(Lib.join ([⟨#[110, 111, 110, 101]⟩, s10].map (·.data.toList)) (⟨#[44, 32]⟩ : ByteArray).data.toList).toArray⟩ : ByteArray) = ⟨#[110, 111, 110, 101, 44, 32, 49, 46, 48]⟩ := by decide +kernel
  rw [hJ2] at hJ
  refine hJ.mono ?_
  rintro e w6 ⟨rfl, hb⟩
  have HB := Lib.hid (bthen HL5.out.low hb)
  clear hb hJ hJ2 hr hlt
  go_wp2_with fail
  go_ret
  exact ⟨rfl, HB.out⟩
end Go.Proofs.YtbbpngoffpegbaaGreatDoor
namespace Go.Proofs.YtbbpngoffpegbaaGreatDoor
open Go Go.RowKit
set_option linter.unusedVariables false
set_option linter.unusedSimpArgs false
attribute [local go_sem] run_store_float
/-- What 'value.Any' gives. -/
def AnyIs (r : Va) (w : World) (e : Ending) (w' : World) : Prop :=
  (r.okV = true ∧ ∃ v, e = .returned (.tuple #[v, .int .i64 0]) ∧ r.plI w' w.heap.size w'.heap.size v ∧ Below w.heap.size w w') ∨ (r.okV = false ∧ e = .returned (.tuple #[.nilIface, .int .i64 20]) ∧ Below w.heap.size w w')
set_option maxHeartbeats 2000000 in
theorem Any_any (r : Va) (c : List Value) (F : List Nat) (w : World) (hr : r.tr.own 6 w c F) (hwf : r.wf) : Calls Tryz.prog 7 #[.agg c.toArray] w (AnyIs r w) := by
  obtain ⟨v0, v1, v2, v3, v4, v5, rfl⟩ := Va.shape hr
  have HR : Hid (∀ W, Below w.heap.size w W → r.tr.own 6 W [v0, v1, v2, v3, v4, v5] F) := fun W hW => Tr.own_below hr hW
  have HW := Lib.hid hwf
  have HB := Lib.hid (bnew (Below.refl w.heap.size w) (.cells #[v0, v1, v2, v3, v4, v5] 25))
  clear hr hwf
  cases ho : r.okV
  · have HO := Lib.hid ho
    clear ho
    go_enter Tryz.func7, Tryz.ntmps7
    go_wp2_with fail
    refine (Check_any r [v0, v1, v2, v3, v4, v5] F _ (HR.out _ HB.out) HW.out).mono ?_
    rintro e w1 ⟨rfl, hb1⟩
    rw [bad_ite HO.out]
    go_wp2_with fail
    go_ret2
    exact .inr ⟨HO.out, rfl, bthen HB.out hb1⟩
  · have HO := Lib.hid ho
    have HSM := Lib.hid (Va.ok_sm ho)
    clear ho
    go_enter Tryz.func7, Tryz.ntmps7
    go_wp2_with fail
    refine (Check_any r [v0, v1, v2, v3, v4, v5] F _ (HR.out _ HB.out) HW.out).mono ?_
    rintro e w1 ⟨rfl, hb1⟩
    rw [ok_ite HO.out]
    have j1 := box_keep (heap_alloc_new w (.cells #[v0, v1, v2, v3, v4, v5] 25)) hb1
    have HB1 := Lib.hid (bthen HB.out hb1)
    go_wp2_with fail
    refine (plainI_N r.size r (Nat.le_refl _) HSM.out [v0, v1, v2, v3, v4, v5] F _ (HR.out _ HB1.out)).mono ?_
    rintro e w2 ⟨x, rfl, hpl, hb2⟩
    have HP := Lib.hid (And.intro hpl hb2)
    clear hpl hb2 j1
    go_wp2_with fail
    go_ret2
    exact .inl ⟨HO.out, x, rfl, Va.plI_mono _ _ _ _ _ _ HB1.out.size (Nat.le_refl _) (Nat.le_refl _) HP.out.1, bthen HB1.out HP.out.2⟩
set_option maxHeartbeats 2000000 in
theorem Text_of (r : Va) (T : ByteArray) (ho : r.okV = true) (c : List Value) (F : List Nat) (w : World) (hr : r.tr.own 6 w c F) (hwf : r.wf)
    (HT0 : ∀ W v, Below w.heap.size w W → r.plI W w.heap.size W.heap.size v → Calls Tryz.prog 33 #[v] W (StrIs T W)) :
    Calls Tryz.prog 15 #[.agg c.toArray] w fun e w' => e = .returned (.tuple #[.string T, .int .i64 0]) ∧ Below w.heap.size w w' := by
  obtain ⟨v0, v1, v2, v3, v4, v5, rfl⟩ := Va.shape hr
  have HR : Hid (∀ W, Below w.heap.size w W → r.tr.own 6 W [v0, v1, v2, v3, v4, v5] F) := fun W hW => Tr.own_below hr hW
  have HW := Lib.hid hwf
  have HTT := Lib.hid HT0
  have HB := Lib.hid (bnew (Below.refl w.heap.size w) (.cells #[v0, v1, v2, v3, v4, v5] 25))
  have HO := Lib.hid ho
  have HSM := Lib.hid (Va.ok_sm ho)
  clear hr hwf ho HT0
  go_enter Tryz.func15, Tryz.ntmps15
  go_wp2_with fail
  refine (Check_any r [v0, v1, v2, v3, v4, v5] F _ (HR.out _ HB.out) HW.out).mono ?_
  rintro e w1 ⟨rfl, hb1⟩
  rw [ok_ite HO.out]
  have j1 := box_keep (heap_alloc_new w (.cells #[v0, v1, v2, v3, v4, v5] 25)) hb1
  have HB1 := Lib.hid (bthen HB.out hb1)
  go_wp2_with fail
  refine (plainI_N r.size r (Nat.le_refl _) HSM.out [v0, v1, v2, v3, v4, v5] F _ (HR.out _ HB1.out)).mono ?_
  rintro e w2 ⟨x, rfl, hpl, hb2⟩
  have HP := Lib.hid (And.intro (Va.plI_mono _ _ _ _ _ _ HB1.out.size (Nat.le_refl _) (Nat.le_refl _) hpl) (bthen HB1.out hb2))
  clear hpl hb2 j1
  go_wp2_with fail
  refine (HTT.out w2 x HP.out.2 HP.out.1).mono ?_
  rintro e w3 ⟨rfl, hb3⟩
  have HB3 := Lib.hid (bthen HP.out.2 hb3)
  clear hb3
  go_wp2_with fail
  go_ret2
  exact ⟨rfl, HB3.out⟩
def r2V : Va := .mk 7 0 0 0 ⟨#[]⟩ [.mk 0 0 0 0 ⟨#[]⟩ [], .mk 3 0 4607182418800017408 0 ⟨#[]⟩ []]
theorem r2_ok : r2V.okV = true := by decide +kernel
theorem r2_wf : r2V.wf := by
  unfold r2V Va.wf Va.wfs Va.wfs Va.wfs Va.wf Va.wfs
  exact ⟨by omega, by omega, by omega, by omega, by omega, by omega, ⟨by omega, by omega, by omega, by omega, by omega, by omega, trivial⟩, ⟨by omega, by omega, by omega, by omega, by omega, by omega, trivial⟩, trivial⟩
theorem pl_two {W : World} {lo : Nat} {v : Value} (h : r2V.pl W lo v) : ∃ b cap, v = .iface 34 (.slice (some ⟨b, 0, none⟩) 2 cap) ∧ lo ≤ b ∧ W.cell? ⟨b, 0, none⟩ = some .nilIface ∧ W.cell? ⟨b, 1, none⟩ = some one64 := by
  unfold r2V Va.pl at h
  rcases h with ⟨h | h, _⟩ | ⟨h, _⟩ | ⟨h, _⟩ | ⟨h, _⟩ | ⟨h, _⟩ | ⟨h, _⟩ | ⟨h, _⟩ | ⟨_, b, cap, vs, rfl, h1, h2, h3, h4, h5⟩
  · omega
  · omega
  · cases h
  · cases h
  · cases h
  · cases h
  · cases h
  · cases h
  · unfold Va.pls Va.pls Va.pls at h5
    obtain ⟨x0, vs', rfl, k0, x1, vs'', rfl, k1, rfl⟩ := h5
    unfold Va.pl at k0 k1
    rcases k0 with ⟨_, rfl⟩ | ⟨h, _⟩ | ⟨h, _⟩ | ⟨h, _⟩ | ⟨h, _⟩ | ⟨h, _⟩ | ⟨h, _⟩ | ⟨h, _⟩
    rotate_left
    · cases h
    · cases h
    · cases h
    · cases h
    · cases h
    · cases h
    · cases h
    rcases k1 with ⟨h | h, _⟩ | ⟨h, _⟩ | ⟨h, _⟩ | ⟨_, rfl⟩ | ⟨h, _⟩ | ⟨h, _⟩ | ⟨h, _⟩ | ⟨h, _⟩
    · omega
    · omega
    · cases h
    · cases h
    · exact ⟨b, cap, rfl, h2, by simpa using h4 0 _ rfl, by simpa using h4 1 _ rfl⟩
    · cases h
    · cases h
    · cases h
    · cases h
theorem two_pl {W : World} {lo b cap : Nat} (h : W.ownsRow lo 20 1 (.slice (some ⟨b, 0, none⟩) 2 cap) 2 [.nilIface, one64]) : r2V.pl W lo (.iface 34 (.slice (some ⟨b, 0, none⟩) 2 cap)) := by
  have hl := h.lt b (by simp [Value.ownBlock])
  unfold r2V Va.pl
  refine .inr (.inr (.inr (.inr (.inr (.inr (.inr ⟨rfl, b, cap, [.nilIface, one64], rfl, str_cap h, hl.1, hl.2, own_range h, ?_⟩))))))
  unfold Va.pls Va.pls Va.pls
  refine ⟨_, _, rfl, ?_, _, _, rfl, ?_, rfl⟩
  · unfold Va.pl; exact .inl ⟨by omega, rfl⟩
  · unfold Va.pl; exact .inr (.inr (.inr (.inl ⟨rfl, rfl⟩)))
/-- All that 'awake' reads of its memory. -/
structure WTabs (w : World) : Prop where
  a : ATabs w
  f : FTabs w
theorem WTabs.below {w w' : World} (h : WTabs w) (hb : Below w.heap.size w w') : WTabs w' := ⟨h.a.below hb, h.f.below hb⟩
theorem Text_two (c : List Value) (F : List Nat) (w : World) (hr : r2V.tr.own 6 w c F) (ht : FTabs w) :
    Calls Tryz.prog 15 #[.agg c.toArray] w fun e w' => e = .returned (.tuple #[.string sA, .int .i64 0]) ∧ Below w.heap.size w w' :=
  Text_of r2V sA r2_ok c F w hr r2_wf fun W v hb hpl => by
    obtain ⟨b, cap, rfl, _, h0, h1⟩ := pl_two (Va.plI_pl _ _ _ _ hpl)
    exact told_two b cap W (ht.below hb) h0 h1
end Go.Proofs.YtbbpngoffpegbaaGreatDoor
namespace Go.Proofs.YtbbpngoffpegbaaGreatDoor
open Go Go.RowKit
set_option linter.unusedVariables false
set_option linter.unusedSimpArgs false
attribute [local go_sem] run_store_float
abbrev c7 (a : Option Addr) (n cap : Nat) : List Value := [.int .u8 7, .int .i64 0, .float .f64 0, .float .f64 0, .string ⟨#[]⟩, .slice a n cap]
theorem own_r2 {W : World} {c : List Value} {F : List Nat} (h : r2V.tr.own 6 W c F) : ∃ a cap, c = c7 a 2 cap := by
  unfold r2V at h
  obtain ⟨a, cap, rfl, _⟩ := Va.open h
  exact ⟨a, cap, rfl⟩
theorem fz0 {W : World} {b : Nat} {cs : Array Value} {t : TypeId} (h : W.heap[b]? = some (.cells cs t (0, 0))) : W.frozen? ⟨b, 0, none⟩ = false := by
  simp [World.frozen?, h]
set_option maxRecDepth 100000 in
set_option maxHeartbeats 4000000 in
theorem Parse_1 (w : World) (ht : WTabs w) : Calls Tryz.prog 23 #[.string sA] w fun e w' => ∃ a cap, e = .returned (.tuple #[.agg (c7 a 2 cap).toArray, .int .i64 0]) ∧ Below w.heap.size w w' := by
  have hb0 := bb2 w (.cells zero6 25) (.cells #[.string sA] 66)
  have h2 := two1 w (.cells zero6 25) (.cells #[.string sA] 66)
  have h4 := two2 w (.cells zero6 25) (.cells #[.string sA] 66)
  have hs : ((w.alloc (.cells zero6 25)).alloc (.cells #[.string sA] 66)).heap.size = w.heap.size + 1 + 1 := by simp
  have H := Lib.hid (And.intro hb0 (And.intro h2 (And.intro h4 hs)))
  have HT := Lib.hid ht
  clear hb0 h2 h4 hs ht
  go_enter Tryz.func23, Tryz.ntmps23
  go_wp2_with fail
  change Calls _ _ _ ((w.alloc (.cells zero6 25)).alloc (.cells #[.string sA] 66)) _
  revert H
  generalize (w.alloc (.cells zero6 25)).alloc (.cells #[.string sA] 66) = W1
  intro H
  refine (svalue_0 w HT.out.a ⟨w.heap.size + 1, 0, none⟩ W1 H.out.1 (Nat.le_succ _) (box_all H.out.2.2.1 0) (fz0 H.out.2.2.1)).mono ?_
  rintro e w2 ⟨g, cap, rfl, hrow, hsx⟩
  have hl2 : Below w.heap.size w w2 := hsx.low H.out.1 (Nat.le_succ _)
  have hz2 : w2.heap[w.heap.size]? = some (.cells zero6 25 (0, 0)) := (hsx.wr.block _ (by rw [H.out.2.2.2]; omega) (by simp)).trans H.out.2.1
  have H2 := Lib.hid (And.intro hl2 (And.intro hz2 hrow))
  have hc := hsx.cell
  clear hl2 hz2 hrow hsx H
  go_wp2_with fail
  refine (held_N r2V.size r2V (Nat.le_refl _) (Va.ok_all r2_ok) (Va.ok_sm r2_ok) W1.heap.size _ w2 (two_pl H2.out.2.2)).mono ?_
  rintro e w3 ⟨v0, v1, v2, v3, v4, v5, F, rfl, hown, _, _, hb3⟩
  obtain ⟨a, cap7, hcs⟩ := own_r2 hown
  simp only [List.cons.injEq, and_true] at hcs
  obtain ⟨rfl, rfl, rfl, rfl, rfl, rfl⟩ := hcs
  have hA := bnew (Below.refl w3.heap.size w3) (.cells (c7 a 2 cap7).toArray 25)
  have H3 := Lib.hid (And.intro (bthen H2.out.1 (hb3.trans (hA.mono hb3.size))) (And.intro (((hb3.trans (hA.mono hb3.size)).block _ (Array.getElem?_eq_some_iff.1 H2.out.2.1).1).trans H2.out.2.1) (And.intro (Tr.own_below hown hA) (heap_alloc_new w3 (.cells (c7 a 2 cap7).toArray 25)))))
  clear hown hb3 hA H2 hc
  have j0 := box_all H3.out.2.2.2
  go_wp2_with fail
  refine (Text_two (c7 a 2 cap7) F _ H3.out.2.2.1 (HT.out.f.below H3.out.1)).mono ?_
  rintro e w5 ⟨rfl, hb5⟩
  have H5 := Lib.hid (And.intro (bthen H3.out.1 hb5) (And.intro ((hb5.block _ (Array.getElem?_eq_some_iff.1 H3.out.2.1).1).trans H3.out.2.1) ((hb5.block _ (Array.getElem?_eq_some_iff.1 H3.out.2.2.2).1).trans H3.out.2.2.2)))
  clear hb5 H3 j0
  have j0 := box_all H5.out.2.2
  go_wp2_with (refine wpList_store_rowTo (by rfl) 25 _ _ (by rfl) (by rfl) w.heap.size (c7 a 2 cap7).toArray (by rfl) (by rfl) 25 zero6 H5.out.2.1 (by kernel_rfl) (by kernel_rfl) (by simp [Value.oneCell']) ?_)
  refine bodyPost_ret (v := .tuple #[.agg (c7 a 2 cap7).toArray, .int .i64 0]) (results_cell_tmp rfl _ _ w.heap.size 25 _ (0, 0) _ _ rfl rfl (setRow_heap _ _ _ _ _ _ H5.out.2.1) Tryz.underlying25 rfl (by kernel_rfl)) rfl ?_
  exact ⟨a, cap7, rfl, below_setRow H5.out.1 (Nat.le_refl _) _⟩
abbrev zcL : List Value := [.int .u8 0, .int .i64 0, .float .f64 0, .float .f64 0, .string ⟨#[]⟩, .slice none 0 0]
abbrev fcL : List Value := [.int .u8 3, .int .i64 0, .float .f64 4607182418800017408, .float .f64 0, .string ⟨#[]⟩, .slice none 0 0]
abbrev rowL : Array Value := #[.int .u8 0, .int .i64 0, .float .f64 0, .float .f64 0, .string ⟨#[]⟩, .slice none 0 0, .int .u8 3, .int .i64 0, .float .f64 4607182418800017408, .float .f64 0, .string ⟨#[]⟩, .slice none 0 0]
theorem own_r2_mk {W : World} {g : Nat} (hg : W.heap[g]? = some (.cells rowL 25 (0, 0))) : r2V.tr.own 6 W (c7 (some ⟨g, 0, none⟩) 2 2) [g] := by
  unfold r2V Va.tr Tr.own
  refine ⟨some ⟨g, 0, none⟩, 2, 2, rfl, rfl, by simp [Value.oneCell'], ⟨by unfold Va.trs Va.trs Va.trs; rfl, by simp⟩, by omega, by omega, .inr ⟨by unfold Va.trs Va.trs Va.trs; simp, g, 0, zcL ++ fcL, [], rfl, rfl, fun j v hj => ?_, ?_⟩⟩
  · rw [Nat.zero_add]
    exact (box_all hg j).trans (by simpa using hj)
  · unfold Va.trs Va.trs Va.trs Tr.ownL Tr.ownL Tr.ownL
    refine ⟨zcL, fcL, [], [], rfl, rfl, ?_, fcL, [], [], [], rfl, rfl, ?_, rfl, rfl⟩
    · unfold Va.tr Tr.own
      exact ⟨none, 0, 0, rfl, rfl, by simp [Value.oneCell'], ⟨rfl, Nat.le_refl _⟩, Nat.zero_le _, by omega, .inl ⟨rfl, rfl⟩⟩
    · unfold Va.tr Tr.own
      exact ⟨none, 0, 0, rfl, rfl, by simp [Value.oneCell'], ⟨rfl, Nat.le_refl _⟩, Nat.zero_le _, by omega, .inl ⟨rfl, rfl⟩⟩
theorem feq_1 (w : World) : Sem.run Tryz.prog (binOp BinOp.eql 22 (Value.float FloatKind.f64 4607182418800017408) (Value.float FloatKind.f64 4607182418800017408)) w = .ok (.bool true) w := by kernel_rfl
set_option maxRecDepth 100000 in
set_option maxHeartbeats 4000000 in
theorem awake_any (w : World) (ht : WTabs w) : Calls Tryz.prog 6 #[] w fun e w' => e = .returned (.bool true) ∧ Below w.heap.size w w' := by
  have hb0 := bb2 w (.cells rowL 25) (.cells (c7 (some ⟨w.heap.size, 0, none⟩) 2 2).toArray 25)
  have h1 := own_r2_mk (two1 w (.cells rowL 25) (.cells (c7 (some ⟨w.heap.size, 0, none⟩) 2 2).toArray 25))
  have h2 := two2 w (.cells rowL 25) (.cells (c7 (some ⟨w.heap.size, 0, none⟩) 2 2).toArray 25)
  have H := Lib.hid (And.intro hb0 (And.intro h1 h2))
  have HT := Lib.hid ht
  have ta := ta_aa
  have tf := ta_ff
  have fe := feq_1
  clear hb0 h1 h2 ht
  go_enter Tryz.func6, Tryz.ntmps6
  go_wp2_with fail
  change Calls _ _ _ ((w.alloc (.cells rowL 25)).alloc (.cells (c7 (some ⟨w.heap.size, 0, none⟩) 2 2).toArray 25)) _
  revert H
  generalize (w.alloc (.cells rowL 25)).alloc (.cells (c7 (some ⟨w.heap.size, 0, none⟩) 2 2).toArray 25) = W1
  intro H
  refine (Text_two (c7 (some ⟨w.heap.size, 0, none⟩) 2 2) _ W1 H.out.2.1 (HT.out.f.below H.out.1)).mono ?_
  rintro e w2 ⟨rfl, hb⟩
  have H2 := Lib.hid (And.intro (bthen H.out.1 hb) (And.intro (Tr.own_below H.out.2.1 hb) ((hb.block _ (Array.getElem?_eq_some_iff.1 H.out.2.2).1).trans H.out.2.2)))
  clear hb H
  go_wp2_with fail
  refine (Parse_1 w2 (HT.out.below H2.out.1)).mono ?_
  rintro e w3 ⟨a3, cap3, rfl, hb⟩
  have hA := bnew (Below.refl w3.heap.size w3) (.cells (c7 a3 2 cap3).toArray 25)
  have hb' := hb.trans (hA.mono hb.size)
  have H3 := Lib.hid (And.intro (bthen H2.out.1 hb') (And.intro (Tr.own_below H2.out.2.1 hb') (And.intro ((hb'.block _ (Array.getElem?_eq_some_iff.1 H2.out.2.2).1).trans H2.out.2.2) (heap_alloc_new w3 (.cells (c7 a3 2 cap3).toArray 25)))))
  clear hb hA hb' H2
  have j0 := box_all H3.out.2.2.1
  go_wp2_with fail
  refine (Any_any r2V (c7 (some ⟨w.heap.size, 0, none⟩) 2 2) _ _ H3.out.2.1 r2_wf).mono ?_
  rintro e w4 (⟨_, v, rfl, hpl, hb⟩ | ⟨ho, _⟩)
  rotate_left
  · rw [r2_ok] at ho; cases ho
  obtain ⟨b, cap4, rfl, _, c0, c1⟩ := pl_two (Va.plI_pl _ _ _ _ hpl)
  have H4 := Lib.hid (bthen H3.out.1 hb)
  have j1 := box_all ((hb.block _ (Array.getElem?_eq_some_iff.1 H3.out.2.2.2).1).trans H3.out.2.2.2)
  clear hb H3 j0 hpl
  go_wp2_with fail
  go_ret
  exact ⟨rfl, H4.out⟩
end Go.Proofs.YtbbpngoffpegbaaGreatDoor
namespace Go.Proofs.YtbbpngoffpegbaaGreatDoor
open Go Go.RowKit
set_option linter.unusedVariables false
set_option linter.unusedSimpArgs false
attribute [local go_sem] run_store_float
set_option maxHeartbeats 2000000 in
theorem alike_any (x : Nat) (w : World) : Calls Tryz.prog 30 #[.float .f64 x, .float .f64 x] w fun e w' => e = .returned (.bool true) ∧ w' = w := by
  have kb := run_bits
  go_enter Tryz.func30, Tryz.ntmps30
  go_wp2_with fail
  all_goals
    go_ret
    exact ⟨rfl, rfl⟩
def IsT (w : World) (e : Ending) (w' : World) : Prop := e = .returned (.bool true) ∧ Below w.heap.size w w'
section
variable (n : Int) (x y : Nat) (s : ByteArray) (a : Option Addr) (len cap : Nat) (w : World)
set_option maxHeartbeats 2000000
theorem is_0 : Calls Tryz.prog 11 #[.nilIface, .agg #[.int .u8 0, .int .i64 n, .float .f64 x, .float .f64 y, .string s, .slice a len cap]] w (IsT w) := by
  have a0 := ta_nb
  go_enter Tryz.func11, Tryz.ntmps11
  go_wp2_with fail
  go_ret
  exact ⟨rfl, bnew (Below.refl _ _) _⟩
theorem is_1 : Calls Tryz.prog 11 #[.iface 4 (.bool (n == 1)), .agg #[.int .u8 1, .int .i64 n, .float .f64 x, .float .f64 y, .string s, .slice a len cap]] w (IsT w) := by
  have a0 := ta_bb
  go_enter Tryz.func11, Tryz.ntmps11
  go_wp2_with fail
  go_ret
  exact ⟨rb (by simp), bnew (Below.refl _ _) _⟩
theorem is_2 : Calls Tryz.prog 11 #[.iface 2 (.int .i64 n), .agg #[.int .u8 2, .int .i64 n, .float .f64 x, .float .f64 y, .string s, .slice a len cap]] w (IsT w) := by
  have a0 := ta_ib
  have a1 := ta_ii
  go_enter Tryz.func11, Tryz.ntmps11
  go_wp2_with fail
  go_ret
  exact ⟨rb (by simp), bnew (Below.refl _ _) _⟩
theorem is_3 : Calls Tryz.prog 11 #[.iface 22 (.float .f64 x), .agg #[.int .u8 3, .int .i64 n, .float .f64 x, .float .f64 y, .string s, .slice a len cap]] w (IsT w) := by
  have a0 := ta_fb
  have a1 := ta_fi
  have a2 := ta_ff
  go_enter Tryz.func11, Tryz.ntmps11
  go_wp2_with fail
  refine (alike_any x _).mono ?_
  rintro e w1 ⟨rfl, rfl⟩
  go_wp2_with fail
  go_ret
  exact ⟨rb (by simp), bnew (Below.refl _ _) _⟩
theorem is_4 : Calls Tryz.prog 11 #[.iface 48 (.complex .f64 x y), .agg #[.int .u8 4, .int .i64 n, .float .f64 x, .float .f64 y, .string s, .slice a len cap]] w (IsT w) := by
  have a0 := ta_cb
  have a1 := ta_ci
  have a2 := ta_cf
  have a3 := ta_cc
  go_enter Tryz.func11, Tryz.ntmps11
  go_wp2_with fail
  refine (alike_any x _).mono ?_
  rintro e w1 ⟨rfl, rfl⟩
  go_wp2_with fail
  refine (alike_any y _).mono ?_
  rintro e w1 ⟨rfl, rfl⟩
  go_wp2_with fail
  go_ret
  exact ⟨rb (by simp), bnew (Below.refl _ _) _⟩
theorem is_5 : Calls Tryz.prog 11 #[.iface 9 (.string s), .agg #[.int .u8 5, .int .i64 n, .float .f64 x, .float .f64 y, .string s, .slice a len cap]] w (IsT w) := by
  have a0 := ta_sb
  have a1 := ta_si
  have a2 := ta_sf
  have a3 := ta_sc
  have a4 := ta_ss
  go_enter Tryz.func11, Tryz.ntmps11
  go_wp2_with fail
  go_ret
  exact ⟨rb (by simp), bnew (Below.refl _ _) _⟩
theorem is_6 (b c6 : Nat) (hb : b < w.heap.size) (h : w.rangeAt b 0 (Lib.strCells s)) : Calls Tryz.prog 11 #[.iface 32 (.slice (some ⟨b, 0, none⟩) s.size c6), .agg #[.int .u8 6, .int .i64 n, .float .f64 x, .float .f64 y, .string s, .slice a len cap]] w (IsT w) := by
  have a0 := ta_yb
  have a1 := ta_yi
  have a2 := ta_yf
  have a3 := ta_yc
  have a4 := ta_ys
  have a5 := ta_yy
  have hcv := conv_bytes (w.alloc (.cells #[.int .u8 6, .int .i64 n, .float .f64 x, .float .f64 y, .string s, .slice a len cap] 25)) b c6 s (rangeAt_of_block h (Below.heap_alloc _ _ _ hb))
  obtain ⟨m, hm⟩ : ∃ m, s.size = m := ⟨_, rfl⟩
  rw [hm] at hcv ⊢
  clear h
  go_enter Tryz.func11, Tryz.ntmps11
  go_wp2_with fail
  go_ret
  exact ⟨rb (by simp), bnew (Below.refl _ _) _⟩
end
theorem snil (b m c : Nat) (w : World) : Sem.run Tryz.prog (binOp .eql 34 (.slice (some ⟨b, 0, none⟩) m c) (.slice none 0 0)) w = .ok (.bool false) w := by kernel_rfl
theorem Va.pls_at2 {w : World} {lo : Nat} : ∀ {rs : List Va} {vs : List Value} (k : Nat) (hk : k < rs.length), Va.pls w lo rs vs → ∃ v, vs[k]? = some v ∧ rs[k].pl w lo v
  | r :: rs, vs, 0, _, h => by
    unfold Va.pls at h
    obtain ⟨v, vs', rfl, h1, _⟩ := h
    exact ⟨v, rfl, h1⟩
  | r :: rs, vs, k + 1, hk, h => by
    unfold Va.pls at h
    obtain ⟨v, vs', rfl, _, h2⟩ := h
    exact Va.pls_at2 k (by simpa using hk) h2
theorem all_kd {kd n : Int} {x y : Nat} {s : ByteArray} {rs : List Va} (h : (Va.mk kd n x y s rs).all) : kd = 0 ∨ kd = 1 ∨ kd = 2 ∨ kd = 3 ∨ kd = 4 ∨ kd = 5 ∨ kd = 6 ∨ kd = 7 := by
  unfold Va.all at h
  have h := h.1
  unfold okB at h
  repeat (split at h <;> rename_i hc; · simp only [decide_eq_true_eq] at h; omega)
  cases h
set_option maxRecDepth 100000 in
set_option maxHeartbeats 4000000 in
theorem is_N (N : Nat) : ∀ (r : Va) (_ : r.size ≤ N) (_ : r.all) (lo : Nat) (v : Value) (c : List Value) (F : List Nat) (w : World) (_ : r.pl w lo v) (_ : r.tr.own 6 w c F), Calls Tryz.prog 11 #[v, .agg c.toArray] w (IsT w) := by
  induction N with
  | zero => intro r hN; have := r.size_pos; omega
  | succ N ih =>
  intro r hN hall lo v c F w hpl hr
  obtain ⟨kd, n, x, y, s, rs⟩ := r
  obtain ⟨a, cap, rfl, hcap, hcap', hc⟩ := Va.open hr
  have hk := all_kd hall
  by_cases h7 : kd ≠ 7
  · by_cases h6 : kd ≠ 6
    · rcases pl_kind hpl hk with ⟨rfl, rfl⟩ | ⟨rfl, rfl⟩ | ⟨rfl, rfl⟩ | ⟨rfl, rfl⟩ | ⟨rfl, rfl⟩ | ⟨rfl, rfl⟩ | ⟨h, _⟩ | ⟨h, _⟩
      · exact is_0 n x y s a rs.length cap w
      · exact is_1 n x y s a rs.length cap w
      · exact is_2 n x y s a rs.length cap w
      · exact is_3 n x y s a rs.length cap w
      · exact is_4 n x y s a rs.length cap w
      · exact is_5 n x y s a rs.length cap w
      · exact absurd h h6
      · exact absurd h h7
    · have h6 := Classical.not_not.1 h6
      subst h6
      unfold Va.pl at hpl
      rcases hpl with ⟨h | h, _⟩ | ⟨h, _⟩ | ⟨h, _⟩ | ⟨h, _⟩ | ⟨h, _⟩ | ⟨h, _⟩ | ⟨_, b, c6, rfl, _, _, hb, hra⟩ | ⟨h, _⟩
      · omega
      · omega
      · cases h
      · cases h
      · cases h
      · cases h
      · cases h
      · exact is_6 n x y s a rs.length cap w b c6 hb hra
      · cases h
  have h7 := Classical.not_not.1 h7
  subst h7
  unfold Va.pl at hpl
  rcases hpl with ⟨h | h, _⟩ | ⟨h, _⟩ | ⟨h, _⟩ | ⟨h, _⟩ | ⟨h, _⟩ | ⟨h, _⟩ | ⟨h, _⟩ | ⟨_, g, gcap, vs, rfl, hgc, hlo, hgl, hgr, hgs⟩
  · omega
  · omega
  · cases h
  · cases h
  · cases h
  · cases h
  · cases h
  · cases h
  unfold Va.size at hN
  unfold Va.all at hall
  have IH := Lib.hid ih
  have HALL := Lib.hid hall.2
  have HG := Lib.hid (And.intro hgr (And.intro hgs hgl))
  have HB0 := Lib.hid (bnew (Below.refl w.heap.size w) (.cells #[.int .u8 7, .int .i64 n, .float .f64 x, .float .f64 y, .string s, .slice a rs.length cap] 25))
  have HX0 := Lib.hid (heap_alloc_new w (.cells #[.int .u8 7, .int .i64 n, .float .f64 x, .float .f64 y, .string s, .slice a rs.length cap] 25))
  have a0 := ta_ab
  have a1 := ta_ai
  have a2 := ta_af
  have a3 := ta_ac
  have a4 := ta_as
  have a5 := ta_ay
  have a6 := ta_aa
  have sn := snil g rs.length gcap
  clear ih hall hgr hgs hr
  go_enter Tryz.func11, Tryz.ntmps11
  go_wp2_with fail
  clear a0 a1 a2 a3 a4 a5 a6 sn
  go_loopw [13] (fun u13 wr => ∃ k : Nat, k ≤ rs.length ∧ u13 = .int .i64 k ∧ Hid (Below w.heap.size w wr) ∧ Hid (wr.heap[w.heap.size]? = some (.cells #[.int .u8 7, .int .i64 n, .float .f64 x, .float .f64 y, .string s, .slice a rs.length cap] 25 (0, 0)))) (fun u13 _ => rs.length - (intOf u13).toNat)
  case atStart => exact ⟨0, by omega, rfl, HB0.out, HX0.out⟩
  case round =>
    obtain ⟨k, hk, rfl, hb, hx⟩ := hrel
    by_cases hlt : k < rs.length
    · rcases hc with ⟨h0', _⟩ | ⟨_, b, o, cs, F', rfl, rfl, hra, hkl⟩
      · omega
      have hbl : b < w.heap.size := rangeAt_lt hra (by rw [Tr.ownL_len hkl, Va.trs_len]; omega)
      have hkl' := Tr.ownL_same _ _ _ (fun i hi => hb.out.block i (Tr.ownL_lt _ _ _ hkl i hi)) hkl
      obtain ⟨kkd, kn, kx, ky, ks, krs, ka, kcap, Fa, F1, Fb, hF1, _he1, hkid, c0, c1, c2, c3, c4, c5⟩ := Va.kidO k hlt hkl' (rangeAt_of_block hra (hb.out.block b hbl))
      obtain ⟨vk, hvk, hplk⟩ := Va.pls_at2 k hlt HG.out.2.1
      have j0 : wr.cell? ⟨g, k, none⟩ = some vk := by
        have := HG.out.1 k vk hvk
        rw [Nat.zero_add] at this
        exact (hb.out.cell (p := ⟨g, k, none⟩) HG.out.2.2).trans this
      have hone := Va.pl_one hplk
      have jx := box_all hx.out
      have HK := Lib.hid (And.intro (Va.pl_same (Nat.le_refl _) hb.out.size (fun i _ hi => hb.out.block i hi) _ _ hplk) hkid)
      have HZ := Va.sizes_at rs k hlt
      have hri : (0:Int) ≤ (k:Int) := by omega
      have hri2 : (k:Int) < (rs.length:Int) := by omega
      clear hra hkl hkl' hF1 _he1 hkid hplk hvk
      go_wp2_with fail
      go_still_tail 9, (by kernel_rfl)
      change wpList _ _ _ _ _ wr.drew
      go_wp2_with fail
      refine (IH.out rs[k] (by omega) (Va.alls_at rs k hlt HALL.out) lo vk [.int .u8 kkd, .int .i64 kn, .float .f64 kx, .float .f64 ky, .string ks, .slice ka krs.length kcap] F1 wr.drew (Va.pl_same (w := wr) (w' := wr.drew) (Nat.le_refl _) (Nat.le_refl _) (fun _ _ _ => rfl) _ _ HK.out.1) (Tr.own_drew HK.out.2)).mono ?_
      rintro e w3 ⟨rfl, hb3⟩
      have HB3 := Lib.hid (below_of_drew (w := wr) hb3)
      clear hb3
      go_wp2_with fail
      go_roundw
      case rel => exact ⟨k + 1, by omega, by go_num, bthen hb.out HB3.out, (HB3.out.block _ (Array.getElem?_eq_some_iff.1 hx.out).1).trans hx.out⟩
      case measure => simp [intOf]; omega
    · have hk' : k = rs.length := by omega
      subst hk'
      go_wp2_with fail
      go_ret
      exact ⟨rfl, hb.out⟩
end Go.Proofs.YtbbpngoffpegbaaGreatDoor
namespace Go.Proofs.YtbbpngoffpegbaaGreatDoor
open Go Go.RowKit
set_option linter.unusedVariables false
set_option linter.unusedSimpArgs false
attribute [local go_sem] run_store_float
/-- The blocks from `lo` on, below `hi`. -/
def InI (lo hi : Nat) (i : Nat) : Prop := lo ≤ i ∧ i < hi
def SpoilIs (lo hi : Nat) (w : World) (e : Ending) (w' : World) : Prop := ∃ z : Int, e = .returned (.int .i64 z) ∧ Wr (InI lo hi) w w'
/-- A row of one's own that grows. -/
structure RowS (lo hi : Nat) (w : World) (e : TypeId) (v : Value) (n : Nat) (W : World) : Prop where
  row : ∃ xs, W.ownsRow 0 e 1 v n xs
  blk : ∀ g, v.ownBlock = some g → InI lo hi g ∨ w.heap.size ≤ g
  wr : Wr (InI lo hi) w W
theorem RowS.app {lo hi : Nat} {w : World} {t e : TypeId} {i : TypeInfo} {z : Value} {by_ : Nat} (ht : Tryz.prog.underlying t = some (.slice e)) (hi0 : Tryz.prog.info? e = some i) (hz : i.zero = some z) (hs : i.size = 1) (hb : i.bytes = by_) (hby : by_ ≤ 16) (hzs : z.cells.size = 1)
    {v : Value} {n : Nat} {W : World} (h : RowS lo hi w e v n W) (hn : n ≤ 100000) (x : Value) (hx : x.oneCell' = true) (ty : TypeId) :
    ∃ v' w', (Builtin.append_ #[t, t] ty #[v, .slice (some ⟨W.heap.size, 0, none⟩) 1 1]).run Tryz.prog (W.alloc (.cells #[x] e)) = .ok v' w' ∧ ((∃ g cap, v' = .slice (some ⟨g, 0, none⟩) (n + 1) cap) ∧ RowS lo hi w e v' (n + 1) w') := by
  obtain ⟨xs, hrow⟩ := h.row
  have hB := bnew (Below.refl W.heap.size W) (.cells #[x] e)
  have hown : (W.alloc (.cells #[x] e)).ownsRow 0 e 1 v n xs := hrow.kept (row := none) ⟨hB.os, hB.tape, hB.output, hB.size, fun k hk _ => hB.block k hk⟩ (by cases v.ownBlock <;> simp)
  obtain ⟨g, cap, w', hr, h2, h3, h4, h5⟩ := run_append_lies (P := Tryz.prog) (w := W.alloc (.cells #[x] e)) t ty 0 e i z 1 by_ ht hi0 hz hs hb hzs (by omega) v n xs hown ⟨W.heap.size, 0, none⟩ 1 1 [x] rfl (fun j y hy => by
    rw [Addr.add_mid, Nat.zero_add]
    exact (box_all (heap_alloc_new W (.cells #[x] e)) j).trans (by simpa using hy)) (by simpa using hx) (by omega) (by simp only [maxLen]; omega) (Nat.le_trans (Nat.mul_le_mul_left _ hby) (by omega)) (Nat.zero_le _) _ rfl
  have hsz : (W.alloc (.cells #[x] e)).heap.size = W.heap.size + 1 := by simp
  have hws := h.wr.size
  refine ⟨_, w', hr, ⟨g, cap, rfl⟩, ⟨_, h2⟩, fun g' hg' => ?_, ?_⟩
  · simp only [Value.ownBlock, Option.some.injEq] at hg'
    subst hg'
    rcases h4 with h4 | h4
    · exact h.blk _ h4
    · right; omega
  · exact (h.wr.alloc (.cells #[x] e)).grown h3 fun k hk => h.blk k hk
theorem info_u8p : (Tryz.prog.info? 5).map (fun i => (i.zero, i.size, i.bytes)) = some (some (.int .u8 0), 1, 1) := by kernel_rfl
theorem spoil_leaf (lo hi : Nat) (v u u2 : Value) (w : World) (h1 : ∀ W : World, Sem.run Tryz.prog (Instr.typeAssert v 20 32 true) W = .ok (.tuple #[u, .bool false]) W) (h2 : ∀ W : World, Sem.run Tryz.prog (Instr.typeAssert v 20 34 true) W = .ok (.tuple #[u2, .bool false]) W) :
    Calls Tryz.prog 12 #[v] w (SpoilIs lo hi w) := by
  go_enter Tryz.func12, Tryz.ntmps12
  go_wp2_with fail
  go_ret
  exact ⟨_, rfl, Wr.refl _ _⟩
/-- A row of bytes. -/
def ByteRow (W : World) (b n cap : Nat) : Prop := ∃ cur : Array Value, W.heap[b]? = some (.cells cur 5 (0, 0)) ∧ cur.size = cap ∧ ∀ j, j < n → ∃ z : Int, cur[j]? = some (.int .u8 z)
theorem ByteRow.at {W : World} {b n cap k : Nat} (h : ByteRow W b n cap) (hk : k < n) : ∃ z : Int, W.cell? ⟨b, k, none⟩ = some (.int .u8 z) ∧ W.frozen? ⟨b, k, none⟩ = false := by
  obtain ⟨cur, h1, h2, h3⟩ := h
  obtain ⟨z, hz⟩ := h3 k hk
  exact ⟨z, (box_all h1 k).trans hz, by simp [World.frozen?, h1]⟩
theorem ByteRow.put {W : World} {b n cap k : Nat} (h : ByteRow W b n cap) (z : Int) : ByteRow (W.setCell ⟨b, k, none⟩ (.int .u8 z)) b n cap := by
  obtain ⟨cur, h1, h2, h3⟩ := h
  refine ⟨cur.setIfInBounds k (.int .u8 z), Joins.block_setCell h1 _, by simpa using h2, fun j hj => ?_⟩
  obtain ⟨z', hz'⟩ := h3 j hj
  by_cases hjk : k = j
  · subst hjk
    have := (Array.getElem?_eq_some_iff.1 hz').1
    exact ⟨z, by rw [Array.getElem?_setIfInBounds_self_of_lt this]⟩
  · exact ⟨z', by rw [Array.getElem?_setIfInBounds_ne hjk]; exact hz'⟩
set_option maxRecDepth 100000 in
set_option maxHeartbeats 4000000 in
theorem spoil_6 (lo hi b n cap : Nat) (w : World) (hlo : lo ≤ b) (hhi : b < hi) (hn : n ≤ 5000) (hrow : ByteRow w b n cap) (hnc : n ≤ cap) (hcm : cap ≤ maxLen) :
    Calls Tryz.prog 12 #[.iface 32 (.slice (some ⟨b, 0, none⟩) n cap)] w (SpoilIs lo hi w) := by
  have a0 := ta_yy
  have HR := Lib.hid hrow
  have HCM := Lib.hid hcm
  clear hrow hcm
  go_enter Tryz.func12, Tryz.ntmps12
  go_wp2_with fail
  clear a0
  go_loopw [5] (fun u5 wr => ∃ k : Nat, k ≤ n ∧ u5 = .int .i64 k ∧ Hid (ByteRow wr b n cap) ∧ Hid (Wr (InI lo hi) w wr)) (fun u5 _ => n - (intOf u5).toNat)
  case atStart => exact ⟨0, by omega, rfl, HR.out, Wr.refl _ _⟩
  case round =>
    obtain ⟨k, hk, rfl, hr, hw⟩ := hrel
    by_cases hlt : k < n
    · have d1 : (k : Int) < (n : Int) := by omega
      obtain ⟨z, hz, hf⟩ := hr.out.at hlt
      go_wp2_with fail
      go_roundw
      case rel => exact ⟨k + 1, by omega, by go_num, hr.out.put _, hw.out.setCell (.inl ⟨hlo, hhi⟩) _⟩
      case measure => simp [intOf]; omega
    · obtain rfl : k = n := by omega
      have hR0 : RowS lo hi w 5 (.slice (some ⟨b, 0, none⟩) k cap) k wr := by
        obtain ⟨cur, h1, h2, h3⟩ := hr.out
        exact ⟨⟨cur.toList.take (k * 1), by simp; omega, .inr ⟨b, cap, cur, rfl, Nat.zero_le _, h1, hnc, HCM.out, by omega, rfl⟩⟩, fun g hg => by
          simp only [Value.ownBlock, Option.some.injEq] at hg
          subst hg
          exact .inl ⟨hlo, hhi⟩, hw.out⟩
      have HR0 := Lib.hid hR0
      obtain ⟨i0, hi0, hz0, hz1, hz2⟩ := info_parts info_u8p
      have HI := Lib.hid (And.intro hi0 (And.intro hz0 (And.intro hz1 hz2)))
      clear hR0 hr hw hi0 hz0 hz1 hz2
      go_wp2_with fail
      go_loopw [4, 6] (fun u4 u6 wq => ∃ (j : Nat) (a : Option Addr) (m c : Nat), j ≤ 20 ∧ u6 = .int .i64 j ∧ u4 = .slice a m c ∧ m ≤ k + j ∧ Hid (RowS lo hi w 5 (.slice a m c) m wq)) (fun _ u6 _ => 20 - (intOf u6).toNat)
      case atStart => exact ⟨0, _, _, _, by omega, rfl, rfl, by omega, HR0.out⟩
      case round =>
        obtain ⟨j, a, m, c, hj, rfl, rfl, hm, hq⟩ := hrel
        by_cases hlt2 : j < 20
        · have d1 : (j : Int) < 20 := by omega
          go_wp2_with (at_builtin; refine Hid.out ?_)
          refine Lib.hid (wpList_app rfl _ _ _ _ rfl _ _ rfl rfl (hq.out.app Tryz.underlying32 HI.out.1 HI.out.2.1 HI.out.2.2.1 HI.out.2.2.2 (by omega) rfl (by omega) (.int .u8 7) rfl) ?_)
          rintro v3 w3 ⟨⟨g3, cap3, rfl⟩, h⟩
          have H3 := Lib.hid h
          clear h
          go_wp2_with fail
          go_roundw
          case rel => exact ⟨j + 1, _, _, _, by omega, by go_num, rfl, by omega, H3.out⟩
          case measure => simp [intOf]; omega
        · obtain rfl : j = 20 := by omega
          have d1 : ¬ (20 : Int) < 20 := by omega
          go_wp2_with fail
          go_ret
          exact ⟨_, rfl, hq.out.wr⟩
/-- A row of anything, from the place k on as it was. -/
def AnyRow (W : World) (g k : Nat) (vs : List Value) (cap : Nat) : Prop := ∃ cur : Array Value, W.heap[g]? = some (.cells cur 20 (0, 0)) ∧ cur.size = cap ∧ ∀ j, k ≤ j → j < vs.length → cur[j]? = vs[j]?
theorem AnyRow.at {W : World} {g k cap : Nat} {vs : List Value} (h : AnyRow W g k vs cap) (hk : k < vs.length) : W.cell? ⟨g, k, none⟩ = vs[k]? ∧ W.frozen? ⟨g, k, none⟩ = false := by
  obtain ⟨cur, h1, h2, h3⟩ := h
  exact ⟨(box_all h1 k).trans (h3 k (Nat.le_refl _) hk), by simp [World.frozen?, h1]⟩
theorem AnyRow.put {W : World} {g k cap : Nat} {vs : List Value} (h : AnyRow W g k vs cap) (u : Value) : AnyRow (W.setCell ⟨g, k, none⟩ u) g (k + 1) vs cap := by
  obtain ⟨cur, h1, h2, h3⟩ := h
  refine ⟨cur.setIfInBounds k u, Joins.block_setCell h1 _, by simpa using h2, fun j hj hj2 => ?_⟩
  rw [Array.getElem?_setIfInBounds_ne (by omega)]
  exact h3 j (by omega) hj2
theorem AnyRow.same {W W' : World} {g k cap : Nat} {vs : List Value} (h : AnyRow W g k vs cap) (hb : W'.heap[g]? = W.heap[g]?) : AnyRow W' g k vs cap := by
  obtain ⟨cur, h1, h2, h3⟩ := h
  exact ⟨cur, hb.trans h1, h2, h3⟩
theorem anyRow_of {W : World} {g n cap : Nat} {vs : List Value} (h : W.ownsRow 0 20 1 (.slice (some ⟨g, 0, none⟩) n cap) n vs) : AnyRow W g 0 vs cap ∧ n ≤ cap ∧ cap ≤ maxLen ∧ vs.length = n := by
  have hl := h.1
  rcases h.2 with ⟨h, _⟩ | ⟨g', cap2, cur, h1, h2, h3, h4, h5, h6, h7⟩
  · cases h
  · simp only [Value.slice.injEq, Option.some.injEq, Addr.mk.injEq, and_true, true_and] at h1
    obtain ⟨rfl, rfl⟩ := h1
    refine ⟨⟨cur, h3, by omega, fun j _ hj => ?_⟩, h4, h5, by omega⟩
    rw [← h7, List.getElem?_take, if_pos (by omega), Array.getElem?_toList]
theorem byteRow_of {W : World} {b cap : Nat} {s : ByteArray} (h : W.ownsRow 0 5 1 (.slice (some ⟨b, 0, none⟩) s.size cap) s.size (Lib.strCells s)) : ByteRow W b s.size cap ∧ s.size ≤ cap ∧ cap ≤ maxLen := by
  rcases h.2 with ⟨h, _⟩ | ⟨g', cap2, cur, h1, h2, h3, h4, h5, h6, h7⟩
  · cases h
  · simp only [Value.slice.injEq, Option.some.injEq, Addr.mk.injEq, and_true, true_and] at h1
    obtain ⟨rfl, rfl⟩ := h1
    refine ⟨⟨cur, h3, by omega, fun j hj => ?_⟩, h4, h5⟩
    have hj' : j < s.data.toList.length := by simpa using hj
    have h8 : cur[j]? = (Lib.strCells s)[j]? := by rw [← h7, List.getElem?_take, if_pos (by omega), Array.getElem?_toList]
    rw [h8]
    exact ⟨_, by simp only [Lib.strCells, List.getElem?_map, List.getElem?_eq_getElem hj']; rfl⟩
/-- The kids of a list, from the place k on, in intervals. -/
theorem plsI_at {w : World} {r : Va} {rs : List Va} {lo hi : Nat} {vs : List Value} (h : Va.plsI w (r :: rs) lo hi vs) : ∃ v vs' mid, vs = v :: vs' ∧ r.plI w lo mid v ∧ Va.plsI w rs mid hi vs' := by
  unfold Va.plsI at h
  exact h
def TaIs (v : Value) (p q : Bool) : Prop := ∃ u u2, (∀ W : World, Sem.run Tryz.prog (Instr.typeAssert v 20 32 true) W = .ok (.tuple #[u, .bool p]) W) ∧ (∀ W : World, Sem.run Tryz.prog (Instr.typeAssert v 20 34 true) W = .ok (.tuple #[u2, .bool q]) W)
theorem ta_leaf {kd n : Int} {x y : Nat} {s : ByteArray} {rs : List Va} {w : World} {lo : Nat} {v : Value} (hk : kd = 0 ∨ kd = 1 ∨ kd = 2 ∨ kd = 3 ∨ kd = 4 ∨ kd = 5 ∨ kd = 6 ∨ kd = 7) (h6 : kd ≠ 6) (h7 : kd ≠ 7) (h : (Va.mk kd n x y s rs).pl w lo v) : TaIs v false false := by
  rcases pl_kind h hk with ⟨rfl, rfl⟩ | ⟨rfl, rfl⟩ | ⟨rfl, rfl⟩ | ⟨rfl, rfl⟩ | ⟨rfl, rfl⟩ | ⟨rfl, rfl⟩ | ⟨h, _⟩ | ⟨h, _⟩
  · exact ⟨_, _, ta_ny, ta_na⟩
  · exact ⟨_, _, ta_by _, ta_ba _⟩
  · exact ⟨_, _, ta_iy _, ta_ia _⟩
  · exact ⟨_, _, ta_fy _, ta_fa _⟩
  · exact ⟨_, _, ta_cy _, ta_ca _⟩
  · exact ⟨_, _, ta_sy _, ta_sa _⟩
  · exact absurd h h6
  · exact absurd h h7
set_option maxRecDepth 100000 in
set_option maxHeartbeats 4000000 in
theorem spoil_N (N : Nat) : ∀ (r : Va) (_ : r.size ≤ N) (_ : r.all) (_ : r.sm) (lo hi : Nat) (v : Value) (w : World) (_ : r.plI w lo hi v), Calls Tryz.prog 12 #[v] w (SpoilIs lo hi w) := by
  induction N with
  | zero => intro r hN; have := r.size_pos; omega
  | succ N ih =>
  intro r hN hall hsm lo hi v w hpl
  obtain ⟨kd, n, x, y, s, rs⟩ := r
  have hk := all_kd hall
  unfold Va.plI at hpl
  obtain ⟨h0, h1, hpl⟩ := hpl
  unfold Va.sm at hsm
  rcases hpl with ⟨h6, h7, h⟩ | ⟨rfl, b, cap, rfl, h3, h4, h5⟩ | ⟨rfl, g, cap, vs, rfl, h3, h4, h5, h6⟩
  · obtain ⟨u, u2, t1, t2⟩ := ta_leaf hk h6 h7 h
    exact spoil_leaf lo hi v u u2 w t1 t2
  · obtain ⟨k1, k2, k3⟩ := byteRow_of h5
    exact spoil_6 lo hi b s.size cap w h3 h4 (by have := hsm.1; omega) k1 k2 k3
  · obtain ⟨k1, k2, k3, k4⟩ := anyRow_of h5
    unfold Va.size at hN
    unfold Va.all at hall
    have IH := Lib.hid ih
    have HALL := Lib.hid (And.intro hall.2 hsm.2.2)
    have HL := Lib.hid hsm.2.1
    have HCM := Lib.hid k3
    have HR := Lib.hid (And.intro k1 h6)
    have HI0 := Lib.hid (And.intro h3 (And.intro h4 h1))
    have a0 := ta_ay
    have a1 := ta_aa
    clear ih hall hsm k1 k3 h5 h6 h3 h4 h1 hk
    go_enter Tryz.func12, Tryz.ntmps12
    go_wp2_with fail
    clear a0 a1
    go_loopw [3, 8] (fun u3 u8 wr => ∃ (k mid : Nat) (z : Int), k ≤ rs.length ∧ u8 = .int .i64 k ∧ u3 = .int .i64 z ∧ Hid (AnyRow wr g k vs cap ∧ Va.plsI wr (rs.drop k) mid hi (vs.drop k) ∧ g < mid ∧ hi ≤ wr.heap.size ∧ Wr (InI lo hi) w wr)) (fun _ u8 _ => rs.length - (intOf u8).toNat)
    case atStart => exact ⟨0, g + 1, 0, by omega, rfl, rfl, HR.out.1, HR.out.2, by omega, HI0.out.2.2, Wr.refl _ _⟩
    case round =>
      obtain ⟨k, mid, z, hk, rfl, rfl, hin⟩ := hrel
      by_cases hlt : k < rs.length
      · have d1 : (k : Int) < (rs.length : Int) := by omega
        have hri : (0:Int) ≤ (k:Int) := by omega
        have hlb : k ≤ 1024 := by have := HL.out; omega
        obtain ⟨i1, i2, i3, i4, i5⟩ := hin.out
        rw [List.drop_eq_getElem_cons hlt] at i2
        obtain ⟨vk, vs', mid2, e1, p1, p2⟩ := plsI_at i2
        have hvl : k < vs.length := by omega
        rw [List.drop_eq_getElem_cons hvl] at e1
        obtain ⟨rfl, rfl⟩ := List.cons.inj e1
        have hc := (i1.at hvl).1
        rw [List.getElem?_eq_getElem hvl] at hc
        have hone := Va.pl_one (Va.plI_pl _ _ _ _ p1)
        have HZ := Va.sizes_at rs k hlt
        have HP := Lib.hid (And.intro p1 (And.intro p2 (And.intro i1 (And.intro i3 (And.intro i4 i5)))))
        obtain ⟨vk, hvk⟩ : ∃ vk, vs[k] = vk := ⟨_, rfl⟩
        rw [hvk] at hc hone HP
        clear i1 i2 i3 i4 i5 p1 p2 hin e1 hvk
        go_wp2_with fail
        refine (IH.out rs[k] (by omega) (Va.alls_at rs k hlt HALL.out.1) (Va.sms_at rs k hlt HALL.out.2) mid mid2 vk wr HP.out.1).mono ?_
        rintro e w3 ⟨z3, rfl, hw3⟩
        obtain ⟨p1, p2, i1, i3, i4, i5⟩ := HP.out
        have hm2 := (Va.plI_le p1).1
        have hmh := Va.plsI_le p2
        have hgl : g < wr.heap.size := by omega
        have hr3 : AnyRow w3 g k vs cap := i1.same (hw3.block g hgl (fun h => by have := h.1; omega))
        have hw5 : Wr (InI lo hi) w w3 := i5.andThen hw3 fun i hi2 h => ⟨by have := h.1; have := HI0.out.1; omega, by have := h.2; omega⟩
        have hp3 : Va.plsI w3 (rs.drop (k + 1)) mid2 hi (vs.drop (k + 1)) := Va.plsI_same hw3.size _ _ _ _ (fun i h1 h2 => hw3.block i (by omega) (fun h => by have := h.2; omega)) p2
        have H3 := Lib.hid (And.intro hr3 (And.intro hp3 (And.intro (show g < mid2 by omega) (And.intro (show hi ≤ w3.heap.size by have := hw3.size; omega) hw5))))
        have hf := (hr3.at hvl).2
        have hc3 := (hr3.at hvl).1
        rw [List.getElem?_eq_getElem hvl] at hc3
        clear p1 p2 i1 i3 i4 i5 hm2 hmh hgl hr3 hw5 hp3 HP hw3 hc
        go_wp2_with fail
        go_roundw
        case rel =>
          obtain ⟨q1, q2, q3, q4, q5⟩ := H3.out
          refine ⟨k + 1, mid2, _, by omega, by go_num, rfl, q1.put _, ?_, q3, by rw [size_set]; exact q4, q5.setCell (.inl ⟨HI0.out.1, HI0.out.2.1⟩) _⟩
          exact Va.plsI_same (by rw [size_set]; exact Nat.le_refl _) _ _ _ _ (fun i h1 h2 => Below.heap_setCell _ _ _ _ (by show i ≠ g; omega)) q2
        case measure => simp [intOf]; omega
      · obtain rfl : k = rs.length := by omega
        have hR0 : RowS lo hi w 20 (.slice (some ⟨g, 0, none⟩) rs.length cap) rs.length wr := by
          obtain ⟨⟨cur, c1, c2, _⟩, _, _, _, i5⟩ := hin.out
          exact ⟨⟨cur.toList.take (rs.length * 1), by simp; omega, .inr ⟨g, cap, cur, rfl, Nat.zero_le _, c1, k2, HCM.out, by omega, rfl⟩⟩, fun g' hg => by
            simp only [Value.ownBlock, Option.some.injEq] at hg
            subst hg
            exact .inl ⟨HI0.out.1, HI0.out.2.1⟩, i5⟩
        have HR0 := Lib.hid hR0
        obtain ⟨i0, hi0, hz0, hz1, hz2⟩ := info_parts info_any
        have HI := Lib.hid (And.intro hi0 (And.intro hz0 (And.intro hz1 hz2)))
        clear hR0 hin hi0 hz0 hz1 hz2
        go_wp2_with fail
        go_loopw [7, 9] (fun u7 u9 wq => ∃ (j : Nat) (a : Option Addr) (m c : Nat), j ≤ 20 ∧ u9 = .int .i64 j ∧ u7 = .slice a m c ∧ m ≤ rs.length + j ∧ Hid (RowS lo hi w 20 (.slice a m c) m wq)) (fun _ u9 _ => 20 - (intOf u9).toNat)
        case atStart => exact ⟨0, _, _, _, by omega, rfl, rfl, by omega, HR0.out⟩
        case round =>
          obtain ⟨j, a, m, c, hj, rfl, rfl, hm, hq⟩ := hrel
          by_cases hlt2 : j < 20
          · have d1 : (j : Int) < 20 := by omega
            go_wp2_with (at_builtin; refine Hid.out ?_)
            refine Lib.hid (wpList_app rfl _ _ _ _ rfl _ _ rfl rfl (hq.out.app Tryz.underlying34 HI.out.1 HI.out.2.1 HI.out.2.2.1 HI.out.2.2.2 (by omega) rfl (by have := HL.out; omega) (.iface 9 (.string ⟨#[98, 101, 104, 105, 110, 100]⟩)) rfl) ?_)
            rintro v3 w3 ⟨⟨g3, cap3, rfl⟩, h⟩
            have H3 := Lib.hid h
            clear h
            go_wp2_with fail
            go_roundw
            case rel => exact ⟨j + 1, _, _, _, by omega, by go_num, rfl, by omega, H3.out⟩
            case measure => simp [intOf]; omega
          · obtain rfl : j = 20 := by omega
            have d1 : ¬ (20 : Int) < 20 := by omega
            go_wp2_with fail
            go_ret
            exact ⟨_, rfl, hq.out.wr⟩
end Go.Proofs.YtbbpngoffpegbaaGreatDoor
namespace Go.Proofs.YtbbpngoffpegbaaGreatDoor
open Go Go.RowKit
set_option linter.unusedVariables false
set_option linter.unusedSimpArgs false
attribute [local go_sem] run_store_float
theorem lent_y (r : Va) (c : List Value) (F : List Nat) (w : World) (hr : r.tr.own 6 w c F) :
    Calls Tryz.prog 9 #[.agg c.toArray] w fun e w' => ∃ x0 x1 x2 x3 x4 x5 F', e = .returned (.agg #[x0, x1, x2, x3, x4, x5]) ∧ r.tr.own 6 w' [x0, x1, x2, x3, x4, x5] F' ∧ Below w.heap.size w w' := by
  obtain ⟨v0, v1, v2, v3, v4, v5, rfl⟩ := Va.shape hr
  refine (lent_N _ r (Nat.le_refl _) _ F w hr).mono ?_
  rintro e w' (⟨ho, rfl, hb⟩ | ⟨ho, x0, x1, x2, x3, x4, x5, F', rfl, h1, h2, h3, h4⟩)
  · exact ⟨v0, v1, v2, v3, v4, v5, F, rfl, Tr.own_below hr hb, hb⟩
  · exact ⟨x0, x1, x2, x3, x4, x5, F', rfl, Va.own_ltr _ _ _ h1, h4⟩
theorem ta7_kinds {r : Va} {w : World} {lo : Nat} {v : Value} (ho : r.okV = true) (h : r.pl w lo v) :
    ∃ u2, ∀ W : World, Sem.run Tryz.prog (Instr.typeAssert v 20 34 true) W = .ok (.tuple #[u2, .bool (r.kd == 7)]) W := by
  obtain ⟨kd, n, x, y, s, rs⟩ := r
  have hk := okV_kd ho
  unfold Va.kd
  rcases pl_kind h hk.1 with ⟨rfl, rfl⟩ | ⟨rfl, rfl⟩ | ⟨rfl, rfl⟩ | ⟨rfl, rfl⟩ | ⟨rfl, rfl⟩ | ⟨rfl, rfl⟩ | ⟨rfl, u, rfl⟩ | ⟨rfl, u, rfl⟩
  · exact ⟨_, ta_na⟩
  · exact ⟨_, ta_ba _⟩
  · exact ⟨_, ta_ia _⟩
  · exact ⟨_, ta_fa _⟩
  · exact ⟨_, ta_ca _⟩
  · exact ⟨_, ta_sa _⟩
  · exact ⟨_, ta_ya _⟩
  · exact ⟨_, ta_aa _⟩
theorem drop_pl {w : World} {lo k q : Nat} {rs : List Va} {vs : List Value} (h : Va.pls w lo (rs.drop k) (vs.drop k)) (hk : k ≤ q) (hq : q < rs.length) : ∃ v, vs[q]? = some v ∧ rs[q].pl w lo v := by
  obtain ⟨v, h1, h2⟩ := Va.pls_at2 (q - k) (by rw [List.length_drop]; omega) h
  rw [List.getElem?_drop, show k + (q - k) = q by omega] at h1
  refine ⟨v, h1, ?_⟩
  rw [List.getElem_drop] at h2
  simpa only [show k + (q - k) = q by omega] using h2
/-- The law's box and the value that came in. -/
structure AB (w : World) (r : Va) (A : List Value) (F : List Nat) (W : World) : Prop where
  low : Below w.heap.size w W
  b1 : W.heap[w.heap.size]? = some (.cells A.toArray 25 (0, 0))
  own : r.tr.own 6 W A F
  lt : ∀ i ∈ F, i < w.heap.size
theorem AB.below {w : World} {r : Va} {A : List Value} {F : List Nat} {W W2 : World} (h : AB w r A F W) (hb : Below W.heap.size W W2) : AB w r A F W2 :=
  ⟨bthen h.low hb, (hb.block _ (Array.getElem?_eq_some_iff.1 h.b1).1).trans h.b1, Tr.own_below h.own hb, h.lt⟩
theorem AB.wr {w : World} {r : Va} {A : List Value} {F : List Nat} {W W2 : World} {lo hi : Nat} (h : AB w r A F W) (hw : Wr (InI lo hi) W W2) (hl : w.heap.size < lo) : AB w r A F W2 :=
  ⟨h.low.trans (hw.below h.low.size (fun k hk => by have := hk.1; omega)), (hw.block _ (Array.getElem?_eq_some_iff.1 h.b1).1 (fun hk => by have := hk.1; omega)).trans h.b1,
    Tr.own_wr h.own hw (fun i hi hk => by have := h.lt i hi; have := hk.1; omega), h.lt⟩
set_option maxRecDepth 100000 in
set_option maxHeartbeats 4000000 in
theorem anys_bad (r : Va) (ho : r.okV = false) (c : List Value) (F : List Nat) (w : World) (ht : WTabs w) (hr : r.tr.own 6 w c F) (hwf : r.wf) :
    Calls Tryz.prog 4 #[.agg c.toArray] w fun e w' => e = .returned (.bool true) ∧ Below w.heap.size w w' := by
  obtain ⟨v0, v1, v2, v3, v4, v5, rfl⟩ := Va.shape hr
  have HB := Lib.hid (show AB w r [v0, v1, v2, v3, v4, v5] F _ from ⟨bnew (Below.refl w.heap.size w) (.cells #[v0, v1, v2, v3, v4, v5] 25), heap_alloc_new w _, Tr.own_below hr (bnew (Below.refl w.heap.size w) _), Tr.own_lt _ _ _ hr⟩)
  have HW := Lib.hid hwf
  have HT := Lib.hid ht
  have HO := Lib.hid ho
  clear hr hwf ht ho
  go_enter Tryz.func4, Tryz.ntmps4
  go_wp2_with fail
  refine (awake_any _ (HT.out.below HB.out.low)).mono ?_
  rintro e w1 ⟨rfl, hb⟩
  have HB1 := Lib.hid (HB.out.below hb)
  clear hb HB
  have j1 := box_all HB1.out.b1
  go_wp2_with fail
  refine (lent_y r [v0, v1, v2, v3, v4, v5] F w1 HB1.out.own).mono ?_
  rintro e w2 ⟨x0, x1, x2, x3, x4, x5, F', rfl, hx, hb⟩
  have HB2 := Lib.hid (HB1.out.below hb)
  have HX := Lib.hid hx
  clear hb HB1 j1 hx
  go_wp2_with fail
  refine (Any_any r [x0, x1, x2, x3, x4, x5] F' w2 HX.out HW.out).mono ?_
  rintro e w3 (⟨h, _⟩ | ⟨_, rfl, hb⟩)
  · rw [HO.out] at h; cases h
  have HB3 := Lib.hid (HB2.out.below hb)
  clear hb HB2
  have j1 := box_all HB3.out.b1
  go_wp2_with fail
  refine (rCheck_any r [v0, v1, v2, v3, v4, v5] F w3 HB3.out.own).mono ?_
  rintro e w4 ⟨rfl, hb⟩
  have HB4 := Lib.hid (HB3.out.below hb)
  clear hb HB3 j1
  rw [bad_ite HO.out]
  go_wp2_with fail
  go_ret
  exact ⟨rfl, HB4.out.low⟩
set_option maxRecDepth 100000 in
set_option maxHeartbeats 4000000 in
theorem anys_ok (r : Va) (ho : r.okV = true) (c : List Value) (F : List Nat) (w : World) (ht : WTabs w) (hr : r.tr.own 6 w c F) (hwf : r.wf) :
    Calls Tryz.prog 4 #[.agg c.toArray] w fun e w' => e = .returned (.bool true) ∧ Below w.heap.size w w' := by
  obtain ⟨v0, v1, v2, v3, v4, v5, rfl⟩ := Va.shape hr
  have HB := Lib.hid (show AB w r [v0, v1, v2, v3, v4, v5] F _ from ⟨bnew (Below.refl w.heap.size w) (.cells #[v0, v1, v2, v3, v4, v5] 25), heap_alloc_new w _, Tr.own_below hr (bnew (Below.refl w.heap.size w) _), Tr.own_lt _ _ _ hr⟩)
  have HW := Lib.hid hwf
  have HT := Lib.hid ht
  have HO := Lib.hid ho
  have HALL := Lib.hid (And.intro (Va.ok_all ho) (Va.ok_sm ho))
  clear hr hwf ht ho
  go_enter Tryz.func4, Tryz.ntmps4
  go_wp2_with fail
  refine (awake_any _ (HT.out.below HB.out.low)).mono ?_
  rintro e w1 ⟨rfl, hb⟩
  have HB1 := Lib.hid (HB.out.below hb)
  clear hb HB
  have j1 := box_all HB1.out.b1
  go_wp2_with fail
  refine (lent_y r [v0, v1, v2, v3, v4, v5] F w1 HB1.out.own).mono ?_
  rintro e w2 ⟨x0, x1, x2, x3, x4, x5, F', rfl, hx, hb⟩
  have HB2 := Lib.hid (HB1.out.below hb)
  have HX := Lib.hid hx
  clear hb HB1 j1 hx
  go_wp2_with fail
  refine (Any_any r [x0, x1, x2, x3, x4, x5] F' w2 HX.out HW.out).mono ?_
  rintro e w3 (⟨_, y1, rfl, hpl, hb⟩ | ⟨h, _⟩)
  rotate_left
  · rw [HO.out] at h; cases h
  have HB3 := Lib.hid (HB2.out.below hb)
  have HS2 := Lib.hid (show w.heap.size < w2.heap.size from (Array.getElem?_eq_some_iff.1 HB2.out.b1).1)
  have HS5 := Lib.hid hb.size
  have HP1 := Lib.hid hpl
  have hf1 := Va.pl_form (Va.plI_pl _ _ _ _ hpl)
  clear hb HB2 hpl HX
  have j1 := box_all HB3.out.b1
  go_wp2_with fail
  refine (rCheck_any r [v0, v1, v2, v3, v4, v5] F w3 HB3.out.own).mono ?_
  rintro e w4 ⟨rfl, hb⟩
  have HB4 := Lib.hid (HB3.out.below hb)
  have HP2 := Lib.hid (Va.plI_same (w' := w4) hb.size _ _ _ _ (fun i _ hi => hb.block i hi) HP1.out)
  have HS3 := Lib.hid hb.size
  clear hb HB3 j1 HP1
  rw [ok_ite HO.out]
  have j1 := box_all HB4.out.b1
  go_wp2_with fail
  refine (Any_any r [v0, v1, v2, v3, v4, v5] F w4 HB4.out.own HW.out).mono ?_
  rintro e w5 (⟨_, y2, rfl, hpl, hb⟩ | ⟨h, _⟩)
  rotate_left
  · rw [HO.out] at h; cases h
  have HB5 := Lib.hid (HB4.out.below hb)
  have HP3 := Lib.hid (Va.plI_same (w' := w5) hb.size _ _ _ _ (fun i _ hi => hb.block i (by have := (Va.plI_le HP2.out).2; omega)) HP2.out)
  have HQ := Lib.hid hpl
  clear hb HB4 j1 HP2 hpl
  have j1 := box_all HB5.out.b1
  go_wp2_with fail
  refine (is_N r.size r (Nat.le_refl _) HALL.out.1 _ y1 [v0, v1, v2, v3, v4, v5] F w5 (Va.plI_pl _ _ _ _ HP3.out) HB5.out.own).mono ?_
  rintro e w6 ⟨rfl, hb⟩
  have HB6 := Lib.hid (HB5.out.below hb)
  have HP4 := Lib.hid (Va.plI_same (w' := w6) hb.size _ _ _ _ (fun i _ hi => hb.block i (by have := (Va.plI_le HP3.out).2; omega)) HP3.out)
  have HQ2 := Lib.hid (Va.plI_same (w' := w6) hb.size _ _ _ _ (fun i _ hi => hb.block i hi) HQ.out)
  clear hb HB5 HP3 HQ j1
  have j1 := box_all HB6.out.b1
  go_wp2_with fail
  refine (is_N r.size r (Nat.le_refl _) HALL.out.1 _ y2 [v0, v1, v2, v3, v4, v5] F w6 (Va.plI_pl _ _ _ _ HQ2.out) HB6.out.own).mono ?_
  rintro e w7 ⟨rfl, hb⟩
  have HB7 := Lib.hid (HB6.out.below hb)
  have HP5 := Lib.hid (Va.plI_same (w' := w7) hb.size _ _ _ _ (fun i _ hi => hb.block i (by have := (Va.plI_le HP4.out).2; omega)) HP4.out)
  have HQ3 := Lib.hid (Va.plI_same (w' := w7) hb.size _ _ _ _ (fun i _ hi => hb.block i (by have := (Va.plI_le HQ2.out).2; omega)) HQ2.out)
  clear hb HB6 HP4 HQ2 j1
  go_wp2_with fail
  refine (spoil_N r.size r (Nat.le_refl _) HALL.out.1 HALL.out.2 _ _ y1 w7 HP5.out).mono ?_
  rintro e w8 ⟨z8, rfl, hw8⟩
  have HB8 := Lib.hid (HB7.out.wr hw8 HS2.out)
  have HQ4 := Lib.hid (Va.plI_same (w' := w8) hw8.size _ _ _ _ (fun i h1 h2 => hw8.block i (by have := (Va.plI_le HQ3.out).2; omega) (fun hk => by have := hk.2; have := HS3.out; omega)) HQ3.out)
  clear hw8 HB7 HP5 HQ3
  have j1 := box_all HB8.out.b1
  go_wp2_with fail
  refine (is_N r.size r (Nat.le_refl _) HALL.out.1 _ y2 [v0, v1, v2, v3, v4, v5] F w8 (Va.plI_pl _ _ _ _ HQ4.out) HB8.out.own).mono ?_
  rintro e w9 ⟨rfl, hb⟩
  have HB9 := Lib.hid (HB8.out.below hb)
  have HQ5 := Lib.hid (Va.plI_same (w' := w9) hb.size _ _ _ _ (fun i _ hi => hb.block i (by have := (Va.plI_le HQ4.out).2; omega)) HQ4.out)
  have HS4 := Lib.hid (show w.heap.size < w4.heap.size by have := HS2.out; have := HS3.out; have := HS5.out; omega)
  have HBX := Lib.hid (AB.below HB8.out hb)
  clear hb HB8 HB9 HQ4 j1 HS2 HS3 HS5 hf1
  obtain ⟨u2, ta2⟩ := ta7_kinds HO.out (Va.plI_pl _ _ _ _ HQ5.out)
  obtain ⟨kd, n, x, y, s, rs⟩ := r
  have hkk : ((Va.mk kd n x y s rs).kd == 7) = (kd == 7) := rfl
  rw [hkk] at ta2
  clear hkk
  by_cases h7 : kd ≠ 7
  · have hk : (kd == 7) = false := beq_eq_false_iff_ne.2 h7
    rw [hk] at ta2
    clear hk h7
    go_wp2_with fail
    go_ret
    exact ⟨rfl, HBX.out.low⟩
  have h7 := Classical.not_not.1 h7
  subst h7
  obtain ⟨a, cap, hvv, hcap, hcap', hcc⟩ := Va.open HBX.out.own
  simp only [List.cons.injEq, and_true] at hvv
  obtain ⟨rfl, rfl, rfl, rfl, rfl, rfl⟩ := hvv
  have hq := HQ5.out
  unfold Va.plI at hq
  obtain ⟨q0, q1, hq⟩ := hq
  rcases hq with ⟨_, h, _⟩ | ⟨h, _⟩ | ⟨_, g, gcap, vs, rfl, g3, g4, g5, g6⟩
  · exact absurd rfl h
  · cases h
  obtain ⟨k1, k2, k3, k4⟩ := anyRow_of g5
  have HR := Lib.hid (And.intro k1 (And.intro g6 q1))
  have HI0 := Lib.hid (And.intro g3 g4)
  have HALL2 := Lib.hid (show Va.alls rs ∧ Va.sms rs ∧ rs.length ≤ 1024 from by
    have h1 := HALL.out.1
    have h2 := HALL.out.2
    unfold Va.all at h1
    unfold Va.sm at h2
    exact ⟨h1.2, h2.2.2, h2.2.1⟩)
  have a1 := ta_aa
  clear ta2 HQ5 HALL q0 q1 k1 k3 g3 g4 g5 g6 HW HT HO
  go_wp2_with fail
  clear a1
  go_loopw [9] (fun u9 wr => ∃ (k mid : Nat), k ≤ rs.length ∧ u9 = .int .i64 k ∧ Hid (AnyRow wr g k vs gcap ∧ Va.plsI wr (rs.drop k) mid w5.heap.size (vs.drop k) ∧ g < mid ∧ w5.heap.size ≤ wr.heap.size) ∧ Hid (AB w (.mk 7 n x y s rs) [.int .u8 7, .int .i64 n, .float .f64 x, .float .f64 y, .string s, .slice a rs.length cap] F wr)) (fun u9 _ => rs.length - (intOf u9).toNat)
  case atStart => exact ⟨0, g + 1, by omega, rfl, ⟨HR.out.1, HR.out.2.1, by omega, HR.out.2.2⟩, HBX.out⟩
  case round =>
    obtain ⟨k, mid, hk, rfl, hin, hab⟩ := hrel
    by_cases hlt : k < rs.length
    · have d1 : (k : Int) < (rs.length : Int) := by omega
      have hri : (0:Int) ≤ (k:Int) := by omega
      have hlb : k ≤ 1024 := by have := HALL2.out.2.2; omega
      obtain ⟨i1, i2, i3, i4⟩ := hin.out
      rw [List.drop_eq_getElem_cons hlt] at i2
      obtain ⟨vk, vs', mid2, e1, p1, p2⟩ := plsI_at i2
      have hvl : k < vs.length := by omega
      rw [List.drop_eq_getElem_cons hvl] at e1
      obtain ⟨rfl, rfl⟩ := List.cons.inj e1
      have hc := (i1.at hvl).1
      rw [List.getElem?_eq_getElem hvl] at hc
      have hone := Va.pl_one (Va.plI_pl _ _ _ _ p1)
      have HP := Lib.hid (And.intro p1 (And.intro p2 (And.intro i1 (And.intro i3 i4))))
      obtain ⟨vk, hvk⟩ : ∃ vk, vs[k] = vk := ⟨_, rfl⟩
      rw [hvk] at hc hone HP
      clear i1 i2 i3 i4 p1 p2 hin e1 hvk
      go_wp2_with fail
      refine (spoil_N _ rs[k] (Nat.le_refl _) (Va.alls_at rs k hlt HALL2.out.1) (Va.sms_at rs k hlt HALL2.out.2.1) mid mid2 vk wr HP.out.1).mono ?_
      rintro e w3 ⟨z3, rfl, hw3⟩
      obtain ⟨p1, p2, i1, i3, i4⟩ := HP.out
      have hm2 := (Va.plI_le p1).1
      have hmh := Va.plsI_le p2
      have hgl : g < wr.heap.size := by omega
      have hlo := HI0.out.1
      have hr3 : AnyRow w3 g k vs gcap := i1.same (hw3.block g hgl (fun h => by have := h.1; omega))
      have hp3 : Va.plsI w3 (rs.drop (k + 1)) mid2 w5.heap.size (vs.drop (k + 1)) := Va.plsI_same hw3.size _ _ _ _ (fun i h1 h2 => hw3.block i (by omega) (fun h => by have := h.2; omega)) p2
      have hab3 := AB.wr hab.out hw3 (by have := HS4.out; omega)
      have hf := (hr3.at hvl).2
      have hc3 := (hr3.at hvl).1
      rw [List.getElem?_eq_getElem hvl] at hc3
      have hsz3 : w5.heap.size ≤ w3.heap.size := by have := hw3.size; omega
      have H3 := Lib.hid (show AnyRow (w3.setCell ⟨g, k, none⟩ (.iface 9 (.string ⟨#[115, 112, 111, 105, 108, 116]⟩))) g (k + 1) vs gcap ∧ Va.plsI (w3.setCell ⟨g, k, none⟩ (.iface 9 (.string ⟨#[115, 112, 111, 105, 108, 116]⟩))) (rs.drop (k + 1)) mid2 w5.heap.size (vs.drop (k + 1)) ∧ g < mid2 ∧ w5.heap.size ≤ (w3.setCell ⟨g, k, none⟩ (.iface 9 (.string ⟨#[115, 112, 111, 105, 108, 116]⟩))).heap.size from
        ⟨hr3.put _, Va.plsI_same (by rw [size_set]; exact Nat.le_refl _) _ _ _ _ (fun i h1 h2 => Below.heap_setCell _ _ _ _ (by show i ≠ g; omega)) hp3, by omega, by rw [size_set]; exact hsz3⟩)
      have HA3 := Lib.hid (AB.wr hab3 ((Wr.refl (InI g (g + 1)) w3).setCell (p := ⟨g, k, none⟩) (.inl ⟨Nat.le_refl _, Nat.lt_succ_self _⟩) (.iface 9 (.string ⟨#[115, 112, 111, 105, 108, 116]⟩))) (by have := HS4.out; omega))
      clear p1 p2 i1 i3 i4 hm2 hmh hgl hr3 hp3 HP hw3 hc hab3 hab hlo hsz3
      go_wp2_with fail
      revert H3 HA3
      generalize w3.setCell _ _ = W3
      intro H3 HA3
      clear hf hc3 hcc HBX
      go_loopw [10] (fun u10 wq => ∃ q : Nat, k + 1 ≤ q ∧ q ≤ rs.length ∧ u10 = .int .i64 q ∧ Hid (AnyRow wq g (k + 1) vs gcap ∧ Va.plsI wq (rs.drop (k + 1)) mid2 w5.heap.size (vs.drop (k + 1)) ∧ g < mid2 ∧ w5.heap.size ≤ wq.heap.size) ∧ Hid (AB w (.mk 7 n x y s rs) [.int .u8 7, .int .i64 n, .float .f64 x, .float .f64 y, .string s, .slice a rs.length cap] F wq)) (fun u10 _ => rs.length - (intOf u10).toNat)
      case atStart => exact ⟨k + 1, Nat.le_refl _, by omega, by go_num, H3.out, HA3.out⟩
      case round =>
        obtain ⟨q, hq1, hq2, rfl, hin, hab⟩ := hrel
        by_cases hltq : q < rs.length
        · have d2 : (q : Int) < (rs.length : Int) := by omega
          have hrq : (0:Int) ≤ (q:Int) := by omega
          have hlq : q ≤ 1024 := by have := HALL2.out.2.2; omega
          obtain ⟨a', cap2, he, _, _, hcc⟩ := Va.open hab.out.own
          simp only [List.cons.injEq, and_true, Value.slice.injEq, true_and] at he
          obtain ⟨rfl, rfl⟩ := he
          rcases hcc with ⟨h0', _⟩ | ⟨_, b, o, cs, Fk, rfl, hFk, hra, hkl⟩
          · omega
          obtain ⟨kkd, kn, kx, ky, ks, krs, ka, kcap, Fa, F1, Fb, hF1, _he1, hkid, c0, c1, c2, c3, c4, c5⟩ := Va.kidO q hltq hkl hra
          obtain ⟨vq, hvq, hplq⟩ := drop_pl (Va.plsI_pls _ _ mid2 _ _ (Nat.le_refl _) hin.out.2.1) hq1 hltq
          have j0 : wr.cell? ⟨g, q, none⟩ = some vq := by
            obtain ⟨cur, h1, h2, h3⟩ := hin.out.1
            have hvl2 : q < vs.length := by omega
            exact ((box_all h1 q).trans (h3 q hq1 hvl2)).trans hvq
          have honeq := Va.pl_one hplq
          have jx := box_all hab.out.b1
          have HK := Lib.hid (And.intro (Va.pl_same (w := wr) (w' := wr.drew) (Nat.le_refl _) (Nat.le_refl _) (fun _ _ _ => rfl) _ _ hplq) (Tr.own_drew hkid))
          clear hra hkl hF1 _he1 hkid hplq hvq hFk
          go_wp2_with fail
          go_still_tail 9, (by kernel_rfl)
          change wpList _ _ _ _ _ wr.drew
          go_wp2_with fail
          refine (is_N _ rs[q] (Nat.le_refl _) (Va.alls_at rs q hltq HALL2.out.1) mid2 vq [.int .u8 kkd, .int .i64 kn, .float .f64 kx, .float .f64 ky, .string ks, .slice ka krs.length kcap] F1 wr.drew HK.out.1 HK.out.2).mono ?_
          rintro e w6 ⟨rfl, hb3⟩
          have HB3 := Lib.hid (below_of_drew (w := wr) hb3)
          clear hb3
          go_wp2_with fail
          go_roundw
          case rel =>
            obtain ⟨r1, r2, r3, r4⟩ := hin.out
            have hgl : g < wr.heap.size := by have := HI0.out.2; omega
            exact ⟨q + 1, by omega, by omega, by go_num, ⟨r1.same (HB3.out.block g hgl), Va.plsI_same HB3.out.size _ _ _ _ (fun i _ hi => HB3.out.block i (by omega)) r2, r3, by have := HB3.out.size; omega⟩, AB.below hab.out HB3.out⟩
          case measure => simp [intOf]; omega
        · have hq3 : q = rs.length := by omega
          go_wp2_with fail
          go_roundw
          case rel => exact ⟨k + 1, mid2, by omega, by go_num, hin.out, hab.out⟩
          case measure => simp [intOf]; omega
    · obtain rfl : k = rs.length := by omega
      go_wp2_with fail
      go_ret
      exact ⟨rfl, hab.out.low⟩
end Go.Proofs.YtbbpngoffpegbaaGreatDoor
namespace Go.Proofs.YtbbpngoffpegbaaGreatDoor
open Go.ChangeShapes Go.WideShapes Go.ChangeAt Go.RowKit Go.Deep
set_option linter.unusedVariables false
set_option linter.unusedSimpArgs false

theorem own_knob : ownKnob Tryz.prog.godebug = none := by kernel_rfl
theorem laid_out : laidOutB Tryz.prog = true := by kernel_rfl
abbrev laidL : List (String × DataW Unit) := Rows.valueSamesRow.laid
theorem laid_met (os : Os) (args : Array Value) : laidMetH Tryz.prog laidL ((World.laidAll Tryz.prog os laidL).forCall (fun _ _ => 0) ⟨#[], args, []⟩).memory := by
  rw [MakeChecks.laidMetH_plain _ _ _ (by kernel_rfl)]
  exact laidMet_laidAll _ (by kernel_rfl) (by kernel_rfl)
theorem pow_lt : (Go.Pinned.pow10Rows.all fun x => decide (x.1 < 18446744073709551616) && decide (x.2 < 18446744073709551616)) = true := by decide +kernel
theorem pow_len : Go.Pinned.pow10Rows.length = 696 := by decide +kernel
theorem hl_lt (p : Nat) (hp : p < 696) : hiP p < 18446744073709551616 ∧ loP p < 18446744073709551616 := by
  have hl : p < Go.Pinned.pow10Rows.length := by rw [pow_len]; exact hp
  have := List.all_eq_true.1 pow_lt _ (List.getElem_mem hl)
  simp only [Bool.and_eq_true, decide_eq_true_eq] at this
  unfold hiP loP
  rw [List.getD_eq_getElem?_getD, List.getElem?_eq_getElem hl]
  exact this
theorem pows_of {W : World} {rest : List (String × DataW Unit)} (h : laidMet Tryz.prog (("internal/strconv.pow10Tab", Go.Pinned.pow10Tab) :: rest) W) : Pows W hiP loP := by
  obtain ⟨ps, ⟨g, t, cs, fuel, p, q, hg, ht, hvar, hd, _, _⟩, _⟩ := h
  obtain rfl : 4 = g := Option.some.inj ((show Tryz.prog.globalNamed "internal/strconv.pow10Tab" = some 4 by kernel_rfl).symm.trans hg)
  obtain rfl : 210 = t := Option.some.inj ((show (Tryz.prog.globals[4]?).map (·.type) = some 210 by kernel_rfl).symm.trans ht)
  obtain ⟨xs, m, rfl, hx, hcl, hxl, hat⟩ := DataW.trod_array Tryz.underlying210 hd
  rw [show Tryz.prog.cellsOf 209 = 2 by kernel_rfl] at hat
  have hxs : xs.map (·.1) = Go.Pinned.pow10Rows.map fun x => (DataW.agg [.lit (.int .u64 x.1), .lit (.int .u64 x.2)] : DataW Unit) := by
    have := congrArg Prod.fst hx
    unfold Go.Pinned.pow10Tab at this
    simpa using this.symm
  refine ⟨fun i hi => ?_⟩
  have hl : i < Go.Pinned.pow10Rows.length := by rw [pow_len]; exact hi
  have hlt : i < xs.length := by rw [hxl]; exact hi
  have h1 := hat i hi
  rw [List.getElem?_eq_getElem hlt] at h1
  obtain ⟨y0, y1, n, hy, hcc, k0, k1⟩ := trod_struct2 Tryz.underlying209 h1
  have h2 : (xs.map (·.1))[i]? = (Go.Pinned.pow10Rows.map fun x => (DataW.agg [.lit (.int .u64 x.1), .lit (.int .u64 x.2)] : DataW Unit))[i]? := by rw [hxs]
  rw [List.getElem?_map, List.getElem?_map, List.getElem?_eq_getElem hlt, List.getElem?_eq_getElem hl] at h2
  simp only [Option.map_some, Option.some.injEq] at h2
  rw [hy] at h2
  simp only [DataW.agg.injEq, List.cons.injEq, and_true] at h2
  obtain ⟨z0, c0, e0, _⟩ := DataW.trod_int Tryz.underlying42 k0
  obtain ⟨z1, c1, e1, _⟩ := DataW.trod_int Tryz.underlying42 k1
  rw [e0, e1] at h2
  simp only [DataW.lit.injEq, Lit.int.injEq, true_and] at h2
  have hc := World.var?_cell (show Tryz.prog.globalNamed "internal/strconv.pow10Tab" = some 4 by kernel_rfl) hvar
  have q0 : cs[i * 2]? = some (.int .u64 z0) := by
    have := congrArg (·[0]?) c0
    simpa [List.getElem?_take, List.getElem?_drop, show Tryz.prog.cellsOf 42 = 1 by kernel_rfl] using this
  have q1 : cs[i * 2 + 1]? = some (.int .u64 z1) := by
    have := congrArg (·[0]?) c1
    simpa [List.getElem?_take, List.getElem?_drop, show Tryz.prog.cellsOf 42 = 1 by kernel_rfl] using this
  have hh : hiP i = Go.Pinned.pow10Rows[i].1 ∧ loP i = Go.Pinned.pow10Rows[i].2 := by
    unfold hiP loP
    rw [List.getD_eq_getElem?_getD, List.getElem?_eq_getElem hl]
    exact ⟨rfl, rfl⟩
  refine ⟨(hc _).trans (q0.trans ?_), (hc _).trans (q1.trans ?_), (hl_lt i hi).1, (hl_lt i hi).2⟩
  · rw [hh.1, h2.1]
  · rw [hh.2, h2.2]
theorem star_ : "*" ++ "errors.errorString" = "*errors.errorString" := by decide
theorem rowPE (u : TypeId) (h : Tryz.prog.typeName? 3 u = some "*errors.errorString") : u = 226 :=
  typeName_ptr_named (nm := "errors.errorString") (by rw [star_]; kernel_rfl) (by kernel_rfl) (by decide) u (by rw [star_]; exact h)
theorem opt_of {W : World} {rest : List (String × DataW Unit)} (h : laidMet Tryz.prog (("internal/strconv.optimize", .lit (.bool true)) :: rest) W) : W.cell? ⟨1, 0, none⟩ = some (.bool true) := by
  obtain ⟨ps, ⟨g, t, cs, fuel, p, q, hg, ht, hvar, hd, _, _⟩, _⟩ := h
  obtain rfl : 4 = t := Option.some.inj ((show (Tryz.prog.globals[1]?).map (·.type) = some 4 by kernel_rfl).symm.trans (by
    obtain rfl : 1 = g := Option.some.inj ((show Tryz.prog.globalNamed "internal/strconv.optimize" = some 1 by kernel_rfl).symm.trans hg)
    exact ht))
  obtain ⟨b, hc, hx⟩ := DataW.trod_bool Tryz.underlying4 hd
  obtain rfl : b = true := by
    have := congrArg Prod.fst hx
    simp only [DataW.lit.injEq, Lit.bool.injEq] at this
    exact this.symm
  have hcell := World.var?_cell (show Tryz.prog.globalNamed "internal/strconv.optimize" = some 1 by kernel_rfl) hvar 0
  rw [hcell]
  have := congrArg (·[0]?) hc
  simpa using this
theorem info_of {W : World} {rest : List (String × DataW Unit)} (h : laidMet Tryz.prog (("internal/strconv.float64info", Rows.laid_internal_strconv_float64info) :: rest) W) : W.cell? ⟨11, 0, none⟩ = some (.int .u64 52) := by
  obtain ⟨ps, ⟨g, t, cs, fuel, p, q, hg, ht, hvar, hd, _, _⟩, _⟩ := h
  obtain rfl : 11 = g := Option.some.inj ((show Tryz.prog.globalNamed "internal/strconv.float64info" = some 11 by kernel_rfl).symm.trans hg)
  obtain rfl : 236 = t := Option.some.inj ((show (Tryz.prog.globals[11]?).map (·.type) = some 236 by kernel_rfl).symm.trans ht)
  obtain ⟨y0, y1, y2, n, hx, hcl, k0, k1, k2⟩ := trod_struct3 Tryz.underlying236 hd
  obtain ⟨z0, c0, e0, _⟩ := DataW.trod_int Tryz.underlying81 k0
  have h2 := congrArg Prod.fst hx
  unfold Rows.laid_internal_strconv_float64info at h2
  simp only [DataW.agg.injEq, List.cons.injEq, and_true] at h2
  have h3 := h2.1
  rw [e0] at h3
  simp only [DataW.lit.injEq, Lit.int.injEq, true_and] at h3
  have hcell := World.var?_cell (show Tryz.prog.globalNamed "internal/strconv.float64info" = some 11 by kernel_rfl) hvar 0
  rw [hcell]
  have := congrArg (·[0]?) c0
  rw [← h3] at this
  simpa [List.getElem?_take, List.getElem?_drop, show Tryz.prog.cellsOf 81 = 1 by kernel_rfl] using this
set_option maxRecDepth 100000 in
theorem pow64_of {W : World} {rest : List (String × DataW Unit)} (h : laidMet Tryz.prog (("internal/strconv.float64pow10", Rows.laid_internal_strconv_float64pow10) :: rest) W) :
    ∃ (a : Addr) (n c : Nat), W.cell? ⟨14, 0, none⟩ = some (.slice (some a) n c) ∧ 1 < n ∧ n ≤ 100 ∧ W.cell? (a.add 1) = some (.float .f64 4621819117588971520) := by
  obtain ⟨ps, ⟨g, t, cs, fuel, p, q, hg, ht, hvar, hd, _, _⟩, _⟩ := h
  obtain rfl : 14 = g := Option.some.inj ((show Tryz.prog.globalNamed "internal/strconv.float64pow10" = some 14 by kernel_rfl).symm.trans hg)
  obtain rfl : 252 = t := Option.some.inj ((show (Tryz.prog.globals[14]?).map (·.type) = some 252 by kernel_rfl).symm.trans ht)
  have hcell := World.var?_cell (show Tryz.prog.globalNamed "internal/strconv.float64pow10" = some 14 by kernel_rfl) hvar 0
  rcases open_slice Tryz.underlying252 hd with ⟨_, hx⟩ | ⟨a, len, cap, m, n, D, Pl, hcs, _, hl, _, hmm, hx, hi⟩
  · have := congrArg Prod.fst hx
    unfold Rows.laid_internal_strconv_float64pow10 at this
    cases this
  · have hfst := congrArg Prod.fst hx
    unfold Rows.laid_internal_strconv_float64pow10 at hfst
    simp only [DataW.slice.injEq] at hfst
    have hlen : len = 23 := by
      have h1 := congrArg List.length hfst.1
      rw [List.length_map, List.length_range] at h1
      exact h1.symm
    subst hlen
    have hD : D 1 = .lit (.float .f64 4621819117588971520) := by
      have h1 := congrArg (·[1]?) hfst.1
      have h2 : ((List.range 23).map D)[1]? = some (D 1) := rfl
      have h3 := h1.trans h2
      exact (Option.some.inj h3).symm
    have hle : 23 ≤ m := by rw [hmm]; split <;> omega
    obtain ⟨cs', hc, hk⟩ := hi 1 (by omega)
    rw [show Tryz.prog.cellsOf 22 = 1 by kernel_rfl] at hc
    obtain ⟨b, hb, hy, _⟩ := trod_float Tryz.underlying22 hk
    have hb2 : b = 4621819117588971520 := by
      have := congrArg Prod.fst hy
      rw [hD] at this
      simp only [DataW.lit.injEq, Lit.float.injEq, true_and] at this
      exact this.symm
    obtain ⟨_, _, hat⟩ := World.cells?_some hc
    refine ⟨a, 23, cap, ?_, by omega, by omega, ?_⟩
    · rw [hcell]
      have := congrArg (·[0]?) hcs
      simpa using this
    · have := hat 0 (by omega)
      rw [hb, hb2] at this
      have h0 : (a.add (1 * 1)).add 0 = a.add 1 := rfl
      rw [h0] at this
      simpa using this
theorem tabs_of {W : World} (hL : laidMetH Tryz.prog laidL W) : WTabs W := by
  have h : laidMet Tryz.prog laidL W := hL
  have h3 := h.tail.tail.tail
  have h4 := h3.tail
  have h6 := h4.tail.tail
  have h8 : laidMet Tryz.prog (("internal/strconv.uint64pow10", Lib.tabData .u64 Lib.pow10Tab) :: laidL.drop 9) W := h6.tail.tail
  have h10 := h8.tail.tail
  obtain ⟨a5, s5, hv5, _⟩ := laid_sentinel (g := 6) (ti := 109) (tp := 226) (te := 228) (ts := 9) h10 (by kernel_rfl) (by kernel_rfl) Tryz.underlying109 rowPE Tryz.underlying226 Tryz.underlying228 rfl rfl Tryz.underlying9 (by kernel_rfl) (by kernel_rfl)
  have hp := pows_of h10.tail.tail
  exact ⟨⟨⟨opt_of h4, info_of h3, pow64_of h6⟩, ⟨_, _, hv5⟩⟩, hp, World.block_lt_of_cell? W ⟨4, 0 * 2, none⟩ (hp.h 0 (by omega)).1,
    Lib.tabIs_of_head (g := 2) (t := 175) (e := 42) (n := 20) (by kernel_rfl) (by kernel_rfl) (by kernel_rfl) (by kernel_rfl) (by kernel_rfl) (by kernel_rfl) h8⟩
theorem returns_all {H : Type} {enc : TypeId × Value → H} {a : Assume} {C : Checked} {os : Os} {f : FuncId} {fn : Func} {s : ChangeSpec} {conds : List PathCond} {apart fresh handsOn again : Bool} {X : World → Array Value → Prop}
    (hX : ∀ (w w' : World) (args : Array Value), w.heap = w'.heap → X w args → X w' args)
    (own : ownKnob C.prog.godebug = none) (started : os.Started) (noInit : C.prog.inits.idxOf? f = none) (hfn : C.prog.funcs[f]? = some fn)
    (witness : ∃ (w : World) (tape : Tape) (i : Input), w.os = os ∧ (w.forCall tape i).Shaped C.prog ∧ i.vars = [] ∧ Input.okWide C.prog (w.forCall tape i) .any w.heap.size f i ∧
      ((s.pre enc C.prog fn conds apart (w.forCall tape i).memory i.args ∧ X (w.forCall tape i).memory i.args) ∧ sizedMet enc C.prog fn (OpenSpec.ofChange s) apart (w.forCall tape i).memory i.args) ∧ a.holds C.prog (lone (Frame.enter C.prog f i.args .normal) [] (w.forCall tape i)))
    (contract : ∀ (W : World) (base : Nat) (args : Array Value) (ds gs : List (DataW H)) (before : List MemPlace),
      (∀ (j : Nat) t v, fn.params[j]? = some t → args[j]? = some v → Value.okWide C.prog W .any base t v) →
      DataW.Whole enc C.prog fn.params.toList s.vars apart W args.toList ds gs before →
      (DataW.weightsEach C.prog (fn.params.toList ++ s.plain.varTypes C.prog) (ds ++ gs)).all (· ≤ reachBytes) = true → X W args → W.ShapedOpen C.prog →
      Calls C.prog f args W fun e W' => ∃ v, e = .returned v ∧ s.post enc C.prog fn apart fresh handsOn again W args v W') :
    ReturnsInHanded a C os f .any (fun w args => (s.pre enc C.prog fn conds apart w args ∧ X w args) ∧ sizedMet enc C.prog fn (OpenSpec.ofChange s) apart w args) (s.post enc C.prog fn apart fresh handsOn again) := by
  refine returnsInHanded_of_calls own started noInit witness ?_
  intro w tape i _ hsh _ hok hpre hholds
  obtain ⟨_, _, _, fn', hfn', _, _, _, _, hval⟩ := hok
  have e : fn' = fn := Option.some.inj (hfn'.symm.trans hfn)
  subst e
  obtain ⟨⟨⟨ds, gs, before, hw, hc⟩, hx⟩, hz⟩ := hpre
  have hw' := DataW.Whole.of_heap (w' := w.forCall tape i) (by rfl) hw
  refine (contract (w.forCall tape i) w.heap.size i.args ds gs before hval hw' (hz.weights hw) (hX _ _ _ (by rfl) hx) hsh).mono fun e W' ⟨v, he, hp⟩ => ?_
  subst he
  exact ChangeSpec.post_blind hp
end Go.Proofs.YtbbpngoffpegbaaGreatDoor
namespace Go.Proofs.YtbbpngoffpegbaaGreatDoor
open Go.ChangeShapes Go.WideShapes Go.ChangeAt Go.RowKit
set_option linter.unusedVariables false
set_option linter.unusedSimpArgs false

theorem anys_any (r : Va) (c : List Value) (F : List Nat) (w : World) (ht : WTabs w) (hr : r.tr.own 6 w c F) (hwf : r.wf) : Calls Tryz.prog 4 #[.agg c.toArray] w fun e w' => e = .returned (.bool true) ∧ Below w.heap.size w w' := by
  cases ho : r.okV
  · exact anys_bad r ho c F w ht hr hwf
  · exact anys_ok r ho c F w ht hr hwf
set_option maxRecDepth 100000 in
theorem anys_lifted (os : Os) (started : os.Started) (H : Type) (enc : TypeId × Value → H) :
    ReturnsInHanded {} Tryz.checked os 4 .any (fun w args => (Rows.valueAnysSpec.pre enc Tryz.prog Tryz.f4 [] false w args ∧ laidMetH Tryz.prog Rows.valueAnysRow.laid w) ∧ sizedMet enc Tryz.prog Tryz.f4 (OpenSpec.ofChange Rows.valueAnysSpec) false w args)
      (Rows.valueAnysSpec.post enc Tryz.prog Tryz.f4 false true false false) := by
  refine returns_all (C := Tryz.checked) (X := fun w _ => laidMetH Tryz.prog laidL w) (fun _ _ _ hh h => h.of_heap hh) own_knob started (by kernel_rfl) Tryz.func4
    (ChangeSpec.witness_shaped (enc := enc) (C := Tryz.checked) (os := os) (X := fun w _ => laidMetH Tryz.prog laidL w) false (World.laidAll Tryz.prog os laidL) #[.agg #[.int .u8 0, .int .i64 0, .float .f64 0, .float .f64 0, .string ⟨#[]⟩, .slice none 0 0]] 8 (World.laidAll_os _ _ _)
      (World.shaped_of_ZipB (by kernel_rfl) (by kernel_rfl)) (by kernel_rfl) (by kernel_rfl) (by kernel_rfl) (laid_met os _)) ?_
  intro W base args ds gs before hval0 hW hsz hL hsh
  have hval : ∀ (j : Nat) t v, Tryz.f4.params[j]? = some t → args[j]? = some v → Value.okWide Tryz.prog W .any base t v := hval0
  have hW' := hW
  obtain ⟨p, q, hA0, hV, rfl, hfz, hnd⟩ := hW
  have hA : DataW.TrodAll enc Tryz.prog W 0 (fun _ => true) true Tryz.f4.params.toList args.toList ds p := hA0
  rw [Tryz.params4] at hA hval
  obtain ⟨v0, d0, rfl, rfl, h0⟩ := trodAll_one hA
  obtain ⟨rfl, rfl⟩ := trodVars_none hV
  obtain ⟨cs, rfl, hsz0⟩ := okWide_struct Tryz.underlying25 (hval 0 25 v0 rfl rfl)
  have k0 := h0
  have lt0 : ∀ x ∈ p, x.block < W.heap.size := by obtain ⟨m, hm⟩ := k0; exact DataW.trod_lt m _ _ _ hm
  obtain ⟨r, F, hwf, hown⟩ : ∃ (r : Va) (F : List Nat), r.wf ∧ r.tr.own 6 W cs.toList F := by
    obtain ⟨fuel, hf⟩ := h0
    exact trod_va W fuel fuel (Nat.le_refl _) _ _ hf
  clear hA0 hval0
  refine (anys_any r cs.toList F W (tabs_of hL) hown hwf).mono fun e W' ⟨he, bel⟩ => ?_
  subst he
  exact ⟨_, rfl, _, _, _, [], _, [], hW', trodAll_mk1 (shut_bool Tryz.underlying4 _), trodAll_mk1 (Below.trod laid_out (by kernel_rfl) (of_decide_eq_true (by kernel_rfl)) k0 bel lt0), rfl, bel.frame _, fun h => by cases h⟩

theorem anys_row : Rows.ValueAnysSaid :=
  OpenClaim.holds_of_wide 4 Tryz.f4 rfl rfl rfl rfl rfl rfl rfl ⟨rfl, rfl, rfl, rfl, rfl⟩ rfl rfl rfl rfl rfl (by kernel_rfl) Tryz.func4 (by kernel_rfl)
    (of_decide_eq_true (by kernel_rfl)) (by unfold Func.isWrapper; first | (rw [if_pos (by decide +kernel)]; kernel_rfl) | (rw [if_neg (by decide +kernel)]; exact ⟨rfl, rfl⟩))
    (fun os started H enc _ => anys_lifted os started H enc)

theorem valueAnys_card : Rows.ValueAnysCardSaid :=
  Claim7.holds_tied_plain_at .later [] [.data, .data, .widerDeep, .widerDeep, .data, .data, .data, .data, .data, .sentinel, .sentinel, .pinned, .pinned] true (true, "b2021d8b2a3b338a215e88450d848c7db8968d6a09a1daaf89d386349aa29d45") true
    anys_row (fun _ h => by cases h) (by kernel_rfl) (fun _ h => by cases h) valueAnys_row_tie rfl ⟨rfl, rfl⟩ (by kernel_rfl) rfl
    (fun f fn hf hfn => by
      obtain rfl : f = 4 := Option.some.inj ((show Tryz.prog.funcNamed "errata/erratalaw02.ValueAnys" = some 4 by kernel_rfl).symm.trans hf) |>.symm
      obtain rfl : fn = Tryz.f4 := (Option.some.inj (Tryz.func4.symm.trans hfn)).symm
      exact ⟨by kernel_rfl, fun j t ht => by
        rw [Tryz.params4] at ht
        rcases j with _ | j
        · have : t = 25 := by simpa using ht.symm
          subst this
          exact (show Tryz.prog.wantsStandIn 25 = false by kernel_rfl)
        · simp at ht⟩)
    (by kernel_rfl)
end Go.Proofs.YtbbpngoffpegbaaGreatDoor
