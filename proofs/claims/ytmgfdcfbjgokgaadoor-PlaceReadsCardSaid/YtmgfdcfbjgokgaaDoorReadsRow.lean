/- What every row of the Place laws wants: the listed variables, a start that meets them, the wrap. The reference's 'From' and the program's come to the same: no program. 'looks': a node of the two trees, seen alike. The walk of 'PlaceReads': all bytes. DERIVED. The row of 'erratalaw03.PlaceReads', and its card, proved. -/
import Derived.Test.YtmgfdcfbjgokgaaDoorRows
import Derived.Test.YtmgfdcfbjgokgaaDoorParse
import Derived.WalkKit
import Derived.ProofKit
import Derived.OpenShut
import Derived.ShutString
import Derived.ChangeOld
import Derived.ChangeSame
import Derived.Below
import Derived.LaidLaws
import Derived.LaidHandle
import Derived.Stop.LaidErr
import Derived.Lib.LaidTab
import Derived.Deep.DeepLaidRun
import Derived.Deep.Slices
import Derived.Deep.Fields
import Derived.HandedShaped
import Derived.SliceStrings
import Derived.Test.YtmgfdcfbjgokgaaDoorRFrom
import Derived.Test.YtmgfdcfbjgokgaaDoorAlive
import Derived.Test.YtmgfdcfbjgokgaaDoorTie
import Derived.Test.YtmgfdcfbjgokgaaDoorCards
import Derived.SevenTiedAt
namespace Go.Proofs.YtmgfdcfbjgokgaaDoor
open Go.ChangeShapes Go.WideShapes Go.ChangeAt Go.RowKit Go.Deep
set_option linter.unusedVariables false
set_option linter.unusedSimpArgs false

theorem own_knob : ownKnob Tryd.prog.godebug = none := by kernel_rfl
theorem laid_out : laidOutB Tryd.prog = true := by kernel_rfl
abbrev laidL : List (String × DataW Unit) := Rows.placeTrimsRow.laid

mutual
def flatD : DataW Unit → List Value
  | .lit (.int k z) => [.int k z]
  | .agg parts => flatDs parts
  | _ => []
def flatDs : List (DataW Unit) → List Value
  | [] => []
  | d :: r => flatD d ++ flatDs r
end
def putG (w : World) (g : Nat) (cs : Array Value) : World :=
  { w with heap := w.heap.modify g fun
      | .cells _ t frozen => .cells cs t frozen
      | o => o }
abbrev rangeS : ByteArray := ⟨#[118, 97, 108, 117, 101, 32, 111, 117, 116, 32, 111, 102, 32, 114, 97, 110, 103, 101]⟩
abbrev syntaxS : ByteArray := ⟨#[105, 110, 118, 97, 108, 105, 100, 32, 115, 121, 110, 116, 97, 120]⟩
noncomputable def low : Nat := (World.holding Tryd.prog default ⟨#[], #[], []⟩).heap.size
noncomputable def laidWorld (os : Os) : World :=
  let w0 := World.holding Tryd.prog os ⟨#[.cells #[.string syntaxS] 191, .cells #[.string rangeS] 191], #[], []⟩
  let w1 := putG w0 1 #[.iface 189 (.pointer (some ⟨low, 0, none⟩))]
  let w2 := putG w1 2 #[.iface 189 (.pointer (some ⟨low + 1, 0, none⟩))]
  let w3 := putG w2 3 (flatD Rows.laid_internal_strconv_uint64pow10).toArray
  let w4 := putG w3 4 (flatD Rows.laid_unicode_utf8_first).toArray
  let w5 := putG w4 5 (flatD Rows.laid_unicode_utf8_acceptRanges).toArray
  let w6 := putG w5 6 (flatD Rows.laid_math_bits_deBruijn32tab).toArray
  putG w6 7 (flatD Rows.laid_math_bits_deBruijn64tab).toArray
theorem laid_met0 (os : Os) (args : Array Value) : laidMet Tryd.prog laidL ((laidWorld os).forCall (fun _ _ => 0) ⟨#[], args, []⟩).memory :=
  laidMet_of_run3 8 (by kernel_rfl) (by kernel_rfl) (by kernel_rfl)
theorem laid_met (os : Os) (args : Array Value) : laidMetH Tryd.prog laidL ((laidWorld os).forCall (fun _ _ => 0) ⟨#[], args, []⟩).memory :=
  laid_met0 os args
theorem star_ : "*" ++ "errors.errorString" = "*errors.errorString" := by decide
theorem row189 (u : TypeId) (h : Tryd.prog.typeName? 3 u = some "*errors.errorString") : u = 189 :=
  typeName_ptr_named (nm := "errors.errorString") (by rw [star_]; kernel_rfl) (by kernel_rfl) (by decide) u (by rw [star_]; exact h)
theorem tabs_of {W : World} (hL : laidMetH Tryd.prog laidL W) (hsh : W.ShapedOpen Tryd.prog) : Tabs W := by
  have h : laidMet Tryd.prog laidL W := hL
  have h3 : laidMet Tryd.prog (("internal/strconv.uint64pow10", Lib.tabData .u64 Lib.pow10Tab) :: laidL.drop 3) W := h.tail.tail
  have h5 := h3.tail.tail
  obtain ⟨a5, s5, hv5, _⟩ := laid_sentinel (g := 2) (ti := 102) (tp := 189) (te := 191) (ts := 9) h5 (by kernel_rfl) (by kernel_rfl) Tryd.underlying102 row189 Tryd.underlying189 Tryd.underlying191 rfl rfl Tryd.underlying9 (by kernel_rfl) (by kernel_rfl)
  obtain ⟨a6, s6, hv6, _⟩ := laid_sentinel (g := 1) (ti := 102) (tp := 189) (te := 191) (ts := 9) h5.tail (by kernel_rfl) (by kernel_rfl) Tryd.underlying102 row189 Tryd.underlying189 Tryd.underlying191 rfl rfl Tryd.underlying9 (by kernel_rfl) (by kernel_rfl)
  exact ⟨Lib.tabIs_of_head (g := 3) (t := 182) (e := 163) (n := 20) (by kernel_rfl) (by kernel_rfl) (by kernel_rfl) (by kernel_rfl) (by kernel_rfl) (by kernel_rfl) h3, ⟨_, _, hv6⟩, ⟨_, _, hv5⟩,
    Go.Proofs.cell_of_shapedOpen_int (g := 0) (zero := #[.int .i64 0]) (t := 3) hsh (of_decide_eq_true (by kernel_rfl)) (by kernel_rfl) rfl (by kernel_rfl) (by kernel_rfl) Tryd.underlying3⟩
section
variable {H : Type} {enc : TypeId × Value → H} {P : Program} {w : World} {base : Nat} {spare : Nat → Bool} {held : Bool}
theorem open_slice_fields {t e : TypeId} {fs : Array Field} {fuel : Nat} {cs : List Value} {x : DataW H × List MemPlace} (ht : P.underlying t = some (.slice e)) (he : P.underlying e = some (.struct fs))
    (hone : oneCellFields P fs = true) (hC : P.cellsOf e = fs.size) (h : DataW.trod enc P w base spare held fuel t cs = some x) :
    (cs = [.slice none 0 0] ∧ x = (.nil, [])) ∨
    ∃ (a : Addr) (len cap m : Nat) (D : Nat → DataW H) (Pl : Nat → List MemPlace), cs = [.slice (some a) len cap] ∧ base ≤ a.block ∧ len ≤ cap ∧ cap ≤ maxLen ∧ m = (if spare a.block then cap else len) ∧
      x = (.slice ((List.range len).map D) ((List.range (m - len)).map fun j => D (len + j)), MemPlace.row a (m * fs.size) ++ (List.range m).flatMap Pl) ∧
      ∀ i, i < m → ∃ (ys : List (DataW H × List MemPlace)) (n : Nat), D i = .agg (ys.map (·.1)) ∧ Pl i = ys.flatMap (·.2) ∧ ys.length = fs.size ∧
        ∀ (j : Nat) (f : Field), fs[j]? = some f → ∃ (v : Value) (y : DataW H × List MemPlace), w.cell? (a.add (i * fs.size + j)) = some v ∧ ys[j]? = some y ∧ DataW.trod enc P w base spare held n f.type [v] = some y := by
  rcases open_slice ht h with h0 | ⟨a, len, cap, m, n, D, Pl, hcs, hb, hl, hm, hmm, hx, hi⟩
  · exact .inl h0
  · refine .inr ⟨a, len, cap, m, D, Pl, hcs, hb, hl, hm, hmm, by rw [hC] at hx; exact hx, fun i him => ?_⟩
    obtain ⟨cs', hc, ht'⟩ := hi i him
    rw [hC] at hc
    obtain ⟨ys, n', hn', hy, hlen, hyl, hf⟩ := DataW.trod_struct he ht'
    obtain ⟨_, hcl, hat⟩ := World.cells?_some hc
    simp only [Prod.mk.injEq] at hy
    refine ⟨ys, n', hy.1, hy.2, hyl, fun j f hj => ?_⟩
    obtain ⟨ho, hk⟩ := hone_of hone j f hj
    have hjl : j < fs.size := (Array.getElem?_eq_some_iff.1 hj).1
    have hcell := hat j hjl
    have hv : cs'[j]? = some (cs'[j]'(by omega)) := List.getElem?_eq_getElem (by omega)
    have h1 := hf j f hj
    rw [ho, hk] at h1
    have hone' : (cs'.drop j).take 1 = [cs'[j]'(by omega)] := by
      rw [List.drop_eq_getElem_cons (by omega)]
      rfl
    rw [hone'] at h1
    have hys : ys[j]? = some (ys[j]'(by omega)) := List.getElem?_eq_getElem (by omega)
    refine ⟨_, _, ?_, hys, h1.trans hys⟩
    rw [← Go.Deep.add_add, hcell, hv]
end

set_option maxRecDepth 100000 in
theorem open_spots {H : Type} {enc : TypeId × Value → H} {W : World} {base b0 : Nat} {spare : Nat → Bool} {held : Bool} {v : Value} {d : DataW H} {p : List MemPlace} (hv : Value.okWide Tryd.prog W .any b0 22 v) (h : DataW.Trod enc Tryd.prog W base spare held 22 v d p) :
    ∃ (A : Option Addr) (n c : Nat) (l : List PL.S96), v = .slice A n c ∧ n ≤ c ∧ n = l.length ∧ Go.Proofs.YtmgfdcfbjgokgaaDoorW.PrintWords.Kd.C PL.k96 W A n l ∧ (∀ x ∈ l, x.f0.size ≤ 9223372036854775807) ∧ (n = 0 ∨ ∃ e s, d = .slice e s ∧ e.length = n) := by
  obtain ⟨A, n, c, rfl⟩ := okWide_slice Tryd.underlying22 hv
  obtain ⟨fuel, hf⟩ := h
  rcases open_slice_fields Tryd.underlying22 Tryd.underlying96 (by kernel_rfl) (by kernel_rfl) hf with ⟨hcs, hx⟩ | ⟨a, len, cap, m, D, Pl, hcs, hb, hl, hm, hmm, hx, hi⟩
  · have e : Value.slice A n c = .slice none 0 0 := List.head_eq_of_cons_eq hcs
    cases e
    exact ⟨none, 0, 0, [], rfl, Nat.le_refl _, rfl, ⟨rfl, by decide, fun h => absurd h (by decide)⟩, fun x hx => by simp at hx, .inl rfl⟩
  · have e : Value.slice A n c = .slice (some a) len cap := List.head_eq_of_cons_eq hcs
    cases e
    have hle : n ≤ m := by rw [hmm]; split <;> omega
    have hex : ∀ i, i < n → ∃ x : PL.S96, W.cell? (a.add (i * 2)) = some (.string x.f0) ∧ W.cell? (a.add (i * 2 + 1)) = some (.int .i64 x.f1) ∧ x.f0.size ≤ 9223372036854775807 := fun i hil => by
      obtain ⟨ys, n', _, _, _, hf⟩ := hi i (by omega)
      obtain ⟨u0, y0, hc0, _, ht0⟩ := hf 0 _ rfl
      obtain ⟨u1, y1, hc1, _, ht1⟩ := hf 1 _ rfl
      obtain ⟨s, hs, _, hz⟩ := DataW.trod_string Tryd.underlying9 ht0
      obtain ⟨z, hz1, _, _⟩ := DataW.trod_int Tryd.underlying3 ht1
      cases hs
      cases hz1
      exact ⟨⟨s, z⟩, hc0, hc1, hz⟩
    have hall : ∀ k, k ≤ n → ∃ l : List PL.S96, l.length = k ∧ (∀ i x, l[i]? = some x → W.cell? (a.add (i * 2)) = some (.string x.f0) ∧ W.cell? (a.add (i * 2 + 1)) = some (.int .i64 x.f1)) ∧ ∀ x ∈ l, x.f0.size ≤ 9223372036854775807 := fun k => by
      induction k with
      | zero => exact fun _ => ⟨[], rfl, fun i x h => by simp at h, fun x h => by simp at h⟩
      | succ k ih =>
        intro hk
        obtain ⟨l, h1, h2, h3⟩ := ih (by omega)
        obtain ⟨x, hx0, hx1, hx2⟩ := hex k (by omega)
        refine ⟨l ++ [x], by simp [h1], fun i y hy => ?_, fun y hy => ?_⟩
        · by_cases hik : i < l.length
          · rw [List.getElem?_append_left hik] at hy
            exact h2 i y hy
          · rw [List.getElem?_append_right (by omega)] at hy
            have : i = k := by
              have := (List.getElem?_eq_some_iff.1 hy).1
              simp at this
              omega
            subst this
            rw [show i - l.length = 0 by omega] at hy
            cases hy
            exact ⟨hx0, hx1⟩
        · rcases List.mem_append.1 hy with hy | hy
          · exact h3 y hy
          · simp at hy
            rw [hy]
            exact hx2
    obtain ⟨l, h1, h2, h3⟩ := hall n (Nat.le_refl _)
    refine ⟨some a, n, c, l, rfl, hl, h1.symm, ⟨h1, by unfold maxLen at hm; omega, fun _ => ⟨a, rfl, fun j x hx => ⟨[.string x.f0, .int .i64 x.f1], rfl, PL.k96_mk W x, fun i u hu => ?_⟩⟩⟩, h3, .inr ⟨_, _, (Prod.mk.inj hx).1, by simp⟩⟩
    obtain ⟨g0, g1⟩ := h2 j x hx
    rcases i with _ | _ | i
    · simp at hu; subst hu; exact g0
    · simp at hu; subst hu; exact g1
    · simp at hu
set_option maxRecDepth 100000 in
theorem open_strs {H : Type} {enc : TypeId × Value → H} {W : World} {base b0 : Nat} {spare : Nat → Bool} {held : Bool} {v : Value} {d : DataW H} {p : List MemPlace} (hv : Value.okWide Tryd.prog W .any b0 56 v) (h : DataW.Trod enc Tryd.prog W base spare held 56 v d p) :
    ∃ (A : Option Addr) (n c : Nat) (l : List ByteArray), v = .slice A n c ∧ n ≤ c ∧ n = l.length ∧ Go.Proofs.YtmgfdcfbjgokgaaDoorW.PrintWords.Kd.C Go.Proofs.YtmgfdcfbjgokgaaDoorW.PrintWords.Kd.string W A n l ∧ (n = 0 ∨ ∃ e s, d = .slice e s ∧ e.length = n) := by
  obtain ⟨A, n, c, rfl⟩ := okWide_slice Tryd.underlying56 hv
  obtain ⟨fuel, hf⟩ := h
  rcases open_strings Tryd.underlying56 Tryd.underlying9 (by kernel_rfl) hf with ⟨hcs, hx⟩ | ⟨a, len, cap, ss, hcs, hb, hl, hm, hmm, hx, hi, hz⟩
  · have e : Value.slice A n c = .slice none 0 0 := List.head_eq_of_cons_eq hcs
    cases e
    exact ⟨none, 0, 0, [], rfl, Nat.le_refl _, rfl, ⟨rfl, by decide, fun h => absurd h (by decide)⟩, .inl rfl⟩
  · have e : Value.slice A n c = .slice (some a) len cap := List.head_eq_of_cons_eq hcs
    cases e
    have hle : n ≤ ss.length := by rw [hmm]; split <;> omega
    have hlt : (ss.take n).length = n := by rw [List.length_take]; omega
    refine ⟨some a, n, c, ss.take n, rfl, hl, hlt.symm, ⟨hlt, by unfold maxLen at hm; omega, fun _ => ⟨a, rfl, fun j x hx => ⟨[.string x], rfl, rfl, fun i u hu => ?_⟩⟩⟩, .inr ⟨_, _, (Prod.mk.inj hx).1, by simp [strs]; omega⟩⟩
    have hj := (List.getElem?_eq_some_iff.1 hx).1
    rw [hlt] at hj
    have h1 := hi j (by omega)
    have h2 : ss.getD j ByteArray.empty = x := by
      rw [List.getElem?_take, if_pos hj] at hx
      rw [List.getD_eq_getElem?_getD, hx]
      rfl
    rw [h2] at h1
    rcases i with _ | i
    · simp at hu
      subst hu
      rw [show j * Go.Proofs.YtmgfdcfbjgokgaaDoorW.PrintWords.Kd.string.sz + 0 = j from by show j * 1 + 0 = j; omega]
      exact h1
    · simp at hu
theorem returns_all {H : Type} {enc : TypeId × Value → H} {a : Assume} {C : Checked} {os : Os} {f : FuncId} {fn : Func} {s : ChangeSpec} {conds : List PathCond} {apart fresh handsOn again : Bool} {X : World → Array Value → Prop}
    (hX : ∀ (w w' : World) (args : Array Value), w.heap = w'.heap → X w args → X w' args)
    (own : ownKnob C.prog.godebug = none) (started : os.Started) (noInit : C.prog.inits.idxOf? f = none) (hfn : C.prog.funcs[f]? = some fn)
    (witness : ∃ (w : World) (tape : Tape) (i : Input), w.os = os ∧ (w.forCall tape i).Shaped C.prog ∧ i.vars = [] ∧ Input.okWide C.prog (w.forCall tape i) .any w.heap.size f i ∧
      ((s.pre enc C.prog fn conds apart (w.forCall tape i).memory i.args ∧ X (w.forCall tape i).memory i.args) ∧ sizedMet enc C.prog fn (OpenSpec.ofChange s) apart (w.forCall tape i).memory i.args) ∧ a.holds C.prog (lone (Frame.enter C.prog f i.args .normal) [] (w.forCall tape i)))
    (contract : ∀ (W : World) (base : Nat) (args : Array Value) (ds gs : List (DataW H)) (before : List MemPlace),
      (∀ (j : Nat) t v, fn.params[j]? = some t → args[j]? = some v → Value.okWide C.prog W .any base t v) →
      DataW.Whole enc C.prog fn.params.toList s.vars apart W args.toList ds gs before →
      (DataW.weightsEach C.prog (fn.params.toList ++ s.plain.varTypes C.prog) (ds ++ gs)).all (· ≤ reachBytes) = true → X W args → W.ShapedOpen C.prog →
      Calls C.prog f args W fun e W' => ∃ v, e = .returned v ∧ s.post enc C.prog fn apart fresh handsOn again W args v W') :
    ReturnsInHanded a C os f .any (fun w args => (s.pre enc C.prog fn conds apart w args ∧ X w args) ∧ sizedMet enc C.prog fn (OpenSpec.ofChange s) apart w args) (s.post enc C.prog fn apart fresh handsOn again) := by
  refine returnsInHanded_of_calls own started noInit witness ?_
  intro w tape i _ hsh _ hok hpre hholds
  obtain ⟨_, _, _, fn', hfn', _, _, _, _, hval⟩ := hok
  have e : fn' = fn := Option.some.inj (hfn'.symm.trans hfn)
  subst e
  obtain ⟨⟨⟨ds, gs, before, hw, hc⟩, hx⟩, hz⟩ := hpre
  have hw' := DataW.Whole.of_heap (w' := w.forCall tape i) (by rfl) hw
  refine (contract (w.forCall tape i) w.heap.size i.args ds gs before hval hw' (hz.weights hw) (hX _ _ _ (by rfl) hx) hsh).mono fun e W' ⟨v, he, hp⟩ => ?_
  subst he
  exact ChangeSpec.post_blind hp
end Go.Proofs.YtmgfdcfbjgokgaaDoor
namespace Go.Proofs.YtmgfdcfbjgokgaaDoor
open Go Go.RowKit Go.Proofs.YtmgfdcfbjgokgaaDoorW.PrintWords Go.Proofs.YtmgfdcfbjgokgaaDoorW.PrintLast Go.Proofs.YtmgfdcfbjgokgaaDoor.PL
set_option linter.unusedVariables false
set_option linter.unusedSimpArgs false

theorem takenP_enc (n : Nat) (r : List Int) (hn : n < 2097152) : takenP (strOfNums (encS n ++ r)) = (n, strOfNums r) := by
  have hx : ∀ (j : Nat) (a : List Int), a.length = j + 1 → (strOfNums (a ++ r)).extract (j + 1) (strOfNums (a ++ r)).size = strOfNums r := fun j a ha => by
    rw [nums_extract, strOfNums_size, List.take_length, ← ha, List.drop_left]
  unfold encS
  by_cases h1 : n < 128
  · rw [if_pos h1]
    have b0 := bN_nums ([(n : Int)] ++ r) 0 n rfl (by omega)
    have hz : 0 < (strOfNums ([(n : Int)] ++ r)).size := by rw [strOfNums_size]; simp
    have hg : numG (strOfNums ([(n : Int)] ++ r)) 3 0 0 = some (n, 0) := by
      unfold numG
      rw [if_pos hz, b0, if_pos h1]
      congr 2
      omega
    unfold takenP
    rw [hg]
    simp only
    rw [hx 0 [(n : Int)] rfl]
  · rw [if_neg h1]
    by_cases h2 : n < 16384
    · rw [if_pos h2]
      obtain ⟨a, ha⟩ : ∃ a, a = n % 128 + 128 := ⟨_, rfl⟩
      obtain ⟨b, hb⟩ : ∃ b, b = n / 128 := ⟨_, rfl⟩
      rw [← ha, ← hb]
      have b0 := bN_nums ([(a : Int), (b : Int)] ++ r) 0 a rfl (by omega)
      have b1 := bN_nums ([(a : Int), (b : Int)] ++ r) 1 b rfl (by omega)
      have hz : 1 < (strOfNums ([(a : Int), (b : Int)] ++ r)).size := by rw [strOfNums_size]; simp
      have hg : numG (strOfNums ([(a : Int), (b : Int)] ++ r)) 3 0 0 = some (n, 1) := by
        unfold numG
        rw [if_pos (by omega), b0, if_neg (by omega)]
        unfold numG
        rw [if_pos hz, b1, if_pos (by omega)]
        congr 2
        omega
      unfold takenP
      rw [hg]
      simp only
      rw [hx 1 [(a : Int), (b : Int)] rfl]
    · rw [if_neg h2]
      obtain ⟨a, ha⟩ : ∃ a, a = n % 128 + 128 := ⟨_, rfl⟩
      obtain ⟨b, hb⟩ : ∃ b, b = n / 128 % 128 + 128 := ⟨_, rfl⟩
      obtain ⟨c, hc⟩ : ∃ c, c = n / 16384 := ⟨_, rfl⟩
      rw [← ha, ← hb, ← hc]
      have b0 := bN_nums ([(a : Int), (b : Int), (c : Int)] ++ r) 0 a rfl (by omega)
      have b1 := bN_nums ([(a : Int), (b : Int), (c : Int)] ++ r) 1 b rfl (by omega)
      have b2 := bN_nums ([(a : Int), (b : Int), (c : Int)] ++ r) 2 c rfl (by omega)
      have hz : 2 < (strOfNums ([(a : Int), (b : Int), (c : Int)] ++ r)).size := by rw [strOfNums_size]; simp
      have hg : numG (strOfNums ([(a : Int), (b : Int), (c : Int)] ++ r)) 3 0 0 = some (n, 2) := by
        unfold numG
        rw [if_pos (by omega), b0, if_neg (by omega)]
        unfold numG
        rw [if_pos (by omega), b1, if_neg (by omega)]
        unfold numG
        rw [if_pos hz, b2, if_pos (by omega)]
        congr 2
        omega
      unfold takenP
      rw [hg]
      simp only
      rw [hx 2 [(a : Int), (b : Int), (c : Int)] rfl]
theorem rGot_enc (i : Nat) (x : Nd) (r : List Int) (hi : i < 4096) (h1 : x.1 ≤ i) (hm : mayB x.2.1 x.2.2 = true) : rGot (strOfNums (toldN i x ++ r)) = ⟨i + 1 - x.1, x.2.1, x.2.2.toNat, strOfNums r⟩ := by
  have hp := may_parts hm
  have hl := bytesOf_length x.2.1
  unfold toldN
  have e1 : takenP (strOfNums (encS (i + 1 - x.1) ++ encS x.2.1.size ++ bytesOf x.2.1 ++ encS x.2.2.toNat ++ r)) = (i + 1 - x.1, strOfNums (encS x.2.1.size ++ (bytesOf x.2.1 ++ (encS x.2.2.toNat ++ r)))) := by
    rw [List.append_assoc, List.append_assoc, List.append_assoc, takenP_enc _ _ (by omega)]
  have e2 : takenP (strOfNums (encS x.2.1.size ++ (bytesOf x.2.1 ++ (encS x.2.2.toNat ++ r)))) = (x.2.1.size, strOfNums (bytesOf x.2.1 ++ (encS x.2.2.toNat ++ r))) := takenP_enc _ _ (by omega)
  have em : min x.2.1.size (strOfNums (bytesOf x.2.1 ++ (encS x.2.2.toNat ++ r))).size = x.2.1.size := by
    rw [strOfNums_size, List.length_append, hl]
    omega
  have e3 : (strOfNums (bytesOf x.2.1 ++ (encS x.2.2.toNat ++ r))).extract x.2.1.size (strOfNums (bytesOf x.2.1 ++ (encS x.2.2.toNat ++ r))).size = strOfNums (encS x.2.2.toNat ++ r) := by
    rw [nums_extract, strOfNums_size, List.take_length, ← hl, List.drop_left]
  have e4 : (strOfNums (bytesOf x.2.1 ++ (encS x.2.2.toNat ++ r))).extract 0 x.2.1.size = x.2.1 := by
    rw [nums_extract, List.drop_zero, ← hl, List.take_left, nums_bytesOf]
  have e5 := takenP_enc x.2.2.toNat r (by omega)
  unfold rGot
  simp only [e1, e2, em, e3, e4, e5]
theorem ref_go {T : Tr} (hw : T.wf) : ∀ (d f i : Nat), i + d + 1 = T.nodes.length → f + i = 4096 → refGo f (i + 1) (T.nodes.length - 1) ⟨T.nodes.take (i + 1), T.deep.take (i + 1)⟩ (strOfNums (toldGo (T.nodes.drop (i + 1)) i)) = some T
  | 0, f, i, h, hf => by
    have hm := hw.most
    have e : refGo f (i + 1) (T.nodes.length - 1) ⟨T.nodes.take (i + 1), T.deep.take (i + 1)⟩ (strOfNums (toldGo (T.nodes.drop (i + 1)) i)) = some ⟨T.nodes.take (i + 1), T.deep.take (i + 1)⟩ := by
      cases f with
      | zero => rfl
      | succ f =>
        unfold refGo
        rw [if_neg (by omega)]
    rw [e, List.take_of_length_le (by omega), List.take_of_length_le (by rw [hw.len]; omega)]
  | d + 1, f, i, h, hf => by
    have hi : i + 1 < T.nodes.length := by omega
    have hmost := hw.most
    obtain ⟨f, rfl⟩ : ∃ f', f = f' + 1 := ⟨f - 1, by omega⟩
    obtain ⟨o1, o2, o3⟩ := hw.ok (i + 1) (by omega) hi
    rw [List.drop_eq_getElem_cons hi]
    obtain ⟨x, hx⟩ : ∃ x, x = T.nodes[i + 1] := ⟨_, rfl⟩
    rw [← hx] at o1 o2 o3 ⊢
    have hmp := may_parts o1.may
    have hgot := rGot_enc i x (toldGo (T.nodes.drop (i + 1 + 1)) (i + 1)) (by omega) (by omega) o1.may
    have hdl : i + 1 < T.deep.length := by rw [hw.len]; exact hi
    have htl : (T.nodes.take (i + 1)).length = i + 1 := by rw [List.length_take]; omega
    have hd1 : (T.deep.take (i + 1)).getD x.1 0 = T.deep.getD x.1 0 := by
      rw [List.getD_eq_getElem?_getD, List.getElem?_take, if_pos o2, ← List.getD_eq_getElem?_getD]
    have hdi : T.deep.getD (i + 1) 0 = T.deep[i + 1] := by rw [List.getD_eq_getElem?_getD, List.getElem?_eq_getElem hdl]; rfl
    have hlow := hw.low T.deep[i + 1] (List.getElem_mem _)
    have hfind : findN (T.nodes.take (i + 1)) (x.1, x.2) = none := by
      cases hf : findN (T.nodes.take (i + 1)) (x.1, x.2) with
      | none => rfl
      | some j =>
        have hj := findN_some hf
        obtain ⟨hjl, hje⟩ := List.getElem?_eq_some_iff.1 hj
        rw [htl] at hjl
        rw [List.getElem_take] at hje
        exact absurd (hje.trans hx) (List.pairwise_iff_getElem.1 hw.nodup j (i + 1) (by omega) hi hjl)
    have hZ : ((x.2.2.toNat : Nat) : Int) = x.2.2 := by omega
    have hpush : pushT ⟨T.nodes.take (i + 1), T.deep.take (i + 1)⟩ (x.1 : Int) (x.2.1, ((x.2.2.toNat : Nat) : Int)) = ((((i + 1 : Nat) : Int), 0), (⟨T.nodes.take (i + 1 + 1), T.deep.take (i + 1 + 1)⟩ : Tr)) := by
      rw [hZ]
      unfold pushT
      rw [if_neg (by simp only [htl]; omega), if_neg (by rw [o1.may]; decide), Int.toNat_natCast, if_neg (by simp only; rw [hd1]; omega)]
      simp only
      rw [hfind]
      simp only
      rw [if_neg (by rw [htl]; omega), htl, hd1, List.take_succ_eq_append_getElem hi, List.take_succ_eq_append_getElem hdl, ← hx, ← hdi, o3]
    have htg : toldGo (x :: T.nodes.drop (i + 1 + 1)) i = toldN i x ++ toldGo (T.nodes.drop (i + 1 + 1)) (i + 1) := rfl
    have hnz : (strOfNums (toldN i x ++ toldGo (T.nodes.drop (i + 1 + 1)) (i + 1))).size ≠ 0 := by
      rw [strOfNums_size]
      unfold toldN
      have := encS_len (i + 1 - x.1)
      simp only [List.length_append]
      omega
    have hup : (((i + 1 : Nat) : Int) - ((i + 1 - x.1 : Nat) : Int)) = (x.1 : Int) := by omega
    unfold refGo
    rw [htg, if_pos ⟨by omega, by omega, hnz⟩, hgot]
    simp only
    rw [hup, hpush, if_neg (by simp)]
    exact ref_go hw d f (i + 1) (by omega) (by omega)
theorem ref_told {T : Tr} (hw : T.wf) : refFrom (strOfNums (toldI T)) = some T := by
  have h1 := hw.one
  have hm := hw.most
  have hN : takenP (strOfNums (toldI T)) = (T.nodes.length - 1, strOfNums (toldGo (T.nodes.drop 1) 0)) := by
    unfold toldI
    exact takenP_enc _ _ (by omega)
  have e : newT = (⟨T.nodes.take (0 + 1), T.deep.take (0 + 1)⟩ : Tr) := by
    have hr := hw.root
    have hd := hw.deep0
    have hl := hw.len
    unfold newT
    rw [List.take_succ_eq_append_getElem (by omega), List.take_succ_eq_append_getElem (by omega)]
    rw [List.getD_eq_getElem?_getD, List.getElem?_eq_getElem (by omega)] at hr hd
    simp only [Option.getD_some] at hr hd
    rw [hr, hd]
    rfl
  have hg := ref_go hw (T.nodes.length - 1) 4096 0 (by omega) (by omega)
  unfold refFrom
  rw [hN, e]
  simp only
  rw [hg]
  exact if_pos rfl
theorem refGo_wf : ∀ (f i n : Nat) (T T2 : Tr) (s : ByteArray), T.wf → refGo f i n T s = some T2 → T2.wf
  | 0, i, n, T, T2, s, hw, h => by
    unfold refGo at h
    cases h
    exact hw
  | f + 1, i, n, T, T2, s, hw, h => by
    unfold refGo at h
    split at h
    · split at h
      · cases h
      · exact refGo_wf f (i + 1) n _ T2 _ (push_wf hw _ _) h
    · cases h
      exact hw
theorem ref_inv {s : ByteArray} {T : Tr} (h : refFrom s = some T) : T.wf ∧ strOfNums (toldI T) = s := by
  unfold refFrom at h
  split at h
  · cases h
  · rename_i T2 hg
    split at h
    · rename_i he
      cases h
      exact ⟨refGo_wf _ _ _ _ _ _ newT_wf hg, he⟩
    · cases h
/-! #### What the program's 'From' takes is what is told -/
theorem bytes_at (s : ByteArray) (i : Nat) (h : i < s.size) : (bytesOf s)[i]? = some ((bN s i : Nat) : Int) := by
  have h1 := bt_at s (i : Int) (by rw [Int.toNat_natCast]; exact h)
  simp only [Int.toNat_natCast] at h1
  rw [← bN_eq, ← h1]
  unfold bytesOf
  rw [List.getElem?_map, List.getElem?_eq_getElem (by rw [data_length]; exact h)]
  simp [ByteArray.getElem_eq_getElem_data]
theorem cut_bytes (s : ByteArray) (j : Nat) : s = strOfNums ((bytesOf s).take j) ++ s.extract j s.size := by
  have e : s.extract j s.size = strOfNums ((bytesOf s).drop j) := by
    conv => lhs; rw [← nums_bytesOf s]
    rw [nums_extract, strOfNums_size, List.take_length]
  rw [e, ← strOfNums_append, List.take_append_drop, nums_bytesOf]
theorem numP_inv {s s2 : ByteArray} {most n : Nat} (hm : most < 2097152) (h : numP s false most = (n, s2, false)) : s = strOfNums (encS n) ++ s2 ∧ n ≤ most := by
  have a0 := bN_lt s 0
  have a1 := bN_lt s 1
  have a2 := bN_lt s 2
  unfold numP at h
  cases hg : numG s 4 0 0 with
  | none => rw [hg] at h; simp at h
  | some r =>
    obtain ⟨n', j⟩ := r
    rw [hg] at h
    simp only [Bool.false_or, Prod.mk.injEq, Bool.or_eq_false_iff, decide_eq_false_iff_not, Bool.and_eq_false_iff] at h
    obtain ⟨rfl, rfl, h1, h2⟩ := h
    have hle : n' ≤ most := by omega
    have hc := cut_bytes s (j + 1)
    refine ⟨?_, hle⟩
    have key : (bytesOf s).take (j + 1) = encS n' := by
      unfold numG at hg
      split at hg
      rotate_left
      · cases hg
      rename_i z0
      have y0 := bytes_at s 0 z0
      split at hg
      · rename_i c0
        simp only [Option.some.injEq, Prod.mk.injEq] at hg
        obtain ⟨e1, rfl⟩ := hg
        unfold encS
        rw [if_pos (by omega), List.take_add_one, y0]
        simp
        omega
      rename_i c0
      unfold numG at hg
      split at hg
      rotate_left
      · cases hg
      rename_i z1
      have y1 := bytes_at s 1 z1
      split at hg
      · rename_i c1
        simp only [Option.some.injEq, Prod.mk.injEq] at hg
        obtain ⟨e1, rfl⟩ := hg
        have : ¬ bN s 1 = 0 := by rcases h2 with h2 | h2 <;> omega
        simp only [Nat.zero_add, Nat.reduceAdd] at e1 c1
        unfold encS
        rw [if_neg (by omega), if_pos (by omega), List.take_add_one, List.take_add_one, y0, y1]
        simp
        omega
      rename_i c1
      unfold numG at hg
      split at hg
      rotate_left
      · cases hg
      rename_i z2
      have y2 := bytes_at s 2 z2
      split at hg
      · rename_i c2
        simp only [Option.some.injEq, Prod.mk.injEq] at hg
        obtain ⟨e1, rfl⟩ := hg
        have : ¬ bN s 2 = 0 := by rcases h2 with h2 | h2 <;> omega
        simp only [Nat.zero_add, Nat.reduceAdd] at e1 c1 c2
        unfold encS
        rw [if_neg (by omega), if_neg (by omega), List.take_add_one, List.take_add_one, List.take_add_one, y0, y1, y2]
        simp
        omega
      unfold numG at hg
      split at hg
      rotate_left
      · cases hg
      split at hg
      · simp only [Option.some.injEq, Prod.mk.injEq] at hg
        obtain ⟨e1, rfl⟩ := hg
        have : ¬ bN s 3 = 0 := by rcases h2 with h2 | h2 <;> omega
        have a3 := bN_lt s 3
        omega
      · unfold numG at hg
        cases hg
    rw [← key]
    exact hc
theorem numP_bad (s : ByteArray) (most : Nat) : (numP s true most).2.2 = true := by
  unfold numP
  cases numG s 4 0 0 with
  | none => rfl
  | some r => simp
theorem textP_bad (s : ByteArray) (n : Nat) : (textP s true n).2.2 = true := by
  unfold textP
  rw [if_pos rfl]
theorem textP_inv {s s2 x : ByteArray} {n : Nat} (h : textP s false n = (x, s2, false)) : s = x ++ s2 ∧ x.size = n := by
  unfold textP at h
  rw [if_neg (by decide)] at h
  split at h
  · simp at h
  · rename_i hn
    simp only [Prod.mk.injEq, and_true] at h
    obtain ⟨rfl, rfl⟩ := h
    refine ⟨?_, by rw [ByteArray.size_extract]; omega⟩
    have hc := cut_bytes s n
    have e : s.extract 0 n = strOfNums ((bytesOf s).take n) := by
      conv => lhs; rw [← nums_bytesOf s]
      rw [nums_extract, List.drop_zero]
    rw [e]
    exact hc
theorem gotP_inv {i : Nat} {s : ByteArray} {bad : Bool} {g : Got} (hi : i < 4096) (h : gotP i s bad = g) (hb : g.bad = false) : bad = false ∧ ∃ d, d ≤ i + 1 ∧ g.up = (i : Int) + 1 - d ∧ g.ln ≤ 1048576 ∧ s = strOfNums (encS d ++ encS g.nm.size ++ bytesOf g.nm ++ encS g.ln) ++ g.rest := by
  obtain ⟨d, s1, b1, e1⟩ : ∃ a b c, numP s bad (i + 1) = (a, b, c) := ⟨_, _, _, rfl⟩
  obtain ⟨k, s2, b2, e2⟩ : ∃ a b c, numP s1 b1 120 = (a, b, c) := ⟨_, _, _, rfl⟩
  obtain ⟨nm, s3, b3, e3⟩ : ∃ a b c, textP s2 b2 k = (a, b, c) := ⟨_, _, _, rfl⟩
  obtain ⟨ln, s4, b4, e4⟩ : ∃ a b c, numP s3 b3 1048576 = (a, b, c) := ⟨_, _, _, rfl⟩
  rw [gotP_eq e1 e2 e3 e4] at h
  subst h
  simp only at hb ⊢
  subst hb
  have h3 : b3 = false := by
    cases b3 with
    | false => rfl
    | true => have := numP_bad s3 1048576; rw [e4] at this; cases this
  subst h3
  have h2 : b2 = false := by
    cases b2 with
    | false => rfl
    | true => have := textP_bad s2 k; rw [e3] at this; cases this
  subst h2
  have h1 : b1 = false := by
    cases b1 with
    | false => rfl
    | true => have := numP_bad s1 120; rw [e2] at this; cases this
  subst h1
  have h0 : bad = false := by
    cases bad with
    | false => rfl
    | true => have := numP_bad s (i + 1); rw [e1] at this; cases this
  subst h0
  obtain ⟨q1, l1⟩ := numP_inv (by omega) e1
  obtain ⟨q2, l2⟩ := numP_inv (by omega) e2
  obtain ⟨q3, l3⟩ := textP_inv e3
  obtain ⟨q4, l4⟩ := numP_inv (by omega) e4
  refine ⟨rfl, d, l1, rfl, l4, ?_⟩
  rw [strOfNums_append, strOfNums_append, strOfNums_append, nums_bytesOf, l3, ByteArray.append_assoc, ByteArray.append_assoc, ByteArray.append_assoc, ← q4, ← q3, ← q2]
  exact q1
theorem push_new_at {T T2 : Tr} {a : Int} {p : Pl} (hw : T.wf) (h : pushT T a p = ((((T.nodes.length : Nat) : Int), 0), T2)) : 0 ≤ a ∧ a < T.nodes.length ∧ T2.nodes = T.nodes ++ [(a.toNat, p)] := by
  have h1 := hw.one
  unfold pushT at h
  split at h
  · simp only [Prod.mk.injEq] at h
    omega
  rename_i c1
  split at h
  · simp only [Prod.mk.injEq] at h
    omega
  split at h
  · simp only [Prod.mk.injEq] at h
    omega
  split at h
  · rename_i j hf
    simp only [Prod.mk.injEq] at h
    have := (List.getElem?_eq_some_iff.1 (findN_some hf)).1
    omega
  split at h
  · simp only [Prod.mk.injEq] at h
    omega
  simp only [Prod.mk.injEq] at h
  obtain ⟨_, rfl⟩ := h
  exact ⟨by omega, by omega, rfl⟩
theorem fromGo_inv : ∀ (f i : Nat) (T T2 : Tr) (s : ByteArray) (bad : Bool), T.wf → T.nodes.length = i + 1 → i + f ≤ 4095 → fromGo f i T s bad = some T2 → bad = false ∧ T2.wf ∧ T2.nodes.length = i + f + 1 ∧ (∃ m, T2.nodes = T.nodes ++ m) ∧ s = strOfNums (toldGo (T2.nodes.drop (i + 1)) i)
  | 0, i, T, T2, s, bad, hw, hl, hf, h => by
    unfold fromGo at h
    split at h
    · cases h
    · rename_i hb
      cases h
      simp only [Bool.or_eq_true, decide_eq_true_eq, not_or, Bool.not_eq_true] at hb
      refine ⟨hb.1, hw, by omega, ⟨[], by simp⟩, ?_⟩
      rw [List.drop_eq_nil_of_le (by omega)]
      have h0 : s.size = 0 := by have := hb.2; omega
      rw [size_zero h0]
      rfl
  | f + 1, i, T, T2, s, bad, hw, hl, hf, h => by
    unfold fromGo at h
    obtain ⟨g, hg⟩ : ∃ g, g = gotP i s bad := ⟨_, rfl⟩
    rw [← hg] at h
    split at h
    · cases h
    rename_i hb
    split at h
    · cases h
    rename_i hp
    obtain ⟨q, T3, hq⟩ : ∃ q T3, pushT T g.up (g.nm, (g.ln : Int)) = (q, T3) := ⟨_, _, rfl⟩
    rw [hq] at hp h
    simp only at h
    have hq2 : q = ((i : Int) + 1, 0) := by
      by_cases e : q = ((i : Int) + 1, 0)
      · exact e
      · exact absurd e hp
    subst hq2
    have hb2 : g.bad = false := by simpa using hb
    obtain ⟨b0, d, l1, l2, l3, l4⟩ := gotP_inv (by omega) hg.symm hb2
    have hw3 : T3.wf := by have := push_wf hw g.up (g.nm, (g.ln : Int)); rw [hq] at this; exact this
    have he : ((i : Int) + 1) = ((T.nodes.length : Nat) : Int) := by omega
    rw [he] at hq
    obtain ⟨u1, u2, u3⟩ := push_new_at hw hq
    have hl3 : T3.nodes.length = i + 1 + 1 := by rw [u3, List.length_append, List.length_singleton]; omega
    obtain ⟨c1, c2, c3, ⟨m, c4⟩, c5⟩ := fromGo_inv f (i + 1) T3 T2 g.rest g.bad hw3 hl3 (by omega) h
    refine ⟨b0, c2, by omega, ⟨(g.up.toNat, (g.nm, (g.ln : Int))) :: m, by rw [c4, u3, List.append_assoc]; rfl⟩, ?_⟩
    have hd : T2.nodes.drop (i + 1) = (g.up.toNat, (g.nm, (g.ln : Int))) :: T2.nodes.drop (i + 1 + 1) := by
      rw [c4, u3, List.append_assoc]
      have e1 : (T.nodes ++ ([(g.up.toNat, (g.nm, (g.ln : Int)))] ++ m)).drop (i + 1) = [(g.up.toNat, (g.nm, (g.ln : Int)))] ++ m := by rw [← hl, List.drop_left]
      have e2 : (T.nodes ++ ([(g.up.toNat, (g.nm, (g.ln : Int)))] ++ m)).drop (i + 1 + 1) = m := by rw [← List.drop_drop, e1]; rfl
      rw [e1, e2]
      rfl
    rw [hd]
    show s = strOfNums (toldN i (g.up.toNat, (g.nm, (g.ln : Int))) ++ toldGo (T2.nodes.drop (i + 1 + 1)) (i + 1))
    rw [strOfNums_append, ← c5, l4]
    congr 2
    unfold toldN
    simp only [Int.toNat_natCast]
    rw [show i + 1 - g.up.toNat = d by omega]
theorem from_inv {s : ByteArray} {T : Tr} (h : fromT s = some T) : T.wf ∧ strOfNums (toldI T) = s := by
  obtain ⟨n, s1, b1, e1⟩ : ∃ a b c, numP s false 4095 = (a, b, c) := ⟨_, _, _, rfl⟩
  unfold fromT at h
  rw [e1] at h
  simp only at h
  by_cases hn : n ≤ 4095
  · obtain ⟨c1, c2, c3, _, c5⟩ := fromGo_inv n 0 newT T s1 b1 newT_wf rfl (by omega) h
    subst c1
    obtain ⟨q1, _⟩ := numP_inv (by omega) e1
    refine ⟨c2, ?_⟩
    unfold toldI
    rw [strOfNums_append, c3, q1, c5]
    congr 3
    omega
  · exfalso
    have hb : b1 = true := by
      cases b1 with
      | true => rfl
      | false =>
        have := (numP_inv (by omega) e1).2
        omega
    subst hb
    obtain ⟨n, rfl⟩ : ∃ n', n = n' + 1 := ⟨n - 1, by omega⟩
    unfold fromGo at h
    split at h
    · cases h
    · rename_i hx
      have hb2 : (gotP 0 s1 true).bad = false := by simpa using hx
      have := (gotP_inv (by omega) rfl hb2).1
      cases this
/-- The two readers are one. -/
theorem from_ref (s : ByteArray) : refFrom s = fromT s := by
  cases h : fromT s with
  | some T =>
    obtain ⟨hw, rfl⟩ := from_inv h
    exact ref_told hw
  | none =>
    cases h2 : refFrom s with
    | none => rfl
    | some T =>
      obtain ⟨hw, rfl⟩ := ref_inv h2
      rw [from_told hw] at h
      cases h
end Go.Proofs.YtmgfdcfbjgokgaaDoor
namespace Go.Proofs.YtmgfdcfbjgokgaaDoor
open Go Go.RowKit Go.Maps Go.Proofs.YtmgfdcfbjgokgaaDoorW.PrintWords Go.Proofs.YtmgfdcfbjgokgaaDoorW.PrintLast Go.Proofs.YtmgfdcfbjgokgaaDoorW.PrintMore Go.Proofs.YtmgfdcfbjgokgaaDoor.PL
set_option linter.unusedVariables false
set_option linter.unusedSimpArgs false

theorem stack_low {T : Tr} (hw : T.wf) (n : Int) : (if thereT T n then stackT T n.toNat else []).length ≤ 64 := by
  cases h : thereT T n with
  | false => simp
  | true =>
    have h2 := of_decide_eq_true h
    rw [if_pos rfl, ← deep_eq hw (n.toNat + 1) n.toNat (by omega) (by omega), List.getD_eq_getElem?_getD, List.getElem?_eq_getElem (by rw [hw.len]; omega)]
    exact hw.low _ (List.getElem_mem _)
section
variable {W : World} {g gu : Nat} {T : Tr} {An Ad Bn : Option Addr} {cn cd mb dn : Nat}
set_option maxRecDepth 100000 in
set_option maxHeartbeats 3200000 in
theorem looks_any (hT : TreC W g T An cn Ad cd mb) (hU : RefC W gu T Bn dn) (hw : T.wf) (n : Int) : Calls Tryd.prog 36 #[.pointer (some ⟨g, 0, none⟩), .pointer (some ⟨gu, 0, none⟩), .int .i64 n] W fun e w2 => e = .returned (.bool true) ∧ Below W.heap.size W w2 := by
  obtain ⟨P1, P2, hP⟩ : ∃ P1 P2, parentT T n = (P1, P2) := ⟨_, _, rfl⟩
  obtain ⟨D, hD⟩ : ∃ D, depthT T n = D := ⟨_, rfl⟩
  obtain ⟨E, hE⟩ : ∃ E, (if thereT T n then 0 else 1 : Int) = E := ⟨_, rfl⟩
  obtain ⟨S, hS⟩ : ∃ S, (if thereT T n then stackT T n.toNat else []) = S := ⟨_, rfl⟩
  have hl := stack_low hw n
  rw [hS] at hl
  have f1 : (P1 != P1) = false := by simp
  have f2 : (P2 != P2) = false := by simp
  have f3 : (D != D) = false := by simp
  have f4 : (E != E) = false := by simp
  have HT := Lib.hid hT
  have HU := Lib.hid hU
  have HW := Lib.hid hw
  have HP := Lib.hid hP
  have HD := Lib.hid hD
  have HE := Lib.hid hE
  have HS := Lib.hid hS
  have HL := Lib.hid hl
  clear hT hU hw hP hD hE hS hl
  go_enter Tryd.func36, Tryd.ntmps36
  go_wp2_with (first | (go_at_call 69; (with_reducible refine (Parent_any HT.out n).mono ?_); rintro e w1 ⟨rfl, hw1⟩; replace hw1 := hw1.symm; subst hw1; rw [HP.out]) | (go_at_call 70; (with_reducible refine (rParent_any HU.out HW.out n).mono ?_); rintro e w2 ⟨rfl, hw2⟩; replace hw2 := hw2.symm; subst hw2; rw [HP.out]) | (go_at_call 42; (with_reducible refine (Stack_any HT.out HW.out n).mono ?_); rintro e w3 ⟨hb, v3, rfl, hR⟩; rw [HE.out]; rw [HS.out] at hR; have HB3 := Lib.hid hb; have HR3 := Lib.hid (R_win hR); have HU3 := Lib.hid (HU.out.below hb); have HT3 := Lib.hid (HT.out.below hb); clear hb hR) | (go_at_call 71; (with_reducible refine (rStack_any HU3.out HW.out n).mono ?_); rintro e w4 ⟨hb, v4, rfl, hR⟩; rw [HE.out]; rw [HS.out] at hR; have HB4 := Lib.hid hb; have HB04 := Lib.hid (HB3.out.trans (hb.mono HB3.out.size)); have HR4 := Lib.hid (R_win hR); have HX4 := Lib.hid (Kd.R_below HR3.out hb); have HU4 := Lib.hid (HU3.out.below hb); have HT4 := Lib.hid (HT3.out.below hb); clear hb hR))
  go_wp2_with (first | (go_at_call 41; (with_reducible refine (Depth_any HT4.out HW.out.len n).mono ?_); rintro e w5 ⟨rfl, rfl⟩; rw [HD.out]) | (go_at_call 72; (with_reducible refine (rDepth_any HU4.out HW.out n).mono ?_); rintro e w6 ⟨rfl, rfl⟩; rw [HD.out]) | (go_at_call 21; refine (same_v v3 v4 S _ _ _ _ _ (by have := HL.out; omega) HX4.out HR4.out).mono ?_; rintro e w7 ⟨rfl, hb⟩; have HB07 := Lib.hid (HB04.out.trans (hb.mono HB04.out.size)); have HX7 := Lib.hid (Kd.R_below HX4.out hb); have HR7 := Lib.hid (Kd.R_below HR4.out hb); have HT7 := Lib.hid (HT4.out.below hb); clear hb) | (go_at_call 22; refine (erratalaw03_spoil.calls ((S.map ofPl).length + 42) (fun j => W.heap.size ≤ j ∧ j < w3.heap.size) v3 (S.map ofPl) W _ HB07.out HX7.out (spoil_f _ (by rw [List.length_map]; have := HL.out; omega))).mono ?_; rintro e w8 ⟨rfl, hb, hk⟩; have HB08 := Lib.hid hb; have HR8 := Lib.hid (Kd.R_kept HR7.out hk (fun k hk1 hk2 => by have h_ : w3.heap.size ≤ k ∧ k < _ := hk1; omega)); have HT8 := Lib.hid (HT.out.below hb); clear hb hk))
  go_wp2_with (first | (go_at_call 42; (with_reducible refine (Stack_any HT8.out HW.out n).mono ?_); rintro e w9 ⟨hb, v9, rfl, hR⟩; rw [HE.out]; rw [HS.out] at hR; have HB09 := Lib.hid (HB08.out.trans (hb.mono HB08.out.size)); have HX9 := Lib.hid hR; have HR9 := Lib.hid (Kd.R_below HR8.out hb); clear hb hR) | (go_at_call 21; refine (same_v v9 v4 S _ _ _ _ _ (by have := HL.out; omega) HX9.out HR9.out).mono ?_; rintro e w10 ⟨rfl, hb⟩; have HB10 := Lib.hid (HB09.out.trans (hb.mono HB09.out.size)); clear hb))
  go_ret
  exact ⟨rfl, HB10.out⟩
end
end Go.Proofs.YtmgfdcfbjgokgaaDoor
namespace Go.Proofs.YtmgfdcfbjgokgaaDoor
open Go Go.RowKit Go.Maps Go.Proofs.YtmgfdcfbjgokgaaDoorW.PrintWords Go.Proofs.YtmgfdcfbjgokgaaDoorW.PrintLast Go.Proofs.YtmgfdcfbjgokgaaDoorW.PrintMore Go.Proofs.YtmgfdcfbjgokgaaDoor.PL
set_option linter.unusedVariables false
set_option linter.unusedSimpArgs false

/-- What is carried. -/
structure StR (W w : World) (g gu : Nat) (T : Tr) (An Ad Bn : Option Addr) (cn cd mb dn : Nat) : Prop where
  t : TreC w g T An cn Ad cd mb
  u : RefC w gu T Bn dn
  tabs : Tabs w
  below : Below W.heap.size W w
theorem StR.step {W w w2 : World} {g gu : Nat} {T : Tr} {An Ad Bn : Option Addr} {cn cd mb dn : Nat} (S : StR W w g gu T An Ad Bn cn cd mb dn) (hb : Below w.heap.size w w2) : StR W w2 g gu T An Ad Bn cn cd mb dn :=
  ⟨S.t.below hb, S.u.below hb, S.tabs.below hb, S.below.trans (hb.mono S.below.size)⟩
set_option maxRecDepth 100000 in
set_option maxHeartbeats 3200000 in
theorem reads_any (W : World) (s : ByteArray) (hs : s.size ≤ 9223372036854775807) (ht : Tabs W) : Calls Tryd.prog 8 #[.string s] W fun e w' => e = .returned (.bool true) ∧ Below W.heap.size W w' := by
  have HZ := Lib.hid hs
  have HT := Lib.hid ht
  have hrf := from_ref s
  cases hf : fromT s with
  | none =>
    rw [hf] at hrf
    have HF := Lib.hid hf
    have HR := Lib.hid hrf
    clear hs ht hf hrf
    go_enter Tryd.func8, Tryd.ntmps8
    go_wp2_with (first | (go_at_call 33; (with_reducible refine (From_any s HZ.out).mono ?_); intro e w1 h; unfold FromIs at h; rw [HF.out] at h; obtain ⟨hb, rfl⟩ := h; have HB1 := Lib.hid hb; clear hb) | (go_at_call 34; (with_reducible refine (rFrom_any s HZ.out).mono ?_); intro e w2 h; unfold RFromIs at h; rw [HR.out] at h; obtain ⟨hb, rfl⟩ := h; have HB2 := Lib.hid (HB1.out.trans (hb.mono HB1.out.size)); clear hb) | (go_at_call 23; (with_reducible refine (alive_any _ (HT.out.below HB2.out)).mono ?_); rintro e w3 ⟨rfl, hb⟩; have HB3 := Lib.hid (HB2.out.trans (hb.mono HB2.out.size)); clear hb))
    go_ret
    exact ⟨rfl, HB3.out⟩
  | some T =>
    rw [hf] at hrf
    have hinv := from_inv hf
    have HF := Lib.hid hf
    have HR := Lib.hid hrf
    have HS := Lib.hid hinv.2
    have HW := Lib.hid hinv.1
    have h4 := hinv.1.most
    clear hs ht hf hrf hinv
    go_enter Tryd.func8, Tryd.ntmps8
    go_wp2_with (first | (go_at_call 33; (with_reducible refine (From_any s HZ.out).mono ?_); intro e w1 h; unfold FromIs at h; rw [HF.out] at h; obtain ⟨hb, g, gn, gd, mb, cn, cd, D, rfl, hU⟩ := h; have HB1 := Lib.hid hb; have HU := Lib.hid hU; clear hb hU) | (go_at_call 34; (with_reducible refine (rFrom_any s HZ.out).mono ?_); intro e w2 h; unfold RFromIs at h; rw [HR.out] at h; obtain ⟨hb, gu, Bn, dn, rfl, hV⟩ := h; have S2 := Lib.hid (show StR W w2 g gu T _ _ Bn cn cd mb dn from ⟨HU.out.C.below hb, hV.C, HT.out.below (HB1.out.trans (hb.mono HB1.out.size)), HB1.out.trans (hb.mono HB1.out.size)⟩); clear hb hV))
    obtain ⟨L, hL⟩ : ∃ L, L = T.nodes.length := ⟨_, rfl⟩
    have HL := Lib.hid hL.symm
    have hL4 : L ≤ 4096 := by omega
    clear hL h4 HU HB1 HF HR
    go_loopg [7] (L + 2) (fun q s7 wx => ∃ z : Int, z + (q : Int) = (L : Int) + 1 ∧ -1 ≤ z ∧ s7 = .int .i64 z ∧ Hid (StR W wx g gu T (some ⟨gn, 0, none⟩) (some ⟨gd, 0, none⟩) Bn cn cd mb dn))
    case atStart => exact ⟨-1, by omega, by omega, rfl, S2⟩
    case round =>
      clear S2
      obtain ⟨z, hzq, hz1, rfl, SX⟩ := hrel
      by_cases hlt : z ≤ (L : Int)
      · obtain ⟨q, rfl⟩ : ∃ q, gk = q + 1 := ⟨gk - 1, by omega⟩
        have d1 : decide (z ≤ (L : Int)) = true := decide_eq_true hlt
        go_wp2_with (first | (go_at_call 35; (with_reducible refine (rLen_any SX.out.u HW.out).mono ?_); rintro e w3 ⟨rfl, rfl⟩; rw [HL.out]) | (go_at_call 36; (with_reducible refine (looks_any SX.out.t SX.out.u HW.out z).mono ?_); rintro e w4 ⟨rfl, hb⟩; have S4 := Lib.hid (SX.out.step hb); clear hb))
        go_roundg q
        case measure => omega
        case rel => exact ⟨z + 1, by omega, by omega, by first | rfl | go_num, S4⟩
      · have d1 : decide (z ≤ (L : Int)) = false := decide_eq_false hlt
        go_wp2_with (go_at_call 35; (with_reducible refine (rLen_any SX.out.u HW.out).mono ?_); rintro e w3 ⟨rfl, rfl⟩; rw [HL.out])
        go_wp2_with (first | (go_at_call 37; (with_reducible refine (TLen_any SX.out.t).mono ?_); rintro e w5 ⟨rfl, rfl⟩; rw [HL.out]) | (go_at_call 35; (with_reducible refine (rLen_any SX.out.u HW.out).mono ?_); rintro e w6 ⟨rfl, rfl⟩; rw [HL.out]) | (go_at_call 38; (with_reducible refine (Told_any SX.out.t HW.out).mono ?_); rintro e w7 ⟨rfl, hb⟩; rw [HS.out]; have S7 := Lib.hid (SX.out.step hb); clear hb) | (go_at_call 23; (with_reducible refine (alive_any _ S7.out.tabs).mono ?_); rintro e w8 ⟨rfl, hb⟩; have S8 := Lib.hid (S7.out.step hb); clear hb))
        go_ret
        exact ⟨rfl, S8.out.below⟩
end Go.Proofs.YtmgfdcfbjgokgaaDoor
namespace Go.Proofs.YtmgfdcfbjgokgaaDoor
open Go.ChangeShapes Go.WideShapes Go.ChangeAt Go.RowKit Go.Proofs.YtmgfdcfbjgokgaaDoorW.PrintWords
set_option linter.unusedVariables false
set_option linter.unusedSimpArgs false

set_option maxRecDepth 100000 in
theorem reads_lifted (os : Os) (started : os.Started) (H : Type) (enc : TypeId × Value → H) :
    ReturnsInHanded {} Tryd.checked os 8 .any (fun w args => (Rows.placeReadsSpec.pre enc Tryd.prog Tryd.f8 [] false w args ∧ laidMetH Tryd.prog Rows.placeReadsRow.laid w) ∧ sizedMet enc Tryd.prog Tryd.f8 (OpenSpec.ofChange Rows.placeReadsSpec) false w args)
      (Rows.placeReadsSpec.post enc Tryd.prog Tryd.f8 false true false false) := by
  refine returns_all (C := Tryd.checked) (X := fun w _ => laidMetH Tryd.prog laidL w) (fun _ _ _ hh h => h.of_heap hh) own_knob started (by kernel_rfl) Tryd.func8
    (ChangeSpec.witness_at (enc := enc) (C := Tryd.checked) (os := os) (X := fun w _ => laidMetH Tryd.prog laidL w) false (laidWorld os) #[.string ⟨#[]⟩] 8 rfl (by kernel_rfl) (by kernel_rfl) (by kernel_rfl) (by kernel_rfl) (by kernel_rfl) (laid_met os _)) ?_
  intro W base args ds gs before hval0 hW hsz hL hsh
  have hval : ∀ (j : Nat) t v, Tryd.f8.params[j]? = some t → args[j]? = some v → Value.okWide Tryd.prog W .any base t v := hval0
  have hW' := hW
  obtain ⟨p, q, hA0, hV, rfl, hfz, hnd⟩ := hW
  have hA : DataW.TrodAll enc Tryd.prog W 0 (fun _ => true) true Tryd.f8.params.toList args.toList ds p := hA0
  rw [Tryd.params8] at hA hval
  obtain ⟨v0, d0, rfl, rfl, h0⟩ := trodAll_one hA
  obtain ⟨rfl, rfl⟩ := trodVars_none hV
  obtain ⟨s, rfl, rfl, rfl, hs2⟩ := Go.ChangeMaps.open_string Tryd.underlying9 (hval 0 9 v0 rfl rfl) h0
  clear hA0 hval0
  refine (reads_any W s hs2 (tabs_of hL hsh)).mono fun e W' ⟨he, bel⟩ => ?_
  subst he
  exact ⟨_, rfl, _, _, _, [], _, [], hW', trodAll_mk1 (shut_bool Tryd.underlying4 _), (trodAll_cons_mk (Go.ChangeMaps.shut_string Tryd.underlying9 hs2) trodAll_mk0), rfl, bel.frame _, fun h => by cases h⟩

theorem reads_row : Rows.PlaceReadsSaid :=
  OpenClaim.holds_of_wide 8 Tryd.f8 rfl rfl rfl rfl rfl rfl rfl ⟨rfl, rfl, rfl, rfl, rfl⟩ rfl rfl rfl rfl rfl (by kernel_rfl) Tryd.func8 (by kernel_rfl)
    (of_decide_eq_true (by kernel_rfl)) (by unfold Func.isWrapper; first | (rw [if_pos (by decide +kernel)]; kernel_rfl) | (rw [if_neg (by decide +kernel)]; exact ⟨rfl, rfl⟩))
    (fun os started H enc _ => reads_lifted os started H enc)

theorem placeReads_card : Rows.PlaceReadsCardSaid :=
  Claim7.holds_tied_plain_at .later [] [.data, .data, .data, .data, .sentinel, .sentinel, .pinned] true (true, "f07335a018d55dc7c57fbabfaf11b8ce569e876afa6a867f8bf018eeeb022f9b") true
    reads_row (fun _ h => by cases h) (by kernel_rfl) (fun _ h => by cases h) placeReads_row_tie rfl ⟨rfl, rfl⟩ (by kernel_rfl) rfl
    (fun f fn hf hfn => by
      obtain rfl : f = 8 := Option.some.inj ((show Tryd.prog.funcNamed "errata/erratalaw03.PlaceReads" = some 8 by kernel_rfl).symm.trans hf) |>.symm
      obtain rfl : fn = Tryd.f8 := (Option.some.inj (Tryd.func8.symm.trans hfn)).symm
      exact ⟨by kernel_rfl, fun j t ht => by
        rw [Tryd.params8] at ht
        rcases j with _ | j
        · have : t = 9 := by simpa using ht.symm
          subst this
          exact (show Tryd.prog.wantsStandIn 9 = false by kernel_rfl)
        · simp at ht⟩)
    (by kernel_rfl)
end Go.Proofs.YtmgfdcfbjgokgaaDoor
