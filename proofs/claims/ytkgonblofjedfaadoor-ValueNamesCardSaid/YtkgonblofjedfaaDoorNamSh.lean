/- The listed variables: what they hold, a start that meets them. -/
import Derived.Test.YtkgonblofjedfaaDoorFOne
import Derived.WalkKit
import Derived.ProofKit
import Derived.OpenShut
import Derived.ChangeOld
import Derived.ChangeSame
import Derived.Below
import Derived.LaidLaws
import Derived.LaidHandle
import Derived.Stop.LaidErr
import Derived.Lib.LaidTab
import Derived.Lay
import Derived.LaidMore
import Derived.Stop.Joined
import Derived.Deep.Slices
import Derived.Deep.Fields
import Derived.HandedShaped
namespace Go.Proofs.YtkgonblofjedfaaDoor
open Go.ChangeShapes Go.WideShapes Go.ChangeAt Go.RowKit Go.Deep
set_option linter.unusedVariables false
set_option linter.unusedSimpArgs false

theorem own_knob : ownKnob Tryd.prog.godebug = none := by kernel_rfl
theorem laid_out : laidOutB Tryd.prog = true := by kernel_rfl
abbrev laidL : List (String × DataW Unit) := Rows.valueNamesRow.laid

theorem laid_met (os : Os) (args : Array Value) : laidMetH Tryd.prog laidL ((World.laidAll Tryd.prog os laidL).forCall (fun _ _ => 0) ⟨#[], args, []⟩).memory := by
  rw [MakeChecks.laidMetH_plain _ _ _ (by kernel_rfl)]
  exact laidMet_laidAll _ (by kernel_rfl) (by kernel_rfl)
theorem pow_lt : (Go.Pinned.pow10Rows.all fun x => decide (x.1 < 18446744073709551616) && decide (x.2 < 18446744073709551616)) = true := by decide +kernel
theorem pow_len : Go.Pinned.pow10Rows.length = 696 := by decide +kernel
theorem hl_lt (p : Nat) (hp : p < 696) : hiP p < 18446744073709551616 ∧ loP p < 18446744073709551616 := by
  have hl : p < Go.Pinned.pow10Rows.length := by rw [pow_len]; exact hp
  have := List.all_eq_true.1 pow_lt _ (List.getElem_mem hl)
  simp only [Bool.and_eq_true, decide_eq_true_eq] at this
  unfold hiP loP
  rw [List.getD_eq_getElem?_getD, List.getElem?_eq_getElem hl]
  exact this
theorem pows_of {W : World} {rest : List (String × DataW Unit)} (h : laidMet Tryd.prog (("internal/strconv.pow10Tab", Go.Pinned.pow10Tab) :: rest) W) : Pows W hiP loP := by
  obtain ⟨ps, ⟨g, t, cs, fuel, p, q, hg, ht, hvar, hd, _, _⟩, _⟩ := h
  obtain rfl : 4 = g := Option.some.inj ((show Tryd.prog.globalNamed "internal/strconv.pow10Tab" = some 4 by kernel_rfl).symm.trans hg)
  obtain rfl : 102 = t := Option.some.inj ((show (Tryd.prog.globals[4]?).map (·.type) = some 102 by kernel_rfl).symm.trans ht)
  obtain ⟨xs, m, rfl, hx, hcl, hxl, hat⟩ := DataW.trod_array Tryd.underlying102 hd
  rw [show Tryd.prog.cellsOf 101 = 2 by kernel_rfl] at hat
  have hxs : xs.map (·.1) = Go.Pinned.pow10Rows.map fun x => (DataW.agg [.lit (.int .u64 x.1), .lit (.int .u64 x.2)] : DataW Unit) := by
    have := congrArg Prod.fst hx
    unfold Go.Pinned.pow10Tab at this
    simpa using this.symm
  refine ⟨fun i hi => ?_⟩
  have hl : i < Go.Pinned.pow10Rows.length := by rw [pow_len]; exact hi
  have hlt : i < xs.length := by rw [hxl]; exact hi
  have h1 := hat i hi
  rw [List.getElem?_eq_getElem hlt] at h1
  obtain ⟨y0, y1, n, hy, hcc, k0, k1⟩ := trod_struct2 Tryd.underlying101 h1
  have h2 : (xs.map (·.1))[i]? = (Go.Pinned.pow10Rows.map fun x => (DataW.agg [.lit (.int .u64 x.1), .lit (.int .u64 x.2)] : DataW Unit))[i]? := by rw [hxs]
  rw [List.getElem?_map, List.getElem?_map, List.getElem?_eq_getElem hlt, List.getElem?_eq_getElem hl] at h2
  simp only [Option.map_some, Option.some.injEq] at h2
  rw [hy] at h2
  simp only [DataW.agg.injEq, List.cons.injEq, and_true] at h2
  obtain ⟨z0, c0, e0, _⟩ := DataW.trod_int Tryd.underlying41 k0
  obtain ⟨z1, c1, e1, _⟩ := DataW.trod_int Tryd.underlying41 k1
  rw [e0, e1] at h2
  simp only [DataW.lit.injEq, Lit.int.injEq, true_and] at h2
  have hc := World.var?_cell (show Tryd.prog.globalNamed "internal/strconv.pow10Tab" = some 4 by kernel_rfl) hvar
  have q0 : cs[i * 2]? = some (.int .u64 z0) := by
    have := congrArg (·[0]?) c0
    simpa [List.getElem?_take, List.getElem?_drop, show Tryd.prog.cellsOf 41 = 1 by kernel_rfl] using this
  have q1 : cs[i * 2 + 1]? = some (.int .u64 z1) := by
    have := congrArg (·[0]?) c1
    simpa [List.getElem?_take, List.getElem?_drop, show Tryd.prog.cellsOf 41 = 1 by kernel_rfl] using this
  have hh : hiP i = Go.Pinned.pow10Rows[i].1 ∧ loP i = Go.Pinned.pow10Rows[i].2 := by
    unfold hiP loP
    rw [List.getD_eq_getElem?_getD, List.getElem?_eq_getElem hl]
    exact ⟨rfl, rfl⟩
  refine ⟨(hc _).trans (q0.trans ?_), (hc _).trans (q1.trans ?_), (hl_lt i hi).1, (hl_lt i hi).2⟩
  · rw [hh.1, h2.1]
  · rw [hh.2, h2.2]
theorem tabs_of {W : World} (hL : laidMetH Tryd.prog laidL W) : FTabs W := by
  have h : laidMet Tryd.prog laidL W := hL
  have h3 : laidMet Tryd.prog (("internal/strconv.uint64pow10", Lib.tabData .u64 Lib.pow10Tab) :: laidL.drop 4) W := h.tail.tail.tail
  have hp := pows_of h3.tail.tail
  exact ⟨hp, World.block_lt_of_cell? W ⟨4, 0 * 2, none⟩ (hp.h 0 (by omega)).1, Lib.tabIs_of_head (g := 2) (t := 92) (e := 41) (n := 20) (by kernel_rfl) (by kernel_rfl) (by kernel_rfl) (by kernel_rfl) (by kernel_rfl) (by kernel_rfl) h3⟩
theorem returns_all {H : Type} {enc : TypeId × Value → H} {a : Assume} {C : Checked} {os : Os} {f : FuncId} {fn : Func} {s : ChangeSpec} {conds : List PathCond} {apart fresh handsOn again : Bool} {X : World → Array Value → Prop}
    (hX : ∀ (w w' : World) (args : Array Value), w.heap = w'.heap → X w args → X w' args)
    (own : ownKnob C.prog.godebug = none) (started : os.Started) (noInit : C.prog.inits.idxOf? f = none) (hfn : C.prog.funcs[f]? = some fn)
    (witness : ∃ (w : World) (tape : Tape) (i : Input), w.os = os ∧ (w.forCall tape i).Shaped C.prog ∧ i.vars = [] ∧ Input.okWide C.prog (w.forCall tape i) .any w.heap.size f i ∧
      ((s.pre enc C.prog fn conds apart (w.forCall tape i).memory i.args ∧ X (w.forCall tape i).memory i.args) ∧ sizedMet enc C.prog fn (OpenSpec.ofChange s) apart (w.forCall tape i).memory i.args) ∧ a.holds C.prog (lone (Frame.enter C.prog f i.args .normal) [] (w.forCall tape i)))
    (contract : ∀ (W : World) (base : Nat) (args : Array Value) (ds gs : List (DataW H)) (before : List MemPlace),
      (∀ (j : Nat) t v, fn.params[j]? = some t → args[j]? = some v → Value.okWide C.prog W .any base t v) →
      DataW.Whole enc C.prog fn.params.toList s.vars apart W args.toList ds gs before →
      (DataW.weightsEach C.prog (fn.params.toList ++ s.plain.varTypes C.prog) (ds ++ gs)).all (· ≤ reachBytes) = true → X W args → W.ShapedOpen C.prog →
      Calls C.prog f args W fun e W' => ∃ v, e = .returned v ∧ s.post enc C.prog fn apart fresh handsOn again W args v W') :
    ReturnsInHanded a C os f .any (fun w args => (s.pre enc C.prog fn conds apart w args ∧ X w args) ∧ sizedMet enc C.prog fn (OpenSpec.ofChange s) apart w args) (s.post enc C.prog fn apart fresh handsOn again) := by
  refine returnsInHanded_of_calls own started noInit witness ?_
  intro w tape i _ hsh _ hok hpre hholds
  obtain ⟨_, _, _, fn', hfn', _, _, _, _, hval⟩ := hok
  have e : fn' = fn := Option.some.inj (hfn'.symm.trans hfn)
  subst e
  obtain ⟨⟨⟨ds, gs, before, hw, hc⟩, hx⟩, hz⟩ := hpre
  have hw' := DataW.Whole.of_heap (w' := w.forCall tape i) (by rfl) hw
  refine (contract (w.forCall tape i) w.heap.size i.args ds gs before hval hw' (hz.weights hw) (hX _ _ _ (by rfl) hx) hsh).mono fun e W' ⟨v, he, hp⟩ => ?_
  subst he
  exact ChangeSpec.post_blind hp
end Go.Proofs.YtkgonblofjedfaaDoor
