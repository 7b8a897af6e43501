/- The walks of 'value.compared' and its deferred closure. -/
import Derived.Test.YtbbpngoffpegbaaGreatDoorIeq
import Derived.Laws.Pointers
namespace Go.Proofs.YtbbpngoffpegbaaGreatDoor
open Go Go.RowKit
set_option linter.unusedVariables false
set_option linter.unusedSimpArgs false
theorem catch_panicking (p : Addr) (x : Int) (u : TypeId) (pv : Value) (older : List PanicEntry) (w : World) (hc : w.cell? p = some (.int .i64 x)) (hz : w.frozen? p = false) :
    CallsD Tryz.prog 41 #[.pointer (some p)] (.panicking ({ v := .iface u pv, recovered := false } :: older)) w fun e u' w' =>
      e = .returned (.tuple #[]) ∧ u' = .panicking ({ v := .iface u pv, recovered := true } :: older) ∧ w' = w.setCell p (.int .i64 3) := by
  refine callsD_of_wpS Tryz.func41 rfl fun c₀ cs hu => ?_
  apply wpS_seq
  apply wpS_region
  simp [wpOpsS, go_sem, recoverD, hu, Tryz.ntmps41, Exit.thenS]
  refine wpS_cond (t := true) (by simp [Act.eval, Array.replicate]) ?_
  simp only [if_true]
  apply wpS_region
  simp [wpOpsS, go_sem, hc, hz, bodyPostS, results, Tryz.results41]
theorem catch_idle (p : Addr) (w : World) :
    CallsD Tryz.prog 41 #[.pointer (some p)] .returning w fun e u' w' => e = .returned (.tuple #[]) ∧ u' = .returning ∧ w' = w := by
  refine callsD_of_wpS Tryz.func41 rfl fun c₀ cs hu => ?_
  apply wpS_seq
  apply wpS_region
  simp [wpOpsS, go_sem, recoverD, hu, Tryz.ntmps41, Exit.thenS]
  refine wpS_cond (t := false) (by simp [Act.eval, Array.replicate]) ?_
  simp only [Bool.false_eq_true, if_false]
  refine wpS_of_wp (wp_skip ?_)
  cases c₀
  simp_all [bodyPostS, results, Tryz.results41]
theorem guard_ok (x y : Operand) (v1 v2 : Value) (h1 : v1 = .nilIface ∨ ∃ t u, v1 = .iface t u) (h2 : v2 = .nilIface ∨ ∃ t u, v2 = .iface t u) (w : World) : (eqGuard .eql 20 x y v1 v2).run Tryz.prog w = .ok () w := by
  have h : ∀ d : Nat, (Op.eqGuardIn (d + 1) 20 .nilIface .nilIface).run Tryz.prog w = .ok false w := fun d => by simp [Op.eqGuardIn, run_underlying und_any]
  rcases h1 with rfl | ⟨t, u, rfl⟩ <;> rcases h2 with rfl | ⟨t2, u2, rfl⟩
  · unfold eqGuard
    simp only [Op.maxDepth]
    have h9 := h 9999
    split
    · simp
    · split
      · simp
      · simp [h9]
  · simp [eqGuard]
  · simp [eqGuard]
  · simp [eqGuard]
theorem set_new (w : World) (v u : Value) : Below w.heap.size w ((w.alloc (.cells #[v] 3)).setCell ⟨w.heap.size, 0, none⟩ u) := (bnew (Below.refl _ w) _).setCell (Nat.le_refl _) u
theorem compared_ok (v1 v2 : Value) (b : Bool) (f1 : v1 = .nilIface ∨ ∃ t u, v1 = .iface t u) (f2 : v2 = .nilIface ∨ ∃ t u, v2 = .iface t u) (hq : ∀ w, (binOp .eql 20 v1 v2).run Tryz.prog w = .ok (.bool b) w) (w : World) : Calls Tryz.prog 27 #[v1, v2] w fun e w' => e = .returned (.int .i64 (if b then 1 else 2)) ∧ Below w.heap.size w w' := by
  have heg := guard_ok (.tmp 6) (.tmp 7) v1 v2 f1 f2
  clear f1 f2
  have hmf : ∀ (fn : Fn) (first cap : Array Value) (w : World), (Instr.makeFunc fn first cap).run Tryz.prog w = .ok (.func fn first cap) w := fun _ _ _ _ => rfl
  cases b
  all_goals
    go_enter_defers Tryz.func27, Tryz.ntmps27
    go_wp2
    refine leaves_cons (f := 41) (args := #[.pointer (some ⟨w.heap.size, 0, none⟩)]) (by simp) (by simp [go_sem]) ?_
    refine (catch_idle ⟨w.heap.size, 0, none⟩ _).mono ?_
    rintro e u' w'' ⟨rfl, rfl, rfl⟩
    simp [Leaves, settle, results, Tryz.results27, go_sem]
    exact bnew (Below.refl _ w) _
theorem compared_panic (v1 v2 : Value) (t : TypeId) (pv : Value) (f1 : v1 = .nilIface ∨ ∃ t u, v1 = .iface t u) (f2 : v2 = .nilIface ∨ ∃ t u, v2 = .iface t u) (hq : ∀ w, (binOp .eql 20 v1 v2).run Tryz.prog w = .halt (.panic (.iface t pv)) w) (w : World) : Calls Tryz.prog 27 #[v1, v2] w fun e w' => e = .returned (.int .i64 3) ∧ Below w.heap.size w w' := by
  have heg := guard_ok (.tmp 6) (.tmp 7) v1 v2 f1 f2
  clear f1 f2
  have hmf : ∀ (fn : Fn) (first cap : Array Value) (w : World), (Instr.makeFunc fn first cap).run Tryz.prog w = .ok (.func fn first cap) w := fun _ _ _ _ => rfl
  go_enter_defers Tryz.func27, Tryz.ntmps27
  go_wp2
  refine leaves_cons (f := 41) (args := #[.pointer (some ⟨w.heap.size, 0, none⟩)]) (by simp) (by simp [go_sem]) ?_
  refine (catch_panicking ⟨w.heap.size, 0, none⟩ 0 _ _ [] _ ?_ ?_).mono ?_
  · simp [go_sem]
  · simp [go_sem]
  rintro e u' w'' ⟨rfl, rfl, rfl⟩
  simp [Leaves, settle, results, Tryz.results27, go_sem]
  exact bnew (Below.refl _ w) _
end Go.Proofs.YtbbpngoffpegbaaGreatDoor
