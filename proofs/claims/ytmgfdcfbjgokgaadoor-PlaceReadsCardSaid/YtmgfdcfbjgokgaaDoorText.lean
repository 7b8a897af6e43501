/- A region that draws its order, in a round of a range over a function: what is shown without the fence holds in it. The walk of 'Text' where the list is a stack. -/
import Derived.OrdersHeld
import Derived.OrdersIn
import Derived.RangeFuncCalls
import Derived.RangeFuncNested
import Derived.Test.YtmgfdcfbjgokgaaDoorBack
import Derived.Deep.DrawnRows
import Derived.Stop.RegionWithIn
namespace Go.Proofs.YtmgfdcfbjgokgaaDoor
set_option linter.unusedVariables false
set_option linter.unusedSimpArgs false
section
variable {P : Program} {Q : Exit → Act → World → Prop} {l n : Nat}
theorem rowsIn_of {row : String} {args : Array Value} {w : World} {R : Value → World → Prop} (h : Rows P row args w R) : RowsIn (Fence.wide.inRound l) n P row args w R := fun c cs _ =>
  let ⟨v, w', r, s⟩ := h c cs; ⟨v, w', r, stepsIn_wide.2 s⟩
theorem opIn_of_wp {o : Oper} {a : Act} {w : World} {K : Act → World → Prop} (hsem : ∀ c, o.op ≠ .defer c) (h : o.wp P a w K Q) : o.wpIn (Fence.wide.inRound l) n P a w K Q := by
  unfold Oper.wp at h
  unfold Oper.wpIn
  refine ⟨fun _ _ => trivial, ?_⟩
  rw [Oper.semAt_eq _ _ _ hsem]
  generalize (execOp a.eval o).run P w = r at h
  cases r with
  | ok x w' =>
    cases x with
    | value v => exact h
    | skip => exact h
    | defer d => exact h
    | enter f args => exact ⟨(fun hd => by cases hd), CallsIn.inRound l (callsIn_wide.2 h)⟩
    | row rw_ args => exact ⟨(fun hd => by cases hd), rowsIn_of h⟩
    | _ => exact h.elim
  | halt x w' => cases x <;> first | exact h | exact h.elim
theorem opsIn_of_wp {ops : Array Oper} {i : Nat} {K : Act → World → Prop} {a : Act} {w : World} (hsem : ∀ (j : Nat) (o : Oper) c, ops[j]? = some o → o.op ≠ .defer c) (hL : ¬ LetsOut Q) (h : wpOp P ops Q i K a w) : wpOpIn (Fence.wide.inRound l) n P ops Q i K a w := by
  unfold wpOp at h
  unfold wpOpIn
  cases ho : ops[i]? with
  | none => rw [ho] at h; exact h
  | some o =>
    rw [ho] at h
    simp only at h ⊢
    split
    · rename_i hw
      rw [if_pos hw] at h
      rcases h with h | ⟨_, h⟩
      · exact opIn_of_wp (fun c => hsem i o c ho) h
      · exact absurd h hL
    · rename_i hw
      rw [if_neg hw] at h
      exact ⟨fun _ _ => trivial, h⟩
theorem anyIn_of_wp {md : Region.Mode} {ops : Array Oper} (hsem : ∀ (j : Nat) (o : Oper) c, ops[j]? = some o → o.op ≠ .defer c) (hL : ¬ LetsOut Q) :
    ∀ (fuel : Nat) (listed : Array Bool) (a : Act) (w : World), wpAny P md ops Q fuel listed a w → wpAnyIn (Fence.wide.inRound l) n P md ops Q fuel listed a w
  | 0, _, _, _, h => h
  | fuel + 1, _, _, _, h => ⟨h.1, fun i hi => wpOpIn_mono (fun a' w' h' => anyIn_of_wp hsem hL fuel _ a' w' h') (opsIn_of_wp hsem hL (h.2 i hi))⟩
def noDefer (ops : Array Oper) : Bool := ops.all fun o => match o.op with | .defer _ => false | _ => true
theorem noDefer_spec {ops : Array Oper} (h : noDefer ops = true) : ∀ (j : Nat) (o : Oper) c, ops[j]? = some o → o.op ≠ .defer c := by
  intro j o c ho he
  unfold noDefer at h
  rw [Array.all_eq_true] at h
  obtain ⟨hj, rfl⟩ := Array.getElem?_eq_some_iff.1 ho
  have := h j hj
  rw [he] at this
  cases this
theorem regionIn_held {id : Nat} {ops : Array Oper} {S : World → Prop} {a : Act} {w : World} (hm : P.follows .mixedOrders = true) (hd : noDefer ops = true) (hL : ¬ LetsOut Q)
    (h : wpAnyH P .any ops Q S ops.size (Array.replicate ops.size false) a { w with drawn := w.drawn + 1 }) : (Code.region id ops true).wpIn (Fence.wide.inRound l) n P Q a w :=
  wpIn_region_any hm (anyIn_of_wp (noDefer_spec hd) hL _ _ _ _ (wpAny_of_held _ _ _ _ h))
end
end Go.Proofs.YtmgfdcfbjgokgaaDoor
namespace Go.Proofs.YtmgfdcfbjgokgaaDoor
open Go.RowKit Go.Shelf
set_option linter.unusedVariables false
set_option linter.unusedSimpArgs false
attribute [local go_sem] Oper.semAt_some
attribute [local go_sem ↓] Go.wp_at_zero Go.wp_at_succ

/-- Nothing that was there has turned. -/
theorem KeepsFrom.of_below {B : Nat} {W W' : World} (h : Below W.heap.size W W') : KeepsFrom B W W' :=
  ⟨h.size, fun k _ _ hk _ => (h.block k (Array.getElem?_eq_some_iff.1 hk).1).trans hk⟩
theorem cells_own {β : Type} (B : Nat) (t : TypeId) (f : β → Array Value) : Own (fun s W => W.heap[B]? = some (.cells (f s) t (0, 0))) := fun s X Y row hs hg hrow =>
  (hg.block B (Array.getElem?_eq_some_iff.1 hs).1 (fun e => by
    obtain ⟨o, ho, hc⟩ := hrow B e.symm
    rw [show X.heap[B]? = _ from hs] at ho
    cases ho
    cases hc)).trans hs
theorem undrew {w w' : World} (h : Below w.drew.heap.size w.drew w') : Below w.heap.size w w' := ⟨h.os, h.tape, h.output, h.size, h.block⟩
theorem grownBy_of_below {W W' : World} (h : Below W.heap.size W W') (row : Option Nat) : W.grownBy W' row := ⟨h.os, h.tape, h.output, h.size, fun k hk _ => h.block k hk⟩
theorem infoStr : (Tryd.prog.info? 9).map (fun i => (i.zero, i.size, i.bytes)) = some (some (.string ⟨#[]⟩), 1, 16) := by kernel_rfl
/-- A place's text. -/
def ptxt (dec : Int → ByteArray) (x : Pl) : ByteArray := x.1 ++ (⟨#[58]⟩ : ByteArray) ++ dec x.2

/-- What the world is behind such a step. -/
structure StepOk (W w3 : World) (Bw n₁ B g cap k : Nat) (ys : List Value) : Prop where
  keeps : KeepsFrom B W (w3.setCell ⟨Bw, 0, none⟩ (.slice (some ⟨g, 0, none⟩) (k + 1) cap))
  kp : KpB Bw n₁ W (w3.setCell ⟨Bw, 0, none⟩ (.slice (some ⟨g, 0, none⟩) (k + 1) cap))
  box : Boxed (w3.setCell ⟨Bw, 0, none⟩ (.slice (some ⟨g, 0, none⟩) (k + 1) cap)) Bw 56 (.slice (some ⟨g, 0, none⟩) (k + 1) cap)
  row : (w3.setCell ⟨Bw, 0, none⟩ (.slice (some ⟨g, 0, none⟩) (k + 1) cap)).ownsRow n₁ 9 1 (.slice (some ⟨g, 0, none⟩) (k + 1) cap) (k + 1) ys
  below : Below Bw W (w3.setCell ⟨Bw, 0, none⟩ (.slice (some ⟨g, 0, none⟩) (k + 1) cap))

/-- One text more behind the others, the list lying in a box. -/
theorem text_step {W w2 : World} {n₁ Bw B k : Nat} {v : Value} {xs : List Value} (s : ByteArray) (hv : Boxed W Bw 56 v) (hrow : W.ownsRow n₁ 9 1 v k xs) (hn : n₁ ≤ W.heap.size) (hBw : Bw < n₁) (hb : Below W.heap.size W w2) (hk : k ≤ 64) :
    ∃ g cap w3, (Builtin.append_ #[56, 56] 56 #[v, .slice (some ⟨w2.heap.size, 0, none⟩) 1 1]).run Tryd.prog (w2.alloc (.cells #[.string s] 9)) = .ok (.slice (some ⟨g, 0, none⟩) (k + 1) cap) w3 ∧ w3.cell? ⟨Bw, 0, none⟩ = some v ∧ w3.frozen? ⟨Bw, 0, none⟩ = false ∧ (∀ (j : Nat) (c : Array Value), W.heap[j]? = some (Obj.cells c 60 (0, 0)) → w3.heap[j]? = W.heap[j]?) ∧
      StepOk W w3 Bw n₁ B g cap k (xs ++ [.string s]) := by
  obtain ⟨i0, hi, hz0, hz1, hz2⟩ := info_parts infoStr
  have hg0 := grownBy_of_below hb none
  have hv2 : Boxed w2 Bw 56 v := hv.kept hg0 (by simp)
  have hrow2 : w2.ownsRow n₁ 9 1 v k xs := hrow.kept hg0 (by cases hv : v.ownBlock <;> simp)
  have hs2 := hb.size
  obtain ⟨v', w3, hrun, hown, hg, _, hat⟩ := run_append_own_at (P := Tryd.prog) (w2.alloc (.cells #[.string s] 9)) n₁ 56 56 9 i0 (.string ⟨#[]⟩) 1 16 Tryd.underlying56 hi hz0 hz1 hz2 rfl (by decide) v k xs (hrow2.alloc _) ⟨w2.heap.size, 0, none⟩ 1 1 [.string s] rfl (cell_one_new _ _ _) (by simp [Value.oneCell'])
    (by unfold maxLen; omega) (by omega) (by simp; omega)
  obtain ⟨g, cap, rfl⟩ := ownsRow_succ hown
  have hne := hv2.not_row (by decide) hrow2
  have hv3 : Boxed w3 Bw 56 v := (hv2.alloc _).kept hg hne
  have hge : ∀ q, v.ownBlock = some q → n₁ ≤ q := fun q hq => by
    rcases hrow2.2 with ⟨rfl, _⟩ | ⟨g', c', cur, rfl, hbb, _⟩
    · simp [Value.ownBlock] at hq
    · have : g' = q := by simpa [Value.ownBlock] using hq
      omega
  have hcellsrow : ∀ (j : Nat) (o : Obj), v.ownBlock = some j → (w2.alloc (.cells #[.string s] 9)).heap[j]? = some o → o.isCells = true := fun j o hj ho => by
    rcases hrow2.2 with ⟨rfl, _⟩ | ⟨g', c', cur, rfl, hbb, hgb, _⟩
    · simp [Value.ownBlock] at hj
    · have e : g' = j := by simpa [Value.ownBlock] using hj
      subst e
      rw [Below.heap_alloc w2 _ g' (Array.getElem?_eq_some_iff.1 hgb).1, hgb] at ho
      cases ho
      rfl
  have hs3 := hg.size
  simp only [World.size_alloc] at hs3
  have hfar : ∀ (j : Nat) (c : Array Value), W.heap[j]? = some (Obj.cells c 60 (0, 0)) → w3.heap[j]? = W.heap[j]? := fun j c hj => by
    have hl := (Array.getElem?_eq_some_iff.1 hj).1
    rw [hg.block j (by simp; omega) (fun e => by
      rcases hrow2.2 with ⟨rfl, _⟩ | ⟨g', c', cur, rfl, hbb, hgb, _⟩
      · simp [Value.ownBlock] at e
      · have e2 : g' = j := by simpa [Value.ownBlock] using e.symm
        subst e2
        rw [hb.block g' hl, hj] at hgb
        injection hgb with hgb
        injection hgb with _ h2
        exact absurd h2 (by decide))]
    rw [Below.heap_alloc w2 _ j (by omega)]
    exact hb.block j hl
  refine ⟨g, cap, w3, hrun, hv3.cell, hv3.frozen, hfar, ⟨?_, ?_, hv3.set _, ?_, ?_⟩⟩
  · exact (KeepsFrom.of_below hb).trans (((KeepsOthers.alloc w2 _).from B).trans (((KeepsOthers.of_grownBy hg hcellsrow).from B).trans ((KeepsOthers.setCell _ _ _).from B)))
  · intro j hj hjb
    rw [Below.heap_setCell _ _ _ j (fun e => hjb e)]
    rw [hg.block j (by simp; omega) (fun e => by have := hge j e.symm; omega)]
    rw [Below.heap_alloc w2 _ j (by omega)]
    exact hb.block j (by omega)
  · exact hown.kept (grownBy_setCell' w3 Bw _) (.inr (hv3.not_row (by decide) hown).symm)
  · exact ((((hb.mono (by omega : Bw ≤ W.heap.size)).alloc (by omega) _).grown hg (by simp; omega) (fun q e => by have := hge q e; omega)).setCell (p := ⟨Bw, 0, none⟩) (Nat.le_refl _) _)

/-- append as one word that the walk does not look into. -/
def appendSem (t ty : TypeId) (args : Array Value) : Sem Next := do
  let v ← Builtin.append_ #[t, t] ty args
  pure (.value v)
theorem semAt_append (ro : Option Nat) (ρ : Operand → Value) (d : Option Tmp) (p : String) (af : Array Edge) (g : Option (Nat × Bool)) (s x : Operand) (t ty : TypeId) :
    Oper.semAt ro ρ { dst := d, op := .call { callee := .builtin .append, args := #[s, x], argTypes := #[t, t] }, type := ty, pos := p, after := af, guard := g } = appendSem t ty #[ρ s, ρ x] := by
  cases ro <;> simp [Oper.semAt, execOp, resolve, invoke, builtin, appendSem]
theorem exec_append (ρ : Operand → Value) (d : Option Tmp) (p : String) (af : Array Edge) (g : Option (Nat × Bool)) (s x : Operand) (t ty : TypeId) :
    execOp ρ { dst := d, op := .call { callee := .builtin .append, args := #[s, x], argTypes := #[t, t] }, type := ty, pos := p, after := af, guard := g } = appendSem t ty #[ρ s, ρ x] := by
  simp [execOp, resolve, invoke, builtin, appendSem]
attribute [local go_sem ↓ high] semAt_append exec_append
attribute [local go_sem high] semAt_append exec_append
theorem run_appendSem {P : Program} {t ty : TypeId} {args : Array Value} {w w' : World} {v : Value} (h : (Builtin.append_ #[t, t] ty args).run P w = .ok v w') : (appendSem t ty args).run P w = .ok (.value v) w' := by
  unfold appendSem
  rw [Sem.run_bind, h]
  rfl
set_option maxRecDepth 100000 in
set_option maxHeartbeats 8000000 in
theorem Text_ok (A : Option Addr) (cap : Nat) (l : List Pl) (hl : l.length ≤ 64) (w : World) (hA : PlAt w A l) (dec : Int → ByteArray) (joined : ByteArray)
    (hname : ∀ x ∈ l, x.1.size ≤ 120) (hdec : ∀ x ∈ l, (dec x.2).size ≤ 21)
    (hchk : Calls Tryd.prog 14 #[.slice A l.length cap] w fun e w' => e = .returned (.int .i64 0) ∧ Below w.heap.size w w')
    (hItoa : ∀ x ∈ l, ∀ W, Below w.heap.size w W → Calls Tryd.prog 46 #[.int .i64 x.2] W fun e w' => e = .returned (.string (dec x.2)) ∧ Below W.heap.size W w')
    (hJoin : ∀ W v base, Below w.heap.size w W → W.ownsRow base 9 1 v l.length (l.reverse.map fun x => .string (ptxt dec x)) → Calls Tryd.prog 47 #[v, .string ⟨#[32, 60, 32]⟩] W fun e w' => e = .returned (.string joined) ∧ Below W.heap.size W w') :
    Calls Tryd.prog 11 #[.slice A l.length cap] w fun e w' => e = .returned (.tuple #[.string joined, .int .i64 0]) ∧ Below w.heap.size w w' := by
  have HN := Lib.hid hname
  have HD := Lib.hid hdec
  have HIT := Lib.hid hItoa
  have HJN := Lib.hid hJoin
  have HA := Lib.hid hA
  clear hname hdec hItoa hJoin hA
  refine (callsIn_wide (n := 3)).1 ?_
  refine callsIn_of_wp_marks Tryd.func11 rfl trivial ?_ rfl
  simp only [Tryd.ntmps11, List.size_toArray, List.length_cons, List.length_nil, Nat.reduceAdd, Nat.reduceSub, Array.replicate_succ, Array.replicate_zero, List.push_toArray, List.append_toArray, List.nil_append, List.cons_append]
  gi_wp2_with (first | (refine ⟨trivial, ?_⟩; gi_at_call 14; refine (callsIn_wide.2 hchk).mono ?_; rintro e w1 ⟨rfl, hb1⟩) | (refine ⟨trivial, ?_⟩; gi_at_call 45; refine (Backward_in Fence.wide 2 trivial rfl _ _ _ _).mono ?_; rintro e w' ⟨rfl, rfl⟩))
  have bW := (Boxed.new w1 56 (.slice none 0 0)).alloc (.cells #[.slice A l.length cap] 23)
  have bS := Boxed.new (w1.alloc (.cells #[.slice none 0 0] 56)) 23 (.slice A l.length cap)
  simp only [World.size_alloc] at bS
  have hB0 : Below w.heap.size w ((w1.alloc (.cells #[.slice none 0 0] 56)).alloc (.cells #[.slice A l.length cap] 23)) := ((hb1.alloc hb1.size _).alloc (by have := hb1.size; simp; omega) _)
  have hsz : ((w1.alloc (.cells #[.slice none 0 0] 56)).alloc (.cells #[.slice A l.length cap] 23)).heap.size = w1.heap.size + 2 := by simp
  obtain ⟨W0, hW0⟩ : ∃ W0, (w1.alloc (.cells #[.slice none 0 0] 56)).alloc (.cells #[.slice A l.length cap] 23) = W0 := ⟨_, rfl⟩
  rw [hW0] at bW bS hB0 hsz ⊢
  clear hW0
  have hsw := hb1.size
  refine wpIn_rangeFunc_ownH (α := Ip l) (F := Fence.wide) (n := 3) rfl (by decide) (gf := 75) (lb := #[.pointer (some ⟨w1.heap.size + 1, 0, none⟩)]) rfl trivial (enters_of Tryd.func75 (by kernel_rfl) rfl)
    (Backward_stops Fence.wide 2 trivial rfl (by decide) (w1.heap.size + 1) w1.heap.size (w1.heap.size + 2) A cap l (by omega) W0 (by omega) (by omega) (by omega) bS.cell (fun j hj => by
      obtain ⟨ad, e, hlt, h1, h2⟩ := (HA.out.below hB0) j hj
      obtain ⟨ad', e', hlt', _, _⟩ := HA.out j hj
      rw [e] at e'; cases e'
      exact ⟨ad, e, by omega, by omega, h1, h2⟩)) (fun h k => KpB.trans h k) (fun W l o o' hl _ _ _ => KpB.put W l o' (by omega)) (Below.refl _ _) (fun _ => rfl)
    (fun (pre : List (Ip l)) W => (∃ v, Boxed W w1.heap.size 56 v ∧ W.ownsRow (w1.heap.size + 2) 9 1 v pre.length (pre.map fun x => .string (ptxt dec x.1.2)) ∧ True) ∧ Below w1.heap.size W0 W)
    (fun _ _ _ => False)
    (OwnFrom.and (Own.from (holdsRow_own (w1.heap.size + 2) w1.heap.size 56 9 1 (fun (pre : List (Ip l)) => pre.length) (fun (pre : List (Ip l)) => pre.map fun x => .string (ptxt dec x.1.2)) (fun _ _ => True)) _) (ownFrom_below (n₀ := w1.heap.size) (w₀ := W0) (by omega) (by omega)))
    (fun _ _ _ _ _ hs _ _ => hs)
    ⟨⟨_, bW, World.ownsRow_nil _ _ _ _, trivial⟩, Below.refl _ _⟩
    (fun (x : Ip l) a' W => ∃ Bx, w1.heap.size < Bx ∧ W.heap[Bx]? = some (.cells #[.string x.1.2.1, .int .i64 x.1.2.2] 60 (0, 0)) ∧ a' = { tmps := #[.slice A l.length cap, undef, .string ⟨#[]⟩, .int .i64 0, .int .i64 0, .pointer (some ⟨w1.heap.size, 0, none⟩), undef, .pointer (some ⟨Bx, 0, none⟩), .slice A l.length cap, .int .i64 0, .int .i64 0, .bool false, undef, .slice A l.length cap, .func (.func 75) #[] #[.pointer (some ⟨w1.heap.size + 1, 0, none⟩)], .int .i64 x.1.1, .agg #[.string x.1.2.1, .int .i64 x.1.2.2], undef, undef, undef, undef, undef, undef, undef, undef, undef, undef, undef, undef], defers := [] })
    (fun x a' _ X Y row hs hg hr => by obtain ⟨Bx, h1, h2, h3⟩ := hs; exact ⟨Bx, h1, cells_own Bx 60 (fun (_ : Unit) => #[.string x.1.2.1, .int .i64 x.1.2.2]) () X Y row h2 hg (fun r e => (hr r e).2), h3⟩)
    ?assign ?body ?done ?stop
  case assign =>
    rintro lp pre x W K ⟨⟨v, hv, hrow, _⟩, hB1⟩ hK
    gi_wp2
    exact hK _ _ ((KeepsOthers.alloc _ _).from _) (KpB.of_below ((Below.refl W.heap.size W).alloc (Nat.le_refl _) _) (by have := hB1.size; omega)) ⟨⟨v, hv.alloc _, hrow.alloc _, trivial⟩, hB1.alloc (by have := hB1.size; omega) _⟩ ⟨W.heap.size, hv.lt, heap_alloc_new W _, rfl⟩
  case body =>
    rintro lp pre x a' W hlp ⟨r, hr⟩ ⟨⟨v, hv, hrow, _⟩, hB1⟩ ⟨Bx, hBx, bX, rfl⟩ hlt
    have hn := HN.out x.1.2 x.2
    have hd := HD.out x.1.2 x.2
    have hd1 : x.1.2.1.size + 1 + (dec x.1.2.2).size ≤ 9223372036854775807 := by omega
    have hn1 : x.1.2.1.size + 1 ≤ 9223372036854775807 := by omega
    have cX0 := cell_of_row W Bx 0 _ _ _ bX
    have cX1 := cell_of_row W Bx 1 _ _ _ bX
    have cS := hv.cell
    have fS := hv.frozen
    have hsW := hB1.size
    have hBW : Below w.heap.size w W := hB0.trans (hB1.mono hsw)
    have hpl : pre.length ≤ 64 := by omega
    have hBxl : Bx < W.heap.size := (Array.getElem?_eq_some_iff.1 bX).1
    have HBX := Lib.hid bX
    clear bX
    have HV := Lib.hid hv
    have HROW := Lib.hid hrow
    have HBW := Lib.hid hBW
    have HB1 := Lib.hid hB1
    have HS := Lib.hid hsz
    clear hv hrow bS bW hB0 hB1 hBW hchk hb1 hsz hr hlt
    gi_wp2
    refine regionIn_held (S := fun w' => w'.cell? ⟨Bx, 0, none⟩ = some (.string x.1.2.1) ∧ w'.cell? ⟨Bx, 1, none⟩ = some (.int .i64 x.1.2.2)) (by kernel_rfl) (by kernel_rfl) (by rintro ⟨_, _, h⟩; exact h) ?_
    have hS0 : W.drew.cell? ⟨Bx, 0, none⟩ = some (.string x.1.2.1) ∧ W.drew.cell? ⟨Bx, 1, none⟩ = some (.int .i64 x.1.2.2) := ⟨cX0, cX1⟩
    have HS0 := Lib.hid hS0
    clear hS0
    refine wpAnyH_take (i := 1) (v := .pointer (some ⟨Bx, 0, none⟩)) rfl (by kernel_rfl) (by kernel_rfl) (by kernel_rfl) (fun _ _ _ h => h) (Or.inl ⟨by rfl, ?_⟩) HS0.out ?_
    · rintro w' ⟨s1, s2⟩
      go_simp
    refine wpAnyH_take (i := 2) (v := .string x.1.2.1) rfl (by kernel_rfl) (by kernel_rfl) (by kernel_rfl) (fun _ _ _ h => h) (Or.inl ⟨by rfl, ?_⟩) HS0.out ?_
    · rintro w' ⟨s1, s2⟩
      go_simp
    refine wpAnyH_take (i := 3) (v := .string (x.1.2.1 ++ (⟨#[58]⟩ : ByteArray))) rfl (by kernel_rfl) (by kernel_rfl) (by kernel_rfl) (fun _ _ _ h => h) (Or.inl ⟨by rfl, ?_⟩) HS0.out ?_
    · rintro w' ⟨s1, s2⟩
      go_simp
    refine wpAnyH_take (i := 4) (v := .pointer (some ⟨Bx, 1, none⟩)) rfl (by kernel_rfl) (by kernel_rfl) (by kernel_rfl) (fun _ _ _ h => h) (Or.inl ⟨by rfl, ?_⟩) HS0.out ?_
    · rintro w' ⟨s1, s2⟩
      go_simp
    refine wpAnyH_take (i := 5) (v := .int .i64 x.1.2.2) rfl (by kernel_rfl) (by kernel_rfl) (by kernel_rfl) (fun _ _ _ h => h) (Or.inl ⟨by rfl, ?_⟩) HS0.out ?_
    · rintro w' ⟨s1, s2⟩
      go_simp
    simp only [Act.put, List.setIfInBounds_toArray]
    refine wpAnyH_all (rs := [0, 6]) (by kernel_rfl) (by simp) ?_
    intro i hi
    simp only [List.mem_cons, List.mem_nil_iff, or_false] at hi
    rcases hi with rfl | rfl
    · have cS0 := HV.out.cell
      refine wpOp_step rfl (fun K hK => ?_)
      have HK := Lib.hid hK
      clear hK
      go_simp
      refine HK.out _ _ ⟨HS0.out, ?_⟩
      clear HK cS0
      refine wpAnyH_all (rs := [6]) (by kernel_rfl) (by simp) ?_
      intro i hi
      obtain rfl : i = 6 := by simpa using hi
      clear hi
      refine wpOp_step rfl (fun K hK => ?_)
      have HK := Lib.hid hK
      clear hK
      go_simp
      go_at_call 46
      refine (HIT.out x.1.2 x.2 _ HBW.out.drew).mono ?_
      rintro e w2 ⟨rfl, hb2⟩
      have hb2' := undrew hb2
      obtain ⟨g3, cap3, w3, hrun3, k1, k2, kf, k3⟩ := text_step (B := W0.heap.size) (n₁ := w1.heap.size + 2) (ptxt dec x.1.2) HV.out HROW.out (by omega) (by omega) hb2' hpl
      have hX3 := kf Bx _ HBX.out
      have s20 := (hb2'.cell (p := ⟨Bx, 0, none⟩) hBxl).trans cX0
      have s21 := (hb2'.cell (p := ⟨Bx, 1, none⟩) hBxl).trans cX1
      have s30 := (World.cell?_of_block (w := W) (a := ⟨Bx, 0, none⟩) hX3).trans cX0
      have s31 := (World.cell?_of_block (w := W) (a := ⟨Bx, 1, none⟩) hX3).trans cX1
      have l2 : Bx < w2.heap.size := by have := hb2'.size; omega
      have cW2 := (hb2'.cell (p := ⟨w1.heap.size, 0, none⟩) HV.out.lt).trans HV.out.cell
      have l3 : w1.heap.size < w2.heap.size := by have := hb2'.size; omega
      have HRUN := Lib.hid hrun3
      have K3 := Lib.hid k3
      have HB2 := Lib.hid hb2'
      clear hrun3 k3 kf hX3 hb2 hb2'
      refine HK.out _ _ ⟨⟨s20, s21⟩, ?_⟩
      clear HK
      refine wpAnyH_take (i := 7) (v := .string (x.1.2.1 ++ (⟨#[58]⟩ : ByteArray) ++ dec x.1.2.2)) rfl (by kernel_rfl) (by kernel_rfl) (by kernel_rfl) (fun _ _ _ h => h) (Or.inl ⟨by rfl, ?_⟩) ⟨s20, s21⟩ ?_
      · rintro w' ⟨_, _⟩
        go_simp
      simp only [Act.put, List.setIfInBounds_toArray]
      refine wpAnyH_all (rs := [8]) (by kernel_rfl) (by simp) ?_
      intro i hi
      obtain rfl : i = 8 := by simpa using hi
      clear hi
      refine wpOp_step rfl (fun K hK => ?_)
      have HK := Lib.hid hK
      clear hK
      go_simp
      refine HK.out _ _ ⟨⟨(World.cell?_alloc_lt _ _ _ (by exact l2)).trans s20, (World.cell?_alloc_lt _ _ _ (by exact l2)).trans s21⟩, ?_⟩
      clear HK
      refine wpAnyH_all (rs := [9]) (by kernel_rfl) (by simp) ?_
      intro i hi
      obtain rfl : i = 9 := by simpa using hi
      clear hi
      have hrun3 := run_appendSem HRUN.out
      unfold ptxt at hrun3
      refine wpOp_step rfl (fun K hK => ?_)
      have HK := Lib.hid hK
      clear hK
      go_simp
      clear hrun3
      refine HK.out _ _ ⟨⟨s30, s31⟩, ?_⟩
      clear HK
      refine wpAnyH_all (rs := [10]) (by kernel_rfl) (by simp) ?_
      intro i hi
      obtain rfl : i = 10 := by simpa using hi
      clear hi
      refine wpOp_step rfl (fun K hK => ?_)
      have HK := Lib.hid hK
      clear hK
      go_simp
      refine HK.out _ _ ⟨⟨(World.cell?_setCell_other _ _ _ _ (by simp <;> omega)).trans s30, (World.cell?_setCell_other _ _ _ _ (by simp <;> omega)).trans s31⟩, ?_⟩
      refine wpAnyH_done (by kernel_rfl) ?_ _
      exact ⟨K3.out.keeps, K3.out.kp, ⟨_, K3.out.box, by rw [List.length_append, List.map_append]; exact K3.out.row, trivial⟩, HB1.out.trans K3.out.below⟩
    · refine wpOp_step rfl (fun K hK => ?_)
      have HK := Lib.hid hK
      clear hK
      go_simp
      go_at_call 46
      refine (HIT.out x.1.2 x.2 _ HBW.out.drew).mono ?_
      rintro e w2 ⟨rfl, hb2⟩
      have hb2' := undrew hb2
      obtain ⟨g3, cap3, w3, hrun3, k1, k2, kf, k3⟩ := text_step (B := W0.heap.size) (n₁ := w1.heap.size + 2) (ptxt dec x.1.2) HV.out HROW.out (by omega) (by omega) hb2' hpl
      have hX3 := kf Bx _ HBX.out
      have s20 := (hb2'.cell (p := ⟨Bx, 0, none⟩) hBxl).trans cX0
      have s21 := (hb2'.cell (p := ⟨Bx, 1, none⟩) hBxl).trans cX1
      have s30 := (World.cell?_of_block (w := W) (a := ⟨Bx, 0, none⟩) hX3).trans cX0
      have s31 := (World.cell?_of_block (w := W) (a := ⟨Bx, 1, none⟩) hX3).trans cX1
      have l2 : Bx < w2.heap.size := by have := hb2'.size; omega
      have cW2 := (hb2'.cell (p := ⟨w1.heap.size, 0, none⟩) HV.out.lt).trans HV.out.cell
      have l3 : w1.heap.size < w2.heap.size := by have := hb2'.size; omega
      have HRUN := Lib.hid hrun3
      have K3 := Lib.hid k3
      have HB2 := Lib.hid hb2'
      clear hrun3 k3 kf hX3 hb2 hb2'
      refine HK.out _ _ ⟨⟨s20, s21⟩, ?_⟩
      clear HK
      refine wpAnyH_take (i := 7) (v := .string (x.1.2.1 ++ (⟨#[58]⟩ : ByteArray) ++ dec x.1.2.2)) rfl (by kernel_rfl) (by kernel_rfl) (by kernel_rfl) (fun _ _ _ h => h) (Or.inl ⟨by rfl, ?_⟩) ⟨s20, s21⟩ ?_
      · rintro w' ⟨_, _⟩
        go_simp
      simp only [Act.put, List.setIfInBounds_toArray]
      refine wpAnyH_all (rs := [0, 8]) (by kernel_rfl) (by simp) ?_
      intro i hi
      simp only [List.mem_cons, List.mem_nil_iff, or_false] at hi
      rcases hi with rfl | rfl
      · refine wpOp_step rfl (fun K hK => ?_)
        have HK := Lib.hid hK
        clear hK
        go_simp
        refine HK.out _ _ ⟨⟨s20, s21⟩, ?_⟩
        clear HK
        refine wpAnyH_all (rs := [8]) (by kernel_rfl) (by simp) ?_
        intro i hi
        obtain rfl : i = 8 := by simpa using hi
        clear hi
        refine wpOp_step rfl (fun K hK => ?_)
        have HK := Lib.hid hK
        clear hK
        go_simp
        refine HK.out _ _ ⟨⟨(World.cell?_alloc_lt _ _ _ (by exact l2)).trans s20, (World.cell?_alloc_lt _ _ _ (by exact l2)).trans s21⟩, ?_⟩
        clear HK
        refine wpAnyH_all (rs := [9]) (by kernel_rfl) (by simp) ?_
        intro i hi
        obtain rfl : i = 9 := by simpa using hi
        clear hi
        have hrun3 := run_appendSem HRUN.out
        unfold ptxt at hrun3
        refine wpOp_step rfl (fun K hK => ?_)
        have HK := Lib.hid hK
        clear hK
        go_simp
        clear hrun3
        refine HK.out _ _ ⟨⟨s30, s31⟩, ?_⟩
        clear HK
        refine wpAnyH_all (rs := [10]) (by kernel_rfl) (by simp) ?_
        intro i hi
        obtain rfl : i = 10 := by simpa using hi
        clear hi
        refine wpOp_step rfl (fun K hK => ?_)
        have HK := Lib.hid hK
        clear hK
        go_simp
        refine HK.out _ _ ⟨⟨(World.cell?_setCell_other _ _ _ _ (by simp <;> omega)).trans s30, (World.cell?_setCell_other _ _ _ _ (by simp <;> omega)).trans s31⟩, ?_⟩
        refine wpAnyH_done (by kernel_rfl) ?_ _
        exact ⟨K3.out.keeps, K3.out.kp, ⟨_, K3.out.box, by rw [List.length_append, List.map_append]; exact K3.out.row, trivial⟩, HB1.out.trans K3.out.below⟩
      · refine wpOp_step rfl (fun K hK => ?_)
        have HK := Lib.hid hK
        clear hK
        go_simp
        refine HK.out _ _ ⟨⟨(World.cell?_alloc_lt _ _ _ (by exact l2)).trans s20, (World.cell?_alloc_lt _ _ _ (by exact l2)).trans s21⟩, ?_⟩
        clear HK
        refine wpAnyH_all (rs := [0]) (by kernel_rfl) (by simp) ?_
        intro i hi
        obtain rfl : i = 0 := by simpa using hi
        clear hi
        have cW3 := (World.cell?_alloc_lt w2 (.cells #[.string (x.1.2.1 ++ (⟨#[58]⟩ : ByteArray) ++ dec x.1.2.2)] 9) ⟨w1.heap.size, 0, none⟩ (by exact l3)).trans cW2
        refine wpOp_step rfl (fun K hK => ?_)
        have HK := Lib.hid hK
        clear hK
        go_simp
        refine HK.out _ _ ⟨⟨(World.cell?_alloc_lt _ _ _ (by exact l2)).trans s20, (World.cell?_alloc_lt _ _ _ (by exact l2)).trans s21⟩, ?_⟩
        clear HK
        refine wpAnyH_all (rs := [9]) (by kernel_rfl) (by simp) ?_
        intro i hi
        obtain rfl : i = 9 := by simpa using hi
        clear hi
        have hrun3 := run_appendSem HRUN.out
        unfold ptxt at hrun3
        refine wpOp_step rfl (fun K hK => ?_)
        have HK := Lib.hid hK
        clear hK
        go_simp
        clear hrun3
        refine HK.out _ _ ⟨⟨s30, s31⟩, ?_⟩
        clear HK
        refine wpAnyH_all (rs := [10]) (by kernel_rfl) (by simp) ?_
        intro i hi
        obtain rfl : i = 10 := by simpa using hi
        clear hi
        refine wpOp_step rfl (fun K hK => ?_)
        have HK := Lib.hid hK
        clear hK
        go_simp
        refine HK.out _ _ ⟨⟨(World.cell?_setCell_other _ _ _ _ (by simp <;> omega)).trans s30, (World.cell?_setCell_other _ _ _ _ (by simp <;> omega)).trans s31⟩, ?_⟩
        refine wpAnyH_done (by kernel_rfl) ?_ _
        exact ⟨K3.out.keeps, K3.out.kp, ⟨_, K3.out.box, by rw [List.length_append, List.map_append]; exact K3.out.row, trivial⟩, HB1.out.trans K3.out.below⟩
  case done =>
    rintro D zs W hD hzs ⟨⟨v, hv, hrow, _⟩, hB1⟩ hK
    have cS := hv.cell
    have hlen : zs.length = l.length := by have := congrArg List.length hzs; simpa using this
    have hrowJ : W.ownsRow (w1.heap.size + 2) 9 1 v l.length (l.reverse.map fun x => .string (ptxt dec x)) := by
      rw [← hlen, ← hzs, List.map_map]
      exact hrow
    have hBW : Below w.heap.size w W := hB0.trans (hB1.mono hsw)
    have HROW := Lib.hid hrowJ
    clear hrow hrowJ hzs
    have HDL : D < W.heap.size := (Array.getElem?_eq_some_iff.1 hK).1
    have HK := Lib.hid hK
    clear hK
    gi_wp2_with (refine ⟨trivial, ?_⟩; gi_at_call 47; refine (callsIn_wide.2 (HJN.out _ v _ hBW HROW.out)).mono ?_; rintro e w5 ⟨rfl, hb5⟩)
    have hK5 := (hb5.block D HDL).trans HK.out
    refine ⟨by simp, .inl ⟨_, _, rfl, run_takeDeferred hK5, ?_⟩⟩
    exact ⟨_, results_tmp2 rfl _ _ _, rfl, (hBW.trans (hb5.mono hBW.size)).trans (belowK_b (w := w) (Nat.le_refl _) w5 D _ _ (by omega) hK5 rfl rfl)⟩
  case stop =>
    rintro D c pre W _ _ h _
    exact h.elim
end Go.Proofs.YtmgfdcfbjgokgaaDoor
