/- Small laws for the walks that make a rule flat. -/
import Derived.Test.YtlejmlkojohnbaaFlatP
import Derived.Test.YtlejmlkojohnbaaProg
import Derived.Laws.Rows
import Derived.Laws.Tables
namespace Go.Proofs.Ytlejmlkojohnbaa
open Go.RowKit
theorem infoF_tR : (Try.prog.info? 29).map (fun i => (i.zero, i.size, i.bytes)) = some (some (.agg #[.int .u8 0, .int .i64 0, .int .i64 0, .float .f64 0, .float .f64 0, .string ⟨#[]⟩, .slice none 0 0]), 7, 80) := by kernel_rfl
theorem infoF_tD : (Try.prog.info? 25).map (fun i => (i.zero, i.size, i.bytes)) = some (some (.agg #[.int .u8 0, .int .i64 0, .int .i64 0, .float .f64 0, .float .f64 0, .string ⟨#[]⟩, .slice none 0 0]), 7, 80) := by kernel_rfl
/-- A local variable is written over with what a call gave: the world behind it. -/
theorem var_store {wr w1 : World} {o : Array Value} {e : TypeId} {t : Tr} {c : List Value} {G : List Nat} (hb1 : Below (wr.alloc (.cells o e)).heap.size (wr.alloc (.cells o e)) w1) (hown : t.own 7 w1 c G)
    (hap : Apart (wr.alloc (.cells o e)).heap.size G) (hso : Soft w1 G) :
    ∃ W2, W2 = w1.setRow wr.heap.size c.toArray ∧ w1.heap[wr.heap.size]? = some (.cells o e (0, 0)) ∧ (∀ j, W2.cell? ⟨wr.heap.size, j, none⟩ = c.toArray[j]?) ∧ Below wr.heap.size wr W2 ∧ t.own 7 W2 c G ∧ Apart (wr.heap.size + 1) G ∧ Soft W2 G := by
  have hV : w1.heap[wr.heap.size]? = some (.cells o e (0, 0)) := (hb1.block _ (by simp)).trans (heap_alloc_new wr _)
  have hap' : Apart (wr.heap.size + 1) G := by simpa using hap
  have hne : ∀ b ∈ G, (w1.setRow wr.heap.size c.toArray).heap[b]? = w1.heap[b]? := fun b hb => setRow_other _ _ _ _ (by have := hap'.2 b hb; omega)
  refine ⟨_, rfl, hV, fun j => cell_of_row _ _ _ _ _ _ (setRow_heap w1 _ _ _ _ _ hV), ?_, Tr.own_same _ _ _ hne hown, hap', hso.same hne⟩
  have h0 : Below wr.heap.size wr w1 := (bnew (Below.refl _ wr) (.cells o e)).trans (hb1.mono (by simp))
  exact h0.trans ⟨rfl, rfl, rfl, by simp, fun i hi => setRow_other _ _ _ _ (by omega)⟩
/-- The list of a rule that was made. -/
theorem kids_of {op n m : Int} {x y : Nat} {s : ByteArray} {rs : List Rl} {W : World} {a : Option Addr} {cap lo : Nat} {G : List Nat}
    (h : (Rl.mk op n m x y s rs).tr.own 7 W [.int .u8 op, .int .i64 n, .int .i64 m, .float .f64 x, .float .f64 y, .string s, .slice a rs.length cap] G) (hap : Apart lo G) (hso : Soft W G) :
    ∃ cs G', Tr.ownL 7 W (Rl.trs rs) cs G' ∧ (0 < rs.length → ∃ b off, a = some ⟨b, off, none⟩ ∧ W.rangeAt b off cs) ∧ Apart lo G' ∧ Soft W G' := by
  obtain ⟨a', cap', hc, _, _, h1⟩ := Rl.open h
  simp only [List.cons.injEq, and_true, true_and, Value.slice.injEq] at hc
  obtain ⟨rfl, rfl⟩ := hc
  rcases h1 with ⟨h0, rfl⟩ | ⟨h0, b, o, cs, F', rfl, rfl, h2, h3⟩
  · obtain rfl : rs = [] := List.eq_nil_of_length_eq_zero h0
    exact ⟨[], [], by simp [Rl.trs, Tr.ownL], fun h => absurd h (by simp), Apart.nil _, Soft.nil _⟩
  · exact ⟨cs, F', h3, fun _ => ⟨b, o, rfl, h2⟩, hap.tail.1, fun i hi => hso i (by simp [hi])⟩
theorem run_storeVar_cell {P : Program} (w : World) (g j : Nat) (t ty : TypeId) (old : Array Value) (v : Value) (hg : w.heap[g]? = some (.cells old t (0, 0))) (hj : j < old.size) (hi : (P.info? ty).map (·.size) = some 1)
    (h1 : v.oneCell' = true) : (storeVar ty ⟨g, j, none⟩ v).run P w = .ok () (w.setRow g (old.setIfInBounds j v)) := by
  have hcell : w.cell? ⟨g, j, none⟩ = some old[j] := by simp [World.cell?, hg, hj]
  have hfro : w.frozen? ⟨g, j, none⟩ = false := by simp [World.frozen?, hg]
  have hst : (store (⟨g, j, none⟩ : Addr) v).run P w = .ok () (w.setRow g (old.setIfInBounds j v)) := by
    rw [run_store P w _ v _ h1, hcell]
    simp [hfro, setCell_eq_setRow w g j old t (0, 0) v hg]
  have hc : v.cells = #[v] := by cases v <;> first | rfl | cases h1
  cases hq : P.info? ty with
  | none => simp [hq] at hi
  | some i =>
    have hs : i.size = 1 := by simpa [hq] using hi
    simp [storeVar, sizeOf, typeInfo, hq, hc, hs, storeCells, Addr.add, hst, Result.andThen]
/-- One cell of a block that is known whole is stored. -/
theorem wpList_store_cell {P : Program} {ops : Array Oper} {rest : List Oper} {o : Oper} {a : Act} {w : World} {Q : Exit → Act → World → Prop} (hgd : o.guard = none) (ty : TypeId) (x y : Operand) (ho : o.op = .store ty x y)
    (g j : Nat) (hx : a.eval x = .pointer (some ⟨g, j, none⟩)) (v : Value) (hy : a.eval y = v) (h1 : v.oneCell' = true)
    (t : TypeId) (old : Array Value) (hg : w.heap[g]? = some (.cells old t (0, 0))) (hj : j < old.size) (hi : (P.info? ty).map (·.size) = some 1) (new : Array Value) (hnew : old.setIfInBounds j v = new)
    (h : wpList P ops Q rest (a.put o.dst undef) (w.setRow g new)) : wpList P ops Q (o :: rest) a w :=
  wpList_plain hgd fun _ hK => by
    unfold Oper.wp execOp
    simp only [ho, hx, hy, Instr.storeAt, Instr.sureAddr, Sem.run_bind, Sem.run_pure, Result.andThen_ok, run_storeVar_cell w g j t ty old _ hg hj hi h1, hnew]
    exact hK _ _ h
/-- The two blocks of a call's own that are written at its end: what else there is stays. -/
theorem flat_fin {w wr : World} {t : Tr} {c : List Value} {F : List Nat} {C0 C1 : Array Value} (hb : Below w.heap.size w wr) (hown : t.own 7 wr c F) (hap : Apart (w.heap.size + 2) F) (hso : Soft wr F) :
    t.own 7 ((wr.setRow w.heap.size C0).setRow (w.heap.size + 1) C1) c F ∧ Apart w.heap.size F ∧ Soft ((wr.setRow w.heap.size C0).setRow (w.heap.size + 1) C1) F ∧ Below w.heap.size w ((wr.setRow w.heap.size C0).setRow (w.heap.size + 1) C1) := by
  have hne : ∀ b ∈ F, ((wr.setRow w.heap.size C0).setRow (w.heap.size + 1) C1).heap[b]? = wr.heap[b]? := fun b hm => by
    have := hap.2 b hm
    rw [setRow_other _ _ _ _ (by omega), setRow_other _ _ _ _ (by omega)]
  exact ⟨Tr.own_same _ _ _ hne hown, hap.mono (by omega), hso.same hne, hb.trans ⟨rfl, rfl, rfl, by simp, fun i hi => by rw [setRow_other _ _ _ _ (by omega), setRow_other _ _ _ _ (by omega)]⟩⟩
/-- What a call gives that makes a rule anew, said of a rule whose root is told. -/
theorem gives_fin {w wr : World} {op n m : Int} {x y : Nat} {s : ByteArray} {rs : List Rl} {a : Option Addr} {ln cap : Nat} {F : List Nat} {C0 C1 : Array Value} (hb : Below w.heap.size w wr)
    (hown : (Rl.mk op n m x y s rs).tr.own 7 wr [.int .u8 op, .int .i64 n, .int .i64 m, .float .f64 x, .float .f64 y, .string s, .slice a ln cap] F) (hap : Apart (w.heap.size + 2) F) (hso : Soft wr F) :
    GivesR (Rl.mk op n m x y s rs) w (.returned (.agg #[.int .u8 op, .int .i64 n, .int .i64 m, .float .f64 x, .float .f64 y, .string s, .slice a ln cap])) ((wr.setRow w.heap.size C0).setRow (w.heap.size + 1) C1) := by
  obtain ⟨h1, h2, h3, h4⟩ := flat_fin (C0 := C0) (C1 := C1) hb hown hap hso
  exact ⟨_, _, _, _, _, _, _, F, rfl, h1, h2, h3, h4⟩
theorem gives_lit {w wr : World} {op : Int} {C0 C1 : Array Value} (hb : Below w.heap.size w wr) :
    GivesR (Rl.lit op) w (.returned (.agg #[.int .u8 op, .int .i64 0, .int .i64 0, .float .f64 0, .float .f64 0, .string ⟨#[]⟩, .slice none 0 0])) ((wr.setRow w.heap.size C0).setRow (w.heap.size + 1) C1) := by
  refine gives_fin (rs := []) hb ?_ (Apart.nil _) (Soft.nil _)
  unfold Rl.tr Rl.trs Tr.own
  exact ⟨none, 0, 0, rfl, rfl, by simp [Value.oneCell'], rfl, by omega, by omega, .inl ⟨rfl, rfl⟩⟩
/-- A kid at the head of a row, its cells in a world in which its block stands. -/
theorem kid_cells {w T : World} {rs : List Rl} {cs : List Value} {F : List Nat} {b o : Nat} (k : Nat) (hk : k < rs.length) (h : Tr.ownL 7 w (Rl.trs rs) cs F) (hc : w.rangeAt b o cs) (hT : T.heap[b]? = w.heap[b]?) :
    ∃ kop kn km kx ky ks krs ka kcap Fa F1 Fb, F = Fa ++ (F1 ++ Fb) ∧ rs[k] = Rl.mk kop kn km kx ky ks krs ∧ rs[k].tr.own 7 w [.int .u8 kop, .int .i64 kn, .int .i64 km, .float .f64 kx, .float .f64 ky, .string ks, .slice ka krs.length kcap] F1 ∧
      T.cell? ⟨b, o + k * 7, none⟩ = some (.int .u8 kop) ∧ T.cell? ⟨b, o + k * 7 + 1, none⟩ = some (.int .i64 kn) ∧ T.cell? ⟨b, o + k * 7 + 2, none⟩ = some (.int .i64 km) ∧ T.cell? ⟨b, o + k * 7 + 3, none⟩ = some (.float .f64 kx) ∧
      T.cell? ⟨b, o + k * 7 + 4, none⟩ = some (.float .f64 ky) ∧ T.cell? ⟨b, o + k * 7 + 5, none⟩ = some (.string ks) ∧ T.cell? ⟨b, o + k * 7 + 6, none⟩ = some (.slice ka krs.length kcap) := by
  obtain ⟨kop, kn, km, kx, ky, ks, krs, ka, kcap, Fa, F1, Fb, hF, hke, hkid, c0, c1, c2, c3, c4, c5, c6⟩ := Rl.kidO k hk h hc
  have ht : ∀ j, T.cell? ⟨b, j, none⟩ = w.cell? ⟨b, j, none⟩ := fun j => World.cell?_of_block (w := w) (a := ⟨b, j, none⟩) hT
  exact ⟨kop, kn, km, kx, ky, ks, krs, ka, kcap, Fa, F1, Fb, hF, hke, hkid, (ht _).trans c0, (ht _).trans c1, (ht _).trans c2, (ht _).trans c3, (ht _).trans c4, (ht _).trans c5, (ht _).trans c6⟩
theorem Apart.sub {lo : Nat} {Fa F1 Fb F : List Nat} (h : Apart lo F) (he : F = Fa ++ (F1 ++ Fb)) : Apart lo F1 := (he ▸ h).part
theorem Soft.sub {w : World} {Fa F1 Fb F : List Nat} (h : Soft w F) (he : F = Fa ++ (F1 ++ Fb)) : Soft w F1 := fun b hb o => h b (by rw [he]; simp [hb]) o
theorem list3 {α : Type} : ∀ l : List α, l = [] ∨ (∃ a, l = [a]) ∨ ∃ a b t, l = a :: b :: t
  | [] => .inl rfl
  | [a] => .inr (.inl ⟨a, rfl⟩)
  | a :: b :: t => .inr (.inr ⟨a, b, t, rfl⟩)
end Go.Proofs.Ytlejmlkojohnbaa
