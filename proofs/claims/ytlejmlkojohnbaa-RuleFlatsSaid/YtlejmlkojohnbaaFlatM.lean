/- More small laws for the walk of 'errataref22.Flat'. -/
import Derived.Test.YtlejmlkojohnbaaFlatL
namespace Go.Proofs.Ytlejmlkojohnbaa
open Go.RowKit
/-- A new local variable holds what a call gave: the world behind it. -/
theorem var_new {wr w1 : World} {e : TypeId} {t : Tr} {c : List Value} {C : Array Value} {G : List Nat} {B : Nat} {o0 o2 : Obj} (hb1 : Below wr.heap.size wr w1) (hown : t.own 7 w1 c G) (hso : Soft w1 G) (hB : B + 3 ≤ wr.heap.size)
    (_ : wr.heap[B]? = some o0) (_ : wr.heap[B + 1 + 1]? = some o2) :
    Below wr.heap.size wr (w1.alloc (.cells C e)) ∧ t.own 7 (w1.alloc (.cells C e)) c G ∧ Soft (w1.alloc (.cells C e)) G ∧ (∀ ob j, (w1.alloc ob).cell? ⟨B, j, none⟩ = wr.cell? ⟨B, j, none⟩) ∧ (∀ ob j, (w1.alloc ob).cell? ⟨B + 1 + 1, j, none⟩ = wr.cell? ⟨B + 1 + 1, j, none⟩) := by
  have hs := hb1.size
  refine ⟨bnew hb1 _, Tr.own_below hown (bnew (Below.refl _ _) _), hso.same fun b hb => Below.heap_alloc _ _ _ (Tr.own_lt _ _ _ hown b hb), fun ob j => ?_, fun ob j => ?_⟩
  · exact (cell_new _ _ _ (by show B < _; omega)).trans (hb1.cell (p := ⟨B, j, none⟩) (by show B < _; omega))
  · exact (cell_new _ _ _ (by show B + 1 + 1 < _; omega)).trans (hb1.cell (p := ⟨B + 1 + 1, j, none⟩) (by show B + 1 + 1 < _; omega))
theorem Kids.setRow {sz : Nat} {e : TypeId} {base : Nat} {w : World} {v : Value} {ts : List Tr} {xs : List Value} {F : List Nat} (h : Kids sz e base w v ts xs F) (g : Nat) (hg : g < base) (C : Array Value) : Kids sz e base (w.setRow g C) v ts xs F :=
  h.wr (S := fun k => k = g) ⟨rfl, rfl, rfl, by simp, fun k _ hk => setRow_other _ _ _ _ hk⟩ fun k hk => by omega
/-- The same at the end of a call whose result alone is written. -/
theorem gives_finN {w wr W0 : World} {op n m : Int} {x y : Nat} {s : ByteArray} {rs : List Rl} {a : Option Addr} {ln cap : Nat} {F : List Nat} {C1 : Array Value} (hb : Below w.heap.size w wr)
    (hown : (Rl.mk op n m x y s rs).tr.own 7 wr [.int .u8 op, .int .i64 n, .int .i64 m, .float .f64 x, .float .f64 y, .string s, .slice a ln cap] F) (hap : Apart (w.heap.size + 3) F) (hso : Soft wr F)
    (h0 : Below wr.heap.size wr W0 := by first | exact Below.refl _ _ | exact bnew (Below.refl _ _) _ | exact Below.drew (Below.refl _ _)) :
    GivesR (Rl.mk op n m x y s rs) w (.returned (.agg #[.int .u8 op, .int .i64 n, .int .i64 m, .float .f64 x, .float .f64 y, .string s, .slice a ln cap])) (W0.setRow (w.heap.size + 1) C1) := by
  have hlt := Tr.own_lt _ _ _ hown
  have hne : ∀ b ∈ F, (W0.setRow (w.heap.size + 1) C1).heap[b]? = wr.heap[b]? := fun b hm => by
    have := hap.2 b hm
    rw [setRow_other _ _ _ _ (by omega)]
    exact h0.block b (hlt b hm)
  exact ⟨_, _, _, _, _, _, _, F, rfl, Tr.own_same _ _ _ hne hown, hap.mono (by omega), hso.same hne, (hb.trans (h0.mono hb.size)).trans ⟨rfl, rfl, rfl, by simp, fun i hi => setRow_other _ _ _ _ (by omega)⟩⟩
theorem gives_litN {w wr W0 : World} {op : Int} {C1 : Array Value} (hb : Below w.heap.size w wr)
    (h0 : Below wr.heap.size wr W0 := by first | exact Below.refl _ _ | exact bnew (Below.refl _ _) _ | exact Below.drew (Below.refl _ _)) :
    GivesR (Rl.lit op) w (.returned (.agg #[.int .u8 op, .int .i64 0, .int .i64 0, .float .f64 0, .float .f64 0, .string ⟨#[]⟩, .slice none 0 0])) (W0.setRow (w.heap.size + 1) C1) := by
  refine gives_finN (rs := []) hb ?_ (Apart.nil _) (Soft.nil _) h0
  unfold Rl.tr Rl.trs Tr.own
  exact ⟨none, 0, 0, rfl, rfl, by simp [Value.oneCell'], rfl, by omega, by omega, .inl ⟨rfl, rfl⟩⟩
theorem wpList_pushH {P : Program} {ops : Array Oper} {o : Oper} {a : Act} {Q : Exit → Act → World → Prop} {rest : List Oper} {wr w1 : World} (H : Nat) (hH : w1.heap.size = H) (hgd : o.guard = none) (s x : Operand) (t : TypeId) (ho : o.op = .call { callee := .builtin .append, args := #[s, x], argTypes := #[t, t] })
    (base : Nat) (e : TypeId) (i : TypeInfo) (z : Value) (size bytes : Nat) (ht : P.underlying t = some (.slice e)) (hi : P.info? e = some i) (hz : i.zero = some z)
    (hsize : i.size = size) (hby : i.bytes = bytes) (hzs : z.cells.size = size) (hsz : 0 < size)
    (v : Value) (ts : List Tr) (xs : List Value) (F : List Nat) (hs : a.eval s = v) (hk : Kids size e base wr v ts xs F) (hbase : base ≤ wr.heap.size) (hb : Below wr.heap.size wr w1)
    (tr : Tr) (c : List Value) (G : List Nat) (hown : tr.own size w1 c G) (hG : Apart wr.heap.size G) (hsoft : Soft w1 G) (hx : a.eval x = .slice (some ⟨H, 0, none⟩) 1 1) (hbytes : (ts.length + 1) * bytes ≤ 140737488355328) (hb0 : 0 < bytes)
    (h : ∀ g cap w', Kids size e base w' (.slice (some ⟨g, 0, none⟩) (ts.length + 1) cap) (ts ++ [tr]) (xs ++ c) (F ++ G) → w1.grownBy w' v.ownBlock → base ≤ g → g < w'.heap.size → wpList P ops Q rest (a.put o.dst (.slice (some ⟨g, 0, none⟩) (ts.length + 1) cap)) w') :
    wpList P ops Q (o :: rest) a (w1.alloc (.cells c.toArray e)) := by
  subst hH
  exact wpList_push hgd s x t ho base e i z size bytes ht hi hz hsize hby hzs hsz v ts xs F hs hk hbase hb tr c G hown hG hsoft hx hbytes hb0 h
end Go.Proofs.Ytlejmlkojohnbaa
