/- What the walk of 'RuleFlats' uses: a call's answer put into a new variable. -/
import Derived.Test.YtlejmlkojohnbaaFlatF
import Derived.Test.YtlejmlkojohnbaaGood
import Derived.Test.YtlejmlkojohnbaaRFlatN
import Derived.Test.YtlejmlkojohnbaaGiven
import Derived.Test.YtlejmlkojohnbaaTold
import Derived.Test.YtlejmlkojohnbaaFew
import Derived.Test.YtlejmlkojohnbaaSame
import Derived.Test.YtlejmlkojohnbaaSpoil
namespace Go.Proofs.Ytlejmlkojohnbaa
open Go.RowKit
/-- A call's answer is put into a new variable. -/
theorem var_put {w2 : World} {lo : Nat} {z C : Array Value} {e : TypeId} {t : Tr} {c : List Value} {G : List Nat} (hown : t.own 7 w2 c G) (hap : Apart lo G) (hso : Soft w2 G) (hC : C = c.toArray) :
    ∃ W3, W3 = (w2.alloc (.cells z e)).setRow w2.heap.size C ∧ W3.heap[w2.heap.size]? = some (.cells C e (0, 0)) ∧ (∀ j, W3.cell? ⟨w2.heap.size, j, none⟩ = C[j]?) ∧ Below w2.heap.size w2 W3 ∧ W3.heap.size = w2.heap.size + 1 ∧ t.own 7 W3 c G ∧ Soft W3 G := by
  have hlt := Tr.own_lt _ _ _ hown
  have hV := heap_alloc_new w2 (.cells z e)
  have hne : ∀ b, b < w2.heap.size → ((w2.alloc (.cells z e)).setRow w2.heap.size C).heap[b]? = w2.heap[b]? := fun b hb => (setRow_other _ _ _ _ (by omega)).trans (Below.heap_alloc _ _ _ hb)
  refine ⟨_, rfl, setRow_heap _ _ _ _ _ _ hV, fun j => cell_of_row _ _ _ _ _ _ (setRow_heap _ _ _ _ _ _ hV), ⟨rfl, rfl, rfl, by simp, hne⟩, by simp, Tr.own_same _ _ _ (fun b hb => hne b (hlt b hb)) hown, hso.same fun b hb => hne b (hlt b hb)⟩
/-- The same where the answer is plain. -/
theorem var_put0 (w2 : World) (z C : Array Value) (e : TypeId) :
    ∃ W3, W3 = (w2.alloc (.cells z e)).setRow w2.heap.size C ∧ W3.heap[w2.heap.size]? = some (.cells C e (0, 0)) ∧ (∀ j, W3.cell? ⟨w2.heap.size, j, none⟩ = C[j]?) ∧ Below w2.heap.size w2 W3 ∧ W3.heap.size = w2.heap.size + 1 := by
  have hV := heap_alloc_new w2 (.cells z e)
  have hne : ∀ b, b < w2.heap.size → ((w2.alloc (.cells z e)).setRow w2.heap.size C).heap[b]? = w2.heap[b]? := fun b hb => (setRow_other _ _ _ _ (by omega)).trans (Below.heap_alloc _ _ _ hb)
  exact ⟨_, rfl, setRow_heap _ _ _ _ _ _ hV, fun j => cell_of_row _ _ _ _ _ _ (setRow_heap _ _ _ _ _ _ hV), ⟨rfl, rfl, rfl, by simp, hne⟩, by simp⟩
theorem cells_kept {w w' : World} {B b : Nat} {C : Array Value} (h : ∀ j, w.cell? ⟨b, j, none⟩ = C[j]?) (hb : Below B w w') (hl : b < B) : ∀ j, w'.cell? ⟨b, j, none⟩ = C[j]? := fun j =>
  (World.cell?_of_block (w := w) (a := ⟨b, j, none⟩) (hb.block b hl)).trans (h j)
def zeroRl : Rl := Rl.lit 0
theorem zero_own (w : World) : zeroRl.tr.own 7 w [.int .u8 0, .int .i64 0, .int .i64 0, .float .f64 0, .float .f64 0, .string ⟨#[]⟩, .slice none 0 0] [] := by
  unfold zeroRl Rl.lit Rl.tr Rl.trs Tr.own
  exact ⟨none, 0, 0, rfl, rfl, by simp [Value.oneCell'], rfl, by omega, by omega, .inl ⟨rfl, rfl⟩⟩
/-- What a call tells that makes a rule anew of a rule whose root is known. -/
theorem Calls.told {f : Nat} {args : Array Value} {W : World} {op n m : Int} {x y : Nat} {s : ByteArray} {rs : List Rl} (h : Calls Try.prog f args W (GivesR (Rl.mk op n m x y s rs) W)) :
    Calls Try.prog f args W fun e w' => ∃ a cap F, e = .returned (.agg #[.int .u8 op, .int .i64 n, .int .i64 m, .float .f64 x, .float .f64 y, .string s, .slice a rs.length cap]) ∧
      (Rl.mk op n m x y s rs).tr.own 7 w' [.int .u8 op, .int .i64 n, .int .i64 m, .float .f64 x, .float .f64 y, .string s, .slice a rs.length cap] F ∧ Apart W.heap.size F ∧ Soft w' F ∧ Below W.heap.size W w' := h.mono fun _ _ h2 => GivesR.told h2
def LawIs (w : World) (e : Ending) (w' : World) : Prop := e = .returned (.bool true) ∧ Below w.heap.size w w'
end Go.Proofs.Ytlejmlkojohnbaa
