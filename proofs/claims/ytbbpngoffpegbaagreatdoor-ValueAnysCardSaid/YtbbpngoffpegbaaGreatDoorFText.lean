/- A text of bytes that grows by appends, beside a row of digits that stays. -/
import Derived.Test.YtbbpngoffpegbaaGreatDoorFDigits
import Derived.Deep.AppendLies
namespace Go.Proofs.YtbbpngoffpegbaaGreatDoor
open Go Go.RowKit
set_option linter.unusedVariables false
set_option linter.unusedSimpArgs false
def cellsB (l : List UInt8) : List Value := l.map encB
theorem cellsB_len (l : List UInt8) : (cellsB l).length = l.length := by simp [cellsB]
theorem cellsB_one (l : List UInt8) : ∀ u ∈ cellsB l, u.oneCell' = true := by
  intro u hu
  simp only [cellsB, List.mem_map] at hu
  obtain ⟨b, _, rfl⟩ := hu
  rfl
/-- The text so far in the row v, and the digits in the block b. -/
structure TX (B : Nat) (wb : World) (b : Nat) (ds : List UInt8) (v : Value) (l : List UInt8) (w : World) : Prop where
  own : w.ownsRow B 5 1 v l.length (cellsB l)
  bel : Below B wb w
  low : B ≤ w.heap.size
  dig : DigB w b ds
  blt : b < w.heap.size
  far : v.ownBlock ≠ some b
theorem TX.drewN {B : Nat} {wb : World} {b : Nat} {ds : List UInt8} {v : Value} {l : List UInt8} {w : World} (h : TX B wb b ds v l w) (n : Nat) : TX B wb b ds v l (w.drewN n) :=
  ⟨h.own.kept (row := none) ⟨rfl, rfl, rfl, Nat.le_refl _, fun _ _ _ => rfl⟩ (by cases v.ownBlock <;> simp), h.bel.trans ⟨rfl, rfl, rfl, Nat.le_refl _, fun _ _ => rfl⟩, h.low, h.dig, h.blt, h.far⟩
theorem info_u8k : (Tryz.prog.info? 5).map (fun i => (i.zero, i.size, i.bytes)) = some (some (.int .u8 0), 1, 1) := by kernel_rfl
theorem info_u8x : ∃ i, Tryz.prog.info? 5 = some i ∧ i.zero = some (.int .u8 0) ∧ i.size = 1 ∧ i.bytes = 1 := by
  have h := info_u8k
  cases hi : Tryz.prog.info? 5 with
  | none => rw [hi] at h; simp at h
  | some i => rw [hi] at h; simp at h; exact ⟨i, rfl, h.1, h.2.1, h.2.2⟩
/-- One append of some bytes that lie elsewhere, in a world that has only grown. -/
theorem TX.app {B : Nat} {wb : World} {b : Nat} {ds : List UInt8} {v : Value} {l : List UInt8} {w W : World} (h : TX B wb b ds v l w) (hW : Below w.heap.size w W) (x : List UInt8) (ad : Addr) (m c : Nat) (hm : x.length = m) (hm0 : 0 < m) (hx : ∀ j u, (cellsB x)[j]? = some u → W.cell? (ad.add j) = some u)
    (hl : l.length + m ≤ 100000) (ty : TypeId) : ∃ v' w', (Builtin.append_ #[32, 32] ty #[v, .slice (some ad) m c]).run Tryz.prog W = .ok v' w' ∧ TX B wb b ds v' (l ++ x) w' := by
  obtain ⟨i, hi, hz, hs, hb⟩ := info_u8x
  have hown : W.ownsRow B 5 1 v l.length (cellsB l) := h.own.kept (row := none) ⟨hW.os, hW.tape, hW.output, hW.size, fun k hk _ => hW.block k hk⟩ (by cases v.ownBlock <;> simp)
  have hlow : B ≤ W.heap.size := Nat.le_trans h.low hW.size
  obtain ⟨g, cap, w', hrun, ho, hg, hat, hlt⟩ := run_append_lies (P := Tryz.prog) (w := W) 32 ty B 5 i (.int .u8 0) 1 1 Tryz.underlying32 hi hz hs hb rfl (by omega) v l.length (cellsB l) hown ad m c (cellsB x) (by rw [cellsB_len, hm, Nat.mul_one]) hx (cellsB_one x) hm0 (by simp only [maxLen]; omega) (by omega) hlow W.heap.size rfl
  refine ⟨_, w', hrun, ?_, ?_, ?_, ?_, ?_, ?_⟩
  · rw [List.length_append, hm, show cellsB (l ++ x) = cellsB l ++ cellsB x from List.map_append]; exact ho
  · refine (h.bel.trans (hW.mono h.low)).grown hg hlow fun k hk => ?_
    rcases hown.2 with ⟨rfl, _⟩ | ⟨g', cap', cur, rfl, hbg, _⟩
    · simp [Value.ownBlock] at hk
    · simp only [Value.ownBlock, Option.some.injEq] at hk; omega
  · exact Nat.le_trans hlow hg.size
  · intro j y hy
    have hb1 : b < W.heap.size := Nat.lt_of_lt_of_le h.blt hW.size
    rw [World.cell?_of_block (w := W) (hg.block b hb1 fun he => h.far he.symm)]
    rw [hW.cell h.blt]
    exact h.dig j y hy
  · exact Nat.lt_of_lt_of_le (Nat.lt_of_lt_of_le h.blt hW.size) hg.size
  · simp only [Value.ownBlock]
    intro he
    injection he with he
    subst he
    rcases hat with hat | hat
    · exact h.far hat
    · have := h.blt; have := hW.size; omega
/-- One append of bytes that a new block holds. -/
theorem TX.app1 {B : Nat} {wb : World} {b : Nat} {ds : List UInt8} {v : Value} {l : List UInt8} {w : World} (h : TX B wb b ds v l w) (x : List UInt8) (t : TypeId) (m c : Nat) (hm : x.length = m) (hm0 : 0 < m) (hl : l.length + m ≤ 100000) (ty : TypeId) :
    ∃ v' w', (Builtin.append_ #[32, 32] ty #[v, .slice (some ⟨w.heap.size, 0, none⟩) m c]).run Tryz.prog (w.alloc (.cells (cellsB x).toArray t)) = .ok v' w' ∧ TX B wb b ds v' (l ++ x) w' := by
  refine h.app ((Below.refl _ _).alloc (Nat.le_refl _) _) x ⟨w.heap.size, 0, none⟩ m c hm hm0 (fun j u hu => ?_) hl ty
  rw [Addr.add_mid, Nat.zero_add, cell_top _ _ _ _ _ rfl, List.getElem?_toArray]
  exact hu
/-- An append whose run is known. -/
theorem wpList_app {P : Program} {w : World} {ops : Array Oper} {rest : List Oper} {o : Oper} {a : Act} {Q : Exit → Act → World → Prop} {R : Value → World → Prop} (hgd : o.guard = none) (s x : Operand) (t u : TypeId) (ho : o.op = .call { callee := .builtin .append, args := #[s, x], argTypes := #[t, u] })
    (v y : Value) (hs : a.eval s = v) (hx : a.eval x = y) (hrun : ∀ ty, ∃ v' w', (Builtin.append_ #[t, u] ty #[v, y]).run P w = .ok v' w' ∧ R v' w')
    (h : ∀ v' w', R v' w' → wpList P ops Q rest (a.put o.dst v') w') : wpList P ops Q (o :: rest) a w := by
  refine wpList_plain hgd fun K hK => ?_
  obtain ⟨v', w', hr, h2⟩ := hrun o.type
  unfold Oper.wp execOp
  simp only [ho, resolve, invoke, builtin, Sem.run_bind, Sem.run_pure, Result.andThen_ok, List.map_toArray, List.map_cons, List.map_nil, hs, hx, hr]
  exact hK _ _ (h v' w' h2)
end Go.Proofs.YtbbpngoffpegbaaGreatDoor
