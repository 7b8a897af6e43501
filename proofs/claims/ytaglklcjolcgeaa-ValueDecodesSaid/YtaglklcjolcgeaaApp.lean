/- Appending a text's bytes to a row of bytes: where the new row lies. -/
import Derived.Test.YtaglklcjolcgeaaLaidB
import Derived.Lib.AppendStr
namespace Go.Proofs.Ytaglklcjolcgeaa
open Go Go.RowKit
set_option linter.unusedVariables false
set_option linter.unusedSimpArgs false
section
variable {P : Program} {w : World}
/-- The value is a slice. -/
def Slc (v : Value) : Prop := ∃ a n c, v = .slice a n c
/-- What an append of bytes comes to. -/
def AppIs (v : Value) (n : Nat) (xs : List Value) (s : ByteArray) (w : World) (v' : Value) (w' : World) : Prop :=
  w'.ownsRow 0 5 1 v' (n + s.size) (xs ++ Lib.strCells s) ∧ w.grownBy w' v.ownBlock ∧ (v'.ownBlock = v.ownBlock ∨ v'.ownBlock = some w.heap.size) ∧ Slc v'
theorem slc_of {w : World} {base : Nat} {e : TypeId} {sz n : Nat} {v : Value} {xs : List Value} (h : w.ownsRow base e sz v n xs) : Slc v := by
  rcases h.2 with ⟨rfl, _⟩ | ⟨g, cap, cur, rfl, _⟩
  · exact ⟨_, _, _, rfl⟩
  · exact ⟨_, _, _, rfl⟩
theorem run_app_str (t u ty : TypeId) (i : TypeInfo) (ht : P.underlying t = some (.slice 5)) (hu : P.underlying u = some .string) (hi : P.info? 5 = some i) (hz : i.zero = some (.int .u8 0)) (hsize : i.size = 1) (hby : i.bytes = 1)
    (v : Value) (n : Nat) (xs : List Value) (hown : w.ownsRow 0 5 1 v n xs) (s : ByteArray) (hb : n + s.size ≤ 140737488355328) :
    ∃ v' w', (Builtin.append_ #[t, u] ty #[v, .string s]).run P w = .ok v' w' ∧ AppIs v n xs s w v' w' := by
  obtain ⟨v', w', hr, h2, h3, h4⟩ := Lib.run_append_own_string (P := P) (w := w) 0 t u ty 5 i ht hu hi hz hsize hby v n xs hown s (by simp only [maxLen]; omega) hb (by omega)
  refine ⟨v', w', hr, h2, h3, ?_, slc_of h2⟩
  have hxl : xs.length = n := by simpa using hown.1
  rcases hown.2 with ⟨rfl, rfl⟩ | ⟨g, cap, cur, rfl, hbg, hg, hnc, hcm, hcs, htake⟩
  · by_cases hm : s.size = 0
    · rw [h4.2 ⟨rfl, hm⟩]
      exact .inl rfl
    · have hr2 := run_append_nil_string (P := P) (w := w) t u ty 5 i (.int .u8 0) ht hu hi hz s (by omega) (by omega) (by rw [hby]; omega)
      rw [hr2] at hr
      injection hr with hv hw
      rw [← hv]
      exact .inr rfl
  · by_cases hroom : n + s.size ≤ cap
    · have hcs' : cur.size = cap := by simpa using hcs
      have hr2 := Lib.run_append_room_string (P := P) (w := w) t u ty 5 i ht hu hi hsize g n cap cur hg s hroom (by omega)
      rw [hr2] at hr
      injection hr with hv hw
      rw [← hv]
      exact .inl rfl
    · have holds : ∀ j u, xs[j]? = some u → w.cell? ((⟨g, 0, none⟩ : Addr).add j) = some u := hown.cells (g := g) rfl
      have hr2 := Lib.run_append_grow_string (P := P) (w := w) t u ty 5 i (.int .u8 0) ht hu hi hz ⟨g, 0, none⟩ n cap xs (by rw [hsize]; simpa using hxl) holds s (by omega) (by omega) (by rw [hby]; exact growslice_fits (by omega) (by omega))
      rw [hr2] at hr
      injection hr with hv hw
      rw [← hv]
      exact .inr rfl
theorem run_app_bytes (t ty : TypeId) (i : TypeInfo) (ht : P.underlying t = some (.slice 5)) (hi : P.info? 5 = some i) (hz : i.zero = some (.int .u8 0)) (hsize : i.size = 1) (hby : i.bytes = 1)
    (v : Value) (n : Nat) (xs : List Value) (hown : w.ownsRow 0 5 1 v n xs) (s : ByteArray) (b c : Nat) (hb : n + s.size ≤ 140737488355328) (hr : w.rangeAt b 0 (Lib.strCells s)) :
    ∃ v' w', (Builtin.append_ #[t, t] ty #[v, .slice (some ⟨b, 0, none⟩) s.size c]).run P w = .ok v' w' ∧ AppIs v n xs s w v' w' := by
  by_cases hm : s.size = 0
  · have hx : Lib.strCells s = [] := List.eq_nil_of_length_eq_zero (by rw [Lib.strCells_length]; exact hm)
    have hform : ∃ A cap, v = .slice A n cap ∧ n ≤ cap := by
      rcases hown.2 with ⟨rfl, rfl⟩ | ⟨g, cap, cur, rfl, _, _, h, _⟩
      · exact ⟨none, 0, rfl, Nat.le_refl _⟩
      · exact ⟨_, cap, rfl, h⟩
    obtain ⟨A, cap, rfl, hc⟩ := hform
    have hrun := run_append_zero (P := P) w t ty 5 i ht hi A (some ⟨b, 0, none⟩) n cap c hc
    rw [hm]
    refine ⟨_, _, hrun, ?_, World.grownBy.refl _ _, .inl rfl, _, _, _, rfl⟩
    rw [hx, hm]
    simpa using hown
  · obtain ⟨g, cap, w', hrun, h2, h3, h4, h5⟩ := run_append_lies (P := P) w t ty 0 5 i (.int .u8 0) 1 1 ht hi hz hsize hby rfl (by omega) v n xs hown ⟨b, 0, none⟩ s.size c (Lib.strCells s) (by rw [Lib.strCells_length]; omega)
      (fun j u hu => by rw [Addr.add_mid]; exact hr j u hu) (Lib.strCells_oneCell s) (by omega) (by simp only [maxLen]; omega) (by omega) (by omega) w.heap.size rfl
    refine ⟨_, w', hrun, h2, h3, ?_, _, _, _, rfl⟩
    rcases h4 with h4 | h4
    · exact .inl h4.symm
    · exact .inr (by simp [Value.ownBlock, h4])
end
/-- An append whose run is known. -/
theorem wpList_app {P : Program} {w : World} {ops : Array Oper} {rest : List Oper} {o : Oper} {a : Act} {Q : Exit → Act → World → Prop} {R : Value → World → Prop} (hgd : o.guard = none) (s x : Operand) (t u : TypeId) (ho : o.op = .call { callee := .builtin .append, args := #[s, x], argTypes := #[t, u] })
    (v y : Value) (hs : a.eval s = v) (hx : a.eval x = y) (hrun : ∀ ty, ∃ v' w', (Builtin.append_ #[t, u] ty #[v, y]).run P w = .ok v' w' ∧ R v' w')
    (h : ∀ v' w', R v' w' → wpList P ops Q rest (a.put o.dst v') w') : wpList P ops Q (o :: rest) a w := by
  refine wpList_plain hgd fun K hK => ?_
  obtain ⟨v', w', hr, h2⟩ := hrun o.type
  unfold Oper.wp execOp
  simp only [ho, resolve, invoke, builtin, Sem.run_bind, Sem.run_pure, Result.andThen_ok, List.map_toArray, List.map_cons, List.map_nil, hs, hx, hr]
  exact hK _ _ (h v' w' h2)
end Go.Proofs.Ytaglklcjolcgeaa
