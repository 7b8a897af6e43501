/- Trees in memory whose rows have their room: what an append may write into. -/
import Derived.Test.YtbbpngoffpegbaaGreatDoorPush2
namespace Go.Proofs.YtbbpngoffpegbaaGreatDoor
open Go Go.RowKit
set_option linter.unusedVariables false
set_option linter.unusedSimpArgs false
/-- A row's block. -/
def RowC (w : World) (b cap : Nat) : Prop := ∃ cur : Array Value, w.heap[b]? = some (.cells cur 25 (0, 0)) ∧ cur.size = cap * 6
theorem RowC.same {w w' : World} {b cap : Nat} (h : RowC w b cap) (hb : w'.heap[b]? = w.heap[b]?) : RowC w' b cap := by
  obtain ⟨cur, h1, h2⟩ := h
  exact ⟨cur, hb.trans h1, h2⟩
mutual
/-- As 'own', each list's row with its room. -/
def Tr.ownR (w : World) : Tr → List Value → List Nat → Prop
  | .mk hd vis kids, c, F => ∃ a cap, c = hd ++ [.slice a vis cap] ∧ hd.length + 1 = 6 ∧ (∀ v ∈ hd, v.oneCell' = true) ∧ vis = kids.length ∧
      ((kids.length = 0 ∧ F = [] ∧ a = none ∧ cap = 0) ∨ (0 < kids.length ∧ kids.length ≤ cap ∧ cap ≤ 9223372036854775807 ∧ ∃ b cs F', a = some ⟨b, 0, none⟩ ∧ F = b :: F' ∧ RowC w b cap ∧ w.rangeAt b 0 cs ∧ Tr.ownRL w kids cs F'))
def Tr.ownRL (w : World) : List Tr → List Value → List Nat → Prop
  | [], cs, F => cs = [] ∧ F = []
  | t :: ts, cs, F => ∃ c cs' F1 F2, cs = c ++ cs' ∧ F = F1 ++ F2 ∧ Tr.ownR w t c F1 ∧ Tr.ownRL w ts cs' F2
end
mutual
theorem Tr.ownR_own {w : World} : ∀ (t : Tr) (c : List Value) (F : List Nat), t.ownR w c F → t.own 6 w c F
  | .mk hd vis kids, c, F => fun h => by
    unfold Tr.ownR at h
    unfold Tr.own
    obtain ⟨a, cap, h0, h1, h2, h3, h4⟩ := h
    rcases h4 with ⟨h5, h6, h7, h8⟩ | ⟨h5, h6, h7, b, cs, F', h8, h9, _, h10, h11⟩
    · exact ⟨a, 0, cap, h0, h1, h2, ⟨h5.symm, by omega⟩, by omega, by omega, .inl ⟨h5, h6⟩⟩
    · exact ⟨a, kids.length, cap, h0, h1, h2, ⟨rfl, by omega⟩, h6, h7, .inr ⟨h5, b, 0, cs, F', h8, h9, h10, Tr.ownRL_own kids cs F' h11⟩⟩
theorem Tr.ownRL_own {w : World} : ∀ (ts : List Tr) (cs : List Value) (F : List Nat), Tr.ownRL w ts cs F → Tr.ownL 6 w ts cs F
  | [], cs, F => fun h => by
    unfold Tr.ownRL at h
    unfold Tr.ownL
    exact h
  | t :: ts, cs, F => fun h => by
    unfold Tr.ownRL at h
    unfold Tr.ownL
    obtain ⟨c, cs', F1, F2, h1, h2, h3, h4⟩ := h
    exact ⟨c, cs', F1, F2, h1, h2, Tr.ownR_own t c F1 h3, Tr.ownRL_own ts cs' F2 h4⟩
end
mutual
theorem Tr.ownR_same {w w' : World} : ∀ (t : Tr) (c : List Value) (F : List Nat), (∀ b ∈ F, w'.heap[b]? = w.heap[b]?) → t.ownR w c F → t.ownR w' c F
  | .mk hd vis kids, c, F => fun hF h => by
    unfold Tr.ownR at h ⊢
    obtain ⟨a, cap, h0, h1, h2, h3, h4⟩ := h
    refine ⟨a, cap, h0, h1, h2, h3, ?_⟩
    rcases h4 with h4 | ⟨h5, h6, h7, b, cs, F', h8, rfl, h10, h11, h12⟩
    · exact .inl h4
    · exact .inr ⟨h5, h6, h7, b, cs, F', h8, rfl, h10.same (hF b (by simp)), rangeAt_of_block h11 (hF b (by simp)), Tr.ownRL_same kids cs F' (fun i hi => hF i (by simp [hi])) h12⟩
theorem Tr.ownRL_same {w w' : World} : ∀ (ts : List Tr) (cs : List Value) (F : List Nat), (∀ b ∈ F, w'.heap[b]? = w.heap[b]?) → Tr.ownRL w ts cs F → Tr.ownRL w' ts cs F
  | [], cs, F => fun _ h => by
    unfold Tr.ownRL at h ⊢
    exact h
  | t :: ts, cs, F => fun hF h => by
    unfold Tr.ownRL at h ⊢
    obtain ⟨c, cs', F1, F2, rfl, rfl, h1, h2⟩ := h
    exact ⟨c, cs', F1, F2, rfl, rfl, Tr.ownR_same t c F1 (fun b hb => hF b (by simp [hb])) h1, Tr.ownRL_same ts cs' F2 (fun b hb => hF b (by simp [hb])) h2⟩
end
theorem Tr.ownR_len {w : World} {t : Tr} {c : List Value} {F : List Nat} (h : t.ownR w c F) : c.length = 6 := Tr.own_len (Tr.ownR_own _ _ _ h)
theorem Tr.ownRL_len {w : World} {ts : List Tr} {cs : List Value} {F : List Nat} (h : Tr.ownRL w ts cs F) : cs.length = ts.length * 6 := Tr.ownL_len (Tr.ownRL_own _ _ _ h)
theorem Tr.ownR_lt {w : World} (t : Tr) (c : List Value) (F : List Nat) (h : t.ownR w c F) : ∀ b ∈ F, b < w.heap.size := Tr.own_lt _ _ _ (Tr.ownR_own _ _ _ h)
theorem Tr.ownRL_lt {w : World} (ts : List Tr) (cs : List Value) (F : List Nat) (h : Tr.ownRL w ts cs F) : ∀ b ∈ F, b < w.heap.size := Tr.ownL_lt _ _ _ (Tr.ownRL_own _ _ _ h)
theorem Tr.ownR_below {w w' : World} {t : Tr} {c : List Value} {F : List Nat} (h : t.ownR w c F) (hb : Below w.heap.size w w') : t.ownR w' c F := Tr.ownR_same _ _ _ (fun i hi => hb.block i (Tr.ownR_lt _ _ _ h i hi)) h
theorem Tr.ownRL_below {w w' : World} {ts : List Tr} {cs : List Value} {F : List Nat} (h : Tr.ownRL w ts cs F) (hb : Below w.heap.size w w') : Tr.ownRL w' ts cs F := Tr.ownRL_same _ _ _ (fun i hi => hb.block i (Tr.ownRL_lt _ _ _ h i hi)) h
theorem Tr.ownRL_app {w : World} : ∀ {ts us : List Tr} {cs ds : List Value} {F G : List Nat}, Tr.ownRL w ts cs F → Tr.ownRL w us ds G → Tr.ownRL w (ts ++ us) (cs ++ ds) (F ++ G)
  | [], us, cs, ds, F, G, h, k => by
    unfold Tr.ownRL at h
    obtain ⟨rfl, rfl⟩ := h
    simpa using k
  | t :: ts, us, cs, ds, F, G, h, k => by
    unfold Tr.ownRL at h
    obtain ⟨c, cs', F1, F2, rfl, rfl, h1, h2⟩ := h
    rw [List.cons_append]
    unfold Tr.ownRL
    exact ⟨c, cs' ++ ds, F1, F2 ++ G, by simp, by simp, h1, Tr.ownRL_app h2 k⟩
theorem Tr.ownRL_single {w : World} {t : Tr} {c : List Value} {F : List Nat} (h : t.ownR w c F) : Tr.ownRL w [t] c F := by
  unfold Tr.ownRL
  exact ⟨c, [], F, [], by simp, by simp, h, by simp [Tr.ownRL]⟩
theorem Tr.ownRL_split {w : World} : ∀ {ts us : List Tr} {cs : List Value} {F : List Nat}, Tr.ownRL w (ts ++ us) cs F → ∃ c1 c2 F1 F2, cs = c1 ++ c2 ∧ F = F1 ++ F2 ∧ Tr.ownRL w ts c1 F1 ∧ Tr.ownRL w us c2 F2
  | [], us, cs, F, h => ⟨[], cs, [], F, rfl, rfl, by simp [Tr.ownRL], h⟩
  | t :: ts, us, cs, F, h => by
    rw [List.cons_append] at h
    unfold Tr.ownRL at h
    obtain ⟨c, cs', F1, F2, rfl, rfl, h1, h2⟩ := h
    obtain ⟨c1, c2, G1, G2, rfl, rfl, k1, k2⟩ := Tr.ownRL_split h2
    refine ⟨c ++ c1, c2, F1 ++ G1, G2, by simp, by simp, ?_, k2⟩
    unfold Tr.ownRL
    exact ⟨c, c1, F1, G1, rfl, rfl, h1, k1⟩
/-- A value without a list. -/
theorem leafR {w : World} {kd n : Int} {x y : Nat} {s : ByteArray} : (Va.mk kd n x y s []).tr.ownR w [.int .u8 kd, .int .i64 n, .float .f64 x, .float .f64 y, .string s, .slice none 0 0] [] := by
  unfold Va.tr Tr.ownR
  exact ⟨none, 0, by simp, rfl, by simp [Value.oneCell'], rfl, .inl ⟨rfl, rfl, rfl, rfl⟩⟩
/-- The list of a row that was grown. -/
theorem Kids.nodeR {base : Nat} {w : World} {A : Option Addr} {cap : Nat} {ts : List Tr} {xs : List Value} {F : List Nat} (h : Kids 6 25 base w (.slice A ts.length cap) ts xs F) (hR : Tr.ownRL w ts xs F) (hN : ts.length = 0 → A = none ∧ cap = 0) (hd : List Value) (hl : hd.length + 1 = 6) (h1 : ∀ u ∈ hd, u.oneCell' = true) :
    ∃ G, Tr.ownR w (.mk hd ts.length ts) (hd ++ [.slice A ts.length cap]) G ∧ Apart base G ∧ Soft w G := by
  rcases Nat.eq_zero_or_pos ts.length with h0 | h0
  · obtain ⟨rfl, rfl⟩ := hN h0
    exact ⟨[], by unfold Tr.ownR; exact ⟨none, 0, rfl, hl, h1, rfl, .inl ⟨h0, rfl, rfl, rfl⟩⟩, Apart.nil _, Soft.nil _⟩
  · rcases h.row.2 with ⟨_, h2⟩ | ⟨g, cap2, cur, he, hbg, hg, hnc, hcm, hcs, htake⟩
    · omega
    · injection he with q1 _ q3
      subst q1
      subst q3
      refine ⟨g :: F, by unfold Tr.ownR; exact ⟨_, cap, rfl, hl, h1, rfl, .inr ⟨h0, hnc, hcm, g, xs, F, rfl, rfl, ⟨cur, hg, hcs⟩, own_range h.row, hR⟩⟩, ⟨List.nodup_cons.2 ⟨h.far g rfl, h.apart.1⟩, fun b hb => ?_⟩, fun b hb o => ?_⟩
      · rcases List.mem_cons.1 hb with rfl | hb
        · exact hbg
        · exact h.apart.2 b hb
      · rcases List.mem_cons.1 hb with rfl | hb
        · exact h.row.frozenAt o
        · exact h.soft b hb o
end Go.Proofs.YtbbpngoffpegbaaGreatDoor
