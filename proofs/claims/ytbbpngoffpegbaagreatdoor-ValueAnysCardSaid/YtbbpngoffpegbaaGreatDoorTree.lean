/- Trees in memory: nodes of plain cells and one list of kids; where they lie, what stays, how a list of kids grows. -/
import Derived.WalkKit
import Derived.Deep.MidRow
import Derived.Deep.AppendLies
import Derived.Lib.SmallJoins
namespace Go.Proofs.YtbbpngoffpegbaaGreatDoor
open Go.RowKit

/-! ### Worlds: what may have been written -/
/-- Of the blocks that were there only those of `S` may have turned. -/
structure Wr (S : Nat → Prop) (w w' : World) : Prop where
  os : w'.os = w.os
  tape : w'.tape = w.tape
  output : w'.output = w.output
  size : w.heap.size ≤ w'.heap.size
  block : ∀ k, k < w.heap.size → ¬ S k → w'.heap[k]? = w.heap[k]?
theorem Wr.refl (S : Nat → Prop) (w : World) : Wr S w w := ⟨rfl, rfl, rfl, Nat.le_refl _, fun _ _ _ => rfl⟩
theorem Wr.andThen {S T : Nat → Prop} {a b c : World} (h : Wr S a b) (k : Wr T b c) (hst : ∀ i, i < a.heap.size → T i → S i) : Wr S a c :=
  ⟨k.os.trans h.os, k.tape.trans h.tape, k.output.trans h.output, Nat.le_trans h.size k.size, fun i hi hs => (k.block i (Nat.lt_of_lt_of_le hi h.size) fun ht => hs (hst i hi ht)).trans (h.block i hi hs)⟩
theorem Wr.mono {S T : Nat → Prop} {a b : World} (h : Wr S a b) (hst : ∀ k, k < a.heap.size → S k → T k) : Wr T a b :=
  ⟨h.os, h.tape, h.output, h.size, fun i hi hs => h.block i hi fun hk => hs (hst i hi hk)⟩
theorem Wr.of_below {w w' : World} (h : Below w.heap.size w w') (S : Nat → Prop) : Wr S w w' := ⟨h.os, h.tape, h.output, h.size, fun i hi _ => h.block i hi⟩
theorem Wr.below {S : Nat → Prop} {B : Nat} {w w' : World} (h : Wr S w w') (hB : B ≤ w.heap.size) (hS : ∀ k, S k → B ≤ k) : Below B w w' :=
  ⟨h.os, h.tape, h.output, h.size, fun i hi => h.block i (by omega) fun hk => by have := hS i hk; omega⟩
theorem Wr.setCell {S : Nat → Prop} {a w : World} (h : Wr S a w) {p : Addr} (hp : S p.block ∨ a.heap.size ≤ p.block) (u : Value) : Wr S a (w.setCell p u) :=
  ⟨h.os, h.tape, h.output, by simpa [World.setCell] using h.size, fun k hk hs => (Below.heap_setCell _ _ _ _ (by
    rintro rfl
    rcases hp with hp | hp
    · exact hs hp
    · omega)).trans (h.block k hk hs)⟩
theorem Wr.alloc {S : Nat → Prop} {a w : World} (h : Wr S a w) (o : Obj) : Wr S a (w.alloc o) :=
  ⟨h.os, h.tape, h.output, by have := h.size; simp; omega, fun k hk hs => (Below.heap_alloc _ _ _ (Nat.lt_of_lt_of_le hk h.size)).trans (h.block k hk hs)⟩
theorem Wr.drew {S : Nat → Prop} {a w : World} (h : Wr S a w) : Wr S a w.drew := ⟨h.os, h.tape, h.output, h.size, h.block⟩
theorem Wr.grown {S : Nat → Prop} {a w w' : World} {row : Option Nat} (h : Wr S a w) (hg : w.grownBy w' row) (hr : ∀ k, row = some k → S k ∨ a.heap.size ≤ k) : Wr S a w' :=
  ⟨hg.os.trans h.os, hg.tape.trans h.tape, hg.output.trans h.output, Nat.le_trans h.size hg.size, fun k hk hs => (hg.block k (Nat.lt_of_lt_of_le hk h.size) fun e => by
    rcases hr k e.symm with hh | hh
    · exact hs hh
    · omega).trans (h.block k hk hs)⟩
theorem Wr.cell {S : Nat → Prop} {w w' : World} (h : Wr S w w') {p : Addr} (hp : p.block < w.heap.size) (hs : ¬ S p.block) : w'.cell? p = w.cell? p := World.cell?_of_block (w := w) (h.block p.block hp hs)

theorem cell_new (w : World) (o : Obj) (a : Addr) (h : a.block < w.heap.size) : (w.alloc o).cell? a = w.cell? a := World.cell?_of_block (w := w) (Below.heap_alloc w o a.block h)
theorem frozen_new (w : World) (o : Obj) (a : Addr) (h : a.block < w.heap.size) : (w.alloc o).frozen? a = w.frozen? a := World.frozen?_of_block (w := w) (Below.heap_alloc w o a.block h)

theorem cell_top (w : World) (C : Array Value) (t : TypeId) (n j : Nat) (hn : n = w.heap.size) : (w.alloc (.cells C t)).cell? ⟨n, j, none⟩ = C[j]? := Joins.cell_alloc_mark_at w C t (0, 0) n j hn
theorem size_set (w : World) (a : Addr) (u : Value) : (w.setCell a u).heap.size = w.heap.size := by simp [World.setCell]

/-! ### Cells in a row -/
theorem rangeAt_of_block {w w' : World} {b o : Nat} {cs : List Value} (h : w.rangeAt b o cs) (hb : w'.heap[b]? = w.heap[b]?) : w'.rangeAt b o cs := fun j v hv =>
  (World.cell?_of_block (w := w) (a := ⟨b, o + j, none⟩) hb).trans (h j v hv)
theorem rangeAt_left {w : World} {b o : Nat} {c c' : List Value} (h : w.rangeAt b o (c ++ c')) : w.rangeAt b o c := fun j v hv =>
  h j v (by rw [List.getElem?_append_left (List.getElem?_eq_some_iff.1 hv).1]; exact hv)
theorem rangeAt_right {w : World} {b o : Nat} {c c' : List Value} (h : w.rangeAt b o (c ++ c')) : w.rangeAt b (o + c.length) c' := fun j v hv => by
  have := h (c.length + j) v (by rw [List.getElem?_append_right (by omega), Nat.add_sub_cancel_left]; exact hv)
  rw [Nat.add_assoc]; exact this
theorem rangeAt_lt {w : World} {b o : Nat} {cs : List Value} (h : w.rangeAt b o cs) (hn : 0 < cs.length) : b < w.heap.size :=
  World.block_lt_of_cell? w ⟨b, o + 0, none⟩ (h 0 _ (List.getElem?_eq_getElem hn))
/-- The cells of a row that is owned. -/
theorem own_range {w : World} {base g n cap size : Nat} {e : TypeId} {xs : List Value} (h : w.ownsRow base e size (.slice (some ⟨g, 0, none⟩) n cap) n xs) : w.rangeAt g 0 xs := fun j v hv => by
  have := h.cells (g := g) rfl j v hv
  rwa [Addr.add_mid] at this

/-! ### Trees -/
/-- A node: its plain cells, how many of its kids are seen, its kids (those that are not seen lie behind the others). -/
inductive Tr where
  | mk (hd : List Value) (vis : Nat) (kids : List Tr)

mutual
/-- The cells `c` are the tree's root, its lists lying in the blocks `F` (each list in its block, from the root on). -/
def Tr.own (sz : Nat) (w : World) : Tr → List Value → List Nat → Prop
  | .mk hd vis kids, c, F => ∃ a len cap, c = hd ++ [.slice a vis cap] ∧ hd.length + 1 = sz ∧ (∀ v ∈ hd, v.oneCell' = true) ∧ (len = kids.length ∧ vis ≤ len) ∧ len ≤ cap ∧ cap ≤ 9223372036854775807 ∧
      ((kids.length = 0 ∧ F = []) ∨ (0 < kids.length ∧ ∃ b o cs F', a = some ⟨b, o, none⟩ ∧ F = b :: F' ∧ w.rangeAt b o cs ∧ Tr.ownL sz w kids cs F'))
/-- Trees one behind the other. -/
def Tr.ownL (sz : Nat) (w : World) : List Tr → List Value → List Nat → Prop
  | [], cs, F => cs = [] ∧ F = []
  | t :: ts, cs, F => ∃ c cs' F1 F2, cs = c ++ cs' ∧ F = F1 ++ F2 ∧ Tr.own sz w t c F1 ∧ Tr.ownL sz w ts cs' F2
end

theorem Tr.own_len {sz : Nat} {w : World} {t : Tr} {c : List Value} {F : List Nat} (h : t.own sz w c F) : c.length = sz := by
  cases t
  unfold Tr.own at h
  obtain ⟨a, len, cap, rfl, h1, _⟩ := h
  simpa using h1
theorem Tr.own_one {sz : Nat} {w : World} {t : Tr} {c : List Value} {F : List Nat} (h : t.own sz w c F) : ∀ v ∈ c, v.oneCell' = true := by
  cases t
  unfold Tr.own at h
  obtain ⟨a, len, cap, rfl, _, h1, _⟩ := h
  intro v hv
  simp only [List.mem_append, List.mem_singleton] at hv
  rcases hv with hv | rfl
  · exact h1 v hv
  · rfl
theorem Tr.ownL_len {sz : Nat} {w : World} : ∀ {ts : List Tr} {cs : List Value} {F : List Nat}, Tr.ownL sz w ts cs F → cs.length = ts.length * sz
  | [], cs, F, h => by
    unfold Tr.ownL at h
    simp [h.1]
  | t :: ts, cs, F, h => by
    unfold Tr.ownL at h
    obtain ⟨c, cs', F1, F2, rfl, rfl, h1, h2⟩ := h
    rw [List.length_append, Tr.own_len h1, Tr.ownL_len h2, List.length_cons, Nat.add_mul]
    omega
theorem Tr.ownL_one {sz : Nat} {w : World} : ∀ {ts : List Tr} {cs : List Value} {F : List Nat}, Tr.ownL sz w ts cs F → ∀ v ∈ cs, v.oneCell' = true
  | [], cs, F, h => by
    unfold Tr.ownL at h
    simp [h.1]
  | t :: ts, cs, F, h => by
    unfold Tr.ownL at h
    obtain ⟨c, cs', F1, F2, rfl, rfl, h1, h2⟩ := h
    intro v hv
    rcases List.mem_append.1 hv with hv | hv
    · exact Tr.own_one h1 v hv
    · exact Tr.ownL_one h2 v hv

mutual
theorem Tr.own_same {sz : Nat} {w w' : World} : ∀ (t : Tr) (c : List Value) (F : List Nat), (∀ b ∈ F, w'.heap[b]? = w.heap[b]?) → t.own sz w c F → t.own sz w' c F
  | .mk hd vis kids, c, F => fun hF h => by
    unfold Tr.own at h ⊢
    obtain ⟨a, len, cap, h0, h1, h2, h3, h4, h5, h6⟩ := h
    refine ⟨a, len, cap, h0, h1, h2, h3, h4, h5, ?_⟩
    rcases h6 with h6 | ⟨h6, b, o, cs, F', ha, rfl, hc, hk⟩
    · exact .inl h6
    · exact .inr ⟨h6, b, o, cs, F', ha, rfl, rangeAt_of_block hc (hF b (by simp)), Tr.ownL_same kids cs F' (fun b hb => hF b (by simp [hb])) hk⟩
theorem Tr.ownL_same {sz : Nat} {w w' : World} : ∀ (ts : List Tr) (cs : List Value) (F : List Nat), (∀ b ∈ F, w'.heap[b]? = w.heap[b]?) → Tr.ownL sz w ts cs F → Tr.ownL sz w' ts cs F
  | [], cs, F => fun _ h => by
    unfold Tr.ownL at h ⊢
    exact h
  | t :: ts, cs, F => fun hF h => by
    unfold Tr.ownL at h ⊢
    obtain ⟨c, cs', F1, F2, rfl, rfl, h1, h2⟩ := h
    exact ⟨c, cs', F1, F2, rfl, rfl, Tr.own_same t c F1 (fun b hb => hF b (by simp [hb])) h1, Tr.ownL_same ts cs' F2 (fun b hb => hF b (by simp [hb])) h2⟩
end

mutual
theorem Tr.own_lt {sz : Nat} {w : World} : ∀ (t : Tr) (c : List Value) (F : List Nat), t.own sz w c F → ∀ b ∈ F, b < w.heap.size
  | .mk hd vis kids, c, F => fun h b hb => by
    unfold Tr.own at h
    obtain ⟨a, len, cap, h0, h1, h2, h3, h4, h5, h6⟩ := h
    rcases h6 with ⟨_, rfl⟩ | ⟨h6, b', o, cs, F', ha, rfl, hc, hk⟩
    · simp at hb
    · rcases List.mem_cons.1 hb with rfl | hb
      · refine rangeAt_lt hc ?_
        rw [Tr.ownL_len hk]
        exact Nat.mul_pos h6 (by omega)
      · exact Tr.ownL_lt kids cs F' hk b hb
theorem Tr.ownL_lt {sz : Nat} {w : World} : ∀ (ts : List Tr) (cs : List Value) (F : List Nat), Tr.ownL sz w ts cs F → ∀ b ∈ F, b < w.heap.size
  | [], cs, F => fun h b hb => by
    unfold Tr.ownL at h
    rw [h.2] at hb
    simp at hb
  | t :: ts, cs, F => fun h b hb => by
    unfold Tr.ownL at h
    obtain ⟨c, cs', F1, F2, rfl, rfl, h1, h2⟩ := h
    rcases List.mem_append.1 hb with hb | hb
    · exact Tr.own_lt t c F1 h1 b hb
    · exact Tr.ownL_lt ts cs' F2 h2 b hb
end

theorem Tr.own_below {sz : Nat} {w w' : World} {t : Tr} {c : List Value} {F : List Nat} (h : t.own sz w c F) (hb : Below w.heap.size w w') : t.own sz w' c F :=
  Tr.own_same t c F (fun b hm => hb.block b (Tr.own_lt t c F h b hm)) h
theorem Tr.ownL_below {sz : Nat} {w w' : World} {t : List Tr} {c : List Value} {F : List Nat} (h : Tr.ownL sz w t c F) (hb : Below w.heap.size w w') : Tr.ownL sz w' t c F :=
  Tr.ownL_same t c F (fun b hm => hb.block b (Tr.ownL_lt t c F h b hm)) h
theorem Tr.own_wr {sz : Nat} {S : Nat → Prop} {w w' : World} {t : Tr} {c : List Value} {F : List Nat} (h : t.own sz w c F) (hb : Wr S w w') (hS : ∀ b ∈ F, ¬ S b) : t.own sz w' c F :=
  Tr.own_same t c F (fun b hm => hb.block b (Tr.own_lt t c F h b hm) (hS b hm)) h
theorem Tr.ownL_wr {sz : Nat} {S : Nat → Prop} {w w' : World} {t : List Tr} {c : List Value} {F : List Nat} (h : Tr.ownL sz w t c F) (hb : Wr S w w') (hS : ∀ b ∈ F, ¬ S b) : Tr.ownL sz w' t c F :=
  Tr.ownL_same t c F (fun b hm => hb.block b (Tr.ownL_lt t c F h b hm) (hS b hm)) h

theorem Tr.own_drew {sz : Nat} {w : World} {t : Tr} {c : List Value} {F : List Nat} (h : t.own sz w c F) : t.own sz w.drew c F := Tr.own_same (w := w) (w' := w.drew) t c F (fun _ _ => rfl) h
theorem Tr.ownL_drew {sz : Nat} {w : World} {t : List Tr} {c : List Value} {F : List Nat} (h : Tr.ownL sz w t c F) : Tr.ownL sz w.drew t c F := Tr.ownL_same (w := w) (w' := w.drew) t c F (fun _ _ => rfl) h
theorem below_of_drew {w w' : World} (h : Below w.heap.size w.drew w') : Below w.heap.size w w' := ⟨h.os, h.tape, h.output, h.size, h.block⟩

/-- The kid with the number `i`: its cells, its blocks. -/
theorem Tr.ownL_at {sz : Nat} {w : World} : ∀ {ts : List Tr} {cs : List Value} {F : List Nat} (b o i : Nat) (hi : i < ts.length), Tr.ownL sz w ts cs F → w.rangeAt b o cs →
    ∃ c Fa F1 Fb, w.rangeAt b (o + i * sz) c ∧ F = Fa ++ (F1 ++ Fb) ∧ Tr.own sz w ts[i] c F1 ∧ Tr.ownL sz w (ts.take i) (cs.take (i * sz)) Fa ∧ Tr.ownL sz w (ts.drop (i + 1)) (cs.drop ((i + 1) * sz)) Fb
  | t :: ts, cs, F, b, o, 0, _, h, hc => by
    unfold Tr.ownL at h
    obtain ⟨c, cs', F1, F2, rfl, rfl, h1, h2⟩ := h
    have := Tr.own_len h1
    refine ⟨c, [], F1, F2, by simpa using rangeAt_left hc, rfl, by simpa using h1, ?_, ?_⟩
    · simp [Tr.ownL]
    · simpa [← this] using h2
  | t :: ts, cs, F, b, o, i + 1, hi, h, hc => by
    unfold Tr.ownL at h
    obtain ⟨c, cs', F1, F2, rfl, rfl, h1, h2⟩ := h
    have hl := Tr.own_len h1
    obtain ⟨c1, Fa, F3, Fb, r1, r2, r3, r4, r5⟩ := Tr.ownL_at b (o + c.length) i (by simpa using hi) h2 (rangeAt_right hc)
    have e1 : (i + 1) * sz = c.length + i * sz := by rw [hl, Nat.add_mul]; omega
    have e2 : (i + 1 + 1) * sz = c.length + (i + 1) * sz := by rw [hl, Nat.add_mul (i + 1)]; omega
    refine ⟨c1, F1 ++ Fa, F3, Fb, ?_, by rw [r2]; simp, by simpa using r3, ?_, ?_⟩
    · rw [e1, ← Nat.add_assoc]; exact r1
    · rw [e1, List.take_length_add_append]
      simp only [List.take_succ_cons]
      unfold Tr.ownL
      exact ⟨c, _, F1, Fa, rfl, rfl, h1, r4⟩
    · rw [e2, List.drop_length_add_append]
      simpa using r5

theorem Tr.ownL_app {sz : Nat} {w : World} : ∀ {ts us : List Tr} {cs ds : List Value} {F G : List Nat}, Tr.ownL sz w ts cs F → Tr.ownL sz w us ds G → Tr.ownL sz w (ts ++ us) (cs ++ ds) (F ++ G)
  | [], us, cs, ds, F, G, h, k => by
    unfold Tr.ownL at h
    obtain ⟨rfl, rfl⟩ := h
    simpa using k
  | t :: ts, us, cs, ds, F, G, h, k => by
    unfold Tr.ownL at h
    obtain ⟨c, cs', F1, F2, rfl, rfl, h1, h2⟩ := h
    rw [List.cons_append]
    unfold Tr.ownL
    exact ⟨c, cs' ++ ds, F1, F2 ++ G, by simp, by simp, h1, Tr.ownL_app h2 k⟩
theorem Tr.ownL_single {sz : Nat} {w : World} {t : Tr} {c : List Value} {F : List Nat} (h : t.own sz w c F) : Tr.ownL sz w [t] c F := by
  unfold Tr.ownL
  exact ⟨c, [], F, [], by simp, by simp, h, by simp [Tr.ownL]⟩
theorem Tr.ownL_snoc {sz : Nat} {w : World} {ts : List Tr} {t : Tr} {cs c : List Value} {F F1 : List Nat} (h : Tr.ownL sz w ts cs F) (k : t.own sz w c F1) : Tr.ownL sz w (ts ++ [t]) (cs ++ c) (F ++ F1) :=
  Tr.ownL_app h (Tr.ownL_single k)

/-- Blocks that are one's own: each once, from `lo` on. -/
def Apart (lo : Nat) (F : List Nat) : Prop := F.Nodup ∧ ∀ b ∈ F, lo ≤ b
theorem Apart.nil (lo : Nat) : Apart lo [] := ⟨List.nodup_nil, fun _ h => by simp at h⟩
theorem Apart.mono {lo lo' : Nat} {F : List Nat} (h : Apart lo F) (hl : lo' ≤ lo) : Apart lo' F := ⟨h.1, fun b hb => Nat.le_trans hl (h.2 b hb)⟩
/-- What was made later lies elsewhere. -/
theorem Apart.app {lo n : Nat} {F G : List Nat} (h : Apart lo F) (hn : ∀ b ∈ F, b < n) (k : Apart n G) (hl : lo ≤ n) : Apart lo (F ++ G) := by
  refine ⟨List.nodup_append.2 ⟨h.1, k.1, fun a ha b hb e => ?_⟩, fun b hb => ?_⟩
  · have := hn a ha
    have := k.2 b hb
    omega
  · rcases List.mem_append.1 hb with hb | hb
    · exact h.2 b hb
    · exact Nat.le_trans hl (k.2 b hb)
theorem Apart.part {lo : Nat} {Fa F Fb : List Nat} (h : Apart lo (Fa ++ (F ++ Fb))) : Apart lo F := by
  refine ⟨?_, fun b hb => h.2 b (by simp [hb])⟩
  have := (List.nodup_append.1 h.1).2.1
  exact (List.nodup_append.1 this).1
theorem Apart.tail {lo b : Nat} {F : List Nat} (h : Apart lo (b :: F)) : Apart lo F ∧ b ∉ F := ⟨⟨(List.nodup_cons.1 h.1).2, fun x hx => h.2 x (by simp [hx])⟩, (List.nodup_cons.1 h.1).1⟩

/-- Blocks that may be written. -/
def Soft (w : World) (F : List Nat) : Prop := ∀ b ∈ F, ∀ o, w.frozen? ⟨b, o, none⟩ = false
theorem Soft.nil (w : World) : Soft w [] := fun _ h => by simp at h
theorem Soft.same {w w' : World} {F : List Nat} (h : Soft w F) (hs : ∀ b ∈ F, w'.heap[b]? = w.heap[b]?) : Soft w' F := fun b hb o => (World.frozen?_of_block (w := w) (a := ⟨b, o, none⟩) (hs b hb)).trans (h b hb o)
theorem Soft.app {w : World} {F G : List Nat} (h : Soft w F) (k : Soft w G) : Soft w (F ++ G) := fun b hb o => by
  rcases List.mem_append.1 hb with hb | hb
  · exact h b hb o
  · exact k b hb o

/-- A list of kids that is made: the row, the kids, their blocks apart from the row's. -/
structure Kids (sz : Nat) (e : TypeId) (base : Nat) (w : World) (v : Value) (ts : List Tr) (xs : List Value) (F : List Nat) : Prop where
  row : w.ownsRow base e sz v ts.length xs
  own : Tr.ownL sz w ts xs F
  apart : Apart base F
  far : ∀ g, v.ownBlock = some g → g ∉ F
  soft : Soft w F
theorem Kids.nil (sz : Nat) (e : TypeId) (base : Nat) (w : World) : Kids sz e base w (.slice none 0 0) [] [] [] :=
  ⟨⟨by simp, .inl ⟨rfl, rfl⟩⟩, by simp [Tr.ownL], Apart.nil _, fun _ _ => by simp, Soft.nil _⟩
/-- It stays while none of its blocks is written. -/
theorem Kids.wr {sz : Nat} {e : TypeId} {base : Nat} {S : Nat → Prop} {w w' : World} {v : Value} {ts : List Tr} {xs : List Value} {F : List Nat} (h : Kids sz e base w v ts xs F) (hw : Wr S w w')
    (hS : ∀ k, S k → k < base) : Kids sz e base w' v ts xs F := by
  have hlt := Tr.ownL_lt _ _ _ h.own
  refine ⟨?_, Tr.ownL_wr h.own hw fun b hb hs => ?_, h.apart, h.far, h.soft.same fun b hb => hw.block b (hlt b hb) fun hs => by have := h.apart.2 b hb; have := hS b hs; omega⟩
  · refine ⟨h.row.1, ?_⟩
    rcases h.row.2 with h2 | ⟨g, cap, cur, h1, h2, h3, h4⟩
    · exact .inl h2
    · refine .inr ⟨g, cap, cur, h1, h2, ?_, h4⟩
      rw [hw.block g (Array.getElem?_eq_some_iff.1 h3).1 fun hs => by have := hS g hs; omega]
      exact h3
  · have := h.apart.2 b hb
    have := hS b hs
    omega
theorem Kids.below {sz : Nat} {e : TypeId} {base : Nat} {w w' : World} {v : Value} {ts : List Tr} {xs : List Value} {F : List Nat} (h : Kids sz e base w v ts xs F) (hw : Below w.heap.size w w') : Kids sz e base w' v ts xs F :=
  h.wr (Wr.of_below hw fun _ => False) fun _ h => h.elim
/-- Behind an append of kids that came later. -/
theorem Kids.push {sz : Nat} {e : TypeId} {base : Nat} {w w1 w' : World} {v v' : Value} {ts us : List Tr} {xs cs : List Value} {F G : List Nat} (h : Kids sz e base w v ts xs F) (hb : base ≤ w.heap.size) (hw : Below w.heap.size w w1)
    (k : Tr.ownL sz w1 us cs G) (hG : Apart w.heap.size G) (hsoft : Soft w1 G) (hown : w'.ownsRow base e sz v' (ts.length + us.length) (xs ++ cs)) (hg : w1.grownBy w' v.ownBlock) (hat : v'.ownBlock = v.ownBlock ∨ v'.ownBlock = some w1.heap.size) :
    Kids sz e base w' v' (ts ++ us) (xs ++ cs) (F ++ G) := by
  have hlt := Tr.ownL_lt ts xs F h.own
  have hlt1 := Tr.ownL_lt us cs G k
  have hrow := h.row.lt
  have h1 := (h.below hw).own
  have hF : ∀ b ∈ F, w'.heap[b]? = w1.heap[b]? := fun b hm => hg.block b (by have := hlt b hm; have := hw.size; omega) fun e => h.far b e.symm hm
  have hGs : ∀ b ∈ G, w'.heap[b]? = w1.heap[b]? := fun b hm => hg.block b (hlt1 b hm) fun e => by
    have := hG.2 b hm
    have := (hrow b e.symm).2
    omega
  refine ⟨by rw [List.length_append]; exact hown, Tr.ownL_app (Tr.ownL_same ts xs F hF h1) (Tr.ownL_same us cs G hGs k), h.apart.app hlt hG hb, fun g hg' hm => ?_, ((h.below hw).soft.same hF).app (hsoft.same hGs)⟩
  · rcases hat with hat | hat
    · rw [hat] at hg'
      rcases List.mem_append.1 hm with hm | hm
      · exact h.far g hg' hm
      · have := hG.2 g hm
        have := (hrow g hg').2
        omega
    · rw [hat] at hg'
      injection hg' with hg'
      rcases List.mem_append.1 hm with hm | hm
      · have := hlt g hm
        have := hw.size
        omega
      · have := hlt1 g hm
        omega
/-- The node whose kids these are, the first `vis` of them seen. -/
theorem Kids.nodeV {sz : Nat} {e : TypeId} {base : Nat} {w : World} {A : Option Addr} {cap vis : Nat} {ts : List Tr} {xs : List Value} {F : List Nat} (h : Kids sz e base w (.slice A ts.length cap) ts xs F) (hv : vis ≤ ts.length) (hd : List Value) (hl : hd.length + 1 = sz) (h1 : ∀ u ∈ hd, u.oneCell' = true) :
    ∃ G, Tr.own sz w (.mk hd vis ts) (hd ++ [.slice A vis cap]) G ∧ Apart base G ∧ Soft w G := by
  rcases Nat.eq_zero_or_pos ts.length with h0 | h0
  · have hc : cap ≤ 9223372036854775807 := by
      rcases h.row.2 with ⟨he, _⟩ | ⟨g, cap2, cur, he, _, _, _, hc, _⟩
      · injection he with _ _ he
        omega
      · injection he with _ _ he
        subst he
        exact hc
    exact ⟨[], by unfold Tr.own; exact ⟨A, 0, cap, rfl, hl, h1, ⟨h0.symm, by omega⟩, by omega, hc, .inl ⟨h0, rfl⟩⟩, Apart.nil _, Soft.nil _⟩
  · obtain ⟨g, cap2, hv2, hbg, hlt⟩ := h.row.form h0
    injection hv2 with q1 _ q3
    subst q1
    subst q3
    have hcap : ts.length ≤ cap ∧ cap ≤ maxLen := by
      rcases h.row.2 with ⟨_, h2⟩ | ⟨g', cap', cur, he, _, _, h2, h3, _⟩
      · omega
      · injection he with _ _ he
        subst he
        exact ⟨h2, h3⟩
    refine ⟨g :: F, by unfold Tr.own; exact ⟨_, _, cap, rfl, hl, h1, ⟨rfl, hv⟩, hcap.1, hcap.2, .inr ⟨h0, g, 0, xs, F, rfl, rfl, own_range h.row, h.own⟩⟩, ⟨List.nodup_cons.2 ⟨h.far g rfl, h.apart.1⟩, fun b hb => ?_⟩, fun b hb o => ?_⟩
    · rcases List.mem_cons.1 hb with rfl | hb
      · exact hbg
      · exact h.apart.2 b hb
    · rcases List.mem_cons.1 hb with rfl | hb
      · exact h.row.frozenAt o
      · exact h.soft b hb o
theorem Kids.slice {sz : Nat} {e : TypeId} {base : Nat} {w : World} {v : Value} {ts : List Tr} {xs : List Value} {F : List Nat} (h : Kids sz e base w v ts xs F) : ∃ A cap, v = .slice A ts.length cap := by
  rcases h.row.2 with ⟨rfl, h0⟩ | ⟨g, cap, cur, rfl, _⟩
  · exact ⟨none, 0, by rw [h0]⟩
  · exact ⟨_, _, rfl⟩
theorem Kids.drew {sz : Nat} {e : TypeId} {base : Nat} {w : World} {v : Value} {ts : List Tr} {xs : List Value} {F : List Nat} (h : Kids sz e base w v ts xs F) : Kids sz e base w.drew v ts xs F := h.below ⟨rfl, rfl, rfl, Nat.le_refl _, fun _ _ => rfl⟩
/-- The row of kids lies from `base` on. -/
theorem Kids.block {sz : Nat} {e : TypeId} {base : Nat} {w : World} {v : Value} {ts : List Tr} {xs : List Value} {F : List Nat} (h : Kids sz e base w v ts xs F) : ∀ g, v.ownBlock = some g → base ≤ g ∧ g < w.heap.size := h.row.lt

theorem far_cell {w1 w3 : World} {v : Value} {base n : Nat} (hg : w1.grownBy w3 v.ownBlock) (hB : ∀ g, v.ownBlock = some g → base ≤ g ∧ g < n) (p : Addr) (hp : p.block < base) (hl : p.block < w1.heap.size) : w3.cell? p = w1.cell? p :=
  hg.cell_far p hl fun e => by have := (hB _ e.symm).1; omega
theorem far_frozen {w1 w3 : World} {v : Value} {base n : Nat} (hg : w1.grownBy w3 v.ownBlock) (hB : ∀ g, v.ownBlock = some g → base ≤ g ∧ g < n) (p : Addr) (hp : p.block < base) (hl : p.block < w1.heap.size) : w3.frozen? p = w1.frozen? p :=
  hg.frozen_far p hl fun e => by have := (hB _ e.symm).1; omega
theorem far_block {w1 w3 : World} {v : Value} {base n : Nat} (hg : w1.grownBy w3 v.ownBlock) (hB : ∀ g, v.ownBlock = some g → base ≤ g ∧ g < n) (b : Nat) (hp : b < base) (hl : b < w1.heap.size) : w3.heap[b]? = w1.heap[b]? :=
  hg.block b hl fun e => by have := (hB _ e.symm).1; omega

/-! ### append of one node, its cells lying in a block of their own -/
section
variable {P : Program} {ops : Array Oper} {o : Oper} {a : Act} {Q : Exit → Act → World → Prop}
theorem wp_push {K : Act → World → Prop} {wr w1 : World} (s x : Operand) (t : TypeId) (ho : o.op = .call { callee := .builtin .append, args := #[s, x], argTypes := #[t, t] })
    (base : Nat) (e : TypeId) (i : TypeInfo) (z : Value) (size bytes : Nat) (ht : P.underlying t = some (.slice e)) (hi : P.info? e = some i) (hz : i.zero = some z)
    (hsize : i.size = size) (hby : i.bytes = bytes) (hzs : z.cells.size = size) (hsz : 0 < size)
    (v : Value) (ts : List Tr) (xs : List Value) (F : List Nat) (hs : a.eval s = v) (hk : Kids size e base wr v ts xs F) (hbase : base ≤ wr.heap.size) (hb : Below wr.heap.size wr w1)
    (tr : Tr) (c : List Value) (G : List Nat) (hown : tr.own size w1 c G) (hG : Apart wr.heap.size G) (hsoft : Soft w1 G) (hx : a.eval x = .slice (some ⟨w1.heap.size, 0, none⟩) 1 1) (hbytes : (ts.length + 1) * bytes ≤ 140737488355328) (hb0 : 0 < bytes)
    (h : ∀ g cap w', Kids size e base w' (.slice (some ⟨g, 0, none⟩) (ts.length + 1) cap) (ts ++ [tr]) (xs ++ c) (F ++ G) → w1.grownBy w' v.ownBlock → base ≤ g → g < w'.heap.size → K (a.put o.dst (.slice (some ⟨g, 0, none⟩) (ts.length + 1) cap)) w') :
    o.wp P a (w1.alloc (.cells c.toArray e)) K Q := by
  have hlen : ts.length + 1 ≤ 140737488355328 := Nat.le_trans (Nat.le_mul_of_pos_right _ hb0) hbytes
  have hc := Tr.own_len hown
  refine wp_append_lies (w1.alloc (.cells c.toArray e)) s x t ho base e i z size bytes ht hi hz hsize hby hzs hsz v ts.length xs hs ((hk.below hb).row.alloc _) ⟨w1.heap.size, 0, none⟩ 1 1 c hx (by omega)
    (World.news_of_block (cs := c.toArray) (t := e) (fr := (0, 0)) (heap_alloc_new w1 _)) (Tr.own_one hown) (by omega) (by simp only [maxLen]; omega) hbytes (by have := hb.size; simp; omega) (w1.heap.size + 1) (by simp) ?_
  intro g cap w' hown' hg hat hlt
  have hba : Below w1.heap.size w1 (w1.alloc (.cells c.toArray e)) := (Below.refl _ _).alloc (Nat.le_refl _) _
  have hkids : Kids size e base w' (.slice (some ⟨g, 0, none⟩) (ts.length + 1) cap) (ts ++ [tr]) (xs ++ c) (F ++ G) :=
    hk.push (us := [tr]) hbase (hb.trans (hba.mono hb.size)) (Tr.ownL_single (Tr.own_below hown hba)) hG (hsoft.same fun b hb => hba.block b (Tr.own_lt _ _ _ hown b hb)) (by simpa using hown') hg (by
      rcases hat with hat | hat
      · exact .inl hat.symm
      · exact .inr (by simp [Value.ownBlock, hat]))
  exact h g cap w' hkids (World.grownBy.trans (World.grownBy_alloc w1 _ _) hg) (hkids.block g rfl).1 hlt
theorem wpList_push {rest : List Oper} {wr w1 : World} (hgd : o.guard = none) (s x : Operand) (t : TypeId) (ho : o.op = .call { callee := .builtin .append, args := #[s, x], argTypes := #[t, t] })
    (base : Nat) (e : TypeId) (i : TypeInfo) (z : Value) (size bytes : Nat) (ht : P.underlying t = some (.slice e)) (hi : P.info? e = some i) (hz : i.zero = some z)
    (hsize : i.size = size) (hby : i.bytes = bytes) (hzs : z.cells.size = size) (hsz : 0 < size)
    (v : Value) (ts : List Tr) (xs : List Value) (F : List Nat) (hs : a.eval s = v) (hk : Kids size e base wr v ts xs F) (hbase : base ≤ wr.heap.size) (hb : Below wr.heap.size wr w1)
    (tr : Tr) (c : List Value) (G : List Nat) (hown : tr.own size w1 c G) (hG : Apart wr.heap.size G) (hsoft : Soft w1 G) (hx : a.eval x = .slice (some ⟨w1.heap.size, 0, none⟩) 1 1) (hbytes : (ts.length + 1) * bytes ≤ 140737488355328) (hb0 : 0 < bytes)
    (h : ∀ g cap w', Kids size e base w' (.slice (some ⟨g, 0, none⟩) (ts.length + 1) cap) (ts ++ [tr]) (xs ++ c) (F ++ G) → w1.grownBy w' v.ownBlock → base ≤ g → g < w'.heap.size → wpList P ops Q rest (a.put o.dst (.slice (some ⟨g, 0, none⟩) (ts.length + 1) cap)) w') :
    wpList P ops Q (o :: rest) a (w1.alloc (.cells c.toArray e)) :=
  wpList_plain hgd fun _ hK => wp_push s x t ho base e i z size bytes ht hi hz hsize hby hzs hsz v ts xs F hs hk hbase hb tr c G hown hG hsoft hx hbytes hb0 fun g cap w' h1 h2 h3 h4 => hK _ _ (h g cap w' h1 h2 h3 h4)
theorem step_push {K : Act → World → Prop} {E : Prop} {wr w1 : World} (hgd : o.guard = none) (s x : Operand) (t : TypeId) (ho : o.op = .call { callee := .builtin .append, args := #[s, x], argTypes := #[t, t] })
    (base : Nat) (e : TypeId) (i : TypeInfo) (z : Value) (size bytes : Nat) (ht : P.underlying t = some (.slice e)) (hi : P.info? e = some i) (hz : i.zero = some z)
    (hsize : i.size = size) (hby : i.bytes = bytes) (hzs : z.cells.size = size) (hsz : 0 < size)
    (v : Value) (ts : List Tr) (xs : List Value) (F : List Nat) (hs : a.eval s = v) (hk : Kids size e base wr v ts xs F) (hbase : base ≤ wr.heap.size) (hb : Below wr.heap.size wr w1)
    (tr : Tr) (c : List Value) (G : List Nat) (hown : tr.own size w1 c G) (hG : Apart wr.heap.size G) (hsoft : Soft w1 G) (hx : a.eval x = .slice (some ⟨w1.heap.size, 0, none⟩) 1 1) (hbytes : (ts.length + 1) * bytes ≤ 140737488355328) (hb0 : 0 < bytes)
    (h : ∀ g cap w', Kids size e base w' (.slice (some ⟨g, 0, none⟩) (ts.length + 1) cap) (ts ++ [tr]) (xs ++ c) (F ++ G) → w1.grownBy w' v.ownBlock → base ≤ g → g < w'.heap.size → K (a.put o.dst (.slice (some ⟨g, 0, none⟩) (ts.length + 1) cap)) w') :
    if Region.wanted o (yielded ops a.tmps) = true then Oper.wp P o a (w1.alloc (.cells c.toArray e)) K Q else E := by
  have hw : Region.wanted o (yielded ops a.tmps) = true := by simp [Region.wanted, hgd]
  rw [if_pos hw]
  exact wp_push s x t ho base e i z size bytes ht hi hz hsize hby hzs hsz v ts xs F hs hk hbase hb tr c G hown hG hsoft hx hbytes hb0 h
end
/-! ### append of another list's nodes -/
section
variable {P : Program} {ops : Array Oper} {o : Oper} {a : Act} {Q : Exit → Act → World → Prop}
theorem Kids.form {sz : Nat} {e : TypeId} {base : Nat} {w : World} {v : Value} {ts : List Tr} {xs : List Value} {F : List Nat} (h : Kids sz e base w v ts xs F) : ∃ A cap, v = .slice A ts.length cap ∧ ts.length ≤ cap := by
  rcases h.row.2 with ⟨rfl, h0⟩ | ⟨g, cap, cur, rfl, _, _, hc, _⟩
  · exact ⟨none, 0, by rw [h0], by omega⟩
  · exact ⟨_, cap, rfl, hc⟩
theorem run_append_zero (w : World) (t ty e : TypeId) (i : TypeInfo) (ht : P.underlying t = some (.slice e)) (hi : P.info? e = some i) (A A' : Option Addr) (n cap c : Nat) (hn : n ≤ cap) :
    (Builtin.append_ #[t, t] ty #[.slice A n cap, .slice A' 0 c]).run P w = .ok (.slice A n cap) w := by
  have hl : ∀ b : Addr, (loadCells b 0).run P w = .ok #[] w := fun b => run_loadCells_list (P := P) w b [] (fun j v h => by simp at h)
  cases A <;> cases A' <;> simp [Builtin.append_, run_underlying ht, sizeOf, typeInfo, hi, Builtin.lenOf, Builtin.firstCells, hn, storeCells, hl, Result.andThen]
theorem wp_pushes {K : Act → World → Prop} {wr w1 : World} (s x : Operand) (t : TypeId) (ho : o.op = .call { callee := .builtin .append, args := #[s, x], argTypes := #[t, t] })
    (base : Nat) (e : TypeId) (i : TypeInfo) (z : Value) (size bytes : Nat) (ht : P.underlying t = some (.slice e)) (hi : P.info? e = some i) (hz : i.zero = some z)
    (hsize : i.size = size) (hby : i.bytes = bytes) (hzs : z.cells.size = size) (hsz : 0 < size)
    (v : Value) (ts : List Tr) (xs : List Value) (F : List Nat) (hs : a.eval s = v) (hk : Kids size e base wr v ts xs F) (hbase : base ≤ wr.heap.size) (hb : Below wr.heap.size wr w1)
    (us : List Tr) (A : Option Addr) (m c : Nat) (cs : List Value) (G : List Nat) (hm : m = us.length) (hown : Tr.ownL size w1 us cs G) (hA : 0 < m → ∃ b off, A = some ⟨b, off, none⟩ ∧ w1.rangeAt b off cs) (hG : Apart wr.heap.size G) (hsoft : Soft w1 G) (hx : a.eval x = .slice A m c)
    (hbytes : (ts.length + m) * bytes ≤ 140737488355328) (hb0 : 0 < bytes)
    (h : ∀ A' cap w', Kids size e base w' (.slice A' (ts.length + m) cap) (ts ++ us) (xs ++ cs) (F ++ G) → w1.grownBy w' v.ownBlock → K (a.put o.dst (.slice A' (ts.length + m) cap)) w') :
    o.wp P a w1 K Q := by
  have hrun : ∃ A' cap w', (Builtin.append_ #[t, t] o.type #[v, .slice A m c]).run P w1 = .ok (.slice A' (ts.length + m) cap) w' ∧ Kids size e base w' (.slice A' (ts.length + m) cap) (ts ++ us) (xs ++ cs) (F ++ G) ∧ w1.grownBy w' v.ownBlock := by
    rcases Nat.eq_zero_or_pos m with h0 | h0
    · obtain ⟨A', cap, rfl, hc⟩ := hk.form
      have hu : us = [] := List.eq_nil_of_length_eq_zero (by omega)
      subst hu
      have hl := Tr.ownL_len hown
      have hl' : cs = [] := List.eq_nil_of_length_eq_zero (by simpa using hl)
      subst hl'
      have hGn : G = [] := by
        unfold Tr.ownL at hown
        exact hown.2
      subst hGn
      subst h0
      exact ⟨A', cap, w1, run_append_zero w1 t o.type e i ht hi A' A _ cap c hc, by simpa using hk.below hb, World.grownBy.refl _ _⟩
    · obtain ⟨b, off, rfl, hr⟩ := hA h0
      have hlen : ts.length + m ≤ 140737488355328 := Nat.le_trans (Nat.le_mul_of_pos_right _ hb0) hbytes
      have hc := Tr.ownL_len hown
      obtain ⟨g, cap, w', hrun, hown', hg, hat, hlt⟩ := run_append_lies (P := P) w1 t o.type base e i z size bytes ht hi hz hsize hby hzs hsz v ts.length xs (hk.below hb).row ⟨b, off, none⟩ m c cs (by rw [hc, hm])
        (fun j u hu => by rw [Addr.add_mid]; exact hr j u hu) (Tr.ownL_one hown) h0 (by simp only [maxLen]; omega) hbytes (Nat.le_trans hbase hb.size) w1.heap.size rfl
      refine ⟨_, cap, w', hrun, hk.push (us := us) hbase hb hown hG hsoft (by rw [← hm]; exact hown') hg ?_, hg⟩
      rcases hat with hat | hat
      · exact .inl hat.symm
      · exact .inr (by simp [Value.ownBlock, hat])
  obtain ⟨A', cap, w', hr, hkk, hg⟩ := hrun
  unfold Oper.wp execOp
  simp only [ho, resolve, invoke, builtin, Sem.run_bind, Sem.run_pure, Result.andThen_ok, List.map_toArray, List.map_cons, List.map_nil, hs, hx, hr]
  exact h A' cap w' hkk hg
theorem wpList_pushes {rest : List Oper} {wr w1 : World} (hgd : o.guard = none) (s x : Operand) (t : TypeId) (ho : o.op = .call { callee := .builtin .append, args := #[s, x], argTypes := #[t, t] })
    (base : Nat) (e : TypeId) (i : TypeInfo) (z : Value) (size bytes : Nat) (ht : P.underlying t = some (.slice e)) (hi : P.info? e = some i) (hz : i.zero = some z)
    (hsize : i.size = size) (hby : i.bytes = bytes) (hzs : z.cells.size = size) (hsz : 0 < size)
    (v : Value) (ts : List Tr) (xs : List Value) (F : List Nat) (hs : a.eval s = v) (hk : Kids size e base wr v ts xs F) (hbase : base ≤ wr.heap.size) (hb : Below wr.heap.size wr w1)
    (us : List Tr) (A : Option Addr) (m c : Nat) (cs : List Value) (G : List Nat) (hm : m = us.length) (hown : Tr.ownL size w1 us cs G) (hA : 0 < m → ∃ b off, A = some ⟨b, off, none⟩ ∧ w1.rangeAt b off cs) (hG : Apart wr.heap.size G) (hsoft : Soft w1 G) (hx : a.eval x = .slice A m c)
    (hbytes : (ts.length + m) * bytes ≤ 140737488355328) (hb0 : 0 < bytes)
    (h : ∀ A' cap w', Kids size e base w' (.slice A' (ts.length + m) cap) (ts ++ us) (xs ++ cs) (F ++ G) → w1.grownBy w' v.ownBlock → wpList P ops Q rest (a.put o.dst (.slice A' (ts.length + m) cap)) w') :
    wpList P ops Q (o :: rest) a w1 :=
  wpList_plain hgd fun _ hK => wp_pushes s x t ho base e i z size bytes ht hi hz hsize hby hzs hsz v ts xs F hs hk hbase hb us A m c cs G hm hown hA hG hsoft hx hbytes hb0 fun A' cap w' h1 h2 => hK _ _ (h A' cap w' h1 h2)
end
/-- A round of 'out.f = append(out.f, x)', `out` a variable in block `B`, its list of kids in the last cell: what the world is behind it. -/
theorem out_step {base B n m : Nat} {e : TypeId} {w0 wr w1 w3 : World} {v u : Value} {hd : List Value} (hm : hd.length = m) (hbase : B < base) (hB : w0.heap.size ≤ B) (hb : Below w0.heap.size w0 wr)
    (h2 : wr.heap[B]? = some (.cells (hd ++ [v]).toArray e (0, 0))) (hb1 : Below wr.heap.size wr w1) (hg : w1.grownBy w3 v.ownBlock) (HB : ∀ g, v.ownBlock = some g → base ≤ g ∧ g < n) :
    Below w0.heap.size w0 (w3.setCell ⟨B, m, none⟩ u) ∧ (w3.setCell ⟨B, m, none⟩ u).heap[B]? = some (.cells (hd ++ [u]).toArray e (0, 0)) ∧ wr.heap.size ≤ (w3.setCell ⟨B, m, none⟩ u).heap.size ∧
      ∀ b, b < wr.heap.size → b < base → b ≠ B → (w3.setCell ⟨B, m, none⟩ u).heap[b]? = wr.heap[b]? := by
  subst hm
  have hlt : B < wr.heap.size := (Array.getElem?_eq_some_iff.1 h2).1
  have hs1 := hb1.size
  have hs3 := hg.size
  have hs0 := hb.size
  have h3 : ∀ b, b < wr.heap.size → b < base → w3.heap[b]? = wr.heap[b]? := fun b h1 h2 => (far_block hg HB b h2 (by omega)).trans (hb1.block b h1)
  refine ⟨?_, ?_, by simpa [World.setCell] using (by omega : wr.heap.size ≤ w3.heap.size), fun b h1 h2 h4 => (Below.heap_setCell _ _ _ _ h4).trans (h3 b h1 h2)⟩
  · refine (((hb.trans (hb1.mono hs0)).grown hg (by omega) fun k hk => ?_)).setCell hB u
    have := (HB k hk).1
    omega
  · have := Joins.block_setCell (i := hd.length) ((h3 B hlt hbase).trans h2) u
    rw [this]
    simp
theorem Kids.setCell {sz : Nat} {e : TypeId} {base : Nat} {w : World} {v : Value} {ts : List Tr} {xs : List Value} {F : List Nat} (h : Kids sz e base w v ts xs F) (p : Addr) (hp : p.block < base) (u : Value) : Kids sz e base (w.setCell p u) v ts xs F :=
  h.wr (S := fun k => k = p.block) (Wr.setCell (p := p) (Wr.refl (fun k => k = p.block) w) (Or.inl rfl) u) fun k hk => by omega
theorem heap_alloc_mid (w : World) (a b c : Obj) : (((w.alloc a).alloc b).alloc c).heap[w.heap.size + 1]? = some b := by
  rw [heap_alloc_old _ _ (by simp)]
  exact heap_alloc2_new w a b
theorem heap_alloc_top (w : World) (a b c : Obj) : (((w.alloc a).alloc b).alloc c).heap[w.heap.size + 1 + 1]? = some c := by
  have h := heap_alloc_new ((w.alloc a).alloc b) c
  simpa using h
end Go.Proofs.YtbbpngoffpegbaaGreatDoor
