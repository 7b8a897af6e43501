/- The walk of 'value.plain': a value handed out. -/
import Derived.Test.YtbbpngoffpegbaaGreatDoorMayN
import Derived.Lib.AppendStr
import Derived.OwnWalk
namespace Go.Proofs.YtbbpngoffpegbaaGreatDoor
open Go.RowKit
set_option linter.unusedVariables false
set_option linter.unusedSimpArgs false
attribute [local go_sem] run_store_float
mutual
/-- v is the Go value of a value; its memory lies from `lo` on. -/
def Va.pl (w : World) (lo : Nat) : Va → Value → Prop
  | .mk kd n x y s rs, v =>
    ((kd < 1 ∨ 7 < kd) ∧ v = .nilIface) ∨ (kd = 1 ∧ v = .iface 4 (.bool (n == 1))) ∨ (kd = 2 ∧ v = .iface 2 (.int .i64 n)) ∨ (kd = 3 ∧ v = .iface 22 (.float .f64 x)) ∨ (kd = 4 ∧ v = .iface 48 (.complex .f64 x y)) ∨ (kd = 5 ∧ v = .iface 9 (.string s)) ∨
    (kd = 6 ∧ ∃ b cap, v = .iface 32 (.slice (some ⟨b, 0, none⟩) s.size cap) ∧ s.size ≤ cap ∧ lo ≤ b ∧ b < w.heap.size ∧ w.rangeAt b 0 (Lib.strCells s)) ∨
    (kd = 7 ∧ ∃ b cap vs, v = .iface 34 (.slice (some ⟨b, 0, none⟩) rs.length cap) ∧ rs.length ≤ cap ∧ lo ≤ b ∧ b < w.heap.size ∧ w.rangeAt b 0 vs ∧ Va.pls w lo rs vs)
def Va.pls (w : World) (lo : Nat) : List Va → List Value → Prop
  | [], vs => vs = []
  | r :: rs, vs => ∃ v vs', vs = v :: vs' ∧ r.pl w lo v ∧ Va.pls w lo rs vs'
end
mutual
/-- It stays while none of its blocks is written. -/
theorem Va.pl_same {w w' : World} {lo lo' : Nat} (hlo : lo' ≤ lo) (hs : w.heap.size ≤ w'.heap.size) (hb : ∀ b, lo ≤ b → b < w.heap.size → w'.heap[b]? = w.heap[b]?) : ∀ (r : Va) (v : Value), r.pl w lo v → r.pl w' lo' v
  | .mk kd n x y s rs, v => fun h => by
    unfold Va.pl at h ⊢
    rcases h with h | h | h | h | h | h | ⟨h, b, cap, h1, h2, h3, h4, h5⟩ | ⟨h, b, cap, vs, h1, h2, h3, h4, h5, h6⟩
    · exact .inl h
    · exact .inr (.inl h)
    · exact .inr (.inr (.inl h))
    · exact .inr (.inr (.inr (.inl h)))
    · exact .inr (.inr (.inr (.inr (.inl h))))
    · exact .inr (.inr (.inr (.inr (.inr (.inl h)))))
    · exact .inr (.inr (.inr (.inr (.inr (.inr (.inl ⟨h, b, cap, h1, h2, by omega, by omega, rangeAt_of_block h5 (hb b h3 h4)⟩))))))
    · exact .inr (.inr (.inr (.inr (.inr (.inr (.inr ⟨h, b, cap, vs, h1, h2, by omega, by omega, rangeAt_of_block h5 (hb b h3 h4), Va.pls_same hlo hs hb rs vs h6⟩))))))
theorem Va.pls_same {w w' : World} {lo lo' : Nat} (hlo : lo' ≤ lo) (hs : w.heap.size ≤ w'.heap.size) (hb : ∀ b, lo ≤ b → b < w.heap.size → w'.heap[b]? = w.heap[b]?) : ∀ (rs : List Va) (vs : List Value), Va.pls w lo rs vs → Va.pls w' lo' rs vs
  | [], vs => fun h => by unfold Va.pls at h ⊢; exact h
  | r :: rs, vs => fun h => by
    unfold Va.pls at h ⊢
    obtain ⟨v, vs', h1, h2, h3⟩ := h
    exact ⟨v, vs', h1, Va.pl_same hlo hs hb r v h2, Va.pls_same hlo hs hb rs vs' h3⟩
end
theorem Va.pl_one {w : World} {lo : Nat} {r : Va} {v : Value} (h : r.pl w lo v) : v.oneCell' = true := by
  cases r
  unfold Va.pl at h
  rcases h with ⟨_, rfl⟩ | ⟨_, rfl⟩ | ⟨_, rfl⟩ | ⟨_, rfl⟩ | ⟨_, rfl⟩ | ⟨_, rfl⟩ | ⟨_, _, _, rfl, _⟩ | ⟨_, _, _, _, rfl, _⟩ <;> rfl
theorem Va.pls_len {w : World} {lo : Nat} : ∀ {rs : List Va} {vs : List Value}, Va.pls w lo rs vs → vs.length = rs.length
  | [], vs, h => by unfold Va.pls at h; rw [h]; rfl
  | r :: rs, vs, h => by
    unfold Va.pls at h
    obtain ⟨v, vs', rfl, _, h3⟩ := h
    simp [Va.pls_len h3]
theorem Va.pls_snoc {w : World} {lo : Nat} : ∀ {rs : List Va} {vs : List Value} {r : Va} {v : Value}, Va.pls w lo rs vs → r.pl w lo v → Va.pls w lo (rs ++ [r]) (vs ++ [v])
  | [], vs, r, v, h, k => by
    unfold Va.pls at h
    subst h
    show Va.pls w lo [r] [v]
    unfold Va.pls
    exact ⟨v, [], rfl, k, by unfold Va.pls; rfl⟩
  | q :: rs, vs, r, v, h, k => by
    unfold Va.pls at h
    obtain ⟨u, vs', rfl, h2, h3⟩ := h
    rw [List.cons_append, List.cons_append]
    unfold Va.pls
    exact ⟨u, _, rfl, h2, Va.pls_snoc h3 k⟩
/-- What 'plain' gives. -/
def PlainIs (r : Va) (w : World) (e : Ending) (w' : World) : Prop := ∃ v, e = .returned v ∧ r.pl w' w.heap.size v ∧ Below w.heap.size w w'
mutual
/-- No text and no list is too long. -/
def Va.sm : Va → Prop
  | .mk _ _ _ _ s rs => s.size ≤ 4096 ∧ rs.length ≤ 1024 ∧ Va.sms rs
def Va.sms : List Va → Prop
  | [] => True
  | r :: rs => r.sm ∧ Va.sms rs
end
theorem Va.sms_at : ∀ (rs : List Va) (k : Nat) (hk : k < rs.length), Va.sms rs → rs[k].sm
  | r :: rs, 0, _, h => by unfold Va.sms at h; exact h.1
  | r :: rs, k + 1, hk, h => by
    unfold Va.sms at h
    exact Va.sms_at rs k (by simpa using hk) h.2
theorem okB_text {kd n : Int} {x y : Nat} {s : ByteArray} {len : Nat} {nest : Int} (h : okB kd n x y s len nest = true) : s.size ≤ 4096 := by
  unfold okB at h
  repeat (split at h <;> rename_i hc; · simp only [decide_eq_true_eq] at h; omega)
  cases h
mutual
theorem Va.sm_of : ∀ (r : Va), r.all → r.size ≤ 1025 → r.sm
  | .mk kd n x y s rs => fun h hz => by
    unfold Va.all at h
    unfold Va.size at hz
    unfold Va.sm
    have := Va.sizes_len rs
    exact ⟨okB_text h.1, by omega, Va.sms_of rs h.2 (by omega)⟩
theorem Va.sms_of : ∀ (rs : List Va), Va.alls rs → Va.sizes rs ≤ 1024 → Va.sms rs
  | [] => fun _ _ => by unfold Va.sms; trivial
  | r :: rs => fun h hz => by
    unfold Va.alls at h
    unfold Va.sizes at hz
    unfold Va.sms
    exact ⟨Va.sm_of r h.1 (by omega), Va.sms_of rs h.2 (by omega)⟩
end
theorem Va.ok_sm {r : Va} (h : r.okV = true) : r.sm := Va.sm_of r (Va.ok_all h) (by have := Va.ok_size h; omega)
theorem fill_one (v : Value) (h : v = .nilIface ∨ ∃ t u, v = .iface t u) : Instr.fill (fun i => some (i * 1, 1)) ((Array.range (1 * 1)).map (Value.nilIface.cells[· % Value.nilIface.cells.size]!)) [(0, v)] = some #[v] := by
  rcases h with rfl | ⟨t, u, rfl⟩
  · kernel_rfl
  · kernel_rfl
theorem Va.pl_form {w : World} {lo : Nat} {r : Va} {v : Value} (h : r.pl w lo v) : v = .nilIface ∨ ∃ t u, v = .iface t u := by
  cases r
  unfold Va.pl at h
  rcases h with ⟨_, rfl⟩ | ⟨_, rfl⟩ | ⟨_, rfl⟩ | ⟨_, rfl⟩ | ⟨_, rfl⟩ | ⟨_, rfl⟩ | ⟨_, _, _, rfl, _⟩ | ⟨_, _, _, _, rfl, _⟩ <;> first | exact .inl rfl | exact .inr ⟨_, _, rfl⟩
theorem info_any : (Tryz.prog.info? 20).map (fun i => (i.zero, i.size, i.bytes)) = some (some .nilIface, 1, 16) := by kernel_rfl
theorem info_u8 : (Tryz.prog.info? 5).map (fun i => (i.zero, i.size, i.bytes)) = some (some (.int .u8 0), 1, 1) := by kernel_rfl
def AGG (kd n : Int) (x y : Nat) (s : ByteArray) (a : Option Addr) (len cap : Nat) : Value := .agg #[.int .u8 kd, .int .i64 n, .float .f64 x, .float .f64 y, .string s, .slice a len cap]
section
variable (n : Int) (x y : Nat) (s : ByteArray) (rs : List Va) (a : Option Addr) (cap : Nat) (w : World)
theorem plain_none (kd : Int) (h1 : (kd == 1) = false) (h2 : (kd == 2) = false) (h3 : (kd == 3) = false) (h4 : (kd == 4) = false) (h5 : (kd == 5) = false) (h6 : (kd == 6) = false) (h7 : (kd == 7) = false) :
    Calls Tryz.prog 25 #[.agg #[.int .u8 kd, .int .i64 n, .float .f64 x, .float .f64 y, .string s, .slice a rs.length cap]] w (PlainIs (.mk kd n x y s rs) w) := by
  have HK : Hid (kd < 1 ∨ 7 < kd) := by
    simp only [beq_eq_false_iff_ne, ne_eq] at *
    show _ ∨ _
    omega
  go_enter Tryz.func25, Tryz.ntmps25
  go_wp2_with fail
  go_ret
  exact ⟨_, rfl, by unfold Va.pl; exact .inl ⟨HK.out, rfl⟩, bnew (Below.refl _ _) _⟩
theorem plain_1 : Calls Tryz.prog 25 #[.agg #[.int .u8 1, .int .i64 n, .float .f64 x, .float .f64 y, .string s, .slice a rs.length cap]] w (PlainIs (.mk 1 n x y s rs) w) := by
  go_enter Tryz.func25, Tryz.ntmps25
  go_wp2_with fail
  go_ret
  exact ⟨_, rfl, by unfold Va.pl; exact .inr (.inl ⟨rfl, rfl⟩), bnew (Below.refl _ _) _⟩
theorem plain_2 : Calls Tryz.prog 25 #[.agg #[.int .u8 2, .int .i64 n, .float .f64 x, .float .f64 y, .string s, .slice a rs.length cap]] w (PlainIs (.mk 2 n x y s rs) w) := by
  go_enter Tryz.func25, Tryz.ntmps25
  go_wp2_with fail
  go_ret
  exact ⟨_, rfl, by unfold Va.pl; exact .inr (.inr (.inl ⟨rfl, rfl⟩)), bnew (Below.refl _ _) _⟩
theorem plain_3 : Calls Tryz.prog 25 #[.agg #[.int .u8 3, .int .i64 n, .float .f64 x, .float .f64 y, .string s, .slice a rs.length cap]] w (PlainIs (.mk 3 n x y s rs) w) := by
  go_enter Tryz.func25, Tryz.ntmps25
  go_wp2_with fail
  go_ret
  exact ⟨_, rfl, by unfold Va.pl; exact .inr (.inr (.inr (.inl ⟨rfl, rfl⟩))), bnew (Below.refl _ _) _⟩
theorem plain_4 : Calls Tryz.prog 25 #[.agg #[.int .u8 4, .int .i64 n, .float .f64 x, .float .f64 y, .string s, .slice a rs.length cap]] w (PlainIs (.mk 4 n x y s rs) w) := by
  go_enter Tryz.func25, Tryz.ntmps25
  go_wp2_with fail
  go_ret
  exact ⟨_, rfl, by unfold Va.pl; exact .inr (.inr (.inr (.inr (.inl ⟨rfl, rfl⟩)))), bnew (Below.refl _ _) _⟩
theorem plain_5 : Calls Tryz.prog 25 #[.agg #[.int .u8 5, .int .i64 n, .float .f64 x, .float .f64 y, .string s, .slice a rs.length cap]] w (PlainIs (.mk 5 n x y s rs) w) := by
  go_enter Tryz.func25, Tryz.ntmps25
  go_wp2_with fail
  go_ret
  exact ⟨_, rfl, by unfold Va.pl; exact .inr (.inr (.inr (.inr (.inr (.inl ⟨rfl, rfl⟩))))), bnew (Below.refl _ _) _⟩
theorem own_none (W : World) (g : Nat) (e : TypeId) (hg : W.heap[g]? = some (.cells #[] e (0, 0))) (base : Nat) (hb : base ≤ g) : W.ownsRow base e 1 (.slice (some ⟨g, 0, none⟩) 0 0) 0 [] :=
  ⟨rfl, .inr ⟨g, 0, #[], rfl, hb, hg, Nat.le_refl _, Nat.zero_le _, rfl, rfl⟩⟩
theorem plain_6 (hs : s.size ≤ 4096) : Calls Tryz.prog 25 #[.agg #[.int .u8 6, .int .i64 n, .float .f64 x, .float .f64 y, .string s, .slice a rs.length cap]] w (PlainIs (.mk 6 n x y s rs) w) := by
  obtain ⟨i0, hi0, hz0, hz1, hz2⟩ := info_parts info_u8
  have HS := Lib.hid hs
  clear hs
  go_enter Tryz.func25, Tryz.ntmps25
  go_wp2_with (refine Lib.wpList_append_own_string _ (by rfl) _ _ 32 9 (by rfl) (w.heap.size + 1) 5 i0 Tryz.underlying32 Tryz.underlying9 hi0 hz0 hz1 hz2 _ 0 [] (by rfl) (own_none _ (w.heap.size + 1) 5 (two2 w _ _) _ (Nat.le_refl _)) s (by rfl) (by have := HS.out; simp only [maxLen]; omega) (by have := HS.out; omega) (by simp) ?_; intro v' w1 hown hg hnil)
  rcases hown.2 with ⟨rfl, h0⟩ | ⟨g, cap2, cur, rfl, hbg, hgg, hle, _⟩
  · exact absurd (hnil.1 rfl).1 (by simp)
  go_wp2_with fail
  go_ret
  have hlt := (hown.lt g rfl)
  refine ⟨_, rfl, ?_, ?_⟩
  · unfold Va.pl
    refine .inr (.inr (.inr (.inr (.inr (.inr (.inl ⟨rfl, g, cap2, by simp, by omega, by omega, hlt.2, ?_⟩))))))
    simpa using own_range hown
  · exact (bb2 w _ _).trans (⟨hg.os, hg.tape, hg.output, hg.size, fun k hk => hg.block k (by simp; omega) (by simp [Value.ownBlock]; omega)⟩)
end
theorem plain_step {w wr w2 w3 : World} {g k : Nat} {rs : List Va} {vs : List Value} {v : Value} {bx : Array Value} (hgw : g = w.heap.size + 1) (hb : Below w.heap.size w wr) (hgl : g < wr.heap.size) (hin : Va.pls wr (g + 1) (rs.take k) vs) (hlt : k < rs.length)
    (hpl : rs[k].pl w2 (wr.alloc (.cells bx 25)).heap.size v) (hb2 : Below (wr.alloc (.cells bx 25)).heap.size (wr.alloc (.cells bx 25)) w2) (hg3 : (w2.alloc (.cells #[v] 20)).grownBy w3 (some g)) :
    Va.pls w3 (g + 1) (rs.take (k + 1)) (vs ++ [v]) ∧ Below w.heap.size w w3 ∧ g < w3.heap.size := by
  have hs2 := hb2.size
  have hs3 := hg3.size
  have hsA : (wr.alloc (.cells bx 25)).heap.size = wr.heap.size + 1 := by simp
  have hsB : (w2.alloc (.cells #[v] 20)).heap.size = w2.heap.size + 1 := by simp
  have hbl3 : ∀ i, i < wr.heap.size → i ≠ g → w3.heap[i]? = wr.heap[i]? := fun i hi hne => by
    have h1 := hb2.block i (by omega)
    have h2 : (w2.alloc (.cells #[v] 20)).heap[i]? = w2.heap[i]? := Below.heap_alloc _ _ _ (by omega)
    have h4 : (wr.alloc (.cells bx 25)).heap[i]? = wr.heap[i]? := Below.heap_alloc _ _ _ hi
    rw [hg3.block i (by omega) (by simpa using hne), h2, h1, h4]
  refine ⟨?_, ?_, by omega⟩
  · rw [List.take_succ_eq_append_getElem hlt]
    refine Va.pls_snoc (Va.pls_same (Nat.le_refl _) (by omega) (fun i h1 h2 => hbl3 i h2 (by omega)) _ _ hin) ?_
    refine Va.pl_same (lo := (wr.alloc (.cells bx 25)).heap.size) (by omega) (by omega) (fun i h1 h2 => ?_) _ _ hpl
    have h5 : (w2.alloc (.cells #[v] 20)).heap[i]? = w2.heap[i]? := Below.heap_alloc _ _ _ h2
    rw [hg3.block i (by omega) (by simp; omega), h5]
  · exact hb.trans ⟨hg3.os.trans hb2.os, hg3.tape.trans hb2.tape, hg3.output.trans hb2.output, by omega, fun i hi => by
      have := hb.size
      exact hbl3 i (by omega) (by omega)⟩
set_option maxRecDepth 100000 in
set_option maxHeartbeats 2000000 in
theorem plain_N (N : Nat) : ∀ (r : Va) (_ : r.size ≤ N) (_ : r.sm) (c : List Value) (F : List Nat) (w : World) (_ : r.tr.own 6 w c F), Calls Tryz.prog 25 #[.agg c.toArray] w (PlainIs r w) := by
  induction N with
  | zero => intro r hN; have := r.size_pos; omega
  | succ N ih =>
  intro r hN hsm c F w hr
  obtain ⟨kd, n, x, y, s, rs⟩ := r
  obtain ⟨a, cap, rfl, hcap, hcap', hc⟩ := Va.open hr
  clear hr
  unfold Va.sm at hsm
  obtain ⟨hs, hl, hsms⟩ := hsm
  by_cases h7 : ¬ kd = 7
  · by_cases h1 : kd = 1
    · subst h1; exact plain_1 n x y s rs a cap w
    by_cases h2 : kd = 2
    · subst h2; exact plain_2 n x y s rs a cap w
    by_cases h3 : kd = 3
    · subst h3; exact plain_3 n x y s rs a cap w
    by_cases h4 : kd = 4
    · subst h4; exact plain_4 n x y s rs a cap w
    by_cases h5 : kd = 5
    · subst h5; exact plain_5 n x y s rs a cap w
    by_cases h6 : kd = 6
    · subst h6; exact plain_6 n x y s rs a cap w hs
    exact plain_none n x y s rs a cap w kd (beq_eq_false_iff_ne.2 h1) (beq_eq_false_iff_ne.2 h2) (beq_eq_false_iff_ne.2 h3) (beq_eq_false_iff_ne.2 h4) (beq_eq_false_iff_ne.2 h5) (beq_eq_false_iff_ne.2 h6) (beq_eq_false_iff_ne.2 h7)
  have h7 := Classical.not_not.1 h7
  subst h7
  unfold Va.size at hN
  have IH := Lib.hid ih
  have HSM := Lib.hid hsms
  have HL := Lib.hid hl
  clear ih hsms hs
  obtain ⟨i0, hi0, hz0, hz1, hz2⟩ := info_parts info_any
  go_enter Tryz.func25, Tryz.ntmps25
  go_wp2_with (refine wpList_make_own _ (by rfl) _ _ 34 (by rfl) (w.heap.size + 1) 20 i0 _ 1 Tryz.underlying34 hi0 hz0 hz1 _ _ _ rs.length (by rfl) (by rfl) rfl (by rw [hz2]; have := HL.out; omega) (by have := HL.out; simp only [maxLen]; omega) (by simp) ?_; intro w1 hown1 hg1; have HOWN := Lib.hid hown1; have HG := Lib.hid hg1; have q5 := (hg1.cell_far ⟨w.heap.size, 5, none⟩ (by simp) (by simp)).trans (box_all (heap_alloc_new w _) 5))
  clear hown1 hg1
  go_loopw [3, 53] (fun u3 u53 wr => ∃ (k : Nat) (g : Nat) (vs : List Value), k ≤ rs.length ∧ u53 = .int .i64 k ∧ u3 = .slice (some ⟨g, 0, none⟩) k rs.length ∧ Hid (g = w.heap.size + 1) ∧ Hid (wr.ownsRow (w.heap.size + 1) 20 1 (.slice (some ⟨g, 0, none⟩) k rs.length) k vs ∧ Va.pls wr (g + 1) (rs.take k) vs) ∧ Below w.heap.size w wr ∧ g < wr.heap.size) (fun _ u53 _ => rs.length - (intOf u53).toNat)
  case atStart =>
    have hlt := HOWN.out.lt (w.heap.size + 1) (by simp [Value.ownBlock])
    refine ⟨0, w.heap.size + 1, [], by omega, rfl, by simp, rfl, ⟨by simpa using HOWN.out, by simp [Va.pls]⟩, ?_, hlt.2⟩
    have hg := HG.out
    exact (bnew (Below.refl _ w) _).trans ⟨hg.os, hg.tape, hg.output, hg.size, fun k hk => hg.block k (by simp; omega) (by simp)⟩
  case round =>
    clear q5 HOWN HG
    obtain ⟨k, g, vs, hk, rfl, rfl, hgw, hin, hb, hgl⟩ := hrel
    by_cases hlt : k < rs.length
    · rcases hc with ⟨h0', _⟩ | ⟨_, b, o, cs, F', rfl, rfl, hra, hkl⟩
      · omega
      have hbl : b < w.heap.size := rangeAt_lt hra (by rw [Tr.ownL_len hkl, Va.trs_len]; omega)
      have hkl' := Tr.ownL_same _ _ _ (fun i hi => hb.block i (Tr.ownL_lt _ _ _ hkl i hi)) hkl
      obtain ⟨kkd, kn, kx, ky, ks, krs, ka, kcap, Fa, F1, Fb, hF1, _he1, hkid, c0, c1, c2, c3, c4, c5⟩ := Va.kidO k hlt hkl' (rangeAt_of_block hra (hb.block b hbl))
      have hri : (0:Int) ≤ (k:Int) := by omega
      have hri2 : (k:Int) < (rs.length:Int) := by omega
      have HZ := Va.sizes_at rs k hlt
      have HK := Lib.hid (fun A => Tr.own_below hkid (bnew (Below.refl _ wr) A))
      have HB := Lib.hid (And.intro hb hgl)
      clear hra hkl hkl' hF1 _he1 hkid
      go_wp2_with (first | (go_at_call 25; refine (IH.out rs[k] (by omega) (Va.sms_at rs k hlt HSM.out) [.int .u8 kkd, .int .i64 kn, .float .f64 kx, .float .f64 ky, .string ks, .slice ka krs.length kcap] F1 _ (HK.out _)).mono ?_; rintro e w2 ⟨v, rfl, hpl, hb2⟩; have hone := Va.pl_one hpl; have HFORM := Lib.hid (Va.pl_form hpl); have HP := Lib.hid (And.intro hpl hb2); clear hpl hb2; rcases HFORM.out with rfl | ⟨t9, u9, rfl⟩) | (refine wpList_append_fits _ (by rfl) _ _ 34 (by rfl) (w.heap.size + 1) 20 i0 1 Tryz.underlying34 hi0 hz1 g k rs.length vs (by rfl) (hin.out.1.kept (row := none) ⟨HP.out.2.os, HP.out.2.tape, HP.out.2.output, by have := HP.out.2.size; simp at this ⊢; omega, fun i hi _ => by have := HP.out.2.size; rw [heap_alloc_old _ _ (by simp at this; omega), HP.out.2.block i (by simp; omega)]; exact heap_alloc_old _ _ hi⟩ (.inr (by simp [Value.ownBlock]))) ⟨w2.heap.size, 0, none⟩ 1 1 [.nilIface] (by rfl) rfl (World.news_of_block (cs := #[.nilIface]) (t := 20) (fr := (0, 0)) (heap_alloc_new w2 _)) (by simp [Value.oneCell']) (by omega) ?_; intro w3 hown3 hg3) | (refine wpList_append_fits _ (by rfl) _ _ 34 (by rfl) (w.heap.size + 1) 20 i0 1 Tryz.underlying34 hi0 hz1 g k rs.length vs (by rfl) (hin.out.1.kept (row := none) ⟨HP.out.2.os, HP.out.2.tape, HP.out.2.output, by have := HP.out.2.size; simp at this ⊢; omega, fun i hi _ => by have := HP.out.2.size; rw [heap_alloc_old _ _ (by simp at this; omega), HP.out.2.block i (by simp; omega)]; exact heap_alloc_old _ _ hi⟩ (.inr (by simp [Value.ownBlock]))) ⟨w2.heap.size, 0, none⟩ 1 1 [.iface t9 u9] (by rfl) rfl (World.news_of_block (cs := #[.iface t9 u9]) (t := 20) (fr := (0, 0)) (heap_alloc_new w2 _)) (by simp [Value.oneCell']) (by omega) ?_; intro w3 hown3 hg3))
      all_goals
        go_roundw
        case rel =>
          obtain ⟨r1, r2, r3⟩ := plain_step hgw.out HB.out.1 HB.out.2 hin.out.2 hlt HP.out.1 HP.out.2 hg3
          exact ⟨k + 1, g, _, by omega, by go_num, by simp, hgw, ⟨hown3, r1⟩, r2, r3⟩
        case measure => simp [intOf]; omega
    · have hk' : k = rs.length := by omega
      subst hk'
      go_wp2_with fail
      go_ret
      refine ⟨_, rfl, ?_, hb⟩
      obtain ⟨h1, h2⟩ := hin.out
      have := hgw.out
      rw [List.take_length] at h2
      unfold Va.pl
      exact .inr (.inr (.inr (.inr (.inr (.inr (.inr ⟨rfl, g, rs.length, vs, rfl, Nat.le_refl _, by omega, hgl, own_range h1, Va.pls_same (by omega) (Nat.le_refl _) (fun _ _ _ => rfl) _ _ h2⟩))))))
end Go.Proofs.YtbbpngoffpegbaaGreatDoor
