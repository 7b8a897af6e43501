/- The walk of the program's source.bytes: all kinds together. The run equations of type assertions (comma-ok) of the Go values of a value. (Printed by gentas.py.) The walk of the program's held: kinds without lists. (Printed by genheld.py.) -/
import Derived.Test.YtaglklcjolcgeaaPVal7
import Derived.Test.YtaglklcjolcgeaaProg
import Derived.WalkKit
import Derived.Test.YtaglklcjolcgeaaCmpd
import Derived.Laws.BytesArg
namespace Go.Proofs.Ytaglklcjolcgeaa
open Go.RowKit
set_option linter.unusedVariables false
set_option linter.unusedSimpArgs false
theorem take1 (c : UInt8) (l : Bs) : takeN 1 (c :: l) = some ([c], l) := by
  unfold takeN
  rw [if_neg (by simp)]
  rfl
theorem len_of {l a b : Bs} {k : Nat} (h : takeN k l = some (a, b)) : a.length ≤ k := by rw [(takeN_len h).2]; omega
/-- The kinds that are no lists. -/
theorem bytes_leaf (k : Nat) (nest : Int) (c : UInt8) (l : Bs) (p : Addr) (w : World) (h : RdP w p (c :: l)) (hb : p.block < w.heap.size) (h7 : ¬ c = 7) :
    Calls Try.prog 24 #[.pointer (some p), .int .i64 nest] w (PV (progV k (c :: l)) p w) := by
  have HC : ∀ W, RdP W p (c :: l) → Calls Try.prog 39 #[.pointer (some p), .int .i64 1] W fun e w' => e = .returned (.int .u64 c.toNat) ∧ RdP w' p l ∧ Wr (fun j => j = p.block) W w' := fun W h => by
    have := fixed_some (c :: l) 1 [c] l p W h (take1 c l) (by omega)
    rw [be_one] at this
    exact this
  rw [progV.eq_def]
  simp only []
  by_cases h1 : c = 1
  · subst h1
    rw [if_pos rfl]
    cases ht : takeN 1 l with
    | none => exact pv_1n _ l nest p w h hb HC (fun W h => fixed_none l 1 p W h ht (by omega))
    | some g =>
      obtain ⟨a, d⟩ := g
      exact pv_1 _ l d (be a) nest p w h hb HC (fun W h => fixed_some l 1 a d p W h ht (by omega)) (be_lt1 a (len_of ht))
  rw [if_neg h1]
  by_cases h2 : c = 2
  · subst h2
    rw [if_pos rfl]
    cases ht : takeN 8 l with
    | none => exact pv_2n _ l nest p w h hb HC (fun W h => fixed_none l 8 p W h ht (by omega))
    | some g =>
      obtain ⟨a, d⟩ := g
      exact pv_2 _ l d (be a) nest p w h hb HC (fun W h => fixed_some l 8 a d p W h ht (by omega)) (be_lt8 a (len_of ht))
  rw [if_neg h2]
  by_cases h3 : c = 3
  · subst h3
    rw [if_pos rfl]
    cases ht : takeN 8 l with
    | none => exact pv_3n _ l nest p w h hb HC (fun W h => sbits_none l p W h ht)
    | some g =>
      obtain ⟨a, d⟩ := g
      exact pv_3 _ l d (be a) nest p w h hb HC (fun W h => sbits_some l a d p W h ht)
  rw [if_neg h3]
  by_cases h4 : c = 4
  · subst h4
    rw [if_pos rfl]
    cases ht : takeN 8 l with
    | none => exact pv_4n _ l nest p w h hb HC (fun W h => sbits_none l p W h ht)
    | some g =>
      obtain ⟨a, d⟩ := g
      simp only [Option.bind_some]
      cases hu : takeN 8 d with
      | none => exact pv_4m _ l d (be a) nest p w h hb HC (fun W h => sbits_some l a d p W h ht) (fun W h => sbits_none d p W h hu)
      | some g2 =>
        obtain ⟨a2, d2⟩ := g2
        exact pv_4 _ l d d2 (be a) (be a2) nest p w h hb HC (fun W h => sbits_some l a d p W h ht) (fun W h => sbits_some d a2 d2 p W h hu)
  rw [if_neg h4]
  by_cases h56 : c = 5 ∨ c = 6
  · rw [if_pos h56]
    cases ht : takeN 2 l with
    | none =>
      rcases h56 with rfl | rfl
      · exact pv_5n _ l nest p w h hb HC (fun W h => fixed_none l 2 p W h ht (by omega))
      · exact pv_6n _ l nest p w h hb HC (fun W h => fixed_none l 2 p W h ht (by omega))
    | some g =>
      obtain ⟨a, d⟩ := g
      simp only [Option.bind_some]
      have hx := be_le2 a (len_of ht)
      have hw := wrap_small _ hx
      cases hu : takeN (be a) d with
      | none =>
        rcases h56 with rfl | rfl
        · exact pv_5m _ l d (be a) nest p w h hb HC (fun W h => fixed_some l 2 a d p W h ht (by omega)) (by rw [hw]; exact fun W h => taken_none d (be a) p W h hu (by omega))
        · exact pv_6m _ l d (be a) nest p w h hb HC (fun W h => fixed_some l 2 a d p W h ht (by omega)) (by rw [hw]; exact fun W h => taken_none d (be a) p W h hu (by omega))
      | some g2 =>
        obtain ⟨a2, d2⟩ := g2
        rcases h56 with rfl | rfl
        · exact pv_5 _ l d d2 (be a) ⟨a2.toArray⟩ nest p w h hb HC (fun W h => fixed_some l 2 a d p W h ht (by omega)) (by rw [hw]; exact fun W h => taken_some d (be a) a2 d2 p W h hu)
        · exact pv_6 _ l d d2 (be a) ⟨a2.toArray⟩ nest p w h hb HC (fun W h => fixed_some l 2 a d p W h ht (by omega)) (by rw [hw]; exact fun W h => taken_some d (be a) a2 d2 p W h hu)
  rw [if_neg h56, if_neg h7]
  have hn : ∀ n : Nat, n < 256 → ¬ c = UInt8.ofNat n → ¬ c.toNat = n := fun n hn hc e => hc ((c_nat c n hn).1 e)
  exact pv_0 _ l c.toNat nest p w h hb HC c.toNat_lt (hn 1 (by omega) h1) (hn 2 (by omega) h2) (hn 3 (by omega) h3) (hn 4 (by omega) h4) (hn 5 (by omega) (fun e => h56 (.inl e))) (hn 6 (by omega) (fun e => h56 (.inr e))) (hn 7 (by omega) h7)
theorem bytes_N (k : Nat) : ∀ (nest : Int) (_ : nest + k = 16) (l : Bs) (p : Addr) (w : World), 0 ≤ nest → RdP w p l → p.block < w.heap.size →
    Calls Try.prog 24 #[.pointer (some p), .int .i64 nest] w (PV (progV k l) p w) := by
  induction k with
  | zero =>
    intro nest hk l p w h0 h hb
    cases l with
    | nil =>
      rw [progV.eq_def]
      exact pv_none [] nest p w h hb (fun W h => fixed_none [] 1 p W h rfl (by omega))
    | cons c l =>
      by_cases h7 : c = 7
      · subst h7
        obtain rfl : nest = 16 := by omega
        have HC : ∀ W, RdP W p (7 :: l) → Calls Try.prog 39 #[.pointer (some p), .int .i64 1] W fun e w' => e = .returned (.int .u64 7) ∧ RdP w' p l ∧ Wr (fun j => j = p.block) W w' := fun W h => fixed_some (7 :: l) 1 [7] l p W h (take1 7 l) (by omega)
        rw [progV.eq_def]
        exact pv_7x _ l p w h hb HC
      · exact bytes_leaf 0 nest c l p w h hb h7
  | succ k ih =>
    intro nest hk l p w h0 h hb
    cases l with
    | nil =>
      rw [progV.eq_def]
      exact pv_none [] nest p w h hb (fun W h => fixed_none [] 1 p W h rfl (by omega))
    | cons c l =>
      by_cases h7 : c = 7
      · subst h7
        have HC : ∀ W, RdP W p (7 :: l) → Calls Try.prog 39 #[.pointer (some p), .int .i64 1] W fun e w' => e = .returned (.int .u64 7) ∧ RdP w' p l ∧ Wr (fun j => j = p.block) W w' := fun W h => fixed_some (7 :: l) 1 [7] l p W h (take1 7 l) (by omega)
        have e : progV (k + 1) (7 :: l) = (takeN 2 l).bind fun h => (rep (progV k) (be h.1) h.2).map fun g => (.mk 7 0 0 0 ⟨#[]⟩ g.1, g.2) := by rw [progV.eq_def]; rfl
        rw [e]
        cases ht : takeN 2 l with
        | none => exact pv_7n _ l nest (by omega) p w h hb HC (fun W h => fixed_none l 2 p W h ht (by omega))
        | some g =>
          obtain ⟨a, d⟩ := g
          exact pv_7 (progV k) _ l d (be a) nest p w h hb HC (fun W h => fixed_some l 2 a d p W h ht (by omega)) (be_le2 a (len_of ht)) h0 (by omega) (fun l W h hb => ih (nest + 1) (by omega) l p W (by omega) h hb)
      · exact bytes_leaf (k + 1) nest c l p w h hb h7
end Go.Proofs.Ytaglklcjolcgeaa
namespace Go.Proofs.Ytaglklcjolcgeaa
open Go Go.RowKit
theorem ta_nb (w : World) : Sem.run Try.prog (Instr.typeAssert .nilIface 20 4 true) w = .ok (.tuple #[.bool false, .bool false]) w := by kernel_rfl
theorem ta_bb (u : Value) (w : World) : Sem.run Try.prog (Instr.typeAssert (.iface 4 u) 20 4 true) w = .ok (.tuple #[u, .bool true]) w := by kernel_rfl
theorem ta_ib (u : Value) (w : World) : Sem.run Try.prog (Instr.typeAssert (.iface 2 u) 20 4 true) w = .ok (.tuple #[.bool false, .bool false]) w := by kernel_rfl
theorem ta_fb (u : Value) (w : World) : Sem.run Try.prog (Instr.typeAssert (.iface 22 u) 20 4 true) w = .ok (.tuple #[.bool false, .bool false]) w := by kernel_rfl
theorem ta_cb (u : Value) (w : World) : Sem.run Try.prog (Instr.typeAssert (.iface 77 u) 20 4 true) w = .ok (.tuple #[.bool false, .bool false]) w := by kernel_rfl
theorem ta_sb (u : Value) (w : World) : Sem.run Try.prog (Instr.typeAssert (.iface 9 u) 20 4 true) w = .ok (.tuple #[.bool false, .bool false]) w := by kernel_rfl
theorem ta_yb (u : Value) (w : World) : Sem.run Try.prog (Instr.typeAssert (.iface 68 u) 20 4 true) w = .ok (.tuple #[.bool false, .bool false]) w := by kernel_rfl
theorem ta_ab (u : Value) (w : World) : Sem.run Try.prog (Instr.typeAssert (.iface 78 u) 20 4 true) w = .ok (.tuple #[.bool false, .bool false]) w := by kernel_rfl
theorem ta_ni (w : World) : Sem.run Try.prog (Instr.typeAssert .nilIface 20 2 true) w = .ok (.tuple #[.int .i64 0, .bool false]) w := by kernel_rfl
theorem ta_bi (u : Value) (w : World) : Sem.run Try.prog (Instr.typeAssert (.iface 4 u) 20 2 true) w = .ok (.tuple #[.int .i64 0, .bool false]) w := by kernel_rfl
theorem ta_ii (u : Value) (w : World) : Sem.run Try.prog (Instr.typeAssert (.iface 2 u) 20 2 true) w = .ok (.tuple #[u, .bool true]) w := by kernel_rfl
theorem ta_fi (u : Value) (w : World) : Sem.run Try.prog (Instr.typeAssert (.iface 22 u) 20 2 true) w = .ok (.tuple #[.int .i64 0, .bool false]) w := by kernel_rfl
theorem ta_ci (u : Value) (w : World) : Sem.run Try.prog (Instr.typeAssert (.iface 77 u) 20 2 true) w = .ok (.tuple #[.int .i64 0, .bool false]) w := by kernel_rfl
theorem ta_si (u : Value) (w : World) : Sem.run Try.prog (Instr.typeAssert (.iface 9 u) 20 2 true) w = .ok (.tuple #[.int .i64 0, .bool false]) w := by kernel_rfl
theorem ta_yi (u : Value) (w : World) : Sem.run Try.prog (Instr.typeAssert (.iface 68 u) 20 2 true) w = .ok (.tuple #[.int .i64 0, .bool false]) w := by kernel_rfl
theorem ta_ai (u : Value) (w : World) : Sem.run Try.prog (Instr.typeAssert (.iface 78 u) 20 2 true) w = .ok (.tuple #[.int .i64 0, .bool false]) w := by kernel_rfl
theorem ta_nf (w : World) : Sem.run Try.prog (Instr.typeAssert .nilIface 20 22 true) w = .ok (.tuple #[.float .f64 0, .bool false]) w := by kernel_rfl
theorem ta_bf (u : Value) (w : World) : Sem.run Try.prog (Instr.typeAssert (.iface 4 u) 20 22 true) w = .ok (.tuple #[.float .f64 0, .bool false]) w := by kernel_rfl
theorem ta_if (u : Value) (w : World) : Sem.run Try.prog (Instr.typeAssert (.iface 2 u) 20 22 true) w = .ok (.tuple #[.float .f64 0, .bool false]) w := by kernel_rfl
theorem ta_ff (u : Value) (w : World) : Sem.run Try.prog (Instr.typeAssert (.iface 22 u) 20 22 true) w = .ok (.tuple #[u, .bool true]) w := by kernel_rfl
theorem ta_cf (u : Value) (w : World) : Sem.run Try.prog (Instr.typeAssert (.iface 77 u) 20 22 true) w = .ok (.tuple #[.float .f64 0, .bool false]) w := by kernel_rfl
theorem ta_sf (u : Value) (w : World) : Sem.run Try.prog (Instr.typeAssert (.iface 9 u) 20 22 true) w = .ok (.tuple #[.float .f64 0, .bool false]) w := by kernel_rfl
theorem ta_yf (u : Value) (w : World) : Sem.run Try.prog (Instr.typeAssert (.iface 68 u) 20 22 true) w = .ok (.tuple #[.float .f64 0, .bool false]) w := by kernel_rfl
theorem ta_af (u : Value) (w : World) : Sem.run Try.prog (Instr.typeAssert (.iface 78 u) 20 22 true) w = .ok (.tuple #[.float .f64 0, .bool false]) w := by kernel_rfl
theorem ta_nc (w : World) : Sem.run Try.prog (Instr.typeAssert .nilIface 20 77 true) w = .ok (.tuple #[.complex .f64 0 0, .bool false]) w := by kernel_rfl
theorem ta_bc (u : Value) (w : World) : Sem.run Try.prog (Instr.typeAssert (.iface 4 u) 20 77 true) w = .ok (.tuple #[.complex .f64 0 0, .bool false]) w := by kernel_rfl
theorem ta_ic (u : Value) (w : World) : Sem.run Try.prog (Instr.typeAssert (.iface 2 u) 20 77 true) w = .ok (.tuple #[.complex .f64 0 0, .bool false]) w := by kernel_rfl
theorem ta_fc (u : Value) (w : World) : Sem.run Try.prog (Instr.typeAssert (.iface 22 u) 20 77 true) w = .ok (.tuple #[.complex .f64 0 0, .bool false]) w := by kernel_rfl
theorem ta_cc (u : Value) (w : World) : Sem.run Try.prog (Instr.typeAssert (.iface 77 u) 20 77 true) w = .ok (.tuple #[u, .bool true]) w := by kernel_rfl
theorem ta_sc (u : Value) (w : World) : Sem.run Try.prog (Instr.typeAssert (.iface 9 u) 20 77 true) w = .ok (.tuple #[.complex .f64 0 0, .bool false]) w := by kernel_rfl
theorem ta_yc (u : Value) (w : World) : Sem.run Try.prog (Instr.typeAssert (.iface 68 u) 20 77 true) w = .ok (.tuple #[.complex .f64 0 0, .bool false]) w := by kernel_rfl
theorem ta_ac (u : Value) (w : World) : Sem.run Try.prog (Instr.typeAssert (.iface 78 u) 20 77 true) w = .ok (.tuple #[.complex .f64 0 0, .bool false]) w := by kernel_rfl
theorem ta_ns (w : World) : Sem.run Try.prog (Instr.typeAssert .nilIface 20 9 true) w = .ok (.tuple #[.string ⟨#[]⟩, .bool false]) w := by kernel_rfl
theorem ta_bs (u : Value) (w : World) : Sem.run Try.prog (Instr.typeAssert (.iface 4 u) 20 9 true) w = .ok (.tuple #[.string ⟨#[]⟩, .bool false]) w := by kernel_rfl
theorem ta_is (u : Value) (w : World) : Sem.run Try.prog (Instr.typeAssert (.iface 2 u) 20 9 true) w = .ok (.tuple #[.string ⟨#[]⟩, .bool false]) w := by kernel_rfl
theorem ta_fs (u : Value) (w : World) : Sem.run Try.prog (Instr.typeAssert (.iface 22 u) 20 9 true) w = .ok (.tuple #[.string ⟨#[]⟩, .bool false]) w := by kernel_rfl
theorem ta_cs (u : Value) (w : World) : Sem.run Try.prog (Instr.typeAssert (.iface 77 u) 20 9 true) w = .ok (.tuple #[.string ⟨#[]⟩, .bool false]) w := by kernel_rfl
theorem ta_ss (u : Value) (w : World) : Sem.run Try.prog (Instr.typeAssert (.iface 9 u) 20 9 true) w = .ok (.tuple #[u, .bool true]) w := by kernel_rfl
theorem ta_ys (u : Value) (w : World) : Sem.run Try.prog (Instr.typeAssert (.iface 68 u) 20 9 true) w = .ok (.tuple #[.string ⟨#[]⟩, .bool false]) w := by kernel_rfl
theorem ta_as (u : Value) (w : World) : Sem.run Try.prog (Instr.typeAssert (.iface 78 u) 20 9 true) w = .ok (.tuple #[.string ⟨#[]⟩, .bool false]) w := by kernel_rfl
theorem ta_ny (w : World) : Sem.run Try.prog (Instr.typeAssert .nilIface 20 68 true) w = .ok (.tuple #[.slice none 0 0, .bool false]) w := by kernel_rfl
theorem ta_by (u : Value) (w : World) : Sem.run Try.prog (Instr.typeAssert (.iface 4 u) 20 68 true) w = .ok (.tuple #[.slice none 0 0, .bool false]) w := by kernel_rfl
theorem ta_iy (u : Value) (w : World) : Sem.run Try.prog (Instr.typeAssert (.iface 2 u) 20 68 true) w = .ok (.tuple #[.slice none 0 0, .bool false]) w := by kernel_rfl
theorem ta_fy (u : Value) (w : World) : Sem.run Try.prog (Instr.typeAssert (.iface 22 u) 20 68 true) w = .ok (.tuple #[.slice none 0 0, .bool false]) w := by kernel_rfl
theorem ta_cy (u : Value) (w : World) : Sem.run Try.prog (Instr.typeAssert (.iface 77 u) 20 68 true) w = .ok (.tuple #[.slice none 0 0, .bool false]) w := by kernel_rfl
theorem ta_sy (u : Value) (w : World) : Sem.run Try.prog (Instr.typeAssert (.iface 9 u) 20 68 true) w = .ok (.tuple #[.slice none 0 0, .bool false]) w := by kernel_rfl
theorem ta_yy (u : Value) (w : World) : Sem.run Try.prog (Instr.typeAssert (.iface 68 u) 20 68 true) w = .ok (.tuple #[u, .bool true]) w := by kernel_rfl
theorem ta_ay (u : Value) (w : World) : Sem.run Try.prog (Instr.typeAssert (.iface 78 u) 20 68 true) w = .ok (.tuple #[.slice none 0 0, .bool false]) w := by kernel_rfl
theorem ta_na (w : World) : Sem.run Try.prog (Instr.typeAssert .nilIface 20 78 true) w = .ok (.tuple #[.slice none 0 0, .bool false]) w := by kernel_rfl
theorem ta_ba (u : Value) (w : World) : Sem.run Try.prog (Instr.typeAssert (.iface 4 u) 20 78 true) w = .ok (.tuple #[.slice none 0 0, .bool false]) w := by kernel_rfl
theorem ta_ia (u : Value) (w : World) : Sem.run Try.prog (Instr.typeAssert (.iface 2 u) 20 78 true) w = .ok (.tuple #[.slice none 0 0, .bool false]) w := by kernel_rfl
theorem ta_fa (u : Value) (w : World) : Sem.run Try.prog (Instr.typeAssert (.iface 22 u) 20 78 true) w = .ok (.tuple #[.slice none 0 0, .bool false]) w := by kernel_rfl
theorem ta_ca (u : Value) (w : World) : Sem.run Try.prog (Instr.typeAssert (.iface 77 u) 20 78 true) w = .ok (.tuple #[.slice none 0 0, .bool false]) w := by kernel_rfl
theorem ta_sa (u : Value) (w : World) : Sem.run Try.prog (Instr.typeAssert (.iface 9 u) 20 78 true) w = .ok (.tuple #[.slice none 0 0, .bool false]) w := by kernel_rfl
theorem ta_ya (u : Value) (w : World) : Sem.run Try.prog (Instr.typeAssert (.iface 68 u) 20 78 true) w = .ok (.tuple #[.slice none 0 0, .bool false]) w := by kernel_rfl
theorem ta_aa (u : Value) (w : World) : Sem.run Try.prog (Instr.typeAssert (.iface 78 u) 20 78 true) w = .ok (.tuple #[u, .bool true]) w := by kernel_rfl
end Go.Proofs.Ytaglklcjolcgeaa
namespace Go.Proofs.Ytaglklcjolcgeaa
open Go Go.RowKit
set_option linter.unusedVariables false
set_option linter.unusedSimpArgs false
attribute [local go_sem] run_store_float
theorem held_end {w : World} {v0 v1 v2 v3 v4 : Value} {W : World} (hb : Below w.heap.size w W) {r : Va} (h : ∀ W', r.tr.own 6 W' [v0, v1, v2, v3, v4, .slice none 0 0] []) : GivesR r w (.returned (.agg #[v0, v1, v2, v3, v4, .slice none 0 0])) (W.setRow w.heap.size #[v0, v1, v2, v3, v4, .slice none 0 0]) :=
  ⟨_, _, _, _, _, _, [], rfl, h _, Apart.nil _, Soft.nil _, hb.trans ⟨rfl, rfl, rfl, by simp, fun i hi => setRow_other _ _ _ _ (by omega)⟩⟩
set_option maxRecDepth 100000 in
set_option maxHeartbeats 2000000 in
theorem held_0 (w : World)  : Calls Try.prog 61 #[.nilIface] w (GivesR (mkI 0 0) w) := by
  have a0 := ta_nb
  have a1 := ta_ni
  have a2 := ta_nf
  have a3 := ta_nc
  have a4 := ta_ns
  have a5 := ta_ny
  have a6 := ta_na
  have HB := Lib.hid (bnew (Below.refl w.heap.size w) (.cells zero6 25))
  have HE := Lib.hid (heap_alloc_new w (.cells zero6 25))
  go_enter Try.func61, Try.ntmps61
  go_wp2_with (refine wpList_store_rowTo (by rfl) 25 _ _ (by rfl) (by rfl) w.heap.size #[.int .u8 0, .int .i64 0, .float .f64 0, .float .f64 0, .string ⟨#[]⟩, .slice none 0 0] (by rfl) (by rfl) 25 zero6 HE.out (by kernel_rfl) (by kernel_rfl) (all_oneCell_toArray (cs := [.int .u8 0, .int .i64 0, .float .f64 0, .float .f64 0, .string ⟨#[]⟩, .slice none 0 0]) (by simp [Value.oneCell'])) ?_)
  refine bodyPost_ret (v := .agg #[.int .u8 0, .int .i64 0, .float .f64 0, .float .f64 0, .string ⟨#[]⟩, .slice none 0 0]) (results_cell_row rfl _ _ w.heap.size 25 _ (0, 0) _ rfl (setRow_heap _ _ _ _ _ _ HE.out) Try.underlying25 rfl (by kernel_rfl)) rfl ?_
  refine held_end HB.out (fun W => ?_)
  (try unfold mkI); unfold Va.tr Tr.own
  exact ⟨none, 0, 0, by simp, rfl, by simp [Value.oneCell'], ⟨rfl, Nat.le_refl _⟩, Nat.le_refl _, by omega, .inl ⟨rfl, rfl⟩⟩
set_option maxRecDepth 100000 in
set_option maxHeartbeats 2000000 in
theorem held_2 (w : World) (n : Int) : Calls Try.prog 61 #[.iface 2 (.int .i64 n)] w (GivesR (mkI 2 n) w) := by
  have a0 := ta_ib
  have a1 := ta_ii
  have HB := Lib.hid (bnew (Below.refl w.heap.size w) (.cells zero6 25))
  have HE := Lib.hid (heap_alloc_new w (.cells zero6 25))
  go_enter Try.func61, Try.ntmps61
  go_wp2_with (refine wpList_store_rowTo (by rfl) 25 _ _ (by rfl) (by rfl) w.heap.size #[.int .u8 2, .int .i64 n, .float .f64 0, .float .f64 0, .string ⟨#[]⟩, .slice none 0 0] (by rfl) (by rfl) 25 zero6 HE.out (by kernel_rfl) (by kernel_rfl) (all_oneCell_toArray (cs := [.int .u8 2, .int .i64 n, .float .f64 0, .float .f64 0, .string ⟨#[]⟩, .slice none 0 0]) (by simp [Value.oneCell'])) ?_)
  refine bodyPost_ret (v := .agg #[.int .u8 2, .int .i64 n, .float .f64 0, .float .f64 0, .string ⟨#[]⟩, .slice none 0 0]) (results_cell_row rfl _ _ w.heap.size 25 _ (0, 0) _ rfl (setRow_heap _ _ _ _ _ _ HE.out) Try.underlying25 rfl (by kernel_rfl)) rfl ?_
  refine held_end HB.out (fun W => ?_)
  (try unfold mkI); unfold Va.tr Tr.own
  exact ⟨none, 0, 0, by simp, rfl, by simp [Value.oneCell'], ⟨rfl, Nat.le_refl _⟩, Nat.le_refl _, by omega, .inl ⟨rfl, rfl⟩⟩
set_option maxRecDepth 100000 in
set_option maxHeartbeats 2000000 in
theorem held_3 (w : World) (x : Nat) : Calls Try.prog 61 #[.iface 22 (.float .f64 x)] w (GivesR (.mk 3 0 x 0 ⟨#[]⟩ []) w) := by
  have a0 := ta_fb
  have a1 := ta_fi
  have a2 := ta_ff
  have HB := Lib.hid (bnew (Below.refl w.heap.size w) (.cells zero6 25))
  have HE := Lib.hid (heap_alloc_new w (.cells zero6 25))
  go_enter Try.func61, Try.ntmps61
  go_wp2_with (refine wpList_store_rowTo (by rfl) 25 _ _ (by rfl) (by rfl) w.heap.size #[.int .u8 3, .int .i64 0, .float .f64 x, .float .f64 0, .string ⟨#[]⟩, .slice none 0 0] (by rfl) (by rfl) 25 zero6 HE.out (by kernel_rfl) (by kernel_rfl) (all_oneCell_toArray (cs := [.int .u8 3, .int .i64 0, .float .f64 x, .float .f64 0, .string ⟨#[]⟩, .slice none 0 0]) (by simp [Value.oneCell'])) ?_)
  refine bodyPost_ret (v := .agg #[.int .u8 3, .int .i64 0, .float .f64 x, .float .f64 0, .string ⟨#[]⟩, .slice none 0 0]) (results_cell_row rfl _ _ w.heap.size 25 _ (0, 0) _ rfl (setRow_heap _ _ _ _ _ _ HE.out) Try.underlying25 rfl (by kernel_rfl)) rfl ?_
  refine held_end HB.out (fun W => ?_)
  (try unfold mkI); unfold Va.tr Tr.own
  exact ⟨none, 0, 0, by simp, rfl, by simp [Value.oneCell'], ⟨rfl, Nat.le_refl _⟩, Nat.le_refl _, by omega, .inl ⟨rfl, rfl⟩⟩
set_option maxRecDepth 100000 in
set_option maxHeartbeats 2000000 in
theorem held_4 (w : World) (x y : Nat) : Calls Try.prog 61 #[.iface 77 (.complex .f64 x y)] w (GivesR (.mk 4 0 x y ⟨#[]⟩ []) w) := by
  have a0 := ta_cb
  have a1 := ta_ci
  have a2 := ta_cf
  have a3 := ta_cc
  have HB := Lib.hid (bnew (Below.refl w.heap.size w) (.cells zero6 25))
  have HE := Lib.hid (heap_alloc_new w (.cells zero6 25))
  go_enter Try.func61, Try.ntmps61
  go_wp2_with (refine wpList_store_rowTo (by rfl) 25 _ _ (by rfl) (by rfl) w.heap.size #[.int .u8 4, .int .i64 0, .float .f64 x, .float .f64 y, .string ⟨#[]⟩, .slice none 0 0] (by rfl) (by rfl) 25 zero6 HE.out (by kernel_rfl) (by kernel_rfl) (all_oneCell_toArray (cs := [.int .u8 4, .int .i64 0, .float .f64 x, .float .f64 y, .string ⟨#[]⟩, .slice none 0 0]) (by simp [Value.oneCell'])) ?_)
  refine bodyPost_ret (v := .agg #[.int .u8 4, .int .i64 0, .float .f64 x, .float .f64 y, .string ⟨#[]⟩, .slice none 0 0]) (results_cell_row rfl _ _ w.heap.size 25 _ (0, 0) _ rfl (setRow_heap _ _ _ _ _ _ HE.out) Try.underlying25 rfl (by kernel_rfl)) rfl ?_
  refine held_end HB.out (fun W => ?_)
  (try unfold mkI); unfold Va.tr Tr.own
  exact ⟨none, 0, 0, by simp, rfl, by simp [Value.oneCell'], ⟨rfl, Nat.le_refl _⟩, Nat.le_refl _, by omega, .inl ⟨rfl, rfl⟩⟩
set_option maxRecDepth 100000 in
set_option maxHeartbeats 2000000 in
theorem held_5 (w : World) (s : ByteArray) : Calls Try.prog 61 #[.iface 9 (.string s)] w (GivesR (.mk 5 0 0 0 s []) w) := by
  have a0 := ta_sb
  have a1 := ta_si
  have a2 := ta_sf
  have a3 := ta_sc
  have a4 := ta_ss
  have HB := Lib.hid (bnew (Below.refl w.heap.size w) (.cells zero6 25))
  have HE := Lib.hid (heap_alloc_new w (.cells zero6 25))
  go_enter Try.func61, Try.ntmps61
  go_wp2_with (refine wpList_store_rowTo (by rfl) 25 _ _ (by rfl) (by rfl) w.heap.size #[.int .u8 5, .int .i64 0, .float .f64 0, .float .f64 0, .string s, .slice none 0 0] (by rfl) (by rfl) 25 zero6 HE.out (by kernel_rfl) (by kernel_rfl) (all_oneCell_toArray (cs := [.int .u8 5, .int .i64 0, .float .f64 0, .float .f64 0, .string s, .slice none 0 0]) (by simp [Value.oneCell'])) ?_)
  refine bodyPost_ret (v := .agg #[.int .u8 5, .int .i64 0, .float .f64 0, .float .f64 0, .string s, .slice none 0 0]) (results_cell_row rfl _ _ w.heap.size 25 _ (0, 0) _ rfl (setRow_heap _ _ _ _ _ _ HE.out) Try.underlying25 rfl (by kernel_rfl)) rfl ?_
  refine held_end HB.out (fun W => ?_)
  (try unfold mkI); unfold Va.tr Tr.own
  exact ⟨none, 0, 0, by simp, rfl, by simp [Value.oneCell'], ⟨rfl, Nat.le_refl _⟩, Nat.le_refl _, by omega, .inl ⟨rfl, rfl⟩⟩
end Go.Proofs.Ytaglklcjolcgeaa
