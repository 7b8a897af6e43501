/- The walk of slices.CompareFunc over two lists of values, what it compares by given. -/
import Derived.Test.YtaglklcjolcgeaaCmp
import Derived.Test.YtaglklcjolcgeaaRTop
namespace Go.Proofs.Ytaglklcjolcgeaa
open Go.RowKit
set_option linter.unusedVariables false
set_option linter.unusedSimpArgs false
attribute [local go_sem] run_store_float
def OrdI (v : Int) (w : World) (e : Ending) (w' : World) : Prop := e = .returned (.int .i64 v) ∧ Below w.heap.size w w'
theorem pordL_zero (rs rs2 : List Va) (k : Nat) (hk : k < rs.length) (hk2 : k < rs2.length) (h : pordV rs[k] rs2[k] = 0) : pordL (rs.drop k) (rs2.drop k) = pordL (rs.drop (k + 1)) (rs2.drop (k + 1)) := by
  rw [List.drop_eq_getElem_cons hk, List.drop_eq_getElem_cons hk2]
  conv => lhs; unfold pordL
  rw [if_neg (by omega)]
theorem pordL_some (rs rs2 : List Va) (k : Nat) (hk : k < rs.length) (hk2 : k < rs2.length) (h : ¬ pordV rs[k] rs2[k] = 0) : pordL (rs.drop k) (rs2.drop k) = pordV rs[k] rs2[k] := by
  rw [List.drop_eq_getElem_cons hk, List.drop_eq_getElem_cons hk2]
  unfold pordL
  rw [if_pos h]
theorem pordL_more (rs rs2 : List Va) (k : Nat) (hk : k < rs.length) (hk2 : rs2.length ≤ k) : pordL (rs.drop k) (rs2.drop k) = 1 := by
  rw [List.drop_eq_getElem_cons hk, List.drop_eq_nil_of_le hk2]
  simp [pordL]
theorem pordL_end (rs rs2 : List Va) (hk : rs.length ≤ rs2.length) : pordL (rs.drop rs.length) (rs2.drop rs.length) = if rs.length < rs2.length then -1 else 0 := by
  rw [List.drop_length]
  split
  · rw [List.drop_eq_getElem_cons (by assumption)]
    simp [pordL]
  · rw [List.drop_eq_nil_of_le (by omega)]
    simp [pordL]
set_option maxRecDepth 100000 in
set_option maxHeartbeats 2000000 in
theorem cmpFunc_any (rs rs2 : List Va) (a a2 : Option Addr) (cap cap2 : Nat) (w : World) (hcap : rs.length ≤ cap) (hcap' : cap ≤ 9223372036854775807) (hcap2 : rs2.length ≤ cap2) (hcap2' : cap2 ≤ 9223372036854775807)
    (hc : rs.length = 0 ∨ ∃ b o cs F', a = some ⟨b, o, none⟩ ∧ w.rangeAt b o cs ∧ Tr.ownL 6 w (Va.trs rs) cs F') (hc2 : rs2.length = 0 ∨ ∃ b o cs F', a2 = some ⟨b, o, none⟩ ∧ w.rangeAt b o cs ∧ Tr.ownL 6 w (Va.trs rs2) cs F')
    (hO : ∀ (k : Nat) (h1 : k < rs.length) (h2 : k < rs2.length) (c c2 : List Value) (F F2 : List Nat) (W : World), rs[k].tr.own 6 W c F → rs2[k].tr.own 6 W c2 F2 → Calls Try.prog 34 #[.agg c.toArray, .agg c2.toArray] W (OrdI (pordV rs[k] rs2[k]) W)) :
    Calls Try.prog 55 #[.slice a rs.length cap, .slice a2 rs2.length cap2, .func (.func 34) #[] #[]] w (OrdI (pordL rs rs2) w) := by
  have HO := Lib.hid hO
  clear hO
  go_enter Try.func55, Try.ntmps55
  go_wp2_with fail
  go_loopw [13] (fun u13 wr => ∃ (k : Nat), k ≤ rs.length ∧ k ≤ rs2.length ∧ u13 = .int .i64 k ∧ Hid (pordL (rs.drop k) (rs2.drop k) = pordL rs rs2) ∧ Below w.heap.size w wr) (fun u13 _ => rs.length - (intOf u13).toNat)
  case atStart => exact ⟨0, by omega, by omega, rfl, rfl, Below.refl _ _⟩
  case round =>
    obtain ⟨k, hk, hk2, rfl, hf, hb⟩ := hrel
    by_cases hlt : k < rs.length
    · rcases hc with h0' | ⟨b, o, cs, F', rfl, hra, hkl⟩
      · omega
      have hbl : b < w.heap.size := rangeAt_lt hra (by rw [Tr.ownL_len hkl, Va.trs_len]; omega)
      have hkl' := Tr.ownL_same _ _ _ (fun i hi => hb.block i (Tr.ownL_lt _ _ _ hkl i hi)) hkl
      obtain ⟨kkd, kn, kx, ky, ks, krs, ka, kcap, Fa, F1, Fb, hF1, _he1, hkid1, c0, c1, c2, c3, c4, c5⟩ := Va.kidO k hlt hkl' (rangeAt_of_block hra (hb.block b hbl))
      have hri : (0:Int) ≤ (k:Int) := by omega
      have hri2 : (k:Int) < (rs.length:Int) := by omega
      clear hra hkl hkl' hF1 _he1
      by_cases hlt2 : k < rs2.length
      · rcases hc2 with h0' | ⟨b2, o2, cs2, F2', rfl, hra2, hkl2⟩
        · omega
        have hbl2 : b2 < w.heap.size := rangeAt_lt hra2 (by rw [Tr.ownL_len hkl2, Va.trs_len]; omega)
        have hkl2' := Tr.ownL_same _ _ _ (fun i hi => hb.block i (Tr.ownL_lt _ _ _ hkl2 i hi)) hkl2
        obtain ⟨jkd, jn, jx, jy, js, jrs, ja, jcap, Fc, F3, Fd, hF2, _he2, hkid2, d0, d1, d2, d3, d4, d5⟩ := Va.kidO k hlt2 hkl2' (rangeAt_of_block hra2 (hb.block b2 hbl2))
        have hri3 : (k:Int) < (rs2.length:Int) := by omega
        have hge : decide ((rs2.length : Int) ≤ (k : Int)) = false := decide_eq_false (by omega)
        clear hra2 hkl2 hkl2' hF2 _he2
        have e0 := fun ob => (cell_new wr ob ⟨b2, o2 + k * 6, none⟩ (World.block_lt_of_cell? wr _ d0)).trans d0
        have e1 := fun ob => (cell_new wr ob ⟨b2, o2 + k * 6 + 1, none⟩ (World.block_lt_of_cell? wr _ d1)).trans d1
        have e2 := fun ob => (cell_new wr ob ⟨b2, o2 + k * 6 + 2, none⟩ (World.block_lt_of_cell? wr _ d2)).trans d2
        have e3 := fun ob => (cell_new wr ob ⟨b2, o2 + k * 6 + 3, none⟩ (World.block_lt_of_cell? wr _ d3)).trans d3
        have e4 := fun ob => (cell_new wr ob ⟨b2, o2 + k * 6 + 4, none⟩ (World.block_lt_of_cell? wr _ d4)).trans d4
        have e5 := fun ob => (cell_new wr ob ⟨b2, o2 + k * 6 + 5, none⟩ (World.block_lt_of_cell? wr _ d5)).trans d5
        have HK := Lib.hid (fun A B => And.intro (Tr.own_below hkid1 (bb2 wr A B)) (Tr.own_below hkid2 (bb2 wr A B)))
        clear hkid1 hkid2
        by_cases hz0 : pordV rs[k] rs2[k] = 0
        · have HZ0 := Lib.hid hz0
          clear hz0
          go_wp2_with (go_at_call 34; refine (HO.out k hlt hlt2 [.int .u8 kkd, .int .i64 kn, .float .f64 kx, .float .f64 ky, .string ks, .slice ka krs.length kcap] [.int .u8 jkd, .int .i64 jn, .float .f64 jx, .float .f64 jy, .string js, .slice ja jrs.length jcap] F1 F3 _ (HK.out _ _).1 (HK.out _ _).2).mono ?_; rintro e w' ⟨rfl, hb'⟩; rw [HZ0.out])
          go_roundw
          case rel => exact ⟨k + 1, by omega, by omega, by go_num, (pordL_zero rs rs2 k hlt hlt2 HZ0.out).symm.trans hf, bthen (bthen hb (bb2 wr _ _)) hb'⟩
          case measure => simp [intOf]; omega
        · have HZ0 := Lib.hid hz0
          have hz1 : (pordV rs[k] rs2[k] != 0) = true := bne_iff_ne.2 hz0
          clear hz0
          go_wp2_with (go_at_call 34; refine (HO.out k hlt hlt2 [.int .u8 kkd, .int .i64 kn, .float .f64 kx, .float .f64 ky, .string ks, .slice ka krs.length kcap] [.int .u8 jkd, .int .i64 jn, .float .f64 jx, .float .f64 jy, .string js, .slice ja jrs.length jcap] F1 F3 _ (HK.out _ _).1 (HK.out _ _).2).mono ?_; rintro e w' ⟨rfl, hb'⟩)
          go_ret
          refine ⟨ri ?_, bthen (bthen hb (bb2 wr _ _)) hb'⟩
          rw [← hf.out, pordL_some rs rs2 k hlt hlt2 HZ0.out]
      · have hge : decide ((rs2.length : Int) ≤ (k : Int)) = true := decide_eq_true (by omega)
        go_wp2_with fail
        go_ret
        refine ⟨ri ?_, bnew hb _⟩
        rw [← hf.out, pordL_more rs rs2 k hlt (by omega)]
    · have hk' : k = rs.length := by omega
      subst hk'
      by_cases hl2 : rs.length < rs2.length
      all_goals
        go_wp2_with fail
        go_ret
        refine ⟨ri ?_, hb⟩
        rw [← hf.out, pordL_end rs rs2 hk2]
        simp [hl2]
end Go.Proofs.Ytaglklcjolcgeaa
