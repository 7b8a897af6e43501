/- The walk of fmtEFG, a text with an exponent. (Printed by genefge.py.) -/
import Derived.Test.YtbbpngoffpegbaaGreatDoorFText
namespace Go.Proofs.YtbbpngoffpegbaaGreatDoor
open Go Go.RowKit
set_option linter.unusedVariables false
set_option linter.unusedSimpArgs false
def expD (a : Nat) : List UInt8 := if a < 10 then [48, UInt8.ofNat (a + 48)] else if a < 100 then [UInt8.ofNat (a / 10 + 48), UInt8.ofNat (a % 10 + 48)] else [UInt8.ofNat (a / 100 + 48), UInt8.ofNat (a / 10 % 10 + 48), UInt8.ofNat (a % 10 + 48)]
theorem expD_1 {a : Nat} (h : (a : Int) < 10) : expD a = [48, UInt8.ofNat (a + 48)] := if_pos (by omega)
theorem expD_2 {a : Nat} (h : 10 ≤ (a : Int)) (k : (a : Int) < 100) : expD a = [UInt8.ofNat (a / 10 + 48), UInt8.ofNat (a % 10 + 48)] := by unfold expD; rw [if_neg (by omega), if_pos (by omega)]
theorem expD_3 {a : Nat} (h : 100 ≤ (a : Int)) : expD a = [UInt8.ofNat (a / 100 + 48), UInt8.ofNat (a / 10 % 10 + 48), UInt8.ofNat (a % 10 + 48)] := by unfold expD; rw [if_neg (by omega), if_neg (by omega)]
theorem enc_of (n : Nat) (h : n < 256) : encB (UInt8.ofNat n) = .int .u8 (n : Int) := by
  show Value.int .u8 (((UInt8.ofNat n).toNat : Nat) : Int) = _
  rw [UInt8.toNat_ofNat', Nat.mod_eq_of_lt h]
def EfgIs (B : Nat) (wb : World) (b : Nat) (ds l : List UInt8) (e : Ending) (w' : World) : Prop := ∃ v', e = .returned v' ∧ TX B wb b ds v' l w'
theorem TX.app2 {B : Nat} {wb : World} {b : Nat} {ds : List UInt8} {v : Value} {l : List UInt8} {w : World} (h : TX B wb b ds v l w) (x : List UInt8) (c : List Value) (hc : cellsB x = c) (t : TypeId) (m k : Nat) (hm : x.length = m) (hm0 : 0 < m) (hl : l.length + m ≤ 100000) (ty : TypeId) :
    ∃ v' w', (Builtin.append_ #[32, 32] ty #[v, .slice (some ⟨w.heap.size, 0, none⟩) m k]).run Tryz.prog (w.alloc (.cells c.toArray t)) = .ok v' w' ∧ TX B wb b ds v' (l ++ x) w' := by
  subst hc
  exact h.app1 x t m k hm hm0 hl ty
set_option maxRecDepth 100000 in
set_option maxHeartbeats 4000000 in
theorem efg_pop (B : Nat) (wb : World) (b : Nat) (ds mid : List UInt8) (x0 : UInt8) (v : Value) (w : World) (a M : Nat) (dp : Int) (h : TX B wb b ds v [] w) (h0 : ds[0]? = some x0) (hml : mid.length = M) (hM : M ≤ 20) (hmid : ∀ j x, mid[j]? = some x → ds[j + 1]? = some x) (hdp : dp - 1 = (a : Int)) (hd1 : 6 ≤ a) (hd2 : a ≤ 800) :
    Calls Tryz.prog 109 #[v, .bool false, .slice (some ⟨b, 0, none⟩) 32 32, .int .i64 dp, .int .i64 1, .int .i64 1, .int .u8 103, .bool true] w (EfgIs B wb b ds ([] ++ [x0] ++ [101] ++ [43] ++ expD a)) := by
  have HT := Lib.hid h
  have hd0 : -1000 ≤ dp := by omega
  have hd3 : dp ≤ 1000 := by omega
  have HC := Lib.hid (show ∀ (v : Value) (l : List UInt8) (w : World), TX B wb b ds v l w → w.cell? ⟨b, 0, none⟩ = some (.int .u8 (x0.toNat : Int)) from fun v l w h => h.dig 0 x0 h0)
  have HM := Lib.hid (show ∀ (l : List UInt8) {v : Value} {w : World}, TX B wb b ds v l w → ∀ j u, (cellsB mid)[j]? = some u → w.cell? ((⟨b, 1, none⟩ : Addr).add j) = some u from fun l v w h j u hu => by
    rw [Addr.add_mid, Nat.add_comm 1 j]
    simp only [cellsB, List.getElem?_map, Option.map_eq_some_iff] at hu
    obtain ⟨x, hx, rfl⟩ := hu
    exact h.dig (j + 1) x (hmid j x hx))
  have hc0 := HC.out _ _ _ h
  clear h h0 hmid
  go_enter Tryz.func109, Tryz.ntmps109
  go_wp2_with (at_builtin; refine Hid.out ?_)
  refine Lib.hid (wpList_app rfl _ _ _ _ rfl _ _ rfl rfl (TX.app1 HT.out [x0] 5 1 1 rfl (by omega) (by simp only [List.length_append, List.length_cons, List.length_nil, hml]; omega)) ?_)
  clear HT
  rintro v w h
  have HT := Lib.hid h
  clear h
  go_wp2_with (at_builtin; refine Hid.out ?_)
  refine Lib.hid (wpList_app rfl _ _ _ _ rfl _ _ rfl rfl (TX.app1 HT.out [101] 5 1 1 rfl (by omega) (by simp only [List.length_append, List.length_cons, List.length_nil, hml]; omega)) ?_)
  clear HT
  rintro v w h
  have HT := Lib.hid h
  clear h
  go_wp2_with (at_builtin; refine Hid.out ?_)
  refine Lib.hid (wpList_app rfl _ _ _ _ rfl _ _ rfl rfl (TX.app1 HT.out [43] 5 1 1 rfl (by omega) (by simp only [List.length_append, List.length_cons, List.length_nil, hml]; omega)) ?_)
  clear HT
  rintro v w h
  have HT := Lib.hid h
  clear h
  go_wp2_with (at_builtin; refine Hid.out ?_)
  · refine Lib.hid (wpList_app rfl _ _ _ _ rfl _ _ rfl rfl (TX.app2 HT.out [48, UInt8.ofNat (a + 48)] _ (by simp only [cellsB, List.map_cons, List.map_nil, enc_of (a + 48) (by omega)]; rfl) 5 2 2 rfl (by omega) (by simp only [List.length_append, List.length_cons, List.length_nil, hml]; omega)) ?_)
    clear HT
    rintro v w h
    have HT := Lib.hid h
    clear h
    go_wp2_with (at_builtin; refine Hid.out ?_)
    go_ret
    exact ⟨_, rfl, by rw [expD_1 (by omega)]; exact HT.out⟩
  · refine Lib.hid (wpList_app rfl _ _ _ _ rfl _ _ rfl rfl (TX.app2 HT.out [UInt8.ofNat (a / 10 + 48), UInt8.ofNat (a % 10 + 48)] _ (by simp only [cellsB, List.map_cons, List.map_nil, enc_of (a / 10 + 48) (by omega), enc_of (a % 10 + 48) (by omega)]; rfl) 5 2 2 rfl (by omega) (by simp only [List.length_append, List.length_cons, List.length_nil, hml]; omega)) ?_)
    clear HT
    rintro v w h
    have HT := Lib.hid h
    clear h
    go_wp2_with (at_builtin; refine Hid.out ?_)
    go_ret
    exact ⟨_, rfl, by rw [expD_2 (by omega) (by omega)]; exact HT.out⟩
  · refine Lib.hid (wpList_app rfl _ _ _ _ rfl _ _ rfl rfl (TX.app2 HT.out [UInt8.ofNat (a / 100 + 48), UInt8.ofNat (a / 10 % 10 + 48), UInt8.ofNat (a % 10 + 48)] _ (by simp only [cellsB, List.map_cons, List.map_nil, enc_of (a / 100 + 48) (by omega), enc_of (a / 10 % 10 + 48) (by omega), enc_of (a % 10 + 48) (by omega)]; rfl) 5 3 3 rfl (by omega) (by simp only [List.length_append, List.length_cons, List.length_nil, hml]; omega)) ?_)
    clear HT
    rintro v w h
    have HT := Lib.hid h
    clear h
    go_wp2_with (at_builtin; refine Hid.out ?_)
    go_ret
    exact ⟨_, rfl, by rw [expD_3 (by omega)]; exact HT.out⟩
set_option maxRecDepth 100000 in
set_option maxHeartbeats 4000000 in
theorem efg_pon (B : Nat) (wb : World) (b : Nat) (ds mid : List UInt8) (x0 : UInt8) (v : Value) (w : World) (a M : Nat) (dp : Int) (h : TX B wb b ds v [] w) (h0 : ds[0]? = some x0) (hml : mid.length = M) (hM : M ≤ 20) (hmid : ∀ j x, mid[j]? = some x → ds[j + 1]? = some x) (hdp : dp - 1 = -(a : Int)) (hd1 : 5 ≤ a) (hd2 : a ≤ 800) :
    Calls Tryz.prog 109 #[v, .bool false, .slice (some ⟨b, 0, none⟩) 32 32, .int .i64 dp, .int .i64 1, .int .i64 1, .int .u8 103, .bool true] w (EfgIs B wb b ds ([] ++ [x0] ++ [101] ++ [45] ++ expD a)) := by
  have HT := Lib.hid h
  have hd0 : -1000 ≤ dp := by omega
  have hd3 : dp ≤ 1000 := by omega
  have HC := Lib.hid (show ∀ (v : Value) (l : List UInt8) (w : World), TX B wb b ds v l w → w.cell? ⟨b, 0, none⟩ = some (.int .u8 (x0.toNat : Int)) from fun v l w h => h.dig 0 x0 h0)
  have HM := Lib.hid (show ∀ (l : List UInt8) {v : Value} {w : World}, TX B wb b ds v l w → ∀ j u, (cellsB mid)[j]? = some u → w.cell? ((⟨b, 1, none⟩ : Addr).add j) = some u from fun l v w h j u hu => by
    rw [Addr.add_mid, Nat.add_comm 1 j]
    simp only [cellsB, List.getElem?_map, Option.map_eq_some_iff] at hu
    obtain ⟨x, hx, rfl⟩ := hu
    exact h.dig (j + 1) x (hmid j x hx))
  have hc0 := HC.out _ _ _ h
  clear h h0 hmid
  go_enter Tryz.func109, Tryz.ntmps109
  go_wp2_with (at_builtin; refine Hid.out ?_)
  refine Lib.hid (wpList_app rfl _ _ _ _ rfl _ _ rfl rfl (TX.app1 HT.out [x0] 5 1 1 rfl (by omega) (by simp only [List.length_append, List.length_cons, List.length_nil, hml]; omega)) ?_)
  clear HT
  rintro v w h
  have HT := Lib.hid h
  clear h
  go_wp2_with (at_builtin; refine Hid.out ?_)
  refine Lib.hid (wpList_app rfl _ _ _ _ rfl _ _ rfl rfl (TX.app1 HT.out [101] 5 1 1 rfl (by omega) (by simp only [List.length_append, List.length_cons, List.length_nil, hml]; omega)) ?_)
  clear HT
  rintro v w h
  have HT := Lib.hid h
  clear h
  go_wp2_with (at_builtin; refine Hid.out ?_)
  refine Lib.hid (wpList_app rfl _ _ _ _ rfl _ _ rfl rfl (TX.app1 HT.out [45] 5 1 1 rfl (by omega) (by simp only [List.length_append, List.length_cons, List.length_nil, hml]; omega)) ?_)
  clear HT
  rintro v w h
  have HT := Lib.hid h
  clear h
  go_wp2_with (at_builtin; refine Hid.out ?_)
  · refine Lib.hid (wpList_app rfl _ _ _ _ rfl _ _ rfl rfl (TX.app2 HT.out [48, UInt8.ofNat (a + 48)] _ (by simp only [cellsB, List.map_cons, List.map_nil, enc_of (a + 48) (by omega)]; rfl) 5 2 2 rfl (by omega) (by simp only [List.length_append, List.length_cons, List.length_nil, hml]; omega)) ?_)
    clear HT
    rintro v w h
    have HT := Lib.hid h
    clear h
    go_wp2_with (at_builtin; refine Hid.out ?_)
    go_ret
    exact ⟨_, rfl, by rw [expD_1 (by omega)]; exact HT.out⟩
  · refine Lib.hid (wpList_app rfl _ _ _ _ rfl _ _ rfl rfl (TX.app2 HT.out [UInt8.ofNat (a / 10 + 48), UInt8.ofNat (a % 10 + 48)] _ (by simp only [cellsB, List.map_cons, List.map_nil, enc_of (a / 10 + 48) (by omega), enc_of (a % 10 + 48) (by omega)]; rfl) 5 2 2 rfl (by omega) (by simp only [List.length_append, List.length_cons, List.length_nil, hml]; omega)) ?_)
    clear HT
    rintro v w h
    have HT := Lib.hid h
    clear h
    go_wp2_with (at_builtin; refine Hid.out ?_)
    go_ret
    exact ⟨_, rfl, by rw [expD_2 (by omega) (by omega)]; exact HT.out⟩
  · refine Lib.hid (wpList_app rfl _ _ _ _ rfl _ _ rfl rfl (TX.app2 HT.out [UInt8.ofNat (a / 100 + 48), UInt8.ofNat (a / 10 % 10 + 48), UInt8.ofNat (a % 10 + 48)] _ (by simp only [cellsB, List.map_cons, List.map_nil, enc_of (a / 100 + 48) (by omega), enc_of (a / 10 % 10 + 48) (by omega), enc_of (a % 10 + 48) (by omega)]; rfl) 5 3 3 rfl (by omega) (by simp only [List.length_append, List.length_cons, List.length_nil, hml]; omega)) ?_)
    clear HT
    rintro v w h
    have HT := Lib.hid h
    clear h
    go_wp2_with (at_builtin; refine Hid.out ?_)
    go_ret
    exact ⟨_, rfl, by rw [expD_3 (by omega)]; exact HT.out⟩
set_option maxRecDepth 100000 in
set_option maxHeartbeats 4000000 in
theorem efg_pmp (B : Nat) (wb : World) (b : Nat) (ds mid : List UInt8) (x0 : UInt8) (v : Value) (w : World) (a M : Nat) (dp : Int) (h : TX B wb b ds v [] w) (h0 : ds[0]? = some x0) (hml : mid.length = M) (hM : M ≤ 20) (hM1 : 1 ≤ M) (hmid : ∀ j x, mid[j]? = some x → ds[j + 1]? = some x) (hdp : dp - 1 = (a : Int)) (hd1 : 6 ≤ a) (hd2 : a ≤ 800) :
    Calls Tryz.prog 109 #[v, .bool false, .slice (some ⟨b, 0, none⟩) 32 32, .int .i64 dp, .int .i64 ((M : Int) + 1), .int .i64 ((M : Int) + 1), .int .u8 103, .bool true] w (EfgIs B wb b ds ([] ++ [x0] ++ [46] ++ mid ++ [101] ++ [43] ++ expD a)) := by
  have HT := Lib.hid h
  have hd0 : -1000 ≤ dp := by omega
  have hd3 : dp ≤ 1000 := by omega
  have HC := Lib.hid (show ∀ (v : Value) (l : List UInt8) (w : World), TX B wb b ds v l w → w.cell? ⟨b, 0, none⟩ = some (.int .u8 (x0.toNat : Int)) from fun v l w h => h.dig 0 x0 h0)
  have HM := Lib.hid (show ∀ (l : List UInt8) {v : Value} {w : World}, TX B wb b ds v l w → ∀ j u, (cellsB mid)[j]? = some u → w.cell? ((⟨b, 1, none⟩ : Addr).add j) = some u from fun l v w h j u hu => by
    rw [Addr.add_mid, Nat.add_comm 1 j]
    simp only [cellsB, List.getElem?_map, Option.map_eq_some_iff] at hu
    obtain ⟨x, hx, rfl⟩ := hu
    exact h.dig (j + 1) x (hmid j x hx))
  have hc0 := HC.out _ _ _ h
  clear h h0 hmid
  go_enter Tryz.func109, Tryz.ntmps109
  go_wp2_with (at_builtin; refine Hid.out ?_)
  refine Lib.hid (wpList_app rfl _ _ _ _ rfl _ _ rfl rfl (TX.app1 HT.out [x0] 5 1 1 rfl (by omega) (by simp only [List.length_append, List.length_cons, List.length_nil, hml]; omega)) ?_)
  clear HT
  rintro v w h
  have HT := Lib.hid h
  clear h
  go_wp2_with (at_builtin; refine Hid.out ?_)
  refine Lib.hid (wpList_app rfl _ _ _ _ rfl _ _ rfl rfl (TX.app1 HT.out [46] 5 1 1 rfl (by omega) (by simp only [List.length_append, List.length_cons, List.length_nil, hml]; omega)) ?_)
  clear HT
  rintro v w h
  have HT := Lib.hid h
  clear h
  go_wp2_with (at_builtin; refine Hid.out ?_)
  refine Lib.hid (wpList_app rfl _ _ _ _ rfl _ _ rfl rfl (HT.out.app (Below.refl _ _) mid ⟨b, 1, none⟩ M _ hml (by omega) (HM.out _ HT.out) (by simp only [List.length_append, List.length_cons, List.length_nil, hml]; omega)) ?_)
  clear HT
  rintro v w h
  have HT := Lib.hid h
  clear h
  go_wp2_with (at_builtin; refine Hid.out ?_)
  go_loop [0, 114] (fun s0 s => s0 = v ∧ s = .int .i64 0) (fun _ _ => 0)
  case atStart => exact ⟨rfl, rfl⟩
  case round =>
    obtain ⟨rfl, rfl⟩ := hrel
    go_wp2_with (at_builtin; refine Hid.out ?_)
    refine Lib.hid (wpList_app rfl _ _ _ _ rfl _ _ rfl rfl (TX.app1 HT.out [101] 5 1 1 rfl (by omega) (by simp only [List.length_append, List.length_cons, List.length_nil, hml]; omega)) ?_)
    clear HT
    rintro v w h
    have HT := Lib.hid h
    clear h
    go_wp2_with (at_builtin; refine Hid.out ?_)
    refine Lib.hid (wpList_app rfl _ _ _ _ rfl _ _ rfl rfl (TX.app1 HT.out [43] 5 1 1 rfl (by omega) (by simp only [List.length_append, List.length_cons, List.length_nil, hml]; omega)) ?_)
    clear HT
    rintro v w h
    have HT := Lib.hid h
    clear h
    go_wp2_with (at_builtin; refine Hid.out ?_)
    · refine Lib.hid (wpList_app rfl _ _ _ _ rfl _ _ rfl rfl (TX.app2 HT.out [48, UInt8.ofNat (a + 48)] _ (by simp only [cellsB, List.map_cons, List.map_nil, enc_of (a + 48) (by omega)]; rfl) 5 2 2 rfl (by omega) (by simp only [List.length_append, List.length_cons, List.length_nil, hml]; omega)) ?_)
      clear HT
      rintro v w h
      have HT := Lib.hid h
      clear h
      go_wp2_with (at_builtin; refine Hid.out ?_)
      go_ret
      exact ⟨_, rfl, by rw [expD_1 (by omega)]; exact HT.out⟩
    · refine Lib.hid (wpList_app rfl _ _ _ _ rfl _ _ rfl rfl (TX.app2 HT.out [UInt8.ofNat (a / 10 + 48), UInt8.ofNat (a % 10 + 48)] _ (by simp only [cellsB, List.map_cons, List.map_nil, enc_of (a / 10 + 48) (by omega), enc_of (a % 10 + 48) (by omega)]; rfl) 5 2 2 rfl (by omega) (by simp only [List.length_append, List.length_cons, List.length_nil, hml]; omega)) ?_)
      clear HT
      rintro v w h
      have HT := Lib.hid h
      clear h
      go_wp2_with (at_builtin; refine Hid.out ?_)
      go_ret
      exact ⟨_, rfl, by rw [expD_2 (by omega) (by omega)]; exact HT.out⟩
    · refine Lib.hid (wpList_app rfl _ _ _ _ rfl _ _ rfl rfl (TX.app2 HT.out [UInt8.ofNat (a / 100 + 48), UInt8.ofNat (a / 10 % 10 + 48), UInt8.ofNat (a % 10 + 48)] _ (by simp only [cellsB, List.map_cons, List.map_nil, enc_of (a / 100 + 48) (by omega), enc_of (a / 10 % 10 + 48) (by omega), enc_of (a % 10 + 48) (by omega)]; rfl) 5 3 3 rfl (by omega) (by simp only [List.length_append, List.length_cons, List.length_nil, hml]; omega)) ?_)
      clear HT
      rintro v w h
      have HT := Lib.hid h
      clear h
      go_wp2_with (at_builtin; refine Hid.out ?_)
      go_ret
      exact ⟨_, rfl, by rw [expD_3 (by omega)]; exact HT.out⟩
set_option maxRecDepth 100000 in
set_option maxHeartbeats 4000000 in
theorem efg_pmn (B : Nat) (wb : World) (b : Nat) (ds mid : List UInt8) (x0 : UInt8) (v : Value) (w : World) (a M : Nat) (dp : Int) (h : TX B wb b ds v [] w) (h0 : ds[0]? = some x0) (hml : mid.length = M) (hM : M ≤ 20) (hM1 : 1 ≤ M) (hmid : ∀ j x, mid[j]? = some x → ds[j + 1]? = some x) (hdp : dp - 1 = -(a : Int)) (hd1 : 5 ≤ a) (hd2 : a ≤ 800) :
    Calls Tryz.prog 109 #[v, .bool false, .slice (some ⟨b, 0, none⟩) 32 32, .int .i64 dp, .int .i64 ((M : Int) + 1), .int .i64 ((M : Int) + 1), .int .u8 103, .bool true] w (EfgIs B wb b ds ([] ++ [x0] ++ [46] ++ mid ++ [101] ++ [45] ++ expD a)) := by
  have HT := Lib.hid h
  have hd0 : -1000 ≤ dp := by omega
  have hd3 : dp ≤ 1000 := by omega
  have HC := Lib.hid (show ∀ (v : Value) (l : List UInt8) (w : World), TX B wb b ds v l w → w.cell? ⟨b, 0, none⟩ = some (.int .u8 (x0.toNat : Int)) from fun v l w h => h.dig 0 x0 h0)
  have HM := Lib.hid (show ∀ (l : List UInt8) {v : Value} {w : World}, TX B wb b ds v l w → ∀ j u, (cellsB mid)[j]? = some u → w.cell? ((⟨b, 1, none⟩ : Addr).add j) = some u from fun l v w h j u hu => by
    rw [Addr.add_mid, Nat.add_comm 1 j]
    simp only [cellsB, List.getElem?_map, Option.map_eq_some_iff] at hu
    obtain ⟨x, hx, rfl⟩ := hu
    exact h.dig (j + 1) x (hmid j x hx))
  have hc0 := HC.out _ _ _ h
  clear h h0 hmid
  go_enter Tryz.func109, Tryz.ntmps109
  go_wp2_with (at_builtin; refine Hid.out ?_)
  refine Lib.hid (wpList_app rfl _ _ _ _ rfl _ _ rfl rfl (TX.app1 HT.out [x0] 5 1 1 rfl (by omega) (by simp only [List.length_append, List.length_cons, List.length_nil, hml]; omega)) ?_)
  clear HT
  rintro v w h
  have HT := Lib.hid h
  clear h
  go_wp2_with (at_builtin; refine Hid.out ?_)
  refine Lib.hid (wpList_app rfl _ _ _ _ rfl _ _ rfl rfl (TX.app1 HT.out [46] 5 1 1 rfl (by omega) (by simp only [List.length_append, List.length_cons, List.length_nil, hml]; omega)) ?_)
  clear HT
  rintro v w h
  have HT := Lib.hid h
  clear h
  go_wp2_with (at_builtin; refine Hid.out ?_)
  refine Lib.hid (wpList_app rfl _ _ _ _ rfl _ _ rfl rfl (HT.out.app (Below.refl _ _) mid ⟨b, 1, none⟩ M _ hml (by omega) (HM.out _ HT.out) (by simp only [List.length_append, List.length_cons, List.length_nil, hml]; omega)) ?_)
  clear HT
  rintro v w h
  have HT := Lib.hid h
  clear h
  go_wp2_with (at_builtin; refine Hid.out ?_)
  go_loop [0, 114] (fun s0 s => s0 = v ∧ s = .int .i64 0) (fun _ _ => 0)
  case atStart => exact ⟨rfl, rfl⟩
  case round =>
    obtain ⟨rfl, rfl⟩ := hrel
    go_wp2_with (at_builtin; refine Hid.out ?_)
    refine Lib.hid (wpList_app rfl _ _ _ _ rfl _ _ rfl rfl (TX.app1 HT.out [101] 5 1 1 rfl (by omega) (by simp only [List.length_append, List.length_cons, List.length_nil, hml]; omega)) ?_)
    clear HT
    rintro v w h
    have HT := Lib.hid h
    clear h
    go_wp2_with (at_builtin; refine Hid.out ?_)
    refine Lib.hid (wpList_app rfl _ _ _ _ rfl _ _ rfl rfl (TX.app1 HT.out [45] 5 1 1 rfl (by omega) (by simp only [List.length_append, List.length_cons, List.length_nil, hml]; omega)) ?_)
    clear HT
    rintro v w h
    have HT := Lib.hid h
    clear h
    go_wp2_with (at_builtin; refine Hid.out ?_)
    · refine Lib.hid (wpList_app rfl _ _ _ _ rfl _ _ rfl rfl (TX.app2 HT.out [48, UInt8.ofNat (a + 48)] _ (by simp only [cellsB, List.map_cons, List.map_nil, enc_of (a + 48) (by omega)]; rfl) 5 2 2 rfl (by omega) (by simp only [List.length_append, List.length_cons, List.length_nil, hml]; omega)) ?_)
      clear HT
      rintro v w h
      have HT := Lib.hid h
      clear h
      go_wp2_with (at_builtin; refine Hid.out ?_)
      go_ret
      exact ⟨_, rfl, by rw [expD_1 (by omega)]; exact HT.out⟩
    · refine Lib.hid (wpList_app rfl _ _ _ _ rfl _ _ rfl rfl (TX.app2 HT.out [UInt8.ofNat (a / 10 + 48), UInt8.ofNat (a % 10 + 48)] _ (by simp only [cellsB, List.map_cons, List.map_nil, enc_of (a / 10 + 48) (by omega), enc_of (a % 10 + 48) (by omega)]; rfl) 5 2 2 rfl (by omega) (by simp only [List.length_append, List.length_cons, List.length_nil, hml]; omega)) ?_)
      clear HT
      rintro v w h
      have HT := Lib.hid h
      clear h
      go_wp2_with (at_builtin; refine Hid.out ?_)
      go_ret
      exact ⟨_, rfl, by rw [expD_2 (by omega) (by omega)]; exact HT.out⟩
    · refine Lib.hid (wpList_app rfl _ _ _ _ rfl _ _ rfl rfl (TX.app2 HT.out [UInt8.ofNat (a / 100 + 48), UInt8.ofNat (a / 10 % 10 + 48), UInt8.ofNat (a % 10 + 48)] _ (by simp only [cellsB, List.map_cons, List.map_nil, enc_of (a / 100 + 48) (by omega), enc_of (a / 10 % 10 + 48) (by omega), enc_of (a % 10 + 48) (by omega)]; rfl) 5 3 3 rfl (by omega) (by simp only [List.length_append, List.length_cons, List.length_nil, hml]; omega)) ?_)
      clear HT
      rintro v w h
      have HT := Lib.hid h
      clear h
      go_wp2_with (at_builtin; refine Hid.out ?_)
      go_ret
      exact ⟨_, rfl, by rw [expD_3 (by omega)]; exact HT.out⟩
set_option maxRecDepth 100000 in
set_option maxHeartbeats 4000000 in
theorem efg_nop (B : Nat) (wb : World) (b : Nat) (ds mid : List UInt8) (x0 : UInt8) (v : Value) (w : World) (a M : Nat) (dp : Int) (h : TX B wb b ds v [] w) (h0 : ds[0]? = some x0) (hml : mid.length = M) (hM : M ≤ 20) (hmid : ∀ j x, mid[j]? = some x → ds[j + 1]? = some x) (hdp : dp - 1 = (a : Int)) (hd1 : 6 ≤ a) (hd2 : a ≤ 800) :
    Calls Tryz.prog 109 #[v, .bool true, .slice (some ⟨b, 0, none⟩) 32 32, .int .i64 dp, .int .i64 1, .int .i64 1, .int .u8 103, .bool true] w (EfgIs B wb b ds ([] ++ [45] ++ [x0] ++ [101] ++ [43] ++ expD a)) := by
  have HT := Lib.hid h
  have hd0 : -1000 ≤ dp := by omega
  have hd3 : dp ≤ 1000 := by omega
  have HC := Lib.hid (show ∀ (v : Value) (l : List UInt8) (w : World), TX B wb b ds v l w → w.cell? ⟨b, 0, none⟩ = some (.int .u8 (x0.toNat : Int)) from fun v l w h => h.dig 0 x0 h0)
  have HM := Lib.hid (show ∀ (l : List UInt8) {v : Value} {w : World}, TX B wb b ds v l w → ∀ j u, (cellsB mid)[j]? = some u → w.cell? ((⟨b, 1, none⟩ : Addr).add j) = some u from fun l v w h j u hu => by
    rw [Addr.add_mid, Nat.add_comm 1 j]
    simp only [cellsB, List.getElem?_map, Option.map_eq_some_iff] at hu
    obtain ⟨x, hx, rfl⟩ := hu
    exact h.dig (j + 1) x (hmid j x hx))
  have hc0 := HC.out _ _ _ h
  clear h h0 hmid
  go_enter Tryz.func109, Tryz.ntmps109
  go_wp2_with (at_builtin; refine Hid.out ?_)
  refine Lib.hid (wpList_app rfl _ _ _ _ rfl _ _ rfl rfl (TX.app1 HT.out [45] 5 1 1 rfl (by omega) (by simp only [List.length_append, List.length_cons, List.length_nil, hml]; omega)) ?_)
  clear HT hc0
  rintro v w h
  have HT := Lib.hid h
  have hc0 := HC.out _ _ _ h
  clear h
  go_wp2_with (at_builtin; refine Hid.out ?_)
  refine Lib.hid (wpList_app rfl _ _ _ _ rfl _ _ rfl rfl (TX.app1 HT.out [x0] 5 1 1 rfl (by omega) (by simp only [List.length_append, List.length_cons, List.length_nil, hml]; omega)) ?_)
  clear HT
  rintro v w h
  have HT := Lib.hid h
  clear h
  go_wp2_with (at_builtin; refine Hid.out ?_)
  refine Lib.hid (wpList_app rfl _ _ _ _ rfl _ _ rfl rfl (TX.app1 HT.out [101] 5 1 1 rfl (by omega) (by simp only [List.length_append, List.length_cons, List.length_nil, hml]; omega)) ?_)
  clear HT
  rintro v w h
  have HT := Lib.hid h
  clear h
  go_wp2_with (at_builtin; refine Hid.out ?_)
  refine Lib.hid (wpList_app rfl _ _ _ _ rfl _ _ rfl rfl (TX.app1 HT.out [43] 5 1 1 rfl (by omega) (by simp only [List.length_append, List.length_cons, List.length_nil, hml]; omega)) ?_)
  clear HT
  rintro v w h
  have HT := Lib.hid h
  clear h
  go_wp2_with (at_builtin; refine Hid.out ?_)
  · refine Lib.hid (wpList_app rfl _ _ _ _ rfl _ _ rfl rfl (TX.app2 HT.out [48, UInt8.ofNat (a + 48)] _ (by simp only [cellsB, List.map_cons, List.map_nil, enc_of (a + 48) (by omega)]; rfl) 5 2 2 rfl (by omega) (by simp only [List.length_append, List.length_cons, List.length_nil, hml]; omega)) ?_)
    clear HT
    rintro v w h
    have HT := Lib.hid h
    clear h
    go_wp2_with (at_builtin; refine Hid.out ?_)
    go_ret
    exact ⟨_, rfl, by rw [expD_1 (by omega)]; exact HT.out⟩
  · refine Lib.hid (wpList_app rfl _ _ _ _ rfl _ _ rfl rfl (TX.app2 HT.out [UInt8.ofNat (a / 10 + 48), UInt8.ofNat (a % 10 + 48)] _ (by simp only [cellsB, List.map_cons, List.map_nil, enc_of (a / 10 + 48) (by omega), enc_of (a % 10 + 48) (by omega)]; rfl) 5 2 2 rfl (by omega) (by simp only [List.length_append, List.length_cons, List.length_nil, hml]; omega)) ?_)
    clear HT
    rintro v w h
    have HT := Lib.hid h
    clear h
    go_wp2_with (at_builtin; refine Hid.out ?_)
    go_ret
    exact ⟨_, rfl, by rw [expD_2 (by omega) (by omega)]; exact HT.out⟩
  · refine Lib.hid (wpList_app rfl _ _ _ _ rfl _ _ rfl rfl (TX.app2 HT.out [UInt8.ofNat (a / 100 + 48), UInt8.ofNat (a / 10 % 10 + 48), UInt8.ofNat (a % 10 + 48)] _ (by simp only [cellsB, List.map_cons, List.map_nil, enc_of (a / 100 + 48) (by omega), enc_of (a / 10 % 10 + 48) (by omega), enc_of (a % 10 + 48) (by omega)]; rfl) 5 3 3 rfl (by omega) (by simp only [List.length_append, List.length_cons, List.length_nil, hml]; omega)) ?_)
    clear HT
    rintro v w h
    have HT := Lib.hid h
    clear h
    go_wp2_with (at_builtin; refine Hid.out ?_)
    go_ret
    exact ⟨_, rfl, by rw [expD_3 (by omega)]; exact HT.out⟩
set_option maxRecDepth 100000 in
set_option maxHeartbeats 4000000 in
theorem efg_non (B : Nat) (wb : World) (b : Nat) (ds mid : List UInt8) (x0 : UInt8) (v : Value) (w : World) (a M : Nat) (dp : Int) (h : TX B wb b ds v [] w) (h0 : ds[0]? = some x0) (hml : mid.length = M) (hM : M ≤ 20) (hmid : ∀ j x, mid[j]? = some x → ds[j + 1]? = some x) (hdp : dp - 1 = -(a : Int)) (hd1 : 5 ≤ a) (hd2 : a ≤ 800) :
    Calls Tryz.prog 109 #[v, .bool true, .slice (some ⟨b, 0, none⟩) 32 32, .int .i64 dp, .int .i64 1, .int .i64 1, .int .u8 103, .bool true] w (EfgIs B wb b ds ([] ++ [45] ++ [x0] ++ [101] ++ [45] ++ expD a)) := by
  have HT := Lib.hid h
  have hd0 : -1000 ≤ dp := by omega
  have hd3 : dp ≤ 1000 := by omega
  have HC := Lib.hid (show ∀ (v : Value) (l : List UInt8) (w : World), TX B wb b ds v l w → w.cell? ⟨b, 0, none⟩ = some (.int .u8 (x0.toNat : Int)) from fun v l w h => h.dig 0 x0 h0)
  have HM := Lib.hid (show ∀ (l : List UInt8) {v : Value} {w : World}, TX B wb b ds v l w → ∀ j u, (cellsB mid)[j]? = some u → w.cell? ((⟨b, 1, none⟩ : Addr).add j) = some u from fun l v w h j u hu => by
    rw [Addr.add_mid, Nat.add_comm 1 j]
    simp only [cellsB, List.getElem?_map, Option.map_eq_some_iff] at hu
    obtain ⟨x, hx, rfl⟩ := hu
    exact h.dig (j + 1) x (hmid j x hx))
  have hc0 := HC.out _ _ _ h
  clear h h0 hmid
  go_enter Tryz.func109, Tryz.ntmps109
  go_wp2_with (at_builtin; refine Hid.out ?_)
  refine Lib.hid (wpList_app rfl _ _ _ _ rfl _ _ rfl rfl (TX.app1 HT.out [45] 5 1 1 rfl (by omega) (by simp only [List.length_append, List.length_cons, List.length_nil, hml]; omega)) ?_)
  clear HT hc0
  rintro v w h
  have HT := Lib.hid h
  have hc0 := HC.out _ _ _ h
  clear h
  go_wp2_with (at_builtin; refine Hid.out ?_)
  refine Lib.hid (wpList_app rfl _ _ _ _ rfl _ _ rfl rfl (TX.app1 HT.out [x0] 5 1 1 rfl (by omega) (by simp only [List.length_append, List.length_cons, List.length_nil, hml]; omega)) ?_)
  clear HT
  rintro v w h
  have HT := Lib.hid h
  clear h
  go_wp2_with (at_builtin; refine Hid.out ?_)
  refine Lib.hid (wpList_app rfl _ _ _ _ rfl _ _ rfl rfl (TX.app1 HT.out [101] 5 1 1 rfl (by omega) (by simp only [List.length_append, List.length_cons, List.length_nil, hml]; omega)) ?_)
  clear HT
  rintro v w h
  have HT := Lib.hid h
  clear h
  go_wp2_with (at_builtin; refine Hid.out ?_)
  refine Lib.hid (wpList_app rfl _ _ _ _ rfl _ _ rfl rfl (TX.app1 HT.out [45] 5 1 1 rfl (by omega) (by simp only [List.length_append, List.length_cons, List.length_nil, hml]; omega)) ?_)
  clear HT
  rintro v w h
  have HT := Lib.hid h
  clear h
  go_wp2_with (at_builtin; refine Hid.out ?_)
  · refine Lib.hid (wpList_app rfl _ _ _ _ rfl _ _ rfl rfl (TX.app2 HT.out [48, UInt8.ofNat (a + 48)] _ (by simp only [cellsB, List.map_cons, List.map_nil, enc_of (a + 48) (by omega)]; rfl) 5 2 2 rfl (by omega) (by simp only [List.length_append, List.length_cons, List.length_nil, hml]; omega)) ?_)
    clear HT
    rintro v w h
    have HT := Lib.hid h
    clear h
    go_wp2_with (at_builtin; refine Hid.out ?_)
    go_ret
    exact ⟨_, rfl, by rw [expD_1 (by omega)]; exact HT.out⟩
  · refine Lib.hid (wpList_app rfl _ _ _ _ rfl _ _ rfl rfl (TX.app2 HT.out [UInt8.ofNat (a / 10 + 48), UInt8.ofNat (a % 10 + 48)] _ (by simp only [cellsB, List.map_cons, List.map_nil, enc_of (a / 10 + 48) (by omega), enc_of (a % 10 + 48) (by omega)]; rfl) 5 2 2 rfl (by omega) (by simp only [List.length_append, List.length_cons, List.length_nil, hml]; omega)) ?_)
    clear HT
    rintro v w h
    have HT := Lib.hid h
    clear h
    go_wp2_with (at_builtin; refine Hid.out ?_)
    go_ret
    exact ⟨_, rfl, by rw [expD_2 (by omega) (by omega)]; exact HT.out⟩
  · refine Lib.hid (wpList_app rfl _ _ _ _ rfl _ _ rfl rfl (TX.app2 HT.out [UInt8.ofNat (a / 100 + 48), UInt8.ofNat (a / 10 % 10 + 48), UInt8.ofNat (a % 10 + 48)] _ (by simp only [cellsB, List.map_cons, List.map_nil, enc_of (a / 100 + 48) (by omega), enc_of (a / 10 % 10 + 48) (by omega), enc_of (a % 10 + 48) (by omega)]; rfl) 5 3 3 rfl (by omega) (by simp only [List.length_append, List.length_cons, List.length_nil, hml]; omega)) ?_)
    clear HT
    rintro v w h
    have HT := Lib.hid h
    clear h
    go_wp2_with (at_builtin; refine Hid.out ?_)
    go_ret
    exact ⟨_, rfl, by rw [expD_3 (by omega)]; exact HT.out⟩
set_option maxRecDepth 100000 in
set_option maxHeartbeats 4000000 in
theorem efg_nmp (B : Nat) (wb : World) (b : Nat) (ds mid : List UInt8) (x0 : UInt8) (v : Value) (w : World) (a M : Nat) (dp : Int) (h : TX B wb b ds v [] w) (h0 : ds[0]? = some x0) (hml : mid.length = M) (hM : M ≤ 20) (hM1 : 1 ≤ M) (hmid : ∀ j x, mid[j]? = some x → ds[j + 1]? = some x) (hdp : dp - 1 = (a : Int)) (hd1 : 6 ≤ a) (hd2 : a ≤ 800) :
    Calls Tryz.prog 109 #[v, .bool true, .slice (some ⟨b, 0, none⟩) 32 32, .int .i64 dp, .int .i64 ((M : Int) + 1), .int .i64 ((M : Int) + 1), .int .u8 103, .bool true] w (EfgIs B wb b ds ([] ++ [45] ++ [x0] ++ [46] ++ mid ++ [101] ++ [43] ++ expD a)) := by
  have HT := Lib.hid h
  have hd0 : -1000 ≤ dp := by omega
  have hd3 : dp ≤ 1000 := by omega
  have HC := Lib.hid (show ∀ (v : Value) (l : List UInt8) (w : World), TX B wb b ds v l w → w.cell? ⟨b, 0, none⟩ = some (.int .u8 (x0.toNat : Int)) from fun v l w h => h.dig 0 x0 h0)
  have HM := Lib.hid (show ∀ (l : List UInt8) {v : Value} {w : World}, TX B wb b ds v l w → ∀ j u, (cellsB mid)[j]? = some u → w.cell? ((⟨b, 1, none⟩ : Addr).add j) = some u from fun l v w h j u hu => by
    rw [Addr.add_mid, Nat.add_comm 1 j]
    simp only [cellsB, List.getElem?_map, Option.map_eq_some_iff] at hu
    obtain ⟨x, hx, rfl⟩ := hu
    exact h.dig (j + 1) x (hmid j x hx))
  have hc0 := HC.out _ _ _ h
  clear h h0 hmid
  go_enter Tryz.func109, Tryz.ntmps109
  go_wp2_with (at_builtin; refine Hid.out ?_)
  refine Lib.hid (wpList_app rfl _ _ _ _ rfl _ _ rfl rfl (TX.app1 HT.out [45] 5 1 1 rfl (by omega) (by simp only [List.length_append, List.length_cons, List.length_nil, hml]; omega)) ?_)
  clear HT hc0
  rintro v w h
  have HT := Lib.hid h
  have hc0 := HC.out _ _ _ h
  clear h
  go_wp2_with (at_builtin; refine Hid.out ?_)
  refine Lib.hid (wpList_app rfl _ _ _ _ rfl _ _ rfl rfl (TX.app1 HT.out [x0] 5 1 1 rfl (by omega) (by simp only [List.length_append, List.length_cons, List.length_nil, hml]; omega)) ?_)
  clear HT
  rintro v w h
  have HT := Lib.hid h
  clear h
  go_wp2_with (at_builtin; refine Hid.out ?_)
  refine Lib.hid (wpList_app rfl _ _ _ _ rfl _ _ rfl rfl (TX.app1 HT.out [46] 5 1 1 rfl (by omega) (by simp only [List.length_append, List.length_cons, List.length_nil, hml]; omega)) ?_)
  clear HT
  rintro v w h
  have HT := Lib.hid h
  clear h
  go_wp2_with (at_builtin; refine Hid.out ?_)
  refine Lib.hid (wpList_app rfl _ _ _ _ rfl _ _ rfl rfl (HT.out.app (Below.refl _ _) mid ⟨b, 1, none⟩ M _ hml (by omega) (HM.out _ HT.out) (by simp only [List.length_append, List.length_cons, List.length_nil, hml]; omega)) ?_)
  clear HT
  rintro v w h
  have HT := Lib.hid h
  clear h
  go_wp2_with (at_builtin; refine Hid.out ?_)
  go_loop [0, 114] (fun s0 s => s0 = v ∧ s = .int .i64 0) (fun _ _ => 0)
  case atStart => exact ⟨rfl, rfl⟩
  case round =>
    obtain ⟨rfl, rfl⟩ := hrel
    go_wp2_with (at_builtin; refine Hid.out ?_)
    refine Lib.hid (wpList_app rfl _ _ _ _ rfl _ _ rfl rfl (TX.app1 HT.out [101] 5 1 1 rfl (by omega) (by simp only [List.length_append, List.length_cons, List.length_nil, hml]; omega)) ?_)
    clear HT
    rintro v w h
    have HT := Lib.hid h
    clear h
    go_wp2_with (at_builtin; refine Hid.out ?_)
    refine Lib.hid (wpList_app rfl _ _ _ _ rfl _ _ rfl rfl (TX.app1 HT.out [43] 5 1 1 rfl (by omega) (by simp only [List.length_append, List.length_cons, List.length_nil, hml]; omega)) ?_)
    clear HT
    rintro v w h
    have HT := Lib.hid h
    clear h
    go_wp2_with (at_builtin; refine Hid.out ?_)
    · refine Lib.hid (wpList_app rfl _ _ _ _ rfl _ _ rfl rfl (TX.app2 HT.out [48, UInt8.ofNat (a + 48)] _ (by simp only [cellsB, List.map_cons, List.map_nil, enc_of (a + 48) (by omega)]; rfl) 5 2 2 rfl (by omega) (by simp only [List.length_append, List.length_cons, List.length_nil, hml]; omega)) ?_)
      clear HT
      rintro v w h
      have HT := Lib.hid h
      clear h
      go_wp2_with (at_builtin; refine Hid.out ?_)
      go_ret
      exact ⟨_, rfl, by rw [expD_1 (by omega)]; exact HT.out⟩
    · refine Lib.hid (wpList_app rfl _ _ _ _ rfl _ _ rfl rfl (TX.app2 HT.out [UInt8.ofNat (a / 10 + 48), UInt8.ofNat (a % 10 + 48)] _ (by simp only [cellsB, List.map_cons, List.map_nil, enc_of (a / 10 + 48) (by omega), enc_of (a % 10 + 48) (by omega)]; rfl) 5 2 2 rfl (by omega) (by simp only [List.length_append, List.length_cons, List.length_nil, hml]; omega)) ?_)
      clear HT
      rintro v w h
      have HT := Lib.hid h
      clear h
      go_wp2_with (at_builtin; refine Hid.out ?_)
      go_ret
      exact ⟨_, rfl, by rw [expD_2 (by omega) (by omega)]; exact HT.out⟩
    · refine Lib.hid (wpList_app rfl _ _ _ _ rfl _ _ rfl rfl (TX.app2 HT.out [UInt8.ofNat (a / 100 + 48), UInt8.ofNat (a / 10 % 10 + 48), UInt8.ofNat (a % 10 + 48)] _ (by simp only [cellsB, List.map_cons, List.map_nil, enc_of (a / 100 + 48) (by omega), enc_of (a / 10 % 10 + 48) (by omega), enc_of (a % 10 + 48) (by omega)]; rfl) 5 3 3 rfl (by omega) (by simp only [List.length_append, List.length_cons, List.length_nil, hml]; omega)) ?_)
      clear HT
      rintro v w h
      have HT := Lib.hid h
      clear h
      go_wp2_with (at_builtin; refine Hid.out ?_)
      go_ret
      exact ⟨_, rfl, by rw [expD_3 (by omega)]; exact HT.out⟩
set_option maxRecDepth 100000 in
set_option maxHeartbeats 4000000 in
theorem efg_nmn (B : Nat) (wb : World) (b : Nat) (ds mid : List UInt8) (x0 : UInt8) (v : Value) (w : World) (a M : Nat) (dp : Int) (h : TX B wb b ds v [] w) (h0 : ds[0]? = some x0) (hml : mid.length = M) (hM : M ≤ 20) (hM1 : 1 ≤ M) (hmid : ∀ j x, mid[j]? = some x → ds[j + 1]? = some x) (hdp : dp - 1 = -(a : Int)) (hd1 : 5 ≤ a) (hd2 : a ≤ 800) :
    Calls Tryz.prog 109 #[v, .bool true, .slice (some ⟨b, 0, none⟩) 32 32, .int .i64 dp, .int .i64 ((M : Int) + 1), .int .i64 ((M : Int) + 1), .int .u8 103, .bool true] w (EfgIs B wb b ds ([] ++ [45] ++ [x0] ++ [46] ++ mid ++ [101] ++ [45] ++ expD a)) := by
  have HT := Lib.hid h
  have hd0 : -1000 ≤ dp := by omega
  have hd3 : dp ≤ 1000 := by omega
  have HC := Lib.hid (show ∀ (v : Value) (l : List UInt8) (w : World), TX B wb b ds v l w → w.cell? ⟨b, 0, none⟩ = some (.int .u8 (x0.toNat : Int)) from fun v l w h => h.dig 0 x0 h0)
  have HM := Lib.hid (show ∀ (l : List UInt8) {v : Value} {w : World}, TX B wb b ds v l w → ∀ j u, (cellsB mid)[j]? = some u → w.cell? ((⟨b, 1, none⟩ : Addr).add j) = some u from fun l v w h j u hu => by
    rw [Addr.add_mid, Nat.add_comm 1 j]
    simp only [cellsB, List.getElem?_map, Option.map_eq_some_iff] at hu
    obtain ⟨x, hx, rfl⟩ := hu
    exact h.dig (j + 1) x (hmid j x hx))
  have hc0 := HC.out _ _ _ h
  clear h h0 hmid
  go_enter Tryz.func109, Tryz.ntmps109
  go_wp2_with (at_builtin; refine Hid.out ?_)
  refine Lib.hid (wpList_app rfl _ _ _ _ rfl _ _ rfl rfl (TX.app1 HT.out [45] 5 1 1 rfl (by omega) (by simp only [List.length_append, List.length_cons, List.length_nil, hml]; omega)) ?_)
  clear HT hc0
  rintro v w h
  have HT := Lib.hid h
  have hc0 := HC.out _ _ _ h
  clear h
  go_wp2_with (at_builtin; refine Hid.out ?_)
  refine Lib.hid (wpList_app rfl _ _ _ _ rfl _ _ rfl rfl (TX.app1 HT.out [x0] 5 1 1 rfl (by omega) (by simp only [List.length_append, List.length_cons, List.length_nil, hml]; omega)) ?_)
  clear HT
  rintro v w h
  have HT := Lib.hid h
  clear h
  go_wp2_with (at_builtin; refine Hid.out ?_)
  refine Lib.hid (wpList_app rfl _ _ _ _ rfl _ _ rfl rfl (TX.app1 HT.out [46] 5 1 1 rfl (by omega) (by simp only [List.length_append, List.length_cons, List.length_nil, hml]; omega)) ?_)
  clear HT
  rintro v w h
  have HT := Lib.hid h
  clear h
  go_wp2_with (at_builtin; refine Hid.out ?_)
  refine Lib.hid (wpList_app rfl _ _ _ _ rfl _ _ rfl rfl (HT.out.app (Below.refl _ _) mid ⟨b, 1, none⟩ M _ hml (by omega) (HM.out _ HT.out) (by simp only [List.length_append, List.length_cons, List.length_nil, hml]; omega)) ?_)
  clear HT
  rintro v w h
  have HT := Lib.hid h
  clear h
  go_wp2_with (at_builtin; refine Hid.out ?_)
  go_loop [0, 114] (fun s0 s => s0 = v ∧ s = .int .i64 0) (fun _ _ => 0)
  case atStart => exact ⟨rfl, rfl⟩
  case round =>
    obtain ⟨rfl, rfl⟩ := hrel
    go_wp2_with (at_builtin; refine Hid.out ?_)
    refine Lib.hid (wpList_app rfl _ _ _ _ rfl _ _ rfl rfl (TX.app1 HT.out [101] 5 1 1 rfl (by omega) (by simp only [List.length_append, List.length_cons, List.length_nil, hml]; omega)) ?_)
    clear HT
    rintro v w h
    have HT := Lib.hid h
    clear h
    go_wp2_with (at_builtin; refine Hid.out ?_)
    refine Lib.hid (wpList_app rfl _ _ _ _ rfl _ _ rfl rfl (TX.app1 HT.out [45] 5 1 1 rfl (by omega) (by simp only [List.length_append, List.length_cons, List.length_nil, hml]; omega)) ?_)
    clear HT
    rintro v w h
    have HT := Lib.hid h
    clear h
    go_wp2_with (at_builtin; refine Hid.out ?_)
    · refine Lib.hid (wpList_app rfl _ _ _ _ rfl _ _ rfl rfl (TX.app2 HT.out [48, UInt8.ofNat (a + 48)] _ (by simp only [cellsB, List.map_cons, List.map_nil, enc_of (a + 48) (by omega)]; rfl) 5 2 2 rfl (by omega) (by simp only [List.length_append, List.length_cons, List.length_nil, hml]; omega)) ?_)
      clear HT
      rintro v w h
      have HT := Lib.hid h
      clear h
      go_wp2_with (at_builtin; refine Hid.out ?_)
      go_ret
      exact ⟨_, rfl, by rw [expD_1 (by omega)]; exact HT.out⟩
    · refine Lib.hid (wpList_app rfl _ _ _ _ rfl _ _ rfl rfl (TX.app2 HT.out [UInt8.ofNat (a / 10 + 48), UInt8.ofNat (a % 10 + 48)] _ (by simp only [cellsB, List.map_cons, List.map_nil, enc_of (a / 10 + 48) (by omega), enc_of (a % 10 + 48) (by omega)]; rfl) 5 2 2 rfl (by omega) (by simp only [List.length_append, List.length_cons, List.length_nil, hml]; omega)) ?_)
      clear HT
      rintro v w h
      have HT := Lib.hid h
      clear h
      go_wp2_with (at_builtin; refine Hid.out ?_)
      go_ret
      exact ⟨_, rfl, by rw [expD_2 (by omega) (by omega)]; exact HT.out⟩
    · refine Lib.hid (wpList_app rfl _ _ _ _ rfl _ _ rfl rfl (TX.app2 HT.out [UInt8.ofNat (a / 100 + 48), UInt8.ofNat (a / 10 % 10 + 48), UInt8.ofNat (a % 10 + 48)] _ (by simp only [cellsB, List.map_cons, List.map_nil, enc_of (a / 100 + 48) (by omega), enc_of (a / 10 % 10 + 48) (by omega), enc_of (a % 10 + 48) (by omega)]; rfl) 5 3 3 rfl (by omega) (by simp only [List.length_append, List.length_cons, List.length_nil, hml]; omega)) ?_)
      clear HT
      rintro v w h
      have HT := Lib.hid h
      clear h
      go_wp2_with (at_builtin; refine Hid.out ?_)
      go_ret
      exact ⟨_, rfl, by rw [expD_3 (by omega)]; exact HT.out⟩
end Go.Proofs.YtbbpngoffpegbaaGreatDoor
