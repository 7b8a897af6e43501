/- The walk of fmtEFG, a text without an exponent. (Printed by genefgf.py.) -/
import Derived.Test.YtbbpngoffpegbaaGreatDoorFText
namespace Go.Proofs.YtbbpngoffpegbaaGreatDoor
open Go Go.RowKit
set_option linter.unusedVariables false
set_option linter.unusedSimpArgs false
theorem drop_snoc (l ds : List UInt8) (d k : Nat) (x : UInt8) (h : ds[d + k]? = some x) : l ++ (ds.drop d).take k ++ [x] = l ++ (ds.drop d).take (k + 1) :=
  by rw [List.append_assoc, List.take_add_one, List.getElem?_drop, h]; rfl
def EffIs (B : Nat) (wb : World) (b : Nat) (ds l : List UInt8) (e : Ending) (w' : World) : Prop := ∃ v', e = .returned v' ∧ TX B wb b ds v' l w'
theorem TX.cast {B : Nat} {wb : World} {b : Nat} {ds : List UInt8} {v : Value} {l l' : List UInt8} {w : World} (h : TX B wb b ds v l w) (e : l = l') : TX B wb b ds v l' w := e ▸ h
theorem rep_snoc (l : List UInt8) (k : Nat) : l ++ List.replicate k 48 ++ [48] = l ++ List.replicate (k + 1) 48 := by
  rw [List.append_assoc, ← List.replicate_succ']
theorem take_snoc (l ds : List UInt8) (k : Nat) (x : UInt8) (h : ds[k]? = some x) : l ++ ds.take k ++ [x] = l ++ ds.take (k + 1) := by
  rw [List.append_assoc, List.take_add_one, h]; rfl
set_option maxRecDepth 100000 in
set_option maxHeartbeats 4000000 in
theorem eff_a_p (B : Nat) (wb : World) (b : Nat) (ds : List UInt8) (v : Value) (w : World) (nd Z : Nat) (hn : 1 ≤ nd) (hz : nd + Z ≤ 6) (hl : nd ≤ ds.length) (h : TX B wb b ds v [] w) :
    Calls Tryz.prog 109 #[v, .bool false, .slice (some ⟨b, 0, none⟩) 32 32, .int .i64 ((nd : Int) + (Z : Int)), .int .i64 nd, .int .i64 nd, .int .u8 103, .bool true] w (EffIs B wb b ds ([] ++ ds.take nd ++ List.replicate Z 48)) := by
  have HT := Lib.hid h
  clear h
  have m1 : min (nd : Int) ((nd : Int) + (Z : Int)) = (nd : Int) := by omega
  have m2 : max ((nd : Int) - ((nd : Int) + (Z : Int))) 0 = 0 := by omega
  have m3 : (nd : Int) + (Z : Int) - (nd : Int) = (Z : Int) := by omega
  go_enter Tryz.func109, Tryz.ntmps109
  go_wp2_with (at_builtin; refine Hid.out ?_)
  simp only [show ((0 : Int) < (nd : Int) + (Z : Int)) ↔ True from iff_true_intro (by omega), decide_true]
  go_loopw [0, 25, 191] (fun s0 sx s1 wr => ∃ k : Nat, k ≤ nd ∧ s1 = .int .i64 k ∧ Hid (TX B wb b ds s0 ([] ++ ds.take k) wr)) (fun _ _ s1 _ => nd - (RowKit.intOf s1).toNat)
  case atStart => exact ⟨0, Nat.zero_le _, rfl, Lib.hid (HT.out.cast (by simp))⟩
  case round =>
    clear HT
    obtain ⟨k, hk, rfl, HT⟩ := hrel
    by_cases hlt : k < nd
    · obtain ⟨x, hx⟩ : ∃ x, ds[k]? = some x := ⟨_, List.getElem?_eq_getElem (by omega)⟩
      have hc := HT.out.dig k x hx
      go_wp2_with (at_builtin; refine Hid.out ?_)
      refine Lib.hid (wpList_app rfl _ _ _ _ rfl _ _ rfl rfl (TX.app1 HT.out [x] 5 1 1 rfl (by omega) (by simp only [List.length_append, List.length_cons, List.length_nil, List.length_replicate, List.length_take, List.length_drop]; omega)) ?_)
      clear HT
      rintro v w h
      have HT := Lib.hid h
      clear h
      go_wp2_with (at_builtin; refine Hid.out ?_)
      go_roundw
      case rel => exact ⟨k + 1, by omega, by go_num, Lib.hid (HT.out.cast (take_snoc _ _ _ _ hx))⟩
      case measure => simp [RowKit.intOf]; omega
    · obtain rfl : nd = k := by omega
      go_wp2_with (at_builtin; refine Hid.out ?_)
      go_loopw [0, 203] (fun s0 s1 wr => ∃ k : Nat, k ≤ Z ∧ s1 = .int .i64 k ∧ Hid (TX B wb b ds s0 ([] ++ ds.take nd ++ List.replicate k 48) wr)) (fun _ s1 _ => Z - (RowKit.intOf s1).toNat)
      case atStart => exact ⟨0, Nat.zero_le _, rfl, Lib.hid (HT.out.cast (by simp))⟩
      case round =>
        clear HT
        obtain ⟨k, hk, rfl, HT⟩ := hrel
        by_cases hlt : k < Z
        · go_wp2_with (at_builtin; refine Hid.out ?_)
          refine Lib.hid (wpList_app rfl _ _ _ _ rfl _ _ rfl rfl (TX.app1 HT.out [48] 5 1 1 rfl (by omega) (by simp only [List.length_append, List.length_cons, List.length_nil, List.length_replicate, List.length_take, List.length_drop]; omega)) ?_)
          clear HT
          rintro v w h
          have HT := Lib.hid h
          clear h
          go_wp2_with (at_builtin; refine Hid.out ?_)
          go_roundw
          case rel => exact ⟨k + 1, by omega, by go_num, Lib.hid (HT.out.cast (rep_snoc _ _))⟩
          case measure => simp [RowKit.intOf]; omega
        · obtain rfl : Z = k := by omega
          go_wp2_with fail
          go_ret
          exact ⟨_, rfl, HT.out⟩
set_option maxRecDepth 100000 in
set_option maxHeartbeats 4000000 in
theorem eff_b_p (B : Nat) (wb : World) (b : Nat) (ds : List UInt8) (v : Value) (w : World) (d R : Nat) (hd : 1 ≤ d) (hd6 : d ≤ 6) (hR : 1 ≤ R) (hR2 : R ≤ 20) (hl : d + R ≤ ds.length) (hl2 : ds.length ≤ 30) (h : TX B wb b ds v [] w) :
    Calls Tryz.prog 109 #[v, .bool false, .slice (some ⟨b, 0, none⟩) 32 32, .int .i64 (d : Int), .int .i64 ((d : Int) + (R : Int)), .int .i64 ((d : Int) + (R : Int)), .int .u8 103, .bool true] w (EffIs B wb b ds ([] ++ ds.take d ++ [46] ++ (ds.drop d).take R)) := by
  have HT := Lib.hid h
  clear h
  have m1 : min ((d : Int) + (R : Int)) (d : Int) = (d : Int) := by omega
  have m2 : max ((d : Int) + (R : Int) - (d : Int)) 0 = (R : Int) := by omega
  have m3 : min (R : Int) (max 0 (-(d : Int))) = 0 := by omega
  have m4 : max 0 ((d : Int) + (R : Int) - (d : Int)) = (R : Int) := by omega
  go_enter Tryz.func109, Tryz.ntmps109
  go_wp2_with (at_builtin; refine Hid.out ?_)
  simp only [show ((d : Int) < (d : Int) + (R : Int)) ↔ True from iff_true_intro (by omega), show (0 < d) ↔ True from iff_true_intro (by omega), decide_true]
  go_loopw [0, 25, 191] (fun s0 sx s1 wr => ∃ k : Nat, k ≤ d ∧ s1 = .int .i64 k ∧ Hid (TX B wb b ds s0 ([] ++ ds.take k) wr)) (fun _ _ s1 _ => d - (RowKit.intOf s1).toNat)
  case atStart => exact ⟨0, Nat.zero_le _, rfl, Lib.hid (HT.out.cast (by simp))⟩
  case round =>
    clear HT
    obtain ⟨k, hk, rfl, HT⟩ := hrel
    by_cases hlt : k < d
    · obtain ⟨x, hx⟩ : ∃ x, ds[k]? = some x := ⟨_, List.getElem?_eq_getElem (by omega)⟩
      have hc := HT.out.dig k x hx
      go_wp2_with (at_builtin; refine Hid.out ?_)
      refine Lib.hid (wpList_app rfl _ _ _ _ rfl _ _ rfl rfl (TX.app1 HT.out [x] 5 1 1 rfl (by omega) (by simp only [List.length_append, List.length_cons, List.length_nil, List.length_replicate, List.length_take, List.length_drop]; omega)) ?_)
      clear HT
      rintro v w h
      have HT := Lib.hid h
      clear h
      go_wp2_with (at_builtin; refine Hid.out ?_)
      go_roundw
      case rel => exact ⟨k + 1, by omega, by go_num, Lib.hid (HT.out.cast (take_snoc _ _ _ _ hx))⟩
      case measure => simp [RowKit.intOf]; omega
    · obtain rfl : d = k := by omega
      go_wp2_with (at_builtin; refine Hid.out ?_)
      go_loopw [0, 203] (fun s0 s wr => s = .int .i64 0 ∧ Hid (TX B wb b ds s0 ([] ++ ds.take d) wr)) (fun _ _ _ => 0)
      case atStart => exact ⟨rfl, HT⟩
      case round =>
        clear HT
        obtain ⟨rfl, HT⟩ := hrel
        go_wp2_with (at_builtin; refine Hid.out ?_)
        refine Lib.hid (wpList_app rfl _ _ _ _ rfl _ _ rfl rfl (TX.app1 HT.out [46] 5 1 1 rfl (by omega) (by simp only [List.length_append, List.length_cons, List.length_nil, List.length_replicate, List.length_take, List.length_drop]; omega)) ?_)
        clear HT
        rintro v w h
        have HT := Lib.hid h
        clear h
        go_wp2_with (at_builtin; refine Hid.out ?_)
        go_loopw [0, 240] (fun s0 s wr => s = .int .i64 0 ∧ Hid (TX B wb b ds s0 ([] ++ ds.take d ++ [46]) wr)) (fun _ _ _ => 0)
        case atStart => exact ⟨rfl, HT⟩
        case round =>
          clear HT
          obtain ⟨rfl, HT⟩ := hrel
          go_wp2_with (at_builtin; refine Hid.out ?_)
          go_loopw [0, 30, 247] (fun s0 sx s1 wr => ∃ k : Nat, k ≤ R ∧ s1 = .int .i64 k ∧ Hid (TX B wb b ds s0 ([] ++ ds.take d ++ [46] ++ (ds.drop d).take k) wr)) (fun _ _ s1 _ => R - (RowKit.intOf s1).toNat)
          case atStart => exact ⟨0, Nat.zero_le _, rfl, Lib.hid (HT.out.cast (by simp))⟩
          case round =>
            clear HT
            obtain ⟨k, hk, rfl, HT⟩ := hrel
            by_cases hlt : k < R
            · obtain ⟨x, hx⟩ : ∃ x, ds[d + k]? = some x := ⟨_, List.getElem?_eq_getElem (by omega)⟩
              have hc := HT.out.dig (d + k) x hx
              have hj : (d : Int) + (k : Int) < 32 := by omega
              go_wp2_with (at_builtin; refine Hid.out ?_)
              refine Lib.hid (wpList_app rfl _ _ _ _ rfl _ _ rfl rfl (TX.app1 HT.out [x] 5 1 1 rfl (by omega) (by simp only [List.length_append, List.length_cons, List.length_nil, List.length_replicate, List.length_take, List.length_drop]; omega)) ?_)
              clear HT
              rintro v w h
              have HT := Lib.hid h
              clear h
              go_wp2_with (at_builtin; refine Hid.out ?_)
              go_roundw
              case rel => exact ⟨k + 1, by omega, by go_num, Lib.hid (HT.out.cast (drop_snoc _ _ _ _ _ hx))⟩
              case measure => simp [RowKit.intOf]; omega
            · obtain rfl : R = k := by omega
              go_wp2_with (at_builtin; refine Hid.out ?_)
              go_loopw [0, 261] (fun s0 s wr => s = .int .i64 0 ∧ Hid (TX B wb b ds s0 ([] ++ ds.take d ++ [46] ++ (ds.drop d).take R) wr)) (fun _ _ _ => 0)
              case atStart => exact ⟨rfl, HT⟩
              case round =>
                clear HT
                obtain ⟨rfl, HT⟩ := hrel
                go_wp2_with fail
                go_ret
                exact ⟨_, rfl, HT.out⟩
set_option maxRecDepth 100000 in
set_option maxHeartbeats 4000000 in
theorem eff_c_p (B : Nat) (wb : World) (b : Nat) (ds : List UInt8) (v : Value) (w : World) (nd Z : Nat) (hn : 1 ≤ nd) (hn2 : nd ≤ 20) (hz : Z ≤ 3) (hl : nd ≤ ds.length) (h : TX B wb b ds v [] w) :
    Calls Tryz.prog 109 #[v, .bool false, .slice (some ⟨b, 0, none⟩) 32 32, .int .i64 (-(Z : Int)), .int .i64 nd, .int .i64 nd, .int .u8 103, .bool true] w (EffIs B wb b ds ([] ++ [48] ++ [46] ++ List.replicate Z 48 ++ ds.take nd)) := by
  have HT := Lib.hid h
  clear h
  have m1 : max ((nd : Int) + (Z : Int)) 0 = (nd : Int) + (Z : Int) := by omega
  have m2 : max 0 (Z : Int) = (Z : Int) := by omega
  have m3 : min ((nd : Int) + (Z : Int)) (Z : Int) = (Z : Int) := by omega
  have m4 : -(Z : Int) + (Z : Int) = 0 := by omega
  have m5 : (nd : Int) + (Z : Int) - (Z : Int) = (nd : Int) := by omega
  have m6 : max 0 (nd : Int) = (nd : Int) := by omega
  go_enter Tryz.func109, Tryz.ntmps109
  go_wp2_with (at_builtin; refine Hid.out ?_)
  refine Lib.hid (wpList_app rfl _ _ _ _ rfl _ _ rfl rfl (TX.app1 HT.out [48] 5 1 1 rfl (by omega) (by simp only [List.length_append, List.length_cons, List.length_nil, List.length_replicate, List.length_take, List.length_drop]; omega)) ?_)
  clear HT
  rintro v w h
  have HT := Lib.hid h
  clear h
  go_wp2_with (at_builtin; refine Hid.out ?_)
  refine Lib.hid (wpList_app rfl _ _ _ _ rfl _ _ rfl rfl (TX.app1 HT.out [46] 5 1 1 rfl (by omega) (by simp only [List.length_append, List.length_cons, List.length_nil, List.length_replicate, List.length_take, List.length_drop]; omega)) ?_)
  clear HT
  rintro v w h
  have HT := Lib.hid h
  clear h
  go_wp2_with (at_builtin; refine Hid.out ?_)
  go_loopw [0, 240] (fun s0 s1 wr => ∃ k : Nat, k ≤ Z ∧ s1 = .int .i64 k ∧ Hid (TX B wb b ds s0 ([] ++ [48] ++ [46] ++ List.replicate k 48) wr)) (fun _ s1 _ => Z - (RowKit.intOf s1).toNat)
  case atStart => exact ⟨0, Nat.zero_le _, rfl, Lib.hid (HT.out.cast (by simp))⟩
  case round =>
    clear HT
    obtain ⟨k, hk, rfl, HT⟩ := hrel
    by_cases hlt : k < Z
    · go_wp2_with (at_builtin; refine Hid.out ?_)
      refine Lib.hid (wpList_app rfl _ _ _ _ rfl _ _ rfl rfl (TX.app1 HT.out [48] 5 1 1 rfl (by omega) (by simp only [List.length_append, List.length_cons, List.length_nil, List.length_replicate, List.length_take, List.length_drop]; omega)) ?_)
      clear HT
      rintro v w h
      have HT := Lib.hid h
      clear h
      go_wp2_with (at_builtin; refine Hid.out ?_)
      go_roundw
      case rel => exact ⟨k + 1, by omega, by go_num, Lib.hid (HT.out.cast (rep_snoc _ _))⟩
      case measure => simp [RowKit.intOf]; omega
    · obtain rfl : Z = k := by omega
      go_wp2_with (at_builtin; refine Hid.out ?_)
      go_loopw [0, 30, 247] (fun s0 sx s1 wr => ∃ k : Nat, k ≤ nd ∧ s1 = .int .i64 k ∧ Hid (TX B wb b ds s0 ([] ++ [48] ++ [46] ++ List.replicate Z 48 ++ ds.take k) wr)) (fun _ _ s1 _ => nd - (RowKit.intOf s1).toNat)
      case atStart => exact ⟨0, Nat.zero_le _, rfl, Lib.hid (HT.out.cast (by simp))⟩
      case round =>
        clear HT
        obtain ⟨k, hk, rfl, HT⟩ := hrel
        by_cases hlt : k < nd
        · obtain ⟨x, hx⟩ : ∃ x, ds[k]? = some x := ⟨_, List.getElem?_eq_getElem (by omega)⟩
          have hc := HT.out.dig k x hx
          go_wp2_with (at_builtin; refine Hid.out ?_)
          refine Lib.hid (wpList_app rfl _ _ _ _ rfl _ _ rfl rfl (TX.app1 HT.out [x] 5 1 1 rfl (by omega) (by simp only [List.length_append, List.length_cons, List.length_nil, List.length_replicate, List.length_take, List.length_drop]; omega)) ?_)
          clear HT
          rintro v w h
          have HT := Lib.hid h
          clear h
          go_wp2_with (at_builtin; refine Hid.out ?_)
          go_roundw
          case rel => exact ⟨k + 1, by omega, by go_num, Lib.hid (HT.out.cast (take_snoc _ _ _ _ hx))⟩
          case measure => simp [RowKit.intOf]; omega
        · obtain rfl : nd = k := by omega
          go_wp2_with (at_builtin; refine Hid.out ?_)
          go_loopw [0, 261] (fun s0 s wr => s = .int .i64 0 ∧ Hid (TX B wb b ds s0 ([] ++ [48] ++ [46] ++ List.replicate Z 48 ++ ds.take nd) wr)) (fun _ _ _ => 0)
          case atStart => exact ⟨rfl, HT⟩
          case round =>
            clear HT
            obtain ⟨rfl, HT⟩ := hrel
            go_wp2_with fail
            go_ret
            exact ⟨_, rfl, HT.out⟩
set_option maxRecDepth 100000 in
set_option maxHeartbeats 4000000 in
theorem eff_a_n (B : Nat) (wb : World) (b : Nat) (ds : List UInt8) (v : Value) (w : World) (nd Z : Nat) (hn : 1 ≤ nd) (hz : nd + Z ≤ 6) (hl : nd ≤ ds.length) (h : TX B wb b ds v [] w) :
    Calls Tryz.prog 109 #[v, .bool true, .slice (some ⟨b, 0, none⟩) 32 32, .int .i64 ((nd : Int) + (Z : Int)), .int .i64 nd, .int .i64 nd, .int .u8 103, .bool true] w (EffIs B wb b ds ([] ++ [45] ++ ds.take nd ++ List.replicate Z 48)) := by
  have HT := Lib.hid h
  clear h
  have m1 : min (nd : Int) ((nd : Int) + (Z : Int)) = (nd : Int) := by omega
  have m2 : max ((nd : Int) - ((nd : Int) + (Z : Int))) 0 = 0 := by omega
  have m3 : (nd : Int) + (Z : Int) - (nd : Int) = (Z : Int) := by omega
  go_enter Tryz.func109, Tryz.ntmps109
  go_wp2_with (at_builtin; refine Hid.out ?_)
  refine Lib.hid (wpList_app rfl _ _ _ _ rfl _ _ rfl rfl (TX.app1 HT.out [45] 5 1 1 rfl (by omega) (by simp only [List.length_append, List.length_cons, List.length_nil, List.length_replicate, List.length_take, List.length_drop]; omega)) ?_)
  clear HT
  rintro v w h
  have HT := Lib.hid h
  clear h
  go_wp2_with (at_builtin; refine Hid.out ?_)
  simp only [show ((0 : Int) < (nd : Int) + (Z : Int)) ↔ True from iff_true_intro (by omega), decide_true]
  go_loopw [0, 25, 191] (fun s0 sx s1 wr => ∃ k : Nat, k ≤ nd ∧ s1 = .int .i64 k ∧ Hid (TX B wb b ds s0 ([] ++ [45] ++ ds.take k) wr)) (fun _ _ s1 _ => nd - (RowKit.intOf s1).toNat)
  case atStart => exact ⟨0, Nat.zero_le _, rfl, Lib.hid (HT.out.cast (by simp))⟩
  case round =>
    clear HT
    obtain ⟨k, hk, rfl, HT⟩ := hrel
    by_cases hlt : k < nd
    · obtain ⟨x, hx⟩ : ∃ x, ds[k]? = some x := ⟨_, List.getElem?_eq_getElem (by omega)⟩
      have hc := HT.out.dig k x hx
      go_wp2_with (at_builtin; refine Hid.out ?_)
      refine Lib.hid (wpList_app rfl _ _ _ _ rfl _ _ rfl rfl (TX.app1 HT.out [x] 5 1 1 rfl (by omega) (by simp only [List.length_append, List.length_cons, List.length_nil, List.length_replicate, List.length_take, List.length_drop]; omega)) ?_)
      clear HT
      rintro v w h
      have HT := Lib.hid h
      clear h
      go_wp2_with (at_builtin; refine Hid.out ?_)
      go_roundw
      case rel => exact ⟨k + 1, by omega, by go_num, Lib.hid (HT.out.cast (take_snoc _ _ _ _ hx))⟩
      case measure => simp [RowKit.intOf]; omega
    · obtain rfl : nd = k := by omega
      go_wp2_with (at_builtin; refine Hid.out ?_)
      go_loopw [0, 203] (fun s0 s1 wr => ∃ k : Nat, k ≤ Z ∧ s1 = .int .i64 k ∧ Hid (TX B wb b ds s0 ([] ++ [45] ++ ds.take nd ++ List.replicate k 48) wr)) (fun _ s1 _ => Z - (RowKit.intOf s1).toNat)
      case atStart => exact ⟨0, Nat.zero_le _, rfl, Lib.hid (HT.out.cast (by simp))⟩
      case round =>
        clear HT
        obtain ⟨k, hk, rfl, HT⟩ := hrel
        by_cases hlt : k < Z
        · go_wp2_with (at_builtin; refine Hid.out ?_)
          refine Lib.hid (wpList_app rfl _ _ _ _ rfl _ _ rfl rfl (TX.app1 HT.out [48] 5 1 1 rfl (by omega) (by simp only [List.length_append, List.length_cons, List.length_nil, List.length_replicate, List.length_take, List.length_drop]; omega)) ?_)
          clear HT
          rintro v w h
          have HT := Lib.hid h
          clear h
          go_wp2_with (at_builtin; refine Hid.out ?_)
          go_roundw
          case rel => exact ⟨k + 1, by omega, by go_num, Lib.hid (HT.out.cast (rep_snoc _ _))⟩
          case measure => simp [RowKit.intOf]; omega
        · obtain rfl : Z = k := by omega
          go_wp2_with fail
          go_ret
          exact ⟨_, rfl, HT.out⟩
set_option maxRecDepth 100000 in
set_option maxHeartbeats 4000000 in
theorem eff_b_n (B : Nat) (wb : World) (b : Nat) (ds : List UInt8) (v : Value) (w : World) (d R : Nat) (hd : 1 ≤ d) (hd6 : d ≤ 6) (hR : 1 ≤ R) (hR2 : R ≤ 20) (hl : d + R ≤ ds.length) (hl2 : ds.length ≤ 30) (h : TX B wb b ds v [] w) :
    Calls Tryz.prog 109 #[v, .bool true, .slice (some ⟨b, 0, none⟩) 32 32, .int .i64 (d : Int), .int .i64 ((d : Int) + (R : Int)), .int .i64 ((d : Int) + (R : Int)), .int .u8 103, .bool true] w (EffIs B wb b ds ([] ++ [45] ++ ds.take d ++ [46] ++ (ds.drop d).take R)) := by
  have HT := Lib.hid h
  clear h
  have m1 : min ((d : Int) + (R : Int)) (d : Int) = (d : Int) := by omega
  have m2 : max ((d : Int) + (R : Int) - (d : Int)) 0 = (R : Int) := by omega
  have m3 : min (R : Int) (max 0 (-(d : Int))) = 0 := by omega
  have m4 : max 0 ((d : Int) + (R : Int) - (d : Int)) = (R : Int) := by omega
  go_enter Tryz.func109, Tryz.ntmps109
  go_wp2_with (at_builtin; refine Hid.out ?_)
  refine Lib.hid (wpList_app rfl _ _ _ _ rfl _ _ rfl rfl (TX.app1 HT.out [45] 5 1 1 rfl (by omega) (by simp only [List.length_append, List.length_cons, List.length_nil, List.length_replicate, List.length_take, List.length_drop]; omega)) ?_)
  clear HT
  rintro v w h
  have HT := Lib.hid h
  clear h
  go_wp2_with (at_builtin; refine Hid.out ?_)
  simp only [show ((d : Int) < (d : Int) + (R : Int)) ↔ True from iff_true_intro (by omega), show (0 < d) ↔ True from iff_true_intro (by omega), decide_true]
  go_loopw [0, 25, 191] (fun s0 sx s1 wr => ∃ k : Nat, k ≤ d ∧ s1 = .int .i64 k ∧ Hid (TX B wb b ds s0 ([] ++ [45] ++ ds.take k) wr)) (fun _ _ s1 _ => d - (RowKit.intOf s1).toNat)
  case atStart => exact ⟨0, Nat.zero_le _, rfl, Lib.hid (HT.out.cast (by simp))⟩
  case round =>
    clear HT
    obtain ⟨k, hk, rfl, HT⟩ := hrel
    by_cases hlt : k < d
    · obtain ⟨x, hx⟩ : ∃ x, ds[k]? = some x := ⟨_, List.getElem?_eq_getElem (by omega)⟩
      have hc := HT.out.dig k x hx
      go_wp2_with (at_builtin; refine Hid.out ?_)
      refine Lib.hid (wpList_app rfl _ _ _ _ rfl _ _ rfl rfl (TX.app1 HT.out [x] 5 1 1 rfl (by omega) (by simp only [List.length_append, List.length_cons, List.length_nil, List.length_replicate, List.length_take, List.length_drop]; omega)) ?_)
      clear HT
      rintro v w h
      have HT := Lib.hid h
      clear h
      go_wp2_with (at_builtin; refine Hid.out ?_)
      go_roundw
      case rel => exact ⟨k + 1, by omega, by go_num, Lib.hid (HT.out.cast (take_snoc _ _ _ _ hx))⟩
      case measure => simp [RowKit.intOf]; omega
    · obtain rfl : d = k := by omega
      go_wp2_with (at_builtin; refine Hid.out ?_)
      go_loopw [0, 203] (fun s0 s wr => s = .int .i64 0 ∧ Hid (TX B wb b ds s0 ([] ++ [45] ++ ds.take d) wr)) (fun _ _ _ => 0)
      case atStart => exact ⟨rfl, HT⟩
      case round =>
        clear HT
        obtain ⟨rfl, HT⟩ := hrel
        go_wp2_with (at_builtin; refine Hid.out ?_)
        refine Lib.hid (wpList_app rfl _ _ _ _ rfl _ _ rfl rfl (TX.app1 HT.out [46] 5 1 1 rfl (by omega) (by simp only [List.length_append, List.length_cons, List.length_nil, List.length_replicate, List.length_take, List.length_drop]; omega)) ?_)
        clear HT
        rintro v w h
        have HT := Lib.hid h
        clear h
        go_wp2_with (at_builtin; refine Hid.out ?_)
        go_loopw [0, 240] (fun s0 s wr => s = .int .i64 0 ∧ Hid (TX B wb b ds s0 ([] ++ [45] ++ ds.take d ++ [46]) wr)) (fun _ _ _ => 0)
        case atStart => exact ⟨rfl, HT⟩
        case round =>
          clear HT
          obtain ⟨rfl, HT⟩ := hrel
          go_wp2_with (at_builtin; refine Hid.out ?_)
          go_loopw [0, 30, 247] (fun s0 sx s1 wr => ∃ k : Nat, k ≤ R ∧ s1 = .int .i64 k ∧ Hid (TX B wb b ds s0 ([] ++ [45] ++ ds.take d ++ [46] ++ (ds.drop d).take k) wr)) (fun _ _ s1 _ => R - (RowKit.intOf s1).toNat)
          case atStart => exact ⟨0, Nat.zero_le _, rfl, Lib.hid (HT.out.cast (by simp))⟩
          case round =>
            clear HT
            obtain ⟨k, hk, rfl, HT⟩ := hrel
            by_cases hlt : k < R
            · obtain ⟨x, hx⟩ : ∃ x, ds[d + k]? = some x := ⟨_, List.getElem?_eq_getElem (by omega)⟩
              have hc := HT.out.dig (d + k) x hx
              have hj : (d : Int) + (k : Int) < 32 := by omega
              go_wp2_with (at_builtin; refine Hid.out ?_)
              refine Lib.hid (wpList_app rfl _ _ _ _ rfl _ _ rfl rfl (TX.app1 HT.out [x] 5 1 1 rfl (by omega) (by simp only [List.length_append, List.length_cons, List.length_nil, List.length_replicate, List.length_take, List.length_drop]; omega)) ?_)
              clear HT
              rintro v w h
              have HT := Lib.hid h
              clear h
              go_wp2_with (at_builtin; refine Hid.out ?_)
              go_roundw
              case rel => exact ⟨k + 1, by omega, by go_num, Lib.hid (HT.out.cast (drop_snoc _ _ _ _ _ hx))⟩
              case measure => simp [RowKit.intOf]; omega
            · obtain rfl : R = k := by omega
              go_wp2_with (at_builtin; refine Hid.out ?_)
              go_loopw [0, 261] (fun s0 s wr => s = .int .i64 0 ∧ Hid (TX B wb b ds s0 ([] ++ [45] ++ ds.take d ++ [46] ++ (ds.drop d).take R) wr)) (fun _ _ _ => 0)
              case atStart => exact ⟨rfl, HT⟩
              case round =>
                clear HT
                obtain ⟨rfl, HT⟩ := hrel
                go_wp2_with fail
                go_ret
                exact ⟨_, rfl, HT.out⟩
set_option maxRecDepth 100000 in
set_option maxHeartbeats 4000000 in
theorem eff_c_n (B : Nat) (wb : World) (b : Nat) (ds : List UInt8) (v : Value) (w : World) (nd Z : Nat) (hn : 1 ≤ nd) (hn2 : nd ≤ 20) (hz : Z ≤ 3) (hl : nd ≤ ds.length) (h : TX B wb b ds v [] w) :
    Calls Tryz.prog 109 #[v, .bool true, .slice (some ⟨b, 0, none⟩) 32 32, .int .i64 (-(Z : Int)), .int .i64 nd, .int .i64 nd, .int .u8 103, .bool true] w (EffIs B wb b ds ([] ++ [45] ++ [48] ++ [46] ++ List.replicate Z 48 ++ ds.take nd)) := by
  have HT := Lib.hid h
  clear h
  have m1 : max ((nd : Int) + (Z : Int)) 0 = (nd : Int) + (Z : Int) := by omega
  have m2 : max 0 (Z : Int) = (Z : Int) := by omega
  have m3 : min ((nd : Int) + (Z : Int)) (Z : Int) = (Z : Int) := by omega
  have m4 : -(Z : Int) + (Z : Int) = 0 := by omega
  have m5 : (nd : Int) + (Z : Int) - (Z : Int) = (nd : Int) := by omega
  have m6 : max 0 (nd : Int) = (nd : Int) := by omega
  go_enter Tryz.func109, Tryz.ntmps109
  go_wp2_with (at_builtin; refine Hid.out ?_)
  refine Lib.hid (wpList_app rfl _ _ _ _ rfl _ _ rfl rfl (TX.app1 HT.out [45] 5 1 1 rfl (by omega) (by simp only [List.length_append, List.length_cons, List.length_nil, List.length_replicate, List.length_take, List.length_drop]; omega)) ?_)
  clear HT
  rintro v w h
  have HT := Lib.hid h
  clear h
  go_wp2_with (at_builtin; refine Hid.out ?_)
  refine Lib.hid (wpList_app rfl _ _ _ _ rfl _ _ rfl rfl (TX.app1 HT.out [48] 5 1 1 rfl (by omega) (by simp only [List.length_append, List.length_cons, List.length_nil, List.length_replicate, List.length_take, List.length_drop]; omega)) ?_)
  clear HT
  rintro v w h
  have HT := Lib.hid h
  clear h
  go_wp2_with (at_builtin; refine Hid.out ?_)
  refine Lib.hid (wpList_app rfl _ _ _ _ rfl _ _ rfl rfl (TX.app1 HT.out [46] 5 1 1 rfl (by omega) (by simp only [List.length_append, List.length_cons, List.length_nil, List.length_replicate, List.length_take, List.length_drop]; omega)) ?_)
  clear HT
  rintro v w h
  have HT := Lib.hid h
  clear h
  go_wp2_with (at_builtin; refine Hid.out ?_)
  go_loopw [0, 240] (fun s0 s1 wr => ∃ k : Nat, k ≤ Z ∧ s1 = .int .i64 k ∧ Hid (TX B wb b ds s0 ([] ++ [45] ++ [48] ++ [46] ++ List.replicate k 48) wr)) (fun _ s1 _ => Z - (RowKit.intOf s1).toNat)
  case atStart => exact ⟨0, Nat.zero_le _, rfl, Lib.hid (HT.out.cast (by simp))⟩
  case round =>
    clear HT
    obtain ⟨k, hk, rfl, HT⟩ := hrel
    by_cases hlt : k < Z
    · go_wp2_with (at_builtin; refine Hid.out ?_)
      refine Lib.hid (wpList_app rfl _ _ _ _ rfl _ _ rfl rfl (TX.app1 HT.out [48] 5 1 1 rfl (by omega) (by simp only [List.length_append, List.length_cons, List.length_nil, List.length_replicate, List.length_take, List.length_drop]; omega)) ?_)
      clear HT
      rintro v w h
      have HT := Lib.hid h
      clear h
      go_wp2_with (at_builtin; refine Hid.out ?_)
      go_roundw
      case rel => exact ⟨k + 1, by omega, by go_num, Lib.hid (HT.out.cast (rep_snoc _ _))⟩
      case measure => simp [RowKit.intOf]; omega
    · obtain rfl : Z = k := by omega
      go_wp2_with (at_builtin; refine Hid.out ?_)
      go_loopw [0, 30, 247] (fun s0 sx s1 wr => ∃ k : Nat, k ≤ nd ∧ s1 = .int .i64 k ∧ Hid (TX B wb b ds s0 ([] ++ [45] ++ [48] ++ [46] ++ List.replicate Z 48 ++ ds.take k) wr)) (fun _ _ s1 _ => nd - (RowKit.intOf s1).toNat)
      case atStart => exact ⟨0, Nat.zero_le _, rfl, Lib.hid (HT.out.cast (by simp))⟩
      case round =>
        clear HT
        obtain ⟨k, hk, rfl, HT⟩ := hrel
        by_cases hlt : k < nd
        · obtain ⟨x, hx⟩ : ∃ x, ds[k]? = some x := ⟨_, List.getElem?_eq_getElem (by omega)⟩
          have hc := HT.out.dig k x hx
          go_wp2_with (at_builtin; refine Hid.out ?_)
          refine Lib.hid (wpList_app rfl _ _ _ _ rfl _ _ rfl rfl (TX.app1 HT.out [x] 5 1 1 rfl (by omega) (by simp only [List.length_append, List.length_cons, List.length_nil, List.length_replicate, List.length_take, List.length_drop]; omega)) ?_)
          clear HT
          rintro v w h
          have HT := Lib.hid h
          clear h
          go_wp2_with (at_builtin; refine Hid.out ?_)
          go_roundw
          case rel => exact ⟨k + 1, by omega, by go_num, Lib.hid (HT.out.cast (take_snoc _ _ _ _ hx))⟩
          case measure => simp [RowKit.intOf]; omega
        · obtain rfl : nd = k := by omega
          go_wp2_with (at_builtin; refine Hid.out ?_)
          go_loopw [0, 261] (fun s0 s wr => s = .int .i64 0 ∧ Hid (TX B wb b ds s0 ([] ++ [45] ++ [48] ++ [46] ++ List.replicate Z 48 ++ ds.take nd) wr)) (fun _ _ _ => 0)
          case atStart => exact ⟨rfl, HT⟩
          case round =>
            clear HT
            obtain ⟨rfl, HT⟩ := hrel
            go_wp2_with fail
            go_ret
            exact ⟨_, rfl, HT.out⟩
set_option maxRecDepth 100000 in
set_option maxHeartbeats 4000000 in
theorem eff_z_p (B : Nat) (wb : World) (b : Nat) (ds : List UInt8) (v : Value) (w : World)  (h : TX B wb b ds v [] w) :
    Calls Tryz.prog 109 #[v, .bool false, .slice none 0 0, .int .i64 0, .int .i64 0, .int .i64 (-1), .int .u8 103, .bool true] w (EffIs B wb b ds ([] ++ [48])) := by
  have HT := Lib.hid h
  clear h
  go_enter Tryz.func109, Tryz.ntmps109
  go_wp2_with (at_builtin; refine Hid.out ?_)
  refine Lib.hid (wpList_app rfl _ _ _ _ rfl _ _ rfl rfl (TX.app1 HT.out [48] 5 1 1 rfl (by omega) (by simp only [List.length_append, List.length_cons, List.length_nil, List.length_replicate, List.length_take, List.length_drop]; omega)) ?_)
  clear HT
  rintro v w h
  have HT := Lib.hid h
  clear h
  go_wp2_with (at_builtin; refine Hid.out ?_)
  go_wp2_with fail
  go_ret
  exact ⟨_, rfl, HT.out⟩
set_option maxRecDepth 100000 in
set_option maxHeartbeats 4000000 in
theorem eff_z_n (B : Nat) (wb : World) (b : Nat) (ds : List UInt8) (v : Value) (w : World)  (h : TX B wb b ds v [] w) :
    Calls Tryz.prog 109 #[v, .bool true, .slice none 0 0, .int .i64 0, .int .i64 0, .int .i64 (-1), .int .u8 103, .bool true] w (EffIs B wb b ds ([] ++ [45] ++ [48])) := by
  have HT := Lib.hid h
  clear h
  go_enter Tryz.func109, Tryz.ntmps109
  go_wp2_with (at_builtin; refine Hid.out ?_)
  refine Lib.hid (wpList_app rfl _ _ _ _ rfl _ _ rfl rfl (TX.app1 HT.out [45] 5 1 1 rfl (by omega) (by simp only [List.length_append, List.length_cons, List.length_nil, List.length_replicate, List.length_take, List.length_drop]; omega)) ?_)
  clear HT
  rintro v w h
  have HT := Lib.hid h
  clear h
  go_wp2_with (at_builtin; refine Hid.out ?_)
  refine Lib.hid (wpList_app rfl _ _ _ _ rfl _ _ rfl rfl (TX.app1 HT.out [48] 5 1 1 rfl (by omega) (by simp only [List.length_append, List.length_cons, List.length_nil, List.length_replicate, List.length_take, List.length_drop]; omega)) ?_)
  clear HT
  rintro v w h
  have HT := Lib.hid h
  clear h
  go_wp2_with (at_builtin; refine Hid.out ?_)
  go_wp2_with fail
  go_ret
  exact ⟨_, rfl, HT.out⟩
end Go.Proofs.YtbbpngoffpegbaaGreatDoor
