/- The walk of 'may': whether a place may be; strings.IndexFunc over its closure. -/
import Derived.Test.YtmgfdcfbjgokgaaDoorProg
import Derived.WalkKit
import Derived.WalkLawsBesides
import Derived.WalkSpells
import Derived.Lib.Hide
import Derived.Laws.RangeAny
import Derived.Below
namespace Go.Proofs.YtmgfdcfbjgokgaaDoor
open Go.RowKit
set_option linter.unusedVariables false
set_option linter.unusedSimpArgs false

/-- A byte that a name may have. -/
def okByte (c : UInt8) : Bool := decide (33 ≤ c.toNat) && decide (c.toNat ≤ 126) && decide (c.toNat ≠ 58)
/-- All its bytes are such. -/
def okName (s : ByteArray) : Bool := s.data.toList.all okByte
/-- 'may'. -/
def mayB (s : ByteArray) (n : Int) : Bool := decide (1 ≤ s.size) && decide (s.size ≤ 120) && decide (0 ≤ n) && decide (n ≤ 1048576) && okName s
/-- The closure. -/
def oddB (r : Int) : Bool := decide (r < 33) || decide (r > 126) || decide (r = 58)

theorem odd_no (r : Int) (w : World) (h1 : 33 ≤ r) (h2 : r ≤ 126) (h3 : r ≠ 58) : Calls Tryd.prog 80 #[.int .i32 r] w fun e w' => e = .returned (.bool false) ∧ w = w' := by
  have d1 : decide (r < 33) = false := by simpa using h1
  have d2 : decide (126 < r) = false := by simpa using h2
  have d3 : (r == 58) = false := by simpa using h3
  go_enter Tryd.func80, Tryd.ntmps80
  go_wp2_with fail
  go_ret
  exact ⟨rfl, rfl⟩
theorem odd_lo (r : Int) (w : World) (h1 : r < 33) : Calls Tryd.prog 80 #[.int .i32 r] w fun e w' => e = .returned (.bool true) ∧ w = w' := by
  have d1 : decide (r < 33) = true := by simpa using h1
  go_enter Tryd.func80, Tryd.ntmps80
  go_wp2_with fail
  go_ret
  exact ⟨rfl, rfl⟩
theorem odd_hi (r : Int) (w : World) (h1 : 126 < r) : Calls Tryd.prog 80 #[.int .i32 r] w fun e w' => e = .returned (.bool true) ∧ w = w' := by
  have d1 : decide (r < 33) = false := by simp; omega
  have d2 : decide (126 < r) = true := by simpa using h1
  go_enter Tryd.func80, Tryd.ntmps80
  go_wp2_with fail
  go_ret
  exact ⟨rfl, rfl⟩
theorem odd_colon (w : World) : Calls Tryd.prog 80 #[.int .i32 58] w fun e w' => e = .returned (.bool true) ∧ w = w' := by
  go_enter Tryd.func80, Tryd.ntmps80
  go_wp2_with fail
  go_ret
  exact ⟨rfl, rfl⟩
theorem odd_any (r : Int) (w : World) : Calls Tryd.prog 80 #[.int .i32 r] w fun e w' => e = .returned (.bool (oddB r)) ∧ w = w' := by
  by_cases h1 : r < 33
  · have : oddB r = true := by simp [oddB, h1]
    rw [this]; exact odd_lo r w h1
  by_cases h2 : 126 < r
  · have : oddB r = true := by simp [oddB, h2]
    rw [this]; exact odd_hi r w h2
  by_cases h3 : r = 58
  · subst h3; exact odd_colon w
  · have : oddB r = false := by simp [oddB, h3]; omega
    rw [this]; exact odd_no r w (by omega) (by omega) h3

/-- Behind a whole name: nothing is found; else a place is told. -/
def FoundIs (s : ByteArray) (w : World) (e : Ending) (w' : World) : Prop := ∃ r : Int, e = .returned (.int .i64 r) ∧ (r < 0 ↔ okName s = true) ∧ -1 ≤ r ∧ r ≤ 9223372036854775807 ∧ Below w.heap.size w w'

theorem okName_at {s : ByteArray} (h : okName s = true) (k : Nat) (hk : k < s.size) : okByte s[k] = true := by
  unfold okName at h
  rw [List.all_eq_true] at h
  exact h _ (by
    have : s[k] = s.data.toList[k]'(by simpa using hk) := rfl
    rw [this]; exact List.getElem_mem _)
theorem okName_bad {s : ByteArray} (k : Nat) (hk : k < s.size) (h : okByte s[k] = false) : okName s = false := by
  cases he : okName s
  · rfl
  · rw [okName_at he k hk] at h; cases h
theorem okName_of {s : ByteArray} (h : ∀ k (hk : k < s.size), okByte s[k] = true) : okName s = true := by
  unfold okName
  rw [List.all_eq_true]
  intro x hx
  obtain ⟨k, hk, rfl⟩ := List.mem_iff_getElem.1 hx
  exact h k (by simpa using hk)
theorem oddB_ok {c : UInt8} (h : okByte c = true) : oddB (c.toNat : Int) = false := by
  unfold okByte at h
  unfold oddB
  simp at h ⊢
  omega
theorem oddB_bad {c : UInt8} (h : okByte c = false) : oddB (c.toNat : Int) = true := by
  unfold okByte at h
  unfold oddB
  simp at h ⊢
  omega

set_option maxHeartbeats 1000000 in
theorem indexFunc_any (s : ByteArray) (w : World) (hs : s.size ≤ 9223372036854775807) :
    Calls Tryd.prog 94 #[.string s, .func (.func 80) #[] #[], .bool true] w (FoundIs s w) := by
  go_enter Tryd.func94, Tryd.ntmps94
  go_wp2_with fail
  go_loopw [7] (fun u7 wr => ∃ pos : Nat, wr = w.iter s pos ∧ pos ≤ s.size ∧ ∀ k (hk : k < s.size), k < pos → okByte s[k] = true) (fun _ wr => s.size - wr.iterPos w.heap.size)
  case atStart => exact ⟨0, rfl, by omega, fun k hk h => by omega⟩
  case round =>
    obtain ⟨pos, rfl, hp, hall⟩ := hrel
    have HA := Lib.hid hall
    clear hall
    by_cases hlt : pos < s.size
    · have hnx := Lib.hid (fun ty => run_next_any (P := Tryd.prog) w s pos ty hlt)
      by_cases ha : (s[pos]'hlt).toNat < 128
      · have hnx' : ∀ ty, (Instr.next (.pointer (some ⟨w.heap.size, 0, none⟩)) true ty).run Tryd.prog (w.iter s pos) = _ := fun ty => run_next_ascii w s pos ty hlt ha
        cases hok : okByte s[pos]
        · have ho := oddB_bad hok
          have HO := Lib.hid hok
          have HO2 := Lib.hid ho
          clear hok ho
          go_wp2_with (go_at_call 80; refine (odd_any _ _).mono ?_; rintro e w' ⟨rfl, rfl⟩; rw [HO2.out])
          go_ret
          refine ⟨pos, rfl, ⟨fun h => by omega, fun h => ?_⟩, by omega, by omega, (Below.refl _ _).alloc (Nat.le_refl _) _⟩
          rw [okName_bad pos hlt HO.out] at h; cases h
        · have ho := oddB_ok hok
          have HO := Lib.hid hok
          have HO2 := Lib.hid ho
          clear hok ho
          go_wp2_with (go_at_call 80; refine (odd_any _ _).mono ?_; rintro e w' ⟨rfl, rfl⟩; rw [HO2.out])
          go_roundw
          case rel => exact ⟨pos + 1, rfl, by omega, fun k hk h => by
            by_cases hkp : k = pos
            · subst hkp; exact HO.out
            · exact HA.out k hk (by omega)⟩
          case measure => simp; omega
      · have hd := decode_high s pos hlt (by omega)
        have hle := decode_le s pos
        have hbad : okByte s[pos] = false := by unfold okByte; simp; omega
        have ho : oddB ((Utf8.decode s pos).1 : Int) = true := by unfold oddB; simp; omega
        have HO := Lib.hid hbad
        have HO2 := Lib.hid ho
        clear hbad ho
        have hnx' : ∀ ty, (Instr.next (.pointer (some ⟨w.heap.size, 0, none⟩)) true ty).run Tryd.prog (w.iter s pos) = _ := fun ty => run_next_any w s pos ty hlt
        go_wp2_with (go_at_call 80; refine (odd_any _ _).mono ?_; rintro e w' ⟨rfl, rfl⟩; rw [HO2.out])
        go_ret
        refine ⟨pos, rfl, ⟨fun h => by omega, fun h => ?_⟩, by omega, by omega, (Below.refl _ _).alloc (Nat.le_refl _) _⟩
        rw [okName_bad pos hlt HO.out] at h; cases h
    · have hnx : ∀ ty, (Instr.next (.pointer (some ⟨w.heap.size, 0, none⟩)) true ty).run Tryd.prog (w.iter s pos) = _ := fun ty => run_next_end w s pos ty hlt
      go_wp2_with fail
      go_ret
      refine ⟨-1, rfl, ⟨fun _ => okName_of fun k hk => HA.out k hk (by omega), fun _ => by omega⟩, by omega, by omega, (Below.refl _ _).alloc (Nat.le_refl _) _⟩

theorem IndexFunc_any (s : ByteArray) (w : World) (hs : s.size ≤ 9223372036854775807) :
    Calls Tryd.prog 81 #[.string s, .func (.func 80) #[] #[]] w (FoundIs s w) := by
  go_enter Tryd.func81, Tryd.ntmps81
  go_wp2_with (go_at_call 94; refine (indexFunc_any _ _ hs).mono ?_; rintro e w' ⟨r, rfl, h1, h2, h3, hb⟩)
  go_ret
  exact ⟨r, rfl, h1, h2, h3, hb⟩

theorem not_found {s : ByteArray} {r : Int} (h : r < 0 ↔ okName s = true) (hn : okName s = false) : 0 ≤ r := by
  rcases Int.lt_or_le r 0 with h1 | h1
  · rw [hn] at h; exact absurd (h.1 h1) (by simp)
  · exact h1
theorem size_zero {s : ByteArray} (h : s.size = 0) : s = ⟨#[]⟩ := by
  cases s with
  | mk d => congr; exact Array.eq_empty_of_size_eq_zero h
/-- 'may'. -/
theorem may_any (s : ByteArray) (n : Int) (w : World) (hs : s.size ≤ 9223372036854775807) : Calls Tryd.prog 49 #[.agg #[.string s, .int .i64 n]] w fun e w' => e = .returned (.bool (mayB s n)) ∧ Below w.heap.size w w' := by
  by_cases h0 : s.size = 0
  · obtain rfl := size_zero h0
    clear h0
    go_enter Tryd.func49, Tryd.ntmps49
    go_wp2_with fail
    go_ret
    exact ⟨rfl, (Below.refl _ _).alloc (Nat.le_refl _) _⟩
  have e0 : s.toList.isEmpty = false := by
    rw [ByteArray.toList_eq]
    cases hl : s.data.toList with
    | nil => exact absurd (by have := congrArg List.length hl; simpa using this) h0
    | cons c l => rfl
  by_cases h1 : 120 < s.size
  · have hB : mayB s n = false := by unfold mayB; simp; omega
    have HB := Lib.hid hB
    have h1' : (120 : Int) < s.size := by omega
    clear hB
    go_enter Tryd.func49, Tryd.ntmps49
    go_wp2_with fail
    go_ret
    rw [HB.out]
    exact ⟨rfl, (Below.refl _ _).alloc (Nat.le_refl _) _⟩
  have h1' : (s.size : Int) ≤ 120 := by omega
  by_cases h2 : n < 0
  · have hB : mayB s n = false := by unfold mayB; simp; omega
    have HB := Lib.hid hB
    clear hB
    go_enter Tryd.func49, Tryd.ntmps49
    go_wp2_with fail
    go_ret
    rw [HB.out]
    exact ⟨rfl, (Below.refl _ _).alloc (Nat.le_refl _) _⟩
  by_cases h3 : 1048576 < n
  · have hB : mayB s n = false := by unfold mayB; simp; omega
    have HB := Lib.hid hB
    have h2' : 0 ≤ n := by omega
    clear hB
    go_enter Tryd.func49, Tryd.ntmps49
    go_wp2_with fail
    go_ret
    rw [HB.out]
    exact ⟨rfl, (Below.refl _ _).alloc (Nat.le_refl _) _⟩
  have hB : mayB s n = okName s := by
    unfold mayB
    have : decide (1 ≤ s.size) = true := by simp; omega
    have a2 : decide (s.size ≤ 120) = true := by simp; omega
    have a3 : decide (0 ≤ n) = true := by simp; omega
    have a4 : decide (n ≤ 1048576) = true := by simp; omega
    rw [this, a2, a3, a4]; rfl
  have HB := Lib.hid hB
  have h2' : 0 ≤ n := by omega
  have h3' : n ≤ 1048576 := by omega
  clear hB
  cases hok : okName s
  · have HO := Lib.hid hok
    clear hok
    go_enter Tryd.func49, Tryd.ntmps49
    go_wp2_with (go_at_call 81; refine (IndexFunc_any _ _ hs).mono ?_; rintro e w' ⟨r, rfl, hr, hr1, hr2, hb⟩; have hr3 := not_found hr HO.out; have hr4 : decide (r < 0) = false := decide_eq_false (by omega); clear hr)
    go_ret
    rw [HB.out, HO.out]
    exact ⟨rfl, ((Below.refl _ _).alloc (Nat.le_refl _) _).trans (hb.mono (by simp))⟩
  · have HO := Lib.hid hok
    clear hok
    go_enter Tryd.func49, Tryd.ntmps49
    go_wp2_with (go_at_call 81; refine (IndexFunc_any _ _ hs).mono ?_; rintro e w' ⟨r, rfl, hr, hr1, hr2, hb⟩; have hr3 : r < 0 := hr.2 HO.out; have hr4 : decide (r < 0) = true := decide_eq_true hr3; clear hr)
    go_ret
    rw [HB.out, HO.out]
    exact ⟨rfl, ((Below.refl _ _).alloc (Nat.le_refl _) _).trans (hb.mono (by simp))⟩
end Go.Proofs.YtmgfdcfbjgokgaaDoor
