/- The walk of setDigits. -/
import Derived.Test.YtbbpngoffpegbaaGreatDoorFShortN
import Derived.Lib.ItoaLen
import Derived.Lib.ItoaMem
namespace Go.Proofs.YtbbpngoffpegbaaGreatDoor
open Go.RowKit Go.Lib Go.Sort
set_option linter.unusedVariables false
set_option linter.unusedSimpArgs false
abbrev encB : UInt8 → Value := fun b => Value.int .u8 (b.toNat : Int)
/-- The block's first cells are these bytes. -/
def DigB (w : World) (b : Nat) (l : List UInt8) : Prop := ∀ j x, l[j]? = some x → w.cell? ⟨b, j, none⟩ = some (encB x)
/-- The nd digits of u. -/
def digs (u nd : Nat) : List UInt8 := (List.range nd).map fun t => dg u (nd - 1 - t)
theorem digs_len (u nd : Nat) : (digs u nd).length = nd := by simp [digs]
/-- How many are left when the noughts behind are struck. -/
def trimN (l : List UInt8) : Nat → Nat
  | 0 => 0
  | n + 1 => if l[n]? = some 48 then trimN l n else n + 1
theorem trimN_le (l : List UInt8) : ∀ n, trimN l n ≤ n
  | 0 => Nat.le_refl _
  | n + 1 => by
    unfold trimN
    split
    · exact Nat.le_succ_of_le (trimN_le l n)
    · exact Nat.le_refl _
theorem wr_putRow (w : World) (b n : Nat) (d : Array UInt8) : Wr (fun j => j = b) w ((putRow encB w b 0 d).drewN n) := by
  refine ⟨rfl, rfl, rfl, by show _ ≤ (putRow encB w b 0 d).heap.size; rw [size_putRow]; exact Nat.le_refl _, fun k hk hs => ?_⟩
  show (putRow encB w b 0 d).heap[k]? = _
  unfold putRow mapBlock
  simp only
  rw [Array.getElem?_modify]
  simp [show ¬ (b = k) from fun h => hs h.symm]
theorem setDigits_any (b u nd : Nat) (p : Int) (w : World) (hz : ∀ j, j < 32 → w.cell? ⟨b, j, none⟩ = some (.int .u8 0) ∧ w.frozen? ⟨b, j, none⟩ = false) (hnd : nd ≤ 20) (hu : u < 10 ^ nd) (hu64 : u < 18446744073709551616) (hp0 : -400 ≤ p) (hp1 : p ≤ 400) :
    Calls Tryz.prog 112 #[.slice (some ⟨b, 0, none⟩) 32 32, .int .u64 u, .int .i64 p, .int .i64 nd] w fun e w' =>
      e = .returned (.tuple #[.int .i64 (nd + p), .int .i64 (trimN (digs u nd) nd)]) ∧ DigB w' b (digs u nd) ∧ Wr (fun j => j = b) w w' := by
  have hH : Holds encB w b 0 (Array.replicate nd (0 : UInt8)) := fun j hj => by
    have hj' : j < nd := by simpa using hj
    obtain ⟨h1, h2⟩ := hz j (by omega)
    rw [Nat.zero_add, getElem!_pos _ j hj]
    refine ⟨?_, h2⟩
    rw [h1]; simp
  have C1 := Lib.hid (Tryz.internal_strconv_formatBase10 b 0 32 u (Array.replicate nd (0 : UInt8)) w hH (by simpa using hu) hu64 (by simp; omega))
  have hH' := Lib.hid hH
  have hu' := Lib.hid hu
  clear hH hz hu
  go_enter Tryz.func112, Tryz.ntmps112
  go_wp2_with fail
  have C2 := C1.out
  simp only [Array.size_replicate] at C2
  refine C2.mono ?_
  clear C2 C1
  rintro r w1 ⟨rfl, n, v', dk, rfl, hF⟩
  have hD : Hid (DigB ((putRow encB w b 0 dk).drewN n) b (digs u nd)) := Lib.hid (fun j x hx => by
    have hj : j < nd := by have := (List.getElem?_eq_some_iff.1 hx).1; rwa [digs_len] at this
    have hs : dk.size = nd := by rw [hF.size]
    rw [World.cell?_drewN]
    have := cell?_putRow encB w b 0 _ dk hH'.out (by rw [hs, Array.size_replicate]) j (by omega)
    rw [Nat.zero_add] at this
    rw [this, hF.done j (Nat.zero_le _) hj]
    simp only [digs, List.getElem?_map, List.getElem?_range hj, Option.map_some, Option.some.injEq] at hx
    rw [← hx])
  have hW := Lib.hid (wr_putRow w b n dk)
  clear hF hH'
  revert hD hW
  generalize (putRow encB w b 0 dk).drewN n = w2
  intro hD hW
  go_wp2_with fail
  go_loop [3] (fun s3 => ∃ k : Nat, s3 = .int .i64 k ∧ k ≤ nd ∧ Hid (trimN (digs u nd) k = trimN (digs u nd) nd)) (fun s3 => (RowKit.intOf s3).toNat)
  case atStart => exact ⟨nd, rfl, Nat.le_refl _, rfl⟩
  case round =>
    obtain ⟨k, rfl, hk, ht⟩ := hrel
    cases k with
    | zero =>
      go_wp2_with fail
      go_ret2
      exact ⟨by rw [← ht.out]; rfl, hD.out, hW.out⟩
    | succ k =>
      obtain ⟨x, hx⟩ : ∃ x, (digs u nd)[k]? = some x := ⟨_, List.getElem?_eq_getElem (by rw [digs_len]; omega)⟩
      have hc : w2.cell? ⟨b, k, none⟩ = some (.int .u8 (x.toNat : Int)) := hD.out k x hx
      go_wp2_with fail
      · have h48 : ((x.toNat : Int) == 48) = true := by assumption
        have hx48 : x = 48 := UInt8.toNat_inj.1 (by have := beq_iff_eq.1 h48; show x.toNat = 48; omega)
        refine ⟨⟨k, rfl, by omega, Lib.hid ?_⟩, by simp [RowKit.intOf]⟩
        rw [← ht.out]
        show _ = if (digs u nd)[k]? = some 48 then _ else _
        rw [hx, hx48, if_pos rfl]
      · have h48 : ((x.toNat : Int) == 48) = false := by assumption
        have hx48 : x ≠ 48 := fun h => by subst h; simp at h48
        have he : trimN (digs u nd) nd = k + 1 := by
          rw [← ht.out]
          show (if (digs u nd)[k]? = some 48 then _ else _) = _
          rw [hx, if_neg (fun h => hx48 (Option.some.inj h))]
        go_ret2
        exact ⟨by rw [he]; rfl, hD.out, hW.out⟩
end Go.Proofs.YtbbpngoffpegbaaGreatDoor
