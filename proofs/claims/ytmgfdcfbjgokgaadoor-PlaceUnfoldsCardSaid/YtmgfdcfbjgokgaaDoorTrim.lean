/- 'Trim' walked. -/
import Derived.Test.YtmgfdcfbjgokgaaDoorAlive
import Derived.Deep.LoopGhost
namespace Go.Proofs.YtmgfdcfbjgokgaaDoor
open Go.RowKit Go.Proofs.YtmgfdcfbjgokgaaDoorW.PrintWords Go.Proofs.YtmgfdcfbjgokgaaDoorW.PrintLast Go.Proofs.YtmgfdcfbjgokgaaDoor.PL
set_option linter.unusedVariables false
set_option linter.unusedSimpArgs false

/-- Does a name begin with one of some? -/
def hitB (s : ByteArray) (ps : List ByteArray) : Bool := ps.any fun p => Lib.hasPrefix s.data.toList p.data.toList
/-- How many of the first n places stay. -/
def trimN (l : List Pl) (ps : List ByteArray) : Nat → Nat
  | 0 => 0
  | n + 1 => if hitB (l.getD n (⟨#[]⟩, 0)).1 ps then trimN l ps n else n + 1
def trimOf (l : List Pl) (ps : List ByteArray) : List Pl × Int := if checkN l = 0 then (l.take (trimN l ps l.length), 0) else ([], checkN l)
theorem trimN_le (l : List Pl) (ps : List ByteArray) : ∀ n, trimN l ps n ≤ n
  | 0 => Nat.le_refl _
  | n + 1 => by
    unfold trimN
    split
    · exact Nat.le_succ_of_le (trimN_le l ps n)
    · exact Nat.le_refl _
theorem hit_none {s : ByteArray} {ps : List ByteArray} : (ps.drop ps.length).any (fun p => Lib.hasPrefix s.data.toList p.data.toList) = false := by simp
def TrimIs (l : List Pl) (ps : List ByteArray) (w : World) (e : Ending) (w' : World) : Prop :=
  ∃ v, e = .returned (.tuple #[v, .int .i64 (trimOf l ps).2]) ∧ Kd.R k60 60 w' w.heap.size (fun _ => True) v ((trimOf l ps).1.map ofPl) ∧ Below w.heap.size w w'
theorem trim_bad {l : List Pl} {ps : List ByteArray} (h : ¬ checkN l = 0) : trimOf l ps = ([], checkN l) := by unfold trimOf; rw [if_neg h]
theorem trim_good {l : List Pl} {ps : List ByteArray} (h : checkN l = 0) : trimOf l ps = (l.take (trimN l ps l.length), 0) := by unfold trimOf; rw [if_pos h]
theorem trim_end {l : List S60} {ps : List ByteArray} {w w2 w3 : World} {n : Nat} {v : Value} (hck : checkN (l.map toPl) = 0) (ht : trimN (l.map toPl) ps n = trimN (l.map toPl) ps l.length) (hn : trimN (l.map toPl) ps n = n) (hb : Below w.heap.size w w2)
    (hR : Kd.R k60 60 w3 w2.heap.size (fun _ => True) v (l.take n)) (hb3 : Below w2.heap.size w2 w3) : TrimIs (l.map toPl) ps w (.returned (.tuple #[v, .int .i64 0])) w3 := by
  unfold TrimIs
  rw [trim_good hck, List.length_map, ← ht, hn]
  refine ⟨v, rfl, ?_, hb.trans (hb3.mono hb.size)⟩
  have e : ((l.map toPl).take n).map ofPl = l.take n := by
    rw [← List.map_take, List.map_map]
    conv => rhs; rw [← List.map_id (l.take n)]
    rfl
  show Kd.R _ _ _ _ _ _ (((l.map toPl).take n).map ofPl)
  rw [e]
  exact Kd.R_lower hR hb.size
/-- The end: the copy of what stays. -/
theorem clone_take (A0 : Option Addr) (c0 : Nat) (l : List S60) (W : World) (h0 : Kd.C k60 W A0 l.length l) (hc0 : l.length ≤ c0) (h64 : l.length ≤ 64) (n : Nat) (hn : n ≤ l.length) :
    Calls Tryd.prog 58 #[.slice A0 n c0] W fun e w' => ∃ v0_ : Value, e = .returned v0_ ∧ Kd.R k60 60 w' W.heap.size (fun _ => True) v0_ (l.take n) ∧ Below W.heap.size W w' := by
  have hlen : (l.take n).length = n := by rw [List.length_take]; omega
  have h := place_Place_58.calls A0 c0 (l.take n) (l.take n) W (Kd.C_take h0 hn) (by omega) (by
    unfold place_Place_58.f
    simp only [Option.bind_some, List.nil_append, List.length_nil]
    rw [if_pos (by rw [hlen]; omega)])
  rw [hlen] at h
  exact h
theorem any_at (s : ByteArray) (ps : List ByteArray) (k : Nat) (hk : k < ps.length) : hitB s (ps.drop k) = (Lib.hasPrefix s.data.toList ps[k].data.toList || hitB s (ps.drop (k + 1))) := by
  unfold hitB
  rw [List.drop_eq_getElem_cons hk, List.any_cons]
theorem trimN_hit {l : List Pl} {ps : List ByteArray} {g : Nat} (h : hitB (l.getD g (⟨#[]⟩, 0)).1 ps = true) : trimN l ps (g + 1) = trimN l ps g := by
  conv => lhs; unfold trimN
  rw [if_pos h]
theorem trimN_no {l : List Pl} {ps : List ByteArray} {g : Nat} (h : hitB (l.getD g (⟨#[]⟩, 0)).1 ps = false) : trimN l ps (g + 1) = g + 1 := by
  unfold trimN
  rw [if_neg (by rw [h]; decide)]
set_option maxRecDepth 100000 in
set_option maxHeartbeats 4000000 in
theorem Trim_any (A0 : Option Addr) (c0 : Nat) (l : List S60) (A1 : Option Addr) (c1 : Nat) (ps : List ByteArray) (w : World) (h0 : Kd.C k60 w A0 l.length l) (hc0 : l.length ≤ c0) (h1 : Kd.C Kd.string w A1 ps.length ps)
    (hs : ∀ x ∈ l, x.f0.size ≤ 9223372036854775807) (hl : l.length ≤ 9223372036854775806) (hpl : ps.length ≤ 9223372036854775806) :
    Calls Tryd.prog 26 #[.slice A0 l.length c0, .slice A1 ps.length c1] w (TrimIs (l.map toPl) ps w) := by
  have HC := Lib.hid (Check_any A0 c0 l w h0 hc0 hs hl)
  have H0 := Lib.hid h0
  have H1 := Lib.hid h1
  have HC0 := Lib.hid hc0
  clear h0 h1 hs hc0
  by_cases hck : checkN (l.map toPl) = 0
  · have HCK := Lib.hid hck
    have h64 : l.length ≤ 64 := by have := (checkN_zero hck).1; rwa [List.length_map] at this
    clear hck
    go_enter Tryd.func26, Tryd.ntmps26
    go_wp2
    go_step3
    go_wp2_with (go_at_call 14; refine (HC.out).mono ?_; rintro e w2 ⟨rfl, hb2⟩; rw [HCK.out])
    have HB2 := Lib.hid hb2
    clear hb2
    go_step3
    go_wp2
    go_loopg [7] l.length (fun g s7 wx => s7 = .int .i64 g ∧ g ≤ l.length ∧ Hid (trimN (l.map toPl) ps g = trimN (l.map toPl) ps l.length) ∧ Drawn0 w2 wx)
    case atStart => exact ⟨rfl, Nat.le_refl _, rfl, Drawn0.refl _⟩
    case round =>
      obtain ⟨rfl, hgl, HT, hd⟩ := hrel
      have HB := Lib.hid (HB2.out.trans (hd.below.mono HB2.out.size))
      have HCr := Lib.hid (Kd.C_below H0.out HB.out)
      have HPr := Lib.hid (Kd.C_below H1.out HB.out)
      have HD := Lib.hid hd
      clear hd
      have HCl := Lib.hid (fun n (hn : n ≤ l.length) => clone_take A0 c0 l wr HCr.out HC0.out h64 n hn)
      by_cases hg0 : gk = 0
      · subst hg0
        go_wp2_with (go_at_call 58; refine (HCl.out 0 (by omega)).mono ?_; rintro e w3 ⟨v3, rfl, hR3, hb3⟩)
        rw [Exit.noGoto_ret]
        go_ret2
        exact trim_end HCK.out HT.out rfl HB.out hR3 hb3
      · obtain ⟨N, rfl⟩ : ∃ N, N = gk := ⟨_, rfl⟩
        obtain ⟨g, hg⟩ : ∃ g, N = g + 1 := ⟨N - 1, by omega⟩
        have hpos : decide (0 < (N : Int)) = true := by simp; omega
        have hpos2 : decide (0 < N) = true := by simp; omega
        have hw1 : wrap64 ((N : Int) - 1) = (g : Int) := by unfold wrap64; omega
        obtain ⟨ad, hA0, hx0, _⟩ := at_T60 HCr.out (g : Int) (by omega) (by omega)
        cases hA0
        have hrd : rd_T60 l (g : Int) = l[g]'(by omega) := by simp [rd_T60, show g < l.length by omega]
        rw [hrd] at hx0
        simp only [Int.toNat_natCast] at hx0
        obtain ⟨nm, hnm⟩ : ∃ nm, nm = (l[g]'(by omega)).f0 := ⟨_, rfl⟩
        rw [← hnm] at hx0
        have hgd : ((l.map toPl).getD g (⟨#[]⟩, 0)).1 = nm := by rw [hnm]; simp [toPl, show g < l.length by omega]
        have hgI : (g : Int) < (l.length : Int) := by omega
        have hgN : g < l.length := by omega
        have HGD := Lib.hid hgd
        have HG := Lib.hid hg
        have HGL := Lib.hid hgl
        clear hgd hnm hrd hg hgl hg0
        go_wp2
        go_loopg [7, 21] ps.length (fun q s7 s21 wx => ∃ j : Nat, j + q = ps.length ∧ s7 = .int .i64 N ∧ s21 = .int .i64 j ∧ Hid (hitB nm ps = hitB nm (ps.drop j)) ∧ wr = wx)
        case atStart => exact ⟨0, by omega, rfl, rfl, rfl, rfl⟩
        case round =>
          obtain ⟨j, hj, rfl, rfl, HJ, rfl⟩ := hrel
          by_cases hq : gk = 0
          · subst hq
            have hend : ¬ (j : Int) < (ps.length : Int) := by omega
            have HH := Lib.hid (show hitB nm ps = false by rw [HJ.out, List.drop_eq_nil_of_le (by omega)]; rfl)
            have hNc : N ≤ c0 := by have := HGL.out; have := HC0.out; omega
            clear hj
            go_wp2_with (go_at_call 58; refine (HCl.out N (by have := HGL.out; omega)).mono ?_; rintro e w3 ⟨v3, rfl, hR3, hb3⟩)
            rw [Exit.noGoto_ret]
            go_ret2
            exact trim_end HCK.out HT.out (by rw [HG.out]; exact trimN_no (by rw [HGD.out]; exact HH.out)) HB.out hR3 hb3
          · have hlt : (j : Int) < (ps.length : Int) := by omega
            have hltN : j < ps.length := by omega
            obtain ⟨ap, hA1, hy0⟩ := Kd.at_string HPr.out (j : Int) (by omega) (by omega)
            cases hA1
            have hrp : rdOf ByteArray.empty ps (j : Int) = ps[j] := by simp [rdOf, hltN]
            rw [hrp] at hy0
            simp only [Int.toNat_natCast] at hy0
            obtain ⟨p, hp⟩ : ∃ p, p = ps[j] := ⟨_, rfl⟩
            rw [← hp] at hy0
            have HS := Lib.hid (any_at nm ps j hltN)
            rw [← hp] at HS
            clear hp hrp
            cases hb : Lib.hasPrefix nm.data.toList p.data.toList
            · rw [hb] at HS
              go_wp2_with (go_at_call 57; refine (Tryd.strings_HasPrefix nm p _).mono ?_; rintro e w3 ⟨rfl, hw3⟩; rw [hw3, hb])
              go_roundg (ps.length - (j + 1))
              case measure => omega
              case rel => exact ⟨j + 1, by omega, rfl, by go_num, by show _ = _; rw [HJ.out, HS.out, Bool.false_or], rfl⟩
            · rw [hb] at HS
              go_wp2_with (go_at_call 57; refine (Tryd.strings_HasPrefix nm p _).mono ?_; rintro e w3 ⟨rfl, hw3⟩; rw [hw3, hb])
              go_roundg g
              case measure => have := HG.out; omega
              case rel =>
                have hh : hitB nm ps = true := by rw [HJ.out, HS.out, Bool.true_or]
                exact ⟨by rw [hw1], by have := HG.out; have := HGL.out; omega, by show _ = _; rw [← HT.out, HG.out, trimN_hit (by rw [HGD.out]; exact hh)], HD.out⟩
  · have hne : (checkN (l.map toPl) != 0) = true := by simpa using hck
    have HCK := Lib.hid hck
    clear hck
    go_enter Tryd.func26, Tryd.ntmps26
    go_wp2
    go_step3
    go_wp2_with (go_at_call 14; refine (HC.out).mono ?_; rintro e w2 ⟨rfl, hb2⟩)
    try rw [Exit.noGoto_ret]
    go_ret2
    unfold TrimIs
    rw [trim_bad HCK.out]
    exact ⟨_, rfl, Kd.R_nil _ _ _ _ _, hb2⟩
end Go.Proofs.YtmgfdcfbjgokgaaDoor
