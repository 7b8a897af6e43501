/- 'alive': a stack is told and read. -/
import Derived.Test.YtmgfdcfbjgokgaaDoorTextA
import Derived.Test.YtmgfdcfbjgokgaaDoorPLx1
namespace Go.Proofs.YtmgfdcfbjgokgaaDoor
open Go.RowKit Go.Proofs.YtmgfdcfbjgokgaaDoorW.PrintWords Go.Proofs.YtmgfdcfbjgokgaaDoorW.PrintLast Go.Proofs.YtmgfdcfbjgokgaaDoor.PL
set_option linter.unusedVariables false
set_option linter.unusedSimpArgs false

abbrev sMain : ByteArray := ⟨#[109, 97, 105, 110]⟩
abbrev sF : ByteArray := ⟨#[102]⟩
abbrev sAll : ByteArray := ⟨#[102, 58, 50, 48, 32, 60, 32, 109, 97, 105, 110, 58, 49]⟩
def two : List Pl := [(sMain, 1), (sF, 20)]
theorem dec1 : decB 1 = ⟨#[49]⟩ := by
  unfold decB Lib.itoa
  rw [if_neg (by decide)]
  show (⟨(Lib.decDigits 1).toArray⟩ : ByteArray) = _
  rw [Lib.decDigits_one (by decide)]
  rfl
theorem dec20 : decB 20 = ⟨#[50, 48]⟩ := by
  unfold decB Lib.itoa
  rw [if_neg (by decide)]
  show (⟨(Lib.decDigits 20).toArray⟩ : ByteArray) = _
  rw [Lib.decDigits_two (by decide) (by decide)]
  rfl
theorem check_two : checkN two = 0 := by kernel_rfl
theorem text_two : textOf two = (sAll, 0) := by
  unfold textOf
  rw [if_pos check_two]
  unfold textB two
  simp only [List.reverse_cons, List.reverse_nil, List.nil_append, List.singleton_append, List.map_cons, List.map_nil, ptxt, dec1, dec20]
  rfl
theorem parse_two : parseB sAll = (two, 0) := by
  have h1 : pieces sAll = [⟨#[102, 58, 50, 48]⟩, ⟨#[109, 97, 105, 110, 58, 49]⟩] := by kernel_rfl
  have h2 : pieceP ⟨#[102, 58, 50, 48]⟩ = some (sF, 20) := by
    have hc : Lib.cut (ByteArray.mk #[102, 58, 50, 48]).data.toList [58] = ([102], [50, 48], true) := by kernel_rfl
    have ha : Lib.atoiAll [50, 48] = .ok 20 := by kernel_rfl
    have hi : Lib.itoa 20 = [50, 48] := by have := dec20; unfold decB at this; injection this with this; exact congrArg Array.toList this
    unfold pieceP
    rw [hc]
    simp only [ha, hi]
    rfl
  have h3 : pieceP ⟨#[109, 97, 105, 110, 58, 49]⟩ = some (sMain, 1) := by
    have hc : Lib.cut (ByteArray.mk #[109, 97, 105, 110, 58, 49]).data.toList [58] = ([109, 97, 105, 110], [49], true) := by kernel_rfl
    have ha : Lib.atoiAll [49] = .ok 1 := by kernel_rfl
    have hi : Lib.itoa 1 = [49] := by have := dec1; unfold decB at this; injection this with this; exact congrArg Array.toList this
    unfold pieceP
    rw [hc]
    simp only [ha, hi]
    rfl
  unfold parseB
  rw [if_neg (by decide), h1]
  simp only [parseL, h2, h3, Option.map_some]
  rfl
theorem own_lit (w : World) (l : List Pl) (hl : l.length ≤ maxLen) : (w.alloc (.cells (cellsPl l).toArray 60)).ownsRow w.heap.size 60 2 (.slice (some ⟨w.heap.size, 0, none⟩) l.length l.length) l.length (cellsPl l) :=
  ⟨cellsPl_len l, .inr ⟨w.heap.size, l.length, (cellsPl l).toArray, rfl, Nat.le_refl _, heap_alloc_new w _, Nat.le_refl _, hl, by rw [List.size_toArray, cellsPl_len], by rw [← cellsPl_len]; simp⟩⟩
theorem text_two_calls (w : World) (ht : Tabs w) : Calls Tryd.prog 11 #[.slice (some ⟨w.heap.size, 0, none⟩) 2 2] (w.alloc (.cells #[.string sMain, .int .i64 1, .string sF, .int .i64 20] 60))
    fun e w' => e = .returned (.tuple #[.string sAll, .int .i64 0]) ∧ Below w.heap.size w w' := by
  have hb : Below w.heap.size w (w.alloc (.cells #[.string sMain, .int .i64 1, .string sF, .int .i64 20] 60)) := (Below.refl _ _).alloc (Nat.le_refl _) _
  have hR := R_of_own (own_lit w two (by decide))
  have h := Text_any _ _ (two.map ofPl) _ ((Kd.R_reads' hR).2.2) (Nat.le_refl _) (fun x hx => by obtain ⟨p, hp, rfl⟩ := List.mem_map.1 hx; simp [two] at hp; rcases hp with rfl | rfl <;> decide) (by decide) (ht.below hb)
  rw [toPl_ofPl, text_two] at h
  exact h.mono fun e w' ⟨he, hw⟩ => ⟨he, hb.trans (hw.mono hb.size)⟩
attribute [local go_sem high] eqA60
theorem alive_any (w : World) (ht : Tabs w) : Calls Tryd.prog 23 #[] w fun e w' => e = .returned (.bool true) ∧ Below w.heap.size w w' := by
  have HT := Lib.hid ht
  clear ht
  go_enter Tryd.func23, Tryd.ntmps23
  go_wp2_with (first | (go_at_call 11; refine (text_two_calls w HT.out).mono ?_; rintro e w2 ⟨rfl, hb2⟩) | (go_at_call 19; refine (Parse_any sAll _ (by decide) (HT.out.below hb2)).mono ?_; rintro e w3 ⟨v, rfl, hR3, hb3⟩; rw [parse_two] at hR3 ⊢; obtain ⟨A3, c3, rfl, hc3, hC3⟩ := Kd.R_reads hR3; obtain ⟨ad, rfl, hx0, hx1⟩ := at_T60 hC3 0 (by decide) (by decide); have e9 : ad.add (Int.toNat 0 * 2) = ad := (by simp [Addr.add]); rw [e9] at hx0 hx1; change w3.cell? ad = some (.string sMain) at hx0; change w3.cell? ⟨ad.block, ad.off + 1, none⟩ = some (.int .i64 1) at hx1; clear hR3 hC3 hc3 e9; rw [show List.length (List.map ofPl (two, (0 : Int)).fst) = 2 from rfl]))
  go_ret
  exact ⟨rfl, hb2.trans (hb3.mono hb2.size)⟩
end Go.Proofs.YtmgfdcfbjgokgaaDoor
