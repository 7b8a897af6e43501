/- DERIVED. The row of 'erratalaw03.PlaceMeets', and its card, proved. -/
import Derived.Test.YtmgfdcfbjgokgaaDoorSh
import Derived.Test.YtmgfdcfbjgokgaaDoorMeets
import Derived.Test.YtmgfdcfbjgokgaaDoorTie
import Derived.Test.YtmgfdcfbjgokgaaDoorCards
import Derived.SevenTiedAt
import Derived.Deep.Slices
namespace Go.Proofs.YtmgfdcfbjgokgaaDoor
open Go.ChangeShapes Go.WideShapes Go.ChangeAt Go.RowKit Go.Deep
set_option linter.unusedVariables false
set_option linter.unusedSimpArgs false
set_option maxRecDepth 100000 in
theorem open_spots_t {H : Type} {enc : TypeId × Value → H} {W : World} {base fuel : Nat} {spare : Nat → Bool} {held : Bool} {v : Value} {y : DataW H × List MemPlace} (hf : DataW.trod enc Tryd.prog W base spare held fuel 22 [v] = some y) :
    ∃ (A : Option Addr) (n c : Nat) (l : List PL.S96), v = .slice A n c ∧ n ≤ c ∧ n = l.length ∧ Go.Proofs.YtmgfdcfbjgokgaaDoorW.PrintWords.Kd.C PL.k96 W A n l ∧ (∀ x ∈ l, x.f0.size ≤ 9223372036854775807) ∧ (n = 0 ∨ ∃ e s, y.1 = .slice e s ∧ e.length = n) := by
  rcases open_slice_fields Tryd.underlying22 Tryd.underlying96 (by kernel_rfl) (by kernel_rfl) hf with ⟨hcs, hx⟩ | ⟨a, n, c, m, D, Pl, hcs, hb, hl, hm, hmm, hx, hi⟩
  · obtain rfl : v = .slice none 0 0 := List.head_eq_of_cons_eq hcs
    exact ⟨none, 0, 0, [], rfl, Nat.le_refl _, rfl, ⟨rfl, by decide, fun h => absurd h (by decide)⟩, fun x hx => by simp at hx, .inl rfl⟩
  · obtain rfl : v = .slice (some a) n c := List.head_eq_of_cons_eq hcs
    have hle : n ≤ m := by rw [hmm]; split <;> omega
    have hex : ∀ i, i < n → ∃ x : PL.S96, W.cell? (a.add (i * 2)) = some (.string x.f0) ∧ W.cell? (a.add (i * 2 + 1)) = some (.int .i64 x.f1) ∧ x.f0.size ≤ 9223372036854775807 := fun i hil => by
      obtain ⟨ys, n', _, _, _, hf⟩ := hi i (by omega)
      obtain ⟨u0, y0, hc0, _, ht0⟩ := hf 0 _ rfl
      obtain ⟨u1, y1, hc1, _, ht1⟩ := hf 1 _ rfl
      obtain ⟨s, hs, _, hz⟩ := DataW.trod_string Tryd.underlying9 ht0
      obtain ⟨z, hz1, _, _⟩ := DataW.trod_int Tryd.underlying3 ht1
      cases hs
      cases hz1
      exact ⟨⟨s, z⟩, hc0, hc1, hz⟩
    have hall : ∀ k, k ≤ n → ∃ l : List PL.S96, l.length = k ∧ (∀ i x, l[i]? = some x → W.cell? (a.add (i * 2)) = some (.string x.f0) ∧ W.cell? (a.add (i * 2 + 1)) = some (.int .i64 x.f1)) ∧ ∀ x ∈ l, x.f0.size ≤ 9223372036854775807 := fun k => by
      induction k with
      | zero => exact fun _ => ⟨[], rfl, fun i x h => by simp at h, fun x h => by simp at h⟩
      | succ k ih =>
        intro hk
        obtain ⟨l, h1, h2, h3⟩ := ih (by omega)
        obtain ⟨x, hx0, hx1, hx2⟩ := hex k (by omega)
        refine ⟨l ++ [x], by simp [h1], fun i y hy => ?_, fun y hy => ?_⟩
        · by_cases hik : i < l.length
          · rw [List.getElem?_append_left hik] at hy
            exact h2 i y hy
          · rw [List.getElem?_append_right (by omega)] at hy
            have : i = k := by
              have := (List.getElem?_eq_some_iff.1 hy).1
              simp at this
              omega
            subst this
            rw [show i - l.length = 0 by omega] at hy
            cases hy
            exact ⟨hx0, hx1⟩
        · rcases List.mem_append.1 hy with hy | hy
          · exact h3 y hy
          · simp at hy
            rw [hy]
            exact hx2
    obtain ⟨l, h1, h2, h3⟩ := hall n (Nat.le_refl _)
    refine ⟨some a, n, c, l, rfl, hl, h1.symm, ⟨h1, by unfold maxLen at hm; omega, fun _ => ⟨a, rfl, fun j x hx => ⟨[.string x.f0, .int .i64 x.f1], rfl, PL.k96_mk W x, fun i u hu => ?_⟩⟩⟩, h3, .inr ⟨_, _, congrArg Prod.fst hx, by simp⟩⟩
    obtain ⟨g0, g1⟩ := h2 j x hx
    rcases i with _ | _ | i
    · simp at hu; subst hu; exact g0
    · simp at hu; subst hu; exact g1
    · simp at hu

theorem weightsAll_mem {H : Type} {P : Program} {e : TypeId} : ∀ {l : List (DataW H)} {d : DataW H}, d ∈ l → ∀ n ∈ d.weights P e, n ∈ DataW.weightsAll P e l
  | d' :: r, d, hd, n, hn => by
    simp only [DataW.weightsAll, List.mem_append]
    rcases List.mem_cons.1 hd with rfl | h
    · exact Or.inl hn
    · exact Or.inr (weightsAll_mem h n hn)
set_option maxRecDepth 100000 in
theorem open_lists {H : Type} {enc : TypeId × Value → H} {W : World} {base b0 : Nat} {spare : Nat → Bool} {held : Bool} {v : Value} {d : DataW H} {p : List MemPlace} {ts : List TypeId} {ds : List (DataW H)} (hv : Value.okWide Tryd.prog W .any b0 80 v) (h : DataW.Trod enc Tryd.prog W base spare held 80 v d p)
    (hsz : (DataW.weightsEach Tryd.prog (80 :: ts) (d :: ds)).all (· ≤ reachBytes) = true) :
    ∃ (A : Option Addr) (n c : Nat) (ls : List (List PL.S96)), v = .slice A n c ∧ n ≤ c ∧ n = ls.length ∧ Go.Proofs.YtmgfdcfbjgokgaaDoorW.PrintWords.Kd.C kLS W A n ls ∧ (∀ l ∈ ls, l.length ≤ 9223372036854775806 ∧ ∀ x ∈ l, x.f0.size ≤ 9223372036854775807) := by
  obtain ⟨A, n, c, rfl⟩ := okWide_slice Tryd.underlying80 hv
  obtain ⟨fuel, hf⟩ := h
  rcases open_slice1 Tryd.underlying80 (by kernel_rfl) hf with ⟨hcs, hx⟩ | ⟨a, len, cap, m, n2, V, D, Pl, hcs, hb, hl, hm, hmm, hx, hi⟩
  · have e : Value.slice A n c = .slice none 0 0 := List.head_eq_of_cons_eq hcs
    cases e
    exact ⟨none, 0, 0, [], rfl, Nat.le_refl _, rfl, ⟨rfl, by decide, fun h => absurd h (by decide)⟩, fun x hx => by simp at hx⟩
  · have e : Value.slice A n c = .slice (some a) len cap := List.head_eq_of_cons_eq hcs
    cases e
    have hle : n ≤ m := by rw [hmm]; split <;> omega
    have hd : d = .slice ((List.range n).map D) ((List.range (m - n)).map fun j => D (n + j)) := (Prod.mk.inj hx).1
    have hreach : ∀ q ∈ d.weights Tryd.prog 80, q ≤ reachBytes := fun q hq => by
      have := List.all_eq_true.1 hsz q (by simp only [DataW.weightsEach, List.mem_append]; exact .inl hq)
      simpa using this
    have hex : ∀ i, i < n → ∃ (l : List PL.S96) (cs : List Value), kLS.K W l cs ∧ (∀ j u, cs[j]? = some u → W.cell? (a.add (i * 1 + j)) = some u) ∧ l.length ≤ 9223372036854775806 ∧ ∀ y ∈ l, y.f0.size ≤ 9223372036854775807 := fun i hil => by
      obtain ⟨hc0, ht0⟩ := hi i (by omega)
      obtain ⟨B, q, cc, sp, hV, hq1, hq2, hC, hss, hq3⟩ := open_spots_t ht0
      subst hq2
      refine ⟨sp, [.slice B sp.length cc], ⟨B, cc, rfl, hq1, hC⟩, fun j u hu => ?_, ?_, hss⟩
      · rcases j with _ | j
        · simp at hu
          subst hu
          rw [Nat.mul_one, Nat.add_zero, hc0, hV]
        · simp at hu
      · rcases hq3 with h0 | ⟨e, s, he, hel⟩
        · omega
        · have hw := hreach ((e.length + s.length) * Tryd.prog.bytesOf 96) (by
            rw [hd]
            simp only [DataW.weights, Tryd.underlying80, List.mem_cons, List.mem_append]
            refine .inr (.inl (weightsAll_mem (d := D i) (List.mem_map.2 ⟨i, List.mem_range.2 hil, rfl⟩) _ ?_))
            have he2 : D i = .slice e s := he
            rw [he2]
            simp [DataW.weights, Tryd.underlying22])
          rw [show Tryd.prog.bytesOf 96 = 24 from by kernel_rfl] at hw
          unfold reachBytes at hw
          omega
    have hall : ∀ k, k ≤ n → ∃ l : List (List PL.S96), l.length = k ∧ (∀ i x, l[i]? = some x → ∃ cs, kLS.K W x cs ∧ ∀ j u, cs[j]? = some u → W.cell? (a.add (i * 1 + j)) = some u) ∧ ∀ x ∈ l, x.length ≤ 9223372036854775806 ∧ ∀ y ∈ x, y.f0.size ≤ 9223372036854775807 := fun k => by
      induction k with
      | zero => exact fun _ => ⟨[], rfl, fun i x h => by simp at h, fun x h => by simp at h⟩
      | succ k ih =>
        intro hk
        obtain ⟨l, h1, h2, h3⟩ := ih (by omega)
        obtain ⟨x, cs, hx0, hx1, hx2⟩ := hex k (by omega)
        refine ⟨l ++ [x], by simp [h1], fun i y hy => ?_, fun y hy => ?_⟩
        · by_cases hik : i < l.length
          · rw [List.getElem?_append_left hik] at hy
            exact h2 i y hy
          · rw [List.getElem?_append_right (by omega)] at hy
            have : i = k := by
              have := (List.getElem?_eq_some_iff.1 hy).1
              simp at this
              omega
            subst this
            rw [show i - l.length = 0 by omega] at hy
            cases hy
            exact ⟨cs, hx0, hx1⟩
        · rcases List.mem_append.1 hy with hy | hy
          · exact h3 y hy
          · simp at hy
            rw [hy]
            exact hx2
    obtain ⟨l, h1, h2, h3⟩ := hall n (Nat.le_refl _)
    refine ⟨some a, n, c, l, rfl, hl, h1.symm, ⟨h1, by unfold maxLen at hm; omega, fun _ => ⟨a, rfl, fun j x hx => ?_⟩⟩, h3⟩
    obtain ⟨cs, g0, g1⟩ := h2 j x hx
    exact ⟨cs, Go.Proofs.YtmgfdcfbjgokgaaDoorW.PrintWords.Kd.K_len kLS g0, g0, g1⟩
end Go.Proofs.YtmgfdcfbjgokgaaDoor
namespace Go.Proofs.YtmgfdcfbjgokgaaDoor
open Go.ChangeShapes Go.WideShapes Go.ChangeAt Go.RowKit Go.Proofs.YtmgfdcfbjgokgaaDoorW.PrintWords
set_option linter.unusedVariables false
set_option linter.unusedSimpArgs false

set_option maxRecDepth 100000 in
theorem meets_lifted (os : Os) (started : os.Started) (H : Type) (enc : TypeId × Value → H) :
    ReturnsInHanded {} Tryd.checked os 9 .any (fun w args => (Rows.placeMeetsSpec.pre enc Tryd.prog Tryd.f9 [] false w args ∧ laidMetH Tryd.prog Rows.placeMeetsRow.laid w) ∧ sizedMet enc Tryd.prog Tryd.f9 (OpenSpec.ofChange Rows.placeMeetsSpec) false w args)
      (Rows.placeMeetsSpec.post enc Tryd.prog Tryd.f9 false true false false) := by
  refine returns_all (C := Tryd.checked) (X := fun w _ => laidMetH Tryd.prog laidL w) (fun _ _ _ hh h => h.of_heap hh) own_knob started (by kernel_rfl) Tryd.func9
    (ChangeSpec.witness_at (enc := enc) (C := Tryd.checked) (os := os) (X := fun w _ => laidMetH Tryd.prog laidL w) false (laidWorld os) #[.slice none 0 0] 8 rfl (by kernel_rfl) (by kernel_rfl) (by kernel_rfl) (by kernel_rfl) (by kernel_rfl) (laid_met os _)) ?_
  intro W base args ds gs before hval0 hW hsz hL hsh
  have hval : ∀ (j : Nat) t v, Tryd.f9.params[j]? = some t → args[j]? = some v → Value.okWide Tryd.prog W .any base t v := hval0
  have hW' := hW
  obtain ⟨p, q, hA0, hV, rfl, hfz, hnd⟩ := hW
  have hA : DataW.TrodAll enc Tryd.prog W 0 (fun _ => true) true Tryd.f9.params.toList args.toList ds p := hA0
  rw [Tryd.params9] at hA hval
  obtain ⟨v0, d0, rfl, rfl, h0⟩ := trodAll_one hA
  obtain ⟨rfl, rfl⟩ := trodVars_none hV
  have k0 := h0
  have lt0 : ∀ x ∈ p, x.block < W.heap.size := by obtain ⟨m, hm⟩ := k0; exact DataW.trod_lt m _ _ _ hm
  obtain ⟨A0, n, c0, l, rfl, hc0, hn, hC0, hs0⟩ := open_lists (hval 0 80 v0 rfl rfl) h0 hsz
  clear hA0 hval0
  refine (meets_any W A0 c0 n l ⟨hn, hc0, hC0, hs0, tabs_of hL hsh⟩).mono fun e W' ⟨he, bel⟩ => ?_
  subst he
  exact ⟨_, rfl, _, _, _, [], _, [], hW', trodAll_mk1 (shut_bool Tryd.underlying4 _), (trodAll_cons_mk (Below.trod laid_out (by kernel_rfl) (of_decide_eq_true (by kernel_rfl)) k0 bel lt0) trodAll_mk0), rfl, bel.frame _, fun h => by cases h⟩

theorem meets_row : Rows.PlaceMeetsSaid :=
  OpenClaim.holds_of_wide 9 Tryd.f9 rfl rfl rfl rfl rfl rfl rfl ⟨rfl, rfl, rfl, rfl, rfl⟩ rfl rfl rfl rfl rfl (by kernel_rfl) Tryd.func9 (by kernel_rfl)
    (of_decide_eq_true (by kernel_rfl)) (by unfold Func.isWrapper; first | (rw [if_pos (by decide +kernel)]; kernel_rfl) | (rw [if_neg (by decide +kernel)]; exact ⟨rfl, rfl⟩))
    (fun os started H enc _ => meets_lifted os started H enc)

theorem placeMeets_card : Rows.PlaceMeetsCardSaid :=
  Claim7.holds_tied_plain_at .later [] [.data, .data, .data, .data, .sentinel, .sentinel, .pinned] true (true, "f07335a018d55dc7c57fbabfaf11b8ce569e876afa6a867f8bf018eeeb022f9b") true
    meets_row (fun _ h => by cases h) (by kernel_rfl) (fun _ h => by cases h) placeMeets_row_tie rfl ⟨rfl, rfl⟩ (by kernel_rfl) rfl
    (fun f fn hf hfn => by
      obtain rfl : f = 9 := Option.some.inj ((show Tryd.prog.funcNamed "errata/erratalaw03.PlaceMeets" = some 9 by kernel_rfl).symm.trans hf) |>.symm
      obtain rfl : fn = Tryd.f9 := (Option.some.inj (Tryd.func9.symm.trans hfn)).symm
      exact ⟨by kernel_rfl, fun j t ht => by
        rw [Tryd.params9] at ht
        rcases j with _ | j
        · have : t = 80 := by simpa using ht.symm
          subst this
          exact (show Tryd.prog.wantsStandIn 80 = false by kernel_rfl)
        · simp at ht⟩)
    (by kernel_rfl)
end Go.Proofs.YtmgfdcfbjgokgaaDoor
