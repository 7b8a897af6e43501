/- The walk of 'Parse'. -/
import Derived.Test.YtmgfdcfbjgokgaaDoorLst
import Derived.Test.YtmgfdcfbjgokgaaDoorShelf
import Derived.WalkSmall
import Derived.Lib.SmallJoins
import Derived.WalkSpells
import Derived.WalkLawsBesides
import Derived.Laws.AppendOwn
namespace Go.Proofs.YtmgfdcfbjgokgaaDoor
open Go.RowKit Go.Proofs.YtmgfdcfbjgokgaaDoorW.PrintWords Go.Proofs.YtmgfdcfbjgokgaaDoorW.PrintLast Go.Proofs.YtmgfdcfbjgokgaaDoor.PL
set_option linter.unusedVariables false
set_option linter.unusedSimpArgs false

/-- What the library's variables hold. -/
structure Tabs (w : World) : Prop where
  pow : Lib.TabIs Tryd.prog w "internal/strconv.uint64pow10" .u64 Lib.pow10Tab
  syn : ∃ tp p, w.var? Tryd.prog "strconv.ErrSyntax" = some #[.iface tp p]
  rng : ∃ tp p, w.var? Tryd.prog "strconv.ErrRange" = some #[.iface tp p]
  maxl : ∃ m, w.cell? ⟨0, 0, none⟩ = some (.int .i64 m)
theorem var_below_ {w w' : World} {n : String} {cs : Array Value} (h : w.var? Tryd.prog n = some cs) (hb : Below w.heap.size w w') : w'.var? Tryd.prog n = some cs := by
  unfold World.var? at h ⊢
  cases hg : Tryd.prog.globalNamed n with
  | none => rw [hg] at h; cases h
  | some g =>
    rw [hg] at h
    simp only [Option.bind_some] at h ⊢
    rcases Nat.lt_or_ge g w.heap.size with hl | hl
    · rw [hb.block g hl]; exact h
    · rw [Array.getElem?_eq_none hl] at h; cases h
theorem Tabs.below {w w' : World} (h : Tabs w) (hb : Below w.heap.size w w') : Tabs w' := by
  obtain ⟨h1, ⟨t2, p2, h2⟩, ⟨t3, p3, h3⟩, ⟨m, h4⟩⟩ := h
  exact ⟨var_below_ h1 hb, ⟨t2, p2, var_below_ h2 hb⟩, ⟨t3, p3, var_below_ h3 hb⟩, ⟨m, (hb.cell (p := ⟨0, 0, none⟩) (World.block_lt_of_cell? w _ h4)).trans h4⟩⟩

theorem below_grown_ (w : World) (k : Nat) (os : Array Obj) : Below w.heap.size w (Go.Sort.grow (w.drewN k) os) := by
  refine ⟨rfl, rfl, rfl, ?_, fun j hj => ?_⟩
  · show w.heap.size ≤ (w.heap ++ os).size
    rw [Array.size_append]; omega
  · show (w.heap ++ os)[j]? = _
    exact Array.getElem?_append_left hj
/-- A number's digits. -/
def decB (n : Int) : ByteArray := ⟨(Lib.itoa n).toArray⟩
theorem Itoa_any (n : Int) (h0 : -9223372036854775808 ≤ n) (h1 : n ≤ 9223372036854775807) (w : World) (ht : Tabs w) : Calls Tryd.prog 46 #[.int .i64 n] w fun e w' => e = .returned (.string (decB n)) ∧ Below w.heap.size w w' :=
  (Tryd.strconv_Itoa n h0 h1 w ht.pow).mono fun e w' ⟨he, k, os, hw⟩ => ⟨he, by subst hw; exact below_grown_ w k os⟩
/-- A piece of a text as a place. -/
def pieceP (x : ByteArray) : Option Pl :=
  match Lib.atoiAll (Lib.cut x.data.toList [58]).2.1 with
  | .ok v => if Lib.itoa v = (Lib.cut x.data.toList [58]).2.1 then some (⟨(Lib.cut x.data.toList [58]).1.toArray⟩, v) else none
  | _ => none
def parseL : List ByteArray → Option (List Pl)
  | [] => some []
  | x :: xs => match pieceP x with
    | none => none
    | some p => (parseL xs).map (p :: ·)
def pieces (s : ByteArray) : List ByteArray := Lib.splitB ⟨#[32, 60, 32]⟩ 0 (Lib.countB s ⟨#[32, 60, 32]⟩) s
/-- 'Parse'. -/
def parseB (s : ByteArray) : List Pl × Int :=
  if s.size = 0 then ([], 0) else match parseL (pieces s) with
    | none => ([], 4)
    | some l => if checkN l = 0 then (l.reverse, 0) else ([], 4)
def ofPl (p : Pl) : S60 := ⟨p.1, p.2⟩

theorem pieces_len (s : ByteArray) : (pieces s).length = Lib.countB s ⟨#[32, 60, 32]⟩ + 1 := Lib.splitB_all _ (by decide) 0 _ s rfl
theorem splitB_size (sep : ByteArray) : ∀ (k : Nat) (s : ByteArray), ∀ x ∈ Lib.splitB sep 0 k s, x.size ≤ s.size
  | 0, s, x, hx => by
    rw [Lib.splitB_zero] at hx
    simp at hx
    rw [hx]
    exact Nat.le_refl _
  | k + 1, s, x, hx => by
    unfold Lib.splitB at hx
    split at hx
    · simp at hx; rw [hx]; exact Nat.le_refl _
    · rcases List.mem_cons.1 hx with rfl | hx
      · rw [ByteArray.size_extract]; omega
      · have := splitB_size sep k _ x hx
        rw [ByteArray.size_extract] at this
        omega
theorem pieces_size (s : ByteArray) (k : Nat) (hk : k < (pieces s).length) : (pieces s)[k].size ≤ s.size := splitB_size _ _ s _ (List.getElem_mem hk)
theorem cut_both (x : ByteArray) : (Lib.cut x.data.toList [58]).1.length ≤ x.size ∧ (Lib.cut x.data.toList [58]).2.1.length ≤ x.size := by
  have e : x.data.toList.length = x.size := by simp
  unfold Lib.cut
  split
  · simp only [List.length_take, List.length_drop]
    omega
  · exact ⟨by simp only; omega, Nat.zero_le _⟩
theorem cut_size (x : ByteArray) : (Lib.cut x.data.toList [58]).2.1.length ≤ x.size := (cut_both x).2
theorem atoi_bd {l : List UInt8} {v : Int} (h : Lib.atoiAll l = .ok v) : -9223372036854775808 ≤ v ∧ v ≤ 9223372036854775807 := by
  unfold Lib.atoiAll at h
  split at h
  · cases h
  · simp only at h
    split at h
    · cases h
    · cases h
    · split at h
      · cases h
      · split at h
        · cases h
        · rename_i h1 h2
          injection h with h
          subst h
          split <;> omega
theorem parseL_bad (xs : List ByteArray) (k : Nat) (hk : k < xs.length) (h : pieceP xs[k] = none) : parseL (xs.drop k) = none := by
  rw [List.drop_eq_getElem_cons hk]
  unfold parseL
  rw [h]
theorem parseL_step (xs : List ByteArray) (k : Nat) (hk : k < xs.length) (p : Pl) (h : pieceP xs[k] = some p) : parseL (xs.drop k) = (parseL (xs.drop (k + 1))).map (p :: ·) := by
  rw [List.drop_eq_getElem_cons hk]
  conv => lhs; unfold parseL
  rw [h]
theorem owns_lower {w : World} {base b2 : Nat} {e : TypeId} {size n : Nat} {v : Value} {xs : List Value} (h : w.ownsRow base e size v n xs) (hb : b2 ≤ base) : w.ownsRow b2 e size v n xs := by
  refine ⟨h.1, ?_⟩
  rcases h.2 with hn | ⟨g, cap, cur, hv, hg, rest⟩
  · exact .inl hn
  · exact .inr ⟨g, cap, cur, hv, Nat.le_trans hb hg, rest⟩
theorem infoPl : (Tryd.prog.info? 60).map (fun i => (i.zero, i.size, i.bytes)) = some (some (.agg #[.string ⟨#[]⟩, .int .i64 0]), 2, 24) := by kernel_rfl
def ParseIs (s : ByteArray) (w : World) (e : Ending) (w' : World) : Prop := ∃ v, e = .returned (.tuple #[v, .int .i64 (parseB s).2]) ∧ Kd.R k60 60 w' w.heap.size (fun _ => True) v ((parseB s).1.map ofPl) ∧ Below w.heap.size w w'
theorem owns_keep {w w' : World} {base : Nat} {e : TypeId} {size n : Nat} {v : Value} {xs : List Value} (h : w.ownsRow base e size v n xs) (hb : Below w.heap.size w w') : w'.ownsRow base e size v n xs :=
  h.kept (grownBy_of_below hb none) (by cases v.ownBlock <;> simp)
theorem cell_two_new (w : World) (t : TypeId) (a b : Value) : ∀ j u, ([a, b] : List Value)[j]? = some u → (w.alloc (.cells #[a, b] t)).cell? ((⟨w.heap.size, 0, none⟩ : Addr).add j) = some u := by
  intro j u hu
  have := World.news_of_block (cs := #[a, b]) (t := t) (fr := (0, 0)) (heap_alloc_new w (.cells #[a, b] t)) j u
  exact this hu
theorem size_le {l : List UInt8} {n : Nat} (h : l.length ≤ n) : (⟨l.toArray⟩ : ByteArray).size ≤ n := by
  show l.toArray.size ≤ n
  simpa using h
theorem atoi_below {wr w3 : World} {n : Nat} (h : w3 = wr.drewN n ∨ ∃ t, w3 = Lib.bytesWorld (wr.drewN n) 5 t) : Below wr.heap.size wr w3 := by
  rcases h with rfl | ⟨t, rfl⟩
  · exact ⟨rfl, rfl, rfl, Nat.le_refl _, fun _ _ => rfl⟩
  · have h := Go.Joins.below_bytesWorld wr.heap.size (wr.drewN n) 5 t (Nat.le_refl _)
    exact ⟨h.os, h.tape, h.output, h.size, h.block⟩
theorem owns_ge {w : World} {base : Nat} {e : TypeId} {size n : Nat} {v : Value} {xs : List Value} (h : w.ownsRow base e size v n xs) : ∀ q, v.ownBlock = some q → base ≤ q := fun q hq => by
  rcases h.2 with ⟨rfl, _⟩ | ⟨g', c', cur, rfl, hbb, _⟩
  · simp [Value.ownBlock] at hq
  · have : g' = q := by simpa [Value.ownBlock] using hq
    omega
theorem R_of_own {w : World} {base : Nat} {v : Value} {l : List Pl} (h : w.ownsRow base 60 2 v l.length (cellsPl l)) : Kd.R k60 60 w base (fun _ => True) v (l.map ofPl) := by
  have hcl := cellsPl_len l
  refine ⟨fun _ _ => trivial, cellsPl l, by rw [List.length_map]; exact h, by rw [List.length_map]; exact hcl, ?_⟩
  intro j p hj
  obtain ⟨hjl, rfl⟩ := List.getElem?_eq_some_iff.1 hj
  rw [List.length_map] at hjl
  obtain ⟨h1, h2⟩ := cellsPl_at l j hjl
  have e : ((cellsPl l).drop (j * 2)).take 2 = [.string l[j].1, .int .i64 l[j].2] := by
    apply List.ext_getElem?
    intro i
    rw [List.getElem?_take]
    rcases i with _ | _ | i
    · simpa using h1
    · simpa using h2
    · simp; omega
  show k60.M w base _ _ (((cellsPl l).drop (j * 2)).take 2)
  rw [e, List.getElem_map]
  exact k60_mkM w base _ (ofPl l[j])
theorem toPl_ofPl (l : List Pl) : (l.map ofPl).map toPl = l := by simp [List.map_map, Function.comp_def, toPl, ofPl]
theorem cut_fst (x : ByteArray) : (Lib.cut x.data.toList [58]).1.length ≤ x.size := (cut_both x).1
theorem parseL_size : ∀ (xs : List ByteArray) (l : List Pl) (n : Nat), (∀ x ∈ xs, x.size ≤ n) → parseL xs = some l → l.length = xs.length ∧ ∀ p ∈ l, p.1.size ≤ n
  | [], l, n, _, h => by
    unfold parseL at h
    cases h
    exact ⟨rfl, fun p hp => by simp at hp⟩
  | x :: xs, l, n, hx, h => by
    unfold parseL at h
    split at h
    · cases h
    · rename_i p hp
      cases hr : parseL xs with
      | none => rw [hr] at h; cases h
      | some r =>
        rw [hr] at h
        cases h
        obtain ⟨h1, h2⟩ := parseL_size xs r n (fun y hy => hx y (by simp [hy])) hr
        refine ⟨by simp [h1], fun q hq => ?_⟩
        rcases List.mem_cons.1 hq with rfl | hq
        · unfold pieceP at hp
          split at hp
          · split at hp
            · cases hp
              have := cut_fst x
              have h3 := hx x (by simp)
              exact size_le (by omega)
            · cases hp
          · cases hp
        · exact h2 q hq
/-- A piece that is no place: nothing is read. -/
theorem parse_no {s x : ByteArray} {w w' : World} {k : Nat} {pre : List Pl} (hx : ∀ h : k < (pieces s).length, x = (pieces s)[k]) (hp : pieceP x = none) (hk : k < (pieces s).length) (hpl : parseL (pieces s) = (parseL ((pieces s).drop k)).map (pre ++ ·)) (h0 : ¬ s.size = 0)
    (hb : Below w.heap.size w w') : ParseIs s w (.returned (.tuple #[.slice none 0 0, .int .i64 4])) w' := by
  have hn : parseL (pieces s) = none := by rw [hpl, parseL_bad _ k hk (by rw [← hx hk]; exact hp)]; rfl
  have hB : parseB s = ([], 4) := by unfold parseB; rw [if_neg h0, hn]
  unfold ParseIs
  rw [hB]
  exact ⟨_, rfl, Kd.R_nil _ _ _ _ _, hb⟩
set_option maxRecDepth 100000 in
set_option maxHeartbeats 4000000 in
theorem Parse_any (s : ByteArray) (w : World) (hs : s.size ≤ 4294967280) (ht : Tabs w) : Calls Tryd.prog 19 #[.string s] w (ParseIs s w) := by
  by_cases h0 : s.size = 0
  · obtain rfl := size_zero h0
    clear h0
    go_enter Tryd.func19, Tryd.ntmps19
    go_wp2_with fail
    go_ret2
    exact ⟨_, rfl, Kd.R_nil _ _ _ _ _, Below.refl _ _⟩
  have e0 : s.toList.isEmpty = false := by
    rw [ByteArray.toList_eq]
    cases hl : s.data.toList with
    | nil => exact absurd (by have := congrArg List.length hl; simpa using this) h0
    | cons c l => rfl
  obtain ⟨m, hm⟩ := ht.maxl
  have HT := Lib.hid ht
  have HM := Lib.hid hm
  have H0 := Lib.hid h0
  clear ht hm h0
  go_enter Tryd.func19, Tryd.ntmps19
  go_wp2_with (go_at_call 51; refine (Tryd.strings_Split s ⟨#[32, 60, 32]⟩ m _ (by omega) HM.out (by decide)).mono ?_; rintro e w1 ⟨rfl, rfl⟩)
  have hN := pieces_len s
  have hcle := Lib.countB_le ⟨#[32, 60, 32]⟩ (by decide) s.size s (Nat.le_refl _)
  have hP : w.alloc (.cells ((Lib.splitB ⟨#[32, 60, 32]⟩ 0 (Lib.countB s ⟨#[32, 60, 32]⟩) s).map Value.string).toArray 9) = w.alloc (.cells ((pieces s).map Value.string).toArray 9) := rfl
  have HN := Lib.hid hN
  obtain ⟨N, hNN⟩ : ∃ N, N = Lib.countB s ⟨#[32, 60, 32]⟩ := ⟨_, rfl⟩
  rw [hP]
  clear hP
  rw [← hNN] at hcle hN ⊢
  have HNN := Lib.hid hNN
  clear hNN
  have HCL := Lib.hid hcle
  go_loopw [4, 17] (fun u4 u17 wr => ∃ (k : Nat) (pre : List Pl), u17 = .int .i64 k ∧ k ≤ N + 1 ∧ pre.length = k ∧ wr.ownsRow (w.heap.size + 1) 60 2 u4 pre.length (cellsPl pre) ∧ Hid (parseL (pieces s) = (parseL ((pieces s).drop k)).map (pre ++ ·)) ∧
    Below w.heap.size w wr ∧ wr.heap[w.heap.size]? = some (.cells ((pieces s).map Value.string).toArray 9 (0, 0))) (fun _ u17 _ => N + 1 - (intOf u17).toNat)
  case atStart => exact ⟨0, [], rfl, by omega, rfl, World.ownsRow_nil _ _ _ _, by show _ = _; simp, (Below.refl _ _).alloc (Nat.le_refl _) _, heap_alloc_new w _⟩
  case round =>
    obtain ⟨k, pre, rfl, hk, hpre, hrow, hpl, hb, hpc⟩ := hrel
    have HROW := Lib.hid hrow
    have HPC := Lib.hid hpc
    have HPRE := Lib.hid hpre
    have HB := Lib.hid hb
    have HM' := Lib.hid ((hb.cell (p := ⟨0, 0, none⟩) (World.block_lt_of_cell? w _ HM.out)).trans HM.out)
    have HT' := Lib.hid (HT.out.below hb)
    have hlen := hb.size
    have hlen1 : w.heap.size < wr.heap.size := (Array.getElem?_eq_some_iff.1 hpc).1
    clear hrow hpc hpre hb
    by_cases hlt : k < N + 1
    · have hkl : k < (pieces s).length := by omega
      have hcell : wr.cell? ⟨w.heap.size, k, none⟩ = some (.string (pieces s)[k]) := by
        rw [cell_of_row wr _ k _ _ _ HPC.out]
        simp [hkl]
      obtain ⟨x, hx⟩ : ∃ x, x = (pieces s)[k] := ⟨_, rfl⟩
      rw [← hx] at hcell
      have hxs : x.size ≤ s.size := by rw [hx]; exact pieces_size s k hkl
      have HX := Lib.hid hx
      have hcs := cut_size x
      clear hx hN
      cases hat : Lib.atoiAll (Lib.cut x.data.toList [58]).2.1 with
      | ok v =>
        have HAT := Lib.hid hat
        clear hat
        go_wp2_with (first | (go_at_call 52; refine (Tryd.strings_Cut x ⟨#[58]⟩ m _ (by omega) HM'.out).mono ?_; rintro e w2 ⟨rfl, n2, rfl⟩) | (go_at_call 53; refine (Tryd.strconv_Atoi_ok ⟨(Lib.cut x.data.toList [58]).2.1.toArray⟩ (size_le (by omega)) v HAT.out _).mono ?_; rintro e w3 ⟨rfl, hw3⟩; have hb3 := atoi_below hw3; clear hw3))
        have hbd := atoi_bd HAT.out
        by_cases heq : Lib.itoa v = (Lib.cut x.data.toList [58]).2.1
        · have hb1 : decB v = ⟨(Lib.cut x.data.toList [58]).2.1.toArray⟩ := by unfold decB; rw [heq]
          have HEQ := Lib.hid heq
          have HDB := Lib.hid hb1
          clear heq hb1
          obtain ⟨i0, hi, hz0, hz1, hz2⟩ := info_parts infoPl
          go_wp2_with (first | (go_at_call 46; refine (Itoa_any v hbd.1 hbd.2 _ (HT'.out.below hb3)).mono ?_; rintro e w4 ⟨rfl, hb4⟩; rw [HDB.out]; have hb5 : Below wr.heap.size wr w4 := hb3.trans (hb4.mono hb3.size); have hl5 := hb5.size; have HR4 := Lib.hid (owns_keep HROW.out hb5)) | (at_builtin; refine wpList_append_own _ rfl _ _ 23 rfl (w.heap.size + 1) 60 i0 (.agg #[.string ⟨#[]⟩, .int .i64 0]) 2 24 Tryd.underlying23 hi hz0 hz1 hz2 rfl (by decide) _ _ _ rfl (HR4.out.alloc _) ⟨w4.heap.size, 0, none⟩ 1 1 [.string ⟨(Lib.cut x.data.toList [58]).1.toArray⟩, .int .i64 v] rfl rfl (cell_two_new _ _ _ _) (by simp [Value.oneCell']) (by have := HPRE.out; unfold maxLen; omega) (by have := HPRE.out; omega) (by simp; omega) ?_; intro v' w6 hown6 hgrow6 _; have HO6 := Lib.hid hown6; have HG6 := Lib.hid hgrow6; clear hown6 hgrow6))
          go_roundw
          case rel =>
            have hpre := HPRE.out
            have hp : pieceP x = some (⟨(Lib.cut x.data.toList [58]).1.toArray⟩, v) := by unfold pieceP; rw [HAT.out]; simp only; rw [if_pos HEQ.out]
            have hp' : pieceP (pieces s)[k] = some (⟨(Lib.cut x.data.toList [58]).1.toArray⟩, v) := HX.out ▸ hp
            have hg : (w4.alloc (.cells #[.string ⟨(Lib.cut x.data.toList [58]).1.toArray⟩, .int .i64 v] 60)).grownBy w6 u4.ownBlock := HG6.out
            have hge := owns_ge HR4.out
            have hs6 := hg.size
            simp only [World.size_alloc] at hs6
            refine ⟨k + 1, pre ++ [(⟨(Lib.cut x.data.toList [58]).1.toArray⟩, v)], by go_num, by omega, by simp [hpre], ?_, ?_, ?_, ?_⟩
            · have := HO6.out
              rw [List.length_append, cellsPl_append]
              exact this
            · show _ = _
              rw [hpl.out, parseL_step _ k hkl _ hp']
              cases parseL ((pieces s).drop (k + 1)) <;> simp
            · exact (((HB.out.trans (hb5.mono hlen)).alloc (by omega) _).grown hg (by simp; omega) (fun q e => by have := hge q e; omega))
            · rw [hg.block w.heap.size (by simp; omega) (fun e => by have := hge w.heap.size e.symm; omega), Below.heap_alloc w4 _ w.heap.size (by omega), hb5.block w.heap.size (by omega)]
              exact HPC.out
          case measure => simp [intOf]; omega
        · have hne : ((decB v).toList == (Lib.cut x.data.toList [58]).2.1) = false := by
            rw [ByteArray.toList_eq]
            simpa [decB] using heq
          have HEQ := Lib.hid heq
          clear heq
          go_wp2_with (first | (go_at_call 46; refine (Itoa_any v hbd.1 hbd.2 _ (HT'.out.below hb3)).mono ?_; rintro e w4 ⟨rfl, hb4⟩))
          go_ret2
          have hp : pieceP x = none := by unfold pieceP; rw [HAT.out]; simp only; rw [if_neg HEQ.out]
          exact parse_no (fun _ => HX.out) hp hkl hpl H0.out ((HB.out.trans (hb3.mono hlen)).trans (hb4.mono (by have := hb3.size; omega)))
      | range =>
        have HAT := Lib.hid hat
        clear hat
        obtain ⟨tp, p, hv⟩ := HT'.out.rng
        have hvn : ∀ n, (wr.drewN n).var? Tryd.prog _ = some #[.iface tp p] := fun n => var_below_ hv ⟨rfl, rfl, rfl, Nat.le_refl _, fun _ _ => rfl⟩
        have HV := Lib.hid hvn
        clear hv hvn
        go_wp2_with (first | (go_at_call 52; refine (Tryd.strings_Cut x ⟨#[58]⟩ m _ (by omega) HM'.out).mono ?_; rintro e w2 ⟨rfl, n2, rfl⟩) | (go_at_call 53; refine (Tryd.strconv_Atoi_range_var ⟨(Lib.cut x.data.toList [58]).2.1.toArray⟩ (size_le (by omega)) HAT.out tp p _ (HV.out _)).mono ?_; rintro e w3 ⟨n3, rfl, hn3, hc3, hb3'⟩; have hb3 : Below wr.heap.size wr w3 := ⟨hb3'.os, hb3'.tape, hb3'.output, hb3'.size, hb3'.block⟩; have HC3 := Lib.hid hc3; clear hc3 hb3'))
        go_ret2
        have hp : pieceP x = none := by unfold pieceP; rw [HAT.out]
        exact parse_no (fun _ => HX.out) hp hkl hpl H0.out (HB.out.trans (hb3.mono hlen))
      | _ =>
        have HAT := Lib.hid (show (∀ v, Lib.atoiAll (Lib.cut x.data.toList [58]).2.1 ≠ .ok v) ∧ Lib.atoiAll (Lib.cut x.data.toList [58]).2.1 ≠ .range by rw [hat]; exact ⟨fun _ h => (by cases h), fun h => by cases h⟩)
        have HPN := Lib.hid (show pieceP x = none by unfold pieceP; rw [hat])
        clear hat
        obtain ⟨tp, p, hv⟩ := HT'.out.syn
        have hvn : ∀ n, (wr.drewN n).var? Tryd.prog _ = some #[.iface tp p] := fun n => var_below_ hv ⟨rfl, rfl, rfl, Nat.le_refl _, fun _ _ => rfl⟩
        have HV := Lib.hid hvn
        clear hv hvn
        go_wp2_with (first | (go_at_call 52; refine (Tryd.strings_Cut x ⟨#[58]⟩ m _ (by omega) HM'.out).mono ?_; rintro e w2 ⟨rfl, n2, rfl⟩) | (go_at_call 53; refine (Tryd.strconv_Atoi_bad_var ⟨(Lib.cut x.data.toList [58]).2.1.toArray⟩ (size_le (by omega)) HAT.out.1 HAT.out.2 tp p _ (HV.out _)).mono ?_; rintro e w3 ⟨n3, rfl, hn3, hc3, hb3'⟩; have hb3 : Below wr.heap.size wr w3 := ⟨hb3'.os, hb3'.tape, hb3'.output, hb3'.size, hb3'.block⟩; have HC3 := Lib.hid hc3; clear hc3 hb3'))
        go_ret2
        have hp : pieceP x = none := HPN.out
        exact parse_no (fun _ => HX.out) hp hkl hpl H0.out (HB.out.trans (hb3.mono hlen))
    · obtain rfl : k = N + 1 := by omega
      have hpa : parseL (pieces s) = some pre := by
        rw [hpl.out, List.drop_eq_nil_of_le (by rw [HN.out, HNN.out]; omega)]
        simp [parseL]
      have hR : Kd.R k60 60 wr w.heap.size (fun _ => True) u4 (pre.map ofPl) := R_of_own (owns_lower HROW.out (by omega))
      obtain ⟨hpl1, hps⟩ := parseL_size _ _ s.size (fun x hx => by obtain ⟨q, hq, rfl⟩ := List.mem_iff_getElem.1 hx; exact pieces_size s q hq) hpa
      rcases HROW.out.2 with ⟨rfl, hz⟩ | ⟨g, cap, cur, rfl, hgb, hgh, hnc, hcm, hsz, htk⟩
      · exact absurd hz (by have := HPRE.out; omega)
      obtain ⟨more, hmore⟩ : ∃ more, cur = (cellsPl pre ++ more).toArray := ⟨cur.toList.drop (pre.length * 2), by rw [← htk, List.take_append_drop]⟩
      have hC4 := (Kd.R_reads' hR).2.2
      have hPA := Lib.hid hpa
      have HC4 := Lib.hid hC4
      have hchk := Check_any (some ⟨g, 0, none⟩) cap (pre.map ofPl) wr hC4 (by rw [List.length_map]; exact hnc) (fun x hx => by obtain ⟨p, hp, rfl⟩ := List.mem_map.1 hx; have := hps p hp; show p.1.size ≤ _; omega) (by rw [List.length_map]; have := HPRE.out; omega)
      rw [toPl_ofPl, List.length_map] at hchk
      have HCH := Lib.hid hchk
      have HGH := Lib.hid hgh
      have HMO := Lib.hid hmore
      have HSZ := Lib.hid hsz
      have HGB := Lib.hid hgb
      have HCM := Lib.hid hcm
      have HNC := Lib.hid hnc
      clear hpa hC4 hchk hgh hmore htk hR hps hpl1 hsz hgb hcm hnc
      clear hN hk hlt hlen1
      by_cases hck : checkN pre = 0
      · have HCK := Lib.hid hck
        clear hck
        go_wp2_with (first | (go_at_call 14; refine (HCH.out).mono ?_; rintro e w2 ⟨rfl, hb2⟩; rw [HCK.out]) | (go_at_call 54; refine (Reverse_any g cap pre more _ (by have := HPRE.out; omega) (by rw [hb2.block g (by have := (Array.getElem?_eq_some_iff.1 HGH.out).1; omega), HGH.out, HMO.out])).mono ?_; rintro e w3 ⟨rfl, hr3, hg3⟩))
        go_ret2
        have hB : parseB s = (pre.reverse, 0) := by unfold parseB; rw [if_neg H0.out, hPA.out]; simp only; rw [if_pos HCK.out]
        unfold ParseIs
        rw [hB]
        refine ⟨_, rfl, R_of_own ?_, ?_⟩
        · have := cellsPl_len pre
          have e9 : (cellsPl pre.reverse).length = pre.length * 2 := by rw [cellsPl_len, List.length_reverse]
          refine ⟨by rw [e9, List.length_reverse], .inr ⟨g, cap, _, by rw [List.length_reverse]; rfl, by have := HGB.out; omega, hr3, by rw [List.length_reverse]; exact HNC.out, HCM.out, ?_, ?_⟩⟩
          · have h5 := HSZ.out
            rw [HMO.out] at h5
            simp only [List.size_toArray, List.length_append] at h5 ⊢
            rw [cellsPl_len] at h5 ⊢
            rw [List.length_reverse]
            exact h5
          · rw [List.length_reverse, ← e9]; simp
        · exact (HB.out.trans (hb2.mono hlen)).grown hg3 (by have := hb2.size; omega) (fun q e => by cases e; have := HGB.out; omega)
      · have hne : (checkN pre == 0) = false := by simpa using hck
        have hne2 : (checkN pre != 0) = true := by simpa using hck
        have HCK := Lib.hid hck
        clear hck
        go_wp2_with (go_at_call 14; refine (HCH.out).mono ?_; rintro e w2 ⟨rfl, hb2⟩)
        go_ret2
        have hB : parseB s = ([], 4) := by unfold parseB; rw [if_neg H0.out, hPA.out]; simp only; rw [if_neg HCK.out]
        unfold ParseIs
        rw [hB]
        exact ⟨_, rfl, Kd.R_nil _ _ _ _ _, HB.out.trans (hb2.mono hlen)⟩
end Go.Proofs.YtmgfdcfbjgokgaaDoor
