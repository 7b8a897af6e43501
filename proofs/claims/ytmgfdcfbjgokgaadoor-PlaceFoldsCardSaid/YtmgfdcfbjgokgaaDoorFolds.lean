/- The walk of 'PlaceFolds'. What 'PlaceFolds' calls, in its own terms; a list that is grown while another one begins as it does; elements apart, all at once. -/
import Derived.Test.YtmgfdcfbjgokgaaDoorRFoldW
import Derived.Test.YtmgfdcfbjgokgaaDoorCom
import Derived.Laws.AppendOwn
import Derived.Test.YtmgfdcfbjgokgaaDoorPLx14
import Derived.Test.YtmgfdcfbjgokgaaDoorCom
import Derived.Test.YtmgfdcfbjgokgaaDoorAlive
namespace Go.Proofs.YtmgfdcfbjgokgaaDoor
open Go Go.RowKit Go.Proofs.YtmgfdcfbjgokgaaDoorW.PrintWords Go.Proofs.YtmgfdcfbjgokgaaDoorW.PrintLast Go.Proofs.YtmgfdcfbjgokgaaDoorW.PrintMore Go.Proofs.YtmgfdcfbjgokgaaDoor.PL
set_option linter.unusedVariables false
set_option linter.unusedSimpArgs false

theorem own_stays {w w' : World} {b' : Nat} {e : TypeId} {size n' : Nat} {u : Value} {xs' : List Value} (hh : ∀ k, k < w.heap.size → w'.heap[k]? = w.heap[k]?) (h : w.ownsRow b' e size u n' xs') : w'.ownsRow b' e size u n' xs' := by
  refine ⟨h.1, ?_⟩
  rcases h.2 with h | ⟨g, cap, cur, hv, hb, hg, rest⟩
  · exact .inl h
  · exact .inr ⟨g, cap, cur, hv, hb, (hh g (Array.getElem?_eq_some_iff.1 hg).1).trans hg, rest⟩
/-- append writes behind what there is: a list that is no longer stays, be it in the same block. -/
theorem append_keeps {P : Program} (w : World) (base : Nat) (t ty e : TypeId) (i : TypeInfo) (z : Value) (ht : P.underlying t = some (.slice e)) (hi : P.info? e = some i) (hz : i.zero = some z)
    (v : Value) (n : Nat) (xs : List Value) (hown : w.ownsRow base e i.size v n xs) (a : Addr) (m c : Nat) (news : List Value) (hl : news.length = m * i.size) (hnews : ∀ j u, news[j]? = some u → w.cell? (a.add j) = some u) (h1 : ∀ u ∈ news, u.oneCell' = true)
    (hm : 0 < m) (h63 : n + m ≤ maxLen) (hbytes : (n + m) * i.bytes ≤ 140737488355328) {v' : Value} {w' : World} (hr : (Builtin.append_ #[t, t] ty #[v, .slice (some a) m c]).run P w = .ok v' w') :
    ∀ (b' : Nat) (u : Value) (n' : Nat) (xs' : List Value), w.ownsRow b' e i.size u n' xs' → n' ≤ n → w'.ownsRow b' e i.size u n' xs' := by
  have hsmall : n + m ≤ 9223372036854775807 := by simp only [maxLen] at h63; omega
  intro b' u n' xs' hu hn'
  rcases hown.2 with ⟨rfl, rfl⟩ | ⟨g, cap, cur, rfl, hbg, hg, hnc, hcm, hcs, htake⟩
  · have h2 := run_append_nil (P := P) w t ty e i z ht hi hz a m c news hl hnews hm (by omega) (by rw [Nat.zero_add] at hbytes; omega)
    have e2 := h2.symm.trans hr
    injection e2 with _ e3
    subst e3
    exact own_stays (fun k hk => heap_alloc_old w.drew _ hk) hu
  · by_cases hroom : n + m ≤ cap
    · have hfit : n * i.size + news.length ≤ cur.size := by rw [hl, hcs, ← Nat.add_mul]; exact Nat.mul_le_mul_right _ hroom
      have h2 := run_append_room (P := P) w t ty e i ht hi g n cap cur hg a m c news hl hnews h1 hroom hfit
      have e2 := h2.symm.trans hr
      injection e2 with _ e3
      subst e3
      refine ⟨hu.1, ?_⟩
      rcases hu.2 with h | ⟨g', cap', cur', hv, hb, hg', hnc', hcm', hcs', htake'⟩
      · exact .inl h
      · by_cases hgg : g' = g
        · subst hgg
          have ec : cur' = cur := by
            rw [hg] at hg'
            injection hg' with hg'
            injection hg' with hg' _ _
            exact hg'.symm
          subst ec
          have hmul : n' * i.size ≤ n * i.size := Nat.mul_le_mul_right _ hn'
          refine .inr ⟨g', cap', _, hv, hb, setRow_heap w g' cur' _ e _ hg, hnc', hcm', ?_, ?_⟩
          · simp only [List.size_toArray, List.length_append, List.length_take, List.length_drop, Array.length_toList]
            omega
          · rw [List.append_assoc, List.take_append_of_le_length (by rw [List.length_take, Array.length_toList]; omega), List.take_take, Nat.min_eq_left hmul]
            exact htake'
        · exact .inr ⟨g', cap', cur', hv, hb, (setRow_other w g g' _ hgg).trans hg', hnc', hcm', hcs', htake'⟩
    · have holds : ∀ j u, xs[j]? = some u → w.cell? ((⟨g, 0, none⟩ : Addr).add j) = some u := hown.cells (g := g) rfl
      have h2 := run_append_grow (P := P) w t ty e i z ht hi hz ⟨g, 0, none⟩ n cap xs hown.1 holds a m c news hl hnews (by omega) (by omega) (growslice_fits (by omega) hbytes)
      have e2 := h2.symm.trans hr
      injection e2 with _ e3
      subst e3
      exact own_stays (fun k hk => heap_alloc_old w.drew _ hk) hu
/-- append(v, x) of a place, behind 'at_builtin': lists that are no longer stay. -/
theorem append_place {ops : Array Oper} {rest : List Oper} {o : Oper} {a : Act} {Q : Exit → Act → World → Prop} {w0 W : World} (base : Nat) (hgd : o.guard = none) (s x : Operand)
    (ho : o.op = .call { callee := .builtin .append, args := #[s, x], argTypes := #[23, 23] })
    (v : Value) (xs : List S60) (p : S60) (ok : Nat → Prop) (hs : a.eval s = v) (hx : a.eval x = .slice (some ⟨W.heap.size, 0, none⟩) 1 1) (hfresh : ∀ k, W.heap.size ≤ k → ok k)
    (HO : Kd.R k60 60 W base ok v xs) (HB : Below base w0 W) (hbase : base ≤ W.heap.size) (hl : (xs.length + 1) * 24 ≤ 140737488355328)
    (h : ∀ v1 w1, Kd.R k60 60 w1 base ok v1 (xs ++ [p]) → Below base w0 w1 → W.grownBy w1 v.ownBlock → (∀ b' ok' u ys, Kd.R k60 60 W b' ok' u ys → ys.length ≤ xs.length → Kd.R k60 60 w1 b' ok' u ys) → wpList Tryd.prog ops Q rest (a.put o.dst v1) w1) :
    wpList Tryd.prog ops Q (o :: rest) a (W.alloc (.cells #[.string p.f0, .int .i64 p.f1] 60)) := by
  obtain ⟨h0, inner, hown, hr⟩ := HO
  obtain ⟨i0, hi, hz0, hz1, hz2⟩ := info_parts infoPl
  have hlen : xs.length + 1 ≤ 140737488355328 := Nat.le_trans (Nat.le_mul_of_pos_right _ (by decide)) hl
  have hnews : ∀ j u, ([.string p.f0, .int .i64 p.f1] : List Value)[j]? = some u → (W.alloc (.cells #[.string p.f0, .int .i64 p.f1] 60)).cell? ((⟨W.heap.size, 0, none⟩ : Addr).add j) = some u := cell_two_new W 60 _ _
  refine wpList_plain hgd fun K hK => ?_
  have hown2 : (W.alloc (.cells #[.string p.f0, .int .i64 p.f1] 60)).ownsRow base 60 2 v xs.length inner := hown.alloc _
  obtain ⟨v', w', hrun, h2, h3, _, h5⟩ := run_append_own_at (P := Tryd.prog) (W.alloc (.cells #[.string p.f0, .int .i64 p.f1] 60)) base 23 o.type 60 i0 (.agg #[.string ⟨#[]⟩, .int .i64 0]) 2 24 Tryd.underlying23 hi hz0 hz1 hz2 rfl (by decide) v xs.length inner hown2 ⟨W.heap.size, 0, none⟩ 1 1
    [.string p.f0, .int .i64 p.f1] rfl hnews (by simp [Value.oneCell']) (by simp only [maxLen]; omega) hl (by simp; omega)
  have hk := append_keeps (P := Tryd.prog) (W.alloc (.cells #[.string p.f0, .int .i64 p.f1] 60)) base 23 o.type 60 i0 (.agg #[.string ⟨#[]⟩, .int .i64 0]) Tryd.underlying23 hi hz0 v xs.length inner (by rw [hz1]; exact hown2) ⟨W.heap.size, 0, none⟩ 1 1
    [.string p.f0, .int .i64 p.f1] (by rw [hz1]; rfl) hnews (by simp [Value.oneCell']) (by decide) (by simp only [maxLen]; omega) (by rw [hz2]; exact hl) hrun
  unfold Oper.wp execOp
  simp only [ho, resolve, invoke, builtin, Sem.run_bind, Sem.run_pure, Result.andThen_ok, List.map_toArray, List.map_cons, List.map_nil, hs, hx, hrun]
  have hg : W.grownBy w' v.ownBlock := World.grownBy.trans (World.grownBy_alloc W _ _) h3
  refine hK _ _ (h v' w' (Kd.R_appended h0 hr (k60_mkM W base (fun _ => False) p) (fun _ h => h.elim) hfresh h2 hg ?_) ((HB.alloc hbase _).grown h3 (by simp; omega) (own_base hown)) hg ?_)
  · rcases h5 with h5 | h5
    · exact .inl h5
    · exact .inr ⟨_, h5, by simp⟩
  · intro b' ok' u ys hu hle
    obtain ⟨g0, inner', hown', hr'⟩ := hu
    have h9 := hk b' u ys.length inner' (by rw [hz1]; exact hown'.alloc _) hle
    rw [hz1] at h9
    refine ⟨g0, inner', h9, hr'.imp_ (fun q cs hq => ?_)⟩
    have e := k60_open (k60.K_of_M hq)
    rw [e]
    exact k60_mkM w' b' _ q
/-- All elements of a row of runs, each with blocks of its own. -/
theorem S_all {W : World} {base g n cap : Nat} {ok : Nat → Prop} {xs : List S50} (h : Kd.S k50 50 W base ok (.slice (some ⟨g, 0, none⟩) n cap) xs) :
    ∃ f : Nat → Nat, ∀ i, i < n → ∃ cs, k50.M W base (fun k => (ok k ∧ k ≠ g) ∧ f k = i) (xs.getD i z50) cs ∧ ∀ j u, cs[j]? = some u → W.cell? ⟨g, i * 2 + j, none⟩ = some u := by
  obtain ⟨f, hR⟩ := h
  have hn := (Kd.R_reads' hR).1
  rw [List.length_zipIdx] at hn
  have hgo : some g = (Value.slice (some ⟨g, 0, none⟩) n cap).ownBlock := by simp [Value.ownBlock]
  obtain ⟨hok0, inner, ho, hr⟩ := hR
  refine ⟨f, fun i hi => ?_⟩
  have hil : i < xs.length := by omega
  have hM := hr.2 i (xs[i], i) (by rw [List.getElem?_zipIdx, List.getElem?_eq_getElem hil]; simp)
  refine ⟨(inner.drop (i * 2)).take 2, ?_, fun j u hu => ?_⟩
  · rw [List.getD_eq_getElem?_getD, List.getElem?_eq_getElem hil]
    exact k50.M_mono (fun k hk => ⟨⟨hk.1.1, fun he => hk.1.2 (by rw [he]; exact hgo)⟩, hk.2⟩) hM
  · rw [List.getElem?_take] at hu
    split at hu
    · rw [List.getElem?_drop] at hu
      have := ho.cells (g := g) hgo.symm _ u hu
      rwa [add_plain] at this
    · cases hu
theorem runs_l0 (a : List S50) (b : List S52) (hl : a.length ≤ 64) (h : a.map run50 = b.map run52) (hs : ∀ r ∈ a, r.f0.length ≤ 64) : ∀ (d k j : Nat), j + d = a.length → d + 70 ≤ k → erratalaw03_runs.l0 k a b (j : Int) = some true
  | 0, k + 1, j, hj, _ => by
    simp only [erratalaw03_runs.l0]
    rw [if_neg (by omega)]
  | d + 1, k + 1, j, hj, hk => by
    have hab : a.length = b.length := by have := congrArg List.length h; simpa using this
    have hja : j < a.length := by omega
    have hjb : j < b.length := by omega
    have hr : rd_T50 a (j : Int) = a[j] := by simp [rd_T50, hja]
    have hs2 : rd_T52 b (j : Int) = b[j] := by simp [rd_T52, hjb]
    have he : run50 a[j] = run52 b[j] := by
      have := congrArg (fun l => l[j]?) h
      simpa [hja, hjb] using this
    have e0 : a[j].f0.map toPl = b[j].f0.map rpl := congrArg Prod.fst he
    have e1 : a[j].f1 = b[j].f1 := congrArg Prod.snd he
    have hlj := hs _ (List.getElem_mem hja)
    have hsm := same_f a[j].f0 b[j].f0 (by omega) e0
    have hsk : erratalaw03_same.f k a[j].f0 b[j].f0 = some true := by
      have hm : ∀ n, erratalaw03_same.f (a[j].f0.length + 1 + n) a[j].f0 b[j].f0 = some true := fun n => by
        induction n with
        | zero => exact hsm
        | succ n ih => exact erratalaw03_same.mono _ _ _ _ ih
      have := hm (k - (a[j].f0.length + 1))
      rwa [show a[j].f0.length + 1 + (k - (a[j].f0.length + 1)) = k by omega] at this
    simp only [erratalaw03_runs.l0]
    rw [if_pos (by omega), if_pos (by omega), if_pos (by omega), hr, hs2, if_pos e1, hsk, Option.bind_some, if_pos rfl, wrap_succ j (by omega), runs_l0 a b hl h hs d k (j + 1) (by omega) (by omega)]
theorem runs_v {W : World} {A B : Option Addr} {n m c d : Nat} {a : List S50} {b : List S52} (hn : n = a.length) (hm : m = b.length) (ha : Kd.C k50 W A n a) (hc : n ≤ c) (hb : Kd.C k52 W B m b) (hd : m ≤ d) (h : a.map run50 = b.map run52) (hl : n ≤ 64) (hs : ∀ r ∈ a, r.f0.length ≤ 64) :
    Calls Tryd.prog 30 #[.slice A n c, .slice B m d] W fun e w' => e = .returned (.bool true) ∧ Below W.heap.size W w' := by
  subst hn
  subst hm
  have hab : a.length = b.length := by have := congrArg List.length h; simpa using this
  have hf : erratalaw03_runs.f (a.length + 70) a b = some true := by
    unfold erratalaw03_runs.f
    rw [if_pos (by omega)]
    exact runs_l0 a b hl h hs a.length _ 0 (by omega) (by omega)
  exact (erratalaw03_runs.calls _ A c a B d b true W ha hc hb hd hf).mono fun e w' h => ⟨h.1, h.2.below⟩
end Go.Proofs.YtmgfdcfbjgokgaaDoor
namespace Go.Proofs.YtmgfdcfbjgokgaaDoor
open Go Go.RowKit Go.Proofs.YtmgfdcfbjgokgaaDoorW.PrintWords Go.Proofs.YtmgfdcfbjgokgaaDoorW.PrintLast Go.Proofs.YtmgfdcfbjgokgaaDoorW.PrintMore Go.Proofs.YtmgfdcfbjgokgaaDoor.PL
set_option linter.unusedVariables false
set_option linter.unusedSimpArgs false

/-- The list that came in. -/
structure In1 (w : World) (A0 : Option Addr) (c0 n : Nat) (l : List S96) : Prop where
  nl : n = l.length
  cn : n ≤ c0
  l0 : Kd.C k96 w A0 n l
  bn : n ≤ 5864062014803
  sz : ∀ x ∈ l, x.f0.size ≤ 9223372036854775807
  tabs : Tabs w
theorem front_m {W : World} {A : Option Addr} {n : Nat} {l : List S96} (hn : n = l.length) (h : Kd.C k60 W A (n + 1) (l.map toOwn ++ [mark])) : Kd.C k60 W A (l.map toOwn).length (l.map toOwn) := by
  subst hn
  have := Kd.C_take (m := l.length) (xs := l.map toOwn ++ [mark]) (by rw [List.length_append, List.length_map]; exact h) (by simp)
  have e : (l.map toOwn ++ [mark]).take l.length = l.map toOwn := by
    have := List.take_left (l₁ := l.map toOwn) (l₂ := [mark])
    rwa [List.length_map] at this
  rwa [e] at this
theorem lent_m {A : Option Addr} {c n : Nat} {l : List S96} {W : World} (hn : n = l.length) (h : Kd.C k96 W A n l) (hc : n ≤ c) (hb : n ≤ 5864062014803) : Calls Tryd.prog 10 #[.slice A n c] W fun e w' => ∃ g cap, e = .returned (.slice (some ⟨g, 0, none⟩) n cap) ∧ n + 1 ≤ cap ∧
    Kd.R k60 60 w' W.heap.size (fun _ => True) (.slice (some ⟨g, 0, none⟩) (n + 1) cap) (l.map toOwn ++ [mark]) ∧ Below W.heap.size W w' := by
  subst hn
  refine (lent_any A c l W h hc hb).mono fun e w' ⟨v, he, ⟨g, cap, hv, hg, hR⟩, hbl⟩ => ?_
  rw [List.length_map] at hv hR
  subst hv
  exact ⟨g, cap, he, (Kd.R_reads' hR).2.1, hR, hbl⟩
theorem ref_m {A : Option Addr} {c n : Nat} {l : List S96} {W : World} (hn : n = l.length) (h : Kd.C k96 W A n l) (hc : n ≤ c) (hb : n ≤ 5864062014803) : Calls Tryd.prog 13 #[.slice A n c] W fun e w' => ∃ A' c', e = .returned (.slice A' n c') ∧ n ≤ c' ∧
    Kd.C k95 w' A' n (l.map toRef) ∧ Below W.heap.size W w' := by
  subst hn
  refine (erratalaw03_ref.calls (l.length + 1) A c l (l.map toRef) W h hc (ref_f l (by omega))).mono fun e w' ⟨v, he, hR, hbl⟩ => ?_
  obtain ⟨A', c', rfl, h1, h2⟩ := Kd.R_reads hR
  rw [List.length_map] at he h1 h2
  exact ⟨A', c', he, h1, h2, hbl⟩
theorem kept_m {W : World} {A : Option Addr} {c d n : Nat} {l : List S96} {g : Nat} (hn : n = l.length) (hm : Kd.C k60 W (some ⟨g, 0, none⟩) (n + 1) (l.map toOwn ++ [mark])) (hcap : n + 1 ≤ c) (hr0 : Kd.C k96 W A n l) (hc0 : n ≤ d) (hl : n ≤ 5864062014803) :
    Calls Tryd.prog 18 #[.slice (some ⟨g, 0, none⟩) n c, .slice A n d] W fun e w' => e = .returned (.bool true) ∧ Below W.heap.size W w' := by
  subst hn
  exact kept_any g c A d l W hm hcap hr0 hc0 (by omega)
theorem fold_m {W : World} {A : Option Addr} {c n : Nat} {l : List S96} (hn : n = l.length) (h : Kd.C k60 W A (n + 1) (l.map toOwn ++ [mark])) (hc : n + 1 ≤ c) (hs : ∀ x ∈ l, x.f0.size ≤ 9223372036854775807) (hb : n ≤ 5864062014803) :
    Calls Tryd.prog 28 #[.slice A n c] W fun e w' => ∃ A' c' rs, e = .returned (.tuple #[.slice A' (foldOf (l.map spl)).1.length c', .int .i64 (foldOf (l.map spl)).2]) ∧ rs.map run50 = (foldOf (l.map spl)).1 ∧
      Kd.S k50 50 w' W.heap.size (fun k => W.heap.size ≤ k ∧ k < w'.heap.size) (.slice A' (foldOf (l.map spl)).1.length c') rs ∧ Below W.heap.size W w' := by
  have h1 := front_m hn h
  subst hn
  have := Fold_any A c (l.map toOwn) W h1 (by rw [List.length_map]; omega) (fun x hx => by obtain ⟨y, hy, rfl⟩ := List.mem_map.1 hx; exact hs y hy) (by rw [List.length_map]; omega)
  rw [spl_own, List.length_map] at this
  refine this.mono fun e w' ⟨v, rs, he, hrs, hS, hb⟩ => ?_
  obtain ⟨A', c', rfl⟩ := Kd.S_slice hS
  have hl : rs.length = (foldOf (l.map spl)).1.length := by rw [← hrs, List.length_map]
  rw [hl] at he hS
  exact ⟨A', c', rs, he, hrs, Kd.S_mono (Kd.S_bound hS) (fun k hk => ⟨hk.2.1, hk.2.2.1⟩), hb⟩
theorem rfold_m {W : World} {A : Option Addr} {c n : Nat} {l : List S96} (hn : n = l.length) (h : Kd.C k95 W A n (l.map toRef)) (hc : n ≤ c) (hb : n ≤ 5864062014803) :
    Calls Tryd.prog 29 #[.slice A n c] W fun e w' => ∃ A' c' rs, e = .returned (.tuple #[.slice A' (foldOf (l.map spl)).1.length c', .int .i64 (foldOf (l.map spl)).2]) ∧ rs.map run52 = (foldOf (l.map spl)).1 ∧
      Kd.S k52 52 w' W.heap.size (fun k => W.heap.size ≤ k ∧ k < w'.heap.size) (.slice A' (foldOf (l.map spl)).1.length c') rs ∧ Below W.heap.size W w' := by
  subst hn
  have := rFold_any A c (l.map toRef) W (by rw [List.length_map]; exact h) (by rw [List.length_map]; exact hc) (by rw [List.length_map]; omega)
  rw [spl_ref, List.length_map] at this
  refine this.mono fun e w' ⟨v, rs, he, hrs, hS, hb⟩ => ?_
  obtain ⟨A', c', rfl⟩ := Kd.S_slice hS
  have hl : rs.length = (foldOf (l.map spl)).1.length := by rw [← hrs, List.length_map]
  rw [hl] at he hS
  exact ⟨A', c', rs, he, hrs, Kd.S_mono (Kd.S_bound hS) (fun k hk => ⟨hk.2.1, hk.2.2.1⟩), hb⟩
theorem S_C1 {α : Type} {k : Kd α} {W : World} {e base : Nat} {A : Option Addr} {n c : Nat} {xs : List α} {ok : Nat → Prop} (h : Kd.S k e W base ok (.slice A n c) xs) : Kd.C k W A n xs := by
  have := Kd.S_reads' h
  rw [this.1]
  exact this.2.2
theorem S_len {α : Type} {k : Kd α} {W : World} {e base : Nat} {A : Option Addr} {n c : Nat} {xs : List α} {ok : Nat → Prop} (h : Kd.S k e W base ok (.slice A n c) xs) : n ≤ c := (Kd.S_reads' h).2.1
theorem run_bd {rs : List S50} {T : List Rn} (h : rs.map run50 = T) (hb : ∀ r ∈ T, r.1.length ≤ 64) : ∀ r ∈ rs, r.f0.length ≤ 64 := fun r hr => by
  have := hb (run50 r) (by rw [← h]; exact List.mem_map.2 ⟨r, hr, rfl⟩)
  simpa [run50] using this
abbrev caret : S60 := ⟨⟨#[94]⟩, 0⟩
theorem S_head {W : World} {base : Nat} {ok : Nat → Prop} {A : Option Addr} {n c : Nat} {R : List S50} (h : Kd.S k50 50 W base ok (.slice A n c) R) (hp : 0 < R.length) : ∃ g, A = some ⟨g, 0, none⟩ := by
  obtain ⟨g, cap, hv, _⟩ := Kd.S_form h hp
  injection hv with hv _ _
  exact ⟨g, hv⟩
theorem S_alls {W : World} {base n cap : Nat} {ok : Nat → Prop} {A : Option Addr} {xs : List S50} (h : Kd.S k50 50 W base ok (.slice A n cap) xs) (hn : n = xs.length) :
    ∃ (g : Nat) (f : Nat → Nat), 0 < n → A = some ⟨g, 0, none⟩ ∧ ∀ i, i < n → ∃ cs, k50.M W base (fun k => (ok k ∧ k ≠ g) ∧ f k = i) (xs.getD i z50) cs ∧ ∀ j u, cs[j]? = some u → W.cell? ⟨g, i * 2 + j, none⟩ = some u := by
  by_cases h0 : 0 < n
  · obtain ⟨g, rfl⟩ := S_head h (by omega)
    obtain ⟨f, hf⟩ := S_all h
    exact ⟨g, f, fun _ => ⟨rfl, hf⟩⟩
  · exact ⟨0, fun _ => 0, fun h => absurd h h0⟩
/-- A row has grown that is lent, or that is none of these. -/
theorem H_either {α : Type} {d : Kd α} {e : Nat} {w w1 : World} {base : Nat} {ok oki : Nat → Prop} {v : Value} {xs : List α} {i : Int} {c : List Value} {row : Option Nat} (h : Kd.H d e w base ok v xs i oki c) (hg : w.grownBy w1 row)
    (hr : ∀ b, row = some b → oki b ∨ ∀ b', ok b' → b' ≠ b) : Kd.H d e w1 base ok v xs i oki c := by
  cases row with
  | none => exact Kd.H_other h hg (fun k _ he => by cases he)
  | some b =>
    rcases hr b rfl with hb | hb
    · exact Kd.H_grown h hg (fun k hk => by injection hk with hk; rw [← hk]; exact hb)
    · exact Kd.H_other h hg (fun k hk he => by injection he with he; exact hb k hk he)
theorem R_C1 {α : Type} {k : Kd α} {W : World} {e base : Nat} {A : Option Addr} {n c : Nat} {xs : List α} {ok : Nat → Prop} (h : Kd.R k e W base ok (.slice A n c) xs) : Kd.C k W A n xs := by
  have := Kd.R_reads' h
  rw [this.1]
  exact this.2.2
/-- All that stays while x is written over: y, z, the list and the marks. -/
structure Sf (w W : World) (A0 : Option Addr) (n : Nat) (l : List S96) (ga N : Nat) (Ay : Option Addr) (ry : List S52) (Az : Option Addr) (rz : List S50) : Prop where
  below : Below w.heap.size w W
  l0 : Kd.C k96 W A0 n l
  a : Kd.C k60 W (some ⟨ga, 0, none⟩) (n + 1) (l.map toOwn ++ [mark])
  y : Kd.C k52 W Ay N ry
  z : Kd.C k50 W Az N rz
  tabs : Tabs W
theorem Sf.step {w W W2 : World} {A0 : Option Addr} {n : Nat} {l : List S96} {ga N : Nat} {Ay : Option Addr} {ry : List S52} {Az : Option Addr} {rz : List S50} (S : Sf w W A0 n l ga N Ay ry Az rz) (hb : Below W.heap.size W W2) : Sf w W2 A0 n l ga N Ay ry Az rz :=
  ⟨S.below.trans (hb.mono S.below.size), Kd.C_below S.l0 hb, Kd.C_below S.a hb, Kd.C_below S.y hb, Kd.C_below S.z hb, S.tabs.below hb⟩
set_option maxRecDepth 100000 in
set_option maxHeartbeats 16000000 in
theorem folds_any (w : World) (A0 : Option Addr) (c0 n : Nat) (l : List S96) (I0 : In1 w A0 c0 n l) :
    Calls Tryd.prog 6 #[.slice A0 n c0] w fun e w' => e = .returned (.bool true) ∧ Below w.heap.size w w' := by
  have I := Lib.hid I0
  clear I0
  obtain ⟨T, hT⟩ : ∃ T, T = (foldOf (l.map spl)).1 := ⟨_, rfl⟩
  obtain ⟨E, hE⟩ : ∃ E, E = (foldOf (l.map spl)).2 := ⟨_, rfl⟩
  obtain ⟨N, hN⟩ : ∃ N, N = T.length := ⟨_, rfl⟩
  have hbd := foldOf_bd (l.map spl)
  rw [← hT, ← hN] at hbd
  have hN64 := hbd.1
  have HBD := Lib.hid hbd.2
  have HT := Lib.hid hT
  have HE := Lib.hid hE
  have HN := Lib.hid hN
  clear hT hE hN hbd
  go_enter Tryd.func6, Tryd.ntmps6
  go_wp2_with (go_at_call 10; (with_reducible refine (lent_m I.out.nl I.out.l0 I.out.cn I.out.bn).mono ?_); rintro e w1 ⟨ga, ca, rfl, hca, hR, hb⟩; have HA1 := Lib.hid (R_win hR); have HCa := Lib.hid hca; have HB1 := Lib.hid hb; clear hca hR hb)
  go_wp2_with (go_at_call 28; (with_reducible refine (fold_m I.out.nl (R_C1 HA1.out) HCa.out I.out.sz I.out.bn).mono ?_); rintro e w2 ⟨Ax, cx, rx, rfl, hrx, hSx, hb⟩; rw [← HT.out] at hrx hSx; rw [← HT.out, ← HE.out]; rw [← HN.out] at hSx ⊢; have HRX := Lib.hid hrx; have HX2 := Lib.hid hSx; have HB2 := Lib.hid hb; clear hrx hSx hb)
  go_wp2_with (go_at_call 13; (with_reducible refine (ref_m I.out.nl (Kd.C_below (Kd.C_below I.out.l0 HB1.out) HB2.out) I.out.cn I.out.bn).mono ?_); rintro e w3 ⟨Ar, cr, rfl, hcr, hCr, hb⟩; have HCR := Lib.hid hCr; have HCr := Lib.hid hcr; have HB3 := Lib.hid hb; clear hcr hCr hb)
  go_wp2_with (go_at_call 29; (with_reducible refine (rfold_m I.out.nl HCR.out HCr.out I.out.bn).mono ?_); rintro e w4 ⟨Ay, cy, ry, rfl, hry, hSy, hb⟩; rw [← HT.out] at hry hSy; rw [← HT.out, ← HE.out]; rw [← HN.out] at hSy ⊢; have HRY := Lib.hid hry; have HY4 := Lib.hid hSy; have HB4 := Lib.hid hb; clear hry hSy hb HCR HCr)
  have hb24 := HB3.out.trans (HB4.out.mono HB3.out.size)
  have HB24 := Lib.hid hb24
  have HB14 := Lib.hid (HB2.out.trans (hb24.mono HB2.out.size))
  clear hb24
  go_wp2_with (go_at_call 28; (with_reducible refine (fold_m I.out.nl (R_C1 (Kd.R_below HA1.out HB14.out)) HCa.out I.out.sz I.out.bn).mono ?_); rintro e w5 ⟨Az, cz, rz, rfl, hrz, hSz, hb⟩; rw [← HT.out] at hrz hSz; rw [← HT.out, ← HE.out]; rw [← HN.out] at hSz ⊢; have HRZ := Lib.hid hrz; have HZ5 := Lib.hid hSz; have HB5 := Lib.hid hb; clear hrz hSz hb)
  have HB25 := Lib.hid (HB24.out.trans (HB5.out.mono HB24.out.size))
  have HB45 := Lib.hid HB5.out
  go_wp2_with (go_at_call 30; (with_reducible refine (runs_v (show N = rx.length by rw [HN.out, ← HRX.out, List.length_map]) (show N = ry.length by rw [HN.out, ← HRY.out, List.length_map]) (S_C1 (Kd.S_below HX2.out HB25.out)) (S_len HX2.out) (S_C1 (Kd.S_below HY4.out HB5.out)) (S_len HY4.out) (HRX.out.trans HRY.out.symm) hN64 (run_bd HRX.out HBD.out)).mono ?_); rintro e w6 ⟨rfl, hb⟩; have HB6 := Lib.hid hb; clear hb)
  have HB16 := Lib.hid ((HB14.out.trans (HB5.out.mono HB14.out.size)).trans (HB6.out.mono (Nat.le_trans HB14.out.size HB5.out.size)))
  go_wp2_with (go_at_call 18; (with_reducible refine (kept_m I.out.nl (R_C1 (Kd.R_below HA1.out HB16.out)) HCa.out (Kd.C_below (Kd.C_below I.out.l0 HB1.out) HB16.out) I.out.cn I.out.bn).mono ?_); rintro e wb ⟨rfl, hb⟩; have HB7 := Lib.hid hb; clear hb)
  have hz1 := HB1.out.size
  have hz2 := HB2.out.size
  have hz3 := HB3.out.size
  have hz4 := HB4.out.size
  have hz5 := HB5.out.size
  have hz6 := HB6.out.size
  have hz7 := HB7.out.size
  have hb5b := HB6.out.trans (HB7.out.mono hz6)
  have hb1b := HB16.out.trans (HB7.out.mono HB16.out.size)
  have hxb := Kd.S_below (Kd.S_below HX2.out HB25.out) hb5b
  have HAb := Lib.hid (Kd.R_below HA1.out hb1b)
  have HYb := Lib.hid (Kd.S_below (Kd.S_below HY4.out HB5.out) hb5b)
  have HZb := Lib.hid (Kd.S_below HZ5.out hb5b)
  have HXb := Lib.hid hxb
  have HBb := Lib.hid hb1b
  have HFK := Lib.hid (show ∀ W : World, Kept wb W (fun k => w1.heap.size ≤ k ∧ k < w2.heap.size) → Below w1.heap.size w1 W → Sf w W A0 n l ga N Ay ry Az rz from fun W hk hb => by
    have hw : Below w.heap.size w W := HB1.out.trans (hb.mono hz1)
    refine ⟨hw, Kd.C_below I.out.l0 hw, R_C1 (Kd.R_kept HAb.out hk (fun k h1 h2 => ?_)), S_C1 (Kd.S_kept HYb.out hk (fun k h1 h2 => ?_)), S_C1 (Kd.S_kept HZb.out hk (fun k h1 h2 => ?_)), I.out.tabs.below hw⟩
    · have := h1.2; have := h2.1; omega
    · have := h1.1; have := h2.2; omega
    · have := h1.1; have := h2.2; omega)
  have hz2b : w2.heap.size ≤ wb.heap.size := by omega
  have HRXB := Lib.hid (run_bd HRX.out HBD.out)
  have HNX := Lib.hid (show N = rx.length by rw [HN.out, ← HRX.out, List.length_map])
  have HNY := Lib.hid (show N = ry.length by rw [HN.out, ← HRY.out, List.length_map])
  have HNZ := Lib.hid (show N = rz.length by rw [HN.out, ← HRZ.out, List.length_map])
  have HXY := Lib.hid (HRX.out.trans HRY.out.symm)
  have HZY := Lib.hid (HRZ.out.trans HRY.out.symm)
  have HLX := Lib.hid (S_len HXb.out)
  have HLY := Lib.hid (S_len HYb.out)
  have HLZ := Lib.hid (S_len HZb.out)
  have HRZB := Lib.hid (run_bd HRZ.out HBD.out)
  clear hz3 hz4 hz5 hz6 hz7 hb5b hb1b hxb HX2 HY4 HZ5 HA1 HB2 HB3 HB4 HB5 HB6 HB7 HB14 HB24 HB25 HB45 HB16 HAb HYb HZb HT HE HN HBD HRX HRY HRZ
  go_wp2
  go_loopg [10] N (fun q s10 wx => ∃ i : Nat, i + q = N ∧ s10 = .int .i64 i ∧ Hid (Kd.S k50 50 wx w1.heap.size (fun k => w1.heap.size ≤ k ∧ k < w2.heap.size) (.slice Ax N cx) rx) ∧ Hid (Kept wb wx (fun k => w1.heap.size ≤ k ∧ k < w2.heap.size)) ∧ Hid (Below w1.heap.size w1 wx))
  case atStart => exact ⟨0, by omega, rfl, HXb.out, Kept.refl _ _, HBb.out⟩
  case round =>
    obtain ⟨i, hi, rfl, HS, HK, HB⟩ := hrel
    clear HXb HBb
    by_cases hq : gk = 0
    · subst hq
      have hend : decide ((i : Int) < (N : Int)) = false := by simp; omega
      have hendN : ¬ i < N := by omega
      obtain ⟨gx, f, hall⟩ := S_alls HS.out HNX.out
      have HALL := Lib.hid hall
      obtain ⟨wc, rfl⟩ : ∃ wc, wc = wr := ⟨_, rfl⟩
      clear hall hi
      go_wp2
      clear hend hendN
      go_loopg [13] N (fun q s13 wy => ∃ i : Nat, i + q = N ∧ s13 = .int .i64 i ∧ Hid (Kept wc wy (fun k => ((w1.heap.size ≤ k ∧ k < w2.heap.size) ∧ k ≠ gx) ∧ f k < i)) ∧ Hid (Below w1.heap.size w1 wy))
      case atStart => exact ⟨0, by omega, rfl, Kept.refl _ _, HB.out⟩
      case round =>
        obtain ⟨i, hi, rfl, HKc, HBc⟩ := hrel
        by_cases hq : gk = 0
        · subst hq
          have hend : decide ((i : Int) < (N : Int)) = false := by simp; omega
          have hendN : ¬ i < N := by omega
          have S1 := Lib.hid (HFK.out wr (HK.out.then_ HKc.out (fun k hk => .inl hk.1.1)) HBc.out)
          clear HKc HBc HK HB HS HFK HALL hi
          go_wp2_with (go_at_call 30; (with_reducible refine (runs_v HNZ.out HNY.out S1.out.z HLZ.out S1.out.y HLY.out HZY.out hN64 HRZB.out).mono ?_); rintro e w8 ⟨rfl, hb⟩; have S2 := Lib.hid (S1.out.step hb); clear hb S1)
          go_wp2_with (go_at_call 18; (with_reducible refine (kept_m I.out.nl S2.out.a HCa.out S2.out.l0 I.out.cn I.out.bn).mono ?_); rintro e w9 ⟨rfl, hb⟩; have S3 := Lib.hid (S2.out.step hb); clear hb S2)
          go_wp2_with (go_at_call 23; (with_reducible refine (alive_any _ S3.out.tabs).mono ?_); rintro e w10 ⟨rfl, hb⟩; have S4 := Lib.hid (S3.out.step hb); clear hb S3)
          go_ret
          exact ⟨rfl, S4.out.below⟩
        · obtain ⟨q, rfl⟩ : ∃ q, gk = q + 1 := ⟨gk - 1, by omega⟩
          have hlt : decide ((i : Int) < (N : Int)) = true := by simp; omega
          have hltI : (i : Int) < (N : Int) := by omega
          have hltN : i < N := by omega
          obtain ⟨hAx, hall⟩ := HALL.out (by omega)
          obtain ⟨cs, hM, hcc⟩ := hall i hltN
          subst hAx
          obtain ⟨u, rfl, hRu⟩ := k50_openM hM
          obtain ⟨D, hD⟩ : ∃ D, D = rx.getD i z50 := ⟨_, rfl⟩
          rw [← hD] at hRu hcc
          obtain ⟨Au, cu, rfl⟩ := Kd.R_slice hRu
          obtain ⟨pn, hpn⟩ : ∃ pn, pn = D.f0.length := ⟨_, rfl⟩
          have hp64 : D.f0.length ≤ 64 := by
            rw [hD, List.getD_eq_getElem?_getD]
            have : i < rx.length := by rw [← HNX.out]; exact hltN
            rw [List.getElem?_eq_getElem this]
            exact HRXB.out _ (List.getElem_mem this)
          rw [← hpn] at hRu hcc
          have hd0 : wr.cell? ⟨gx, i * 2, none⟩ = some (.slice Au pn cu) := (World.cell?_of_block (HKc.out.2 gx (World.block_lt_of_cell? _ _ (hcc 0 _ rfl)) (fun h => h.1.2 rfl))).trans (hcc 0 _ rfl)
          have HRU := Lib.hid (Kd.R_kept hRu HKc.out (fun k hk hk2 => by have := hk.2; have := hk2.2; omega))
          have HP64 := Lib.hid hp64
          clear hM hcc hRu hD hpn hp64 hall
          go_wp2_with (go_at_call 22; (with_reducible refine (erratalaw03_spoil.calls (D.f0.length + 42) (fun k => ((w1.heap.size ≤ k ∧ k < w2.heap.size) ∧ k ≠ gx) ∧ f k = i) _ D.f0 w1 _ HBc.out HRU.out (spoil_f _ (by have := HP64.out; omega))).mono ?_); rintro e w8 ⟨rfl, hb, hk⟩; have HB8 := Lib.hid hb; have HK8 := Lib.hid (show Kept wc w8 (fun k => ((w1.heap.size ≤ k ∧ k < w2.heap.size) ∧ k ≠ gx) ∧ f k < i + 1) from Kept.then_ (Kept.mono HKc.out (fun k hk => ⟨hk.1, Nat.lt_succ_of_lt hk.2⟩)) hk (fun k hk => .inl ⟨hk.1, by have := hk.2; omega⟩)); clear hb hk HKc HBc HRU)
          clear hd0
          go_roundg q
          case measure => omega
          case rel => exact ⟨i + 1, by omega, (by go_num), HK8.out, HB8.out⟩
    · obtain ⟨q, rfl⟩ : ∃ q, gk = q + 1 := ⟨gk - 1, by omega⟩
      have hlt : decide ((i : Int) < (N : Int)) = true := by simp; omega
      have hltI : (i : Int) < (N : Int) := by omega
      have hltN : i < N := by omega
      obtain ⟨gx, hAx⟩ := S_head HS.out (by rw [← HNX.out]; omega)
      subst hAx
      obtain ⟨oki, cs, hcl, hM, hcc, hfr, hoki, hH⟩ := Kd.S_elem HS.out z50 (i : Int) (by omega) (by omega)
      obtain ⟨D, hD⟩ : ∃ D, D = rx.getD i z50 := ⟨_, rfl⟩
      rw [Int.toNat_natCast, ← hD] at hM
      obtain ⟨u, rfl, hRu⟩ := k50_openM hM
      obtain ⟨Au, cu, rfl⟩ := Kd.R_slice hRu
      obtain ⟨pn, hpn⟩ : ∃ pn, pn = D.f0.length := ⟨_, rfl⟩
      have hp64 : D.f0.length ≤ 64 := by
        rw [hD, List.getD_eq_getElem?_getD]
        have : i < rx.length := by rw [← HNX.out]; exact hltN
        rw [List.getElem?_eq_getElem this]
        exact HRXB.out _ (List.getElem_mem this)
      rw [← hpn] at hRu hcc hH
      have hd0 : wr.cell? ⟨gx, i * 2, none⟩ = some (.slice Au pn cu) := by have := hcc 0 _ rfl; simpa [show k50.sz = 2 from rfl] using this
      have HRU := Lib.hid hRu
      have HH := Lib.hid hH
      have HP64 := Lib.hid hp64
      have HPN := Lib.hid hpn
      have HD := Lib.hid hD
      have HOK := Lib.hid hoki
      clear hcl hM hcc hfr hoki hH hRu hD hpn hp64 HS
      go_wp2
      obtain ⟨wo, rfl⟩ : ∃ wo, wo = wr := ⟨_, rfl⟩
      obtain ⟨g0, rfl⟩ : ∃ g0, g0 = q := ⟨_, rfl⟩
      clear hd0 hlt hltI
      go_loopg [11, 12] 40 (fun f s11 s12 wy => ∃ (k : Nat), k + f = 40 ∧ s12 = .int .i64 k ∧ Hid (Kd.R k60 60 wy w1.heap.size (fun b => oki b ∨ wo.heap.size ≤ b) s11 (D.f0 ++ List.replicate k caret)) ∧ Hid (Kd.R k60 60 wy w1.heap.size oki (.slice Au pn cu) D.f0) ∧
        Hid (Kd.H k50 50 wy w1.heap.size (fun k => w1.heap.size ≤ k ∧ k < w2.heap.size) (.slice (some ⟨gx, 0, none⟩) N cx) rx (i : Int) oki [.slice Au pn cu, .int .i64 D.f1]) ∧ Hid (Kept wb wy (fun k => w1.heap.size ≤ k ∧ k < w2.heap.size)) ∧ Hid (Below w1.heap.size w1 wy) ∧ Hid (wo.heap.size ≤ wy.heap.size))
      case atStart => exact ⟨0, by omega, rfl, Lib.hid (by rw [List.replicate_zero, List.append_nil]; exact Kd.R_mono HRU.out (fun k hk => .inl hk)), HRU.out, HH.out, HK.out, HB.out, Lib.hid (Nat.le_refl _)⟩
      case round =>
        obtain ⟨k, hk, rfl, HG, HU, HHy, HKy, HBy, HZy⟩ := hrel
        obtain ⟨Ag, cg, rfl⟩ := Kd.R_slice HG.out
        obtain ⟨m, hm⟩ : ∃ m, m = (D.f0 ++ List.replicate k caret).length := ⟨_, rfl⟩
        have hm2 : m = D.f0.length + k := by rw [hm, List.length_append, List.length_replicate]
        have HM := Lib.hid hm
        rw [← hm] at HG ⊢
        have hm64 : m ≤ 64 + k := by have := HP64.out; omega
        have hkm : k ≤ m := by omega
        clear hm hm2
        by_cases hq : gk = 0
        · subst hq
          have hend : decide ((k : Int) < 40) = false := by simp; omega
          have hlen : decide ((m : Int) < 40) = false := by simp; omega
          have hlenN : ¬ (m : Int) < 40 := by omega
          have hbk := Kd.H_back HHy.out (x' := D) (okp := oki) (by have := k50_mkM wr w1.heap.size oki D (v0 := .slice Au pn cu) HU.out; exact this) (fun _ h => h)
          have hset : rx.set (i : Int).toNat D = rx := by
            rw [Int.toNat_natCast, HD.out, List.getD_eq_getElem?_getD]
            have : i < rx.length := by rw [← HNX.out]; exact hltN
            rw [List.getElem?_eq_getElem this]
            simp
          rw [hset] at hbk
          have HSx := Lib.hid hbk
          have S1 := Lib.hid (HFK.out wr HKy.out HBy.out)
          clear hbk hset HG HU HHy
          go_wp2_with (go_at_call 30; (with_reducible refine (runs_v HNX.out HNY.out (S_C1 HSx.out) HLX.out S1.out.y HLY.out HXY.out hN64 HRXB.out).mono ?_); rintro e w8 ⟨rfl, hb⟩; have HS8 := Lib.hid (Kd.S_below HSx.out hb); have HK8 := Lib.hid (Kept.below HKy.out hb); have HB8 := Lib.hid (HBy.out.trans (hb.mono HBy.out.size)); clear hb S1 HSx HKy HBy)
          clear hend hlen hlenN
          go_roundg g0
          case measure => omega
          case rel => exact ⟨i + 1, by omega, (by go_num), HS8.out, HK8.out, HB8.out⟩
        · obtain ⟨f, rfl⟩ : ∃ f, gk = f + 1 := ⟨gk - 1, by omega⟩
          have hlt : decide ((k : Int) < 40) = true := by simp; omega
          go_wp2_with ((with_reducible refine gate_builtin (b := .append) (xs := #[.tmp 62, .tmp 64]) rfl ?_); at_builtin; refine append_place (w0 := w1) w1.heap.size rfl (.tmp 62) (.tmp 64) rfl (.slice Ag m cg) (D.f0 ++ List.replicate k caret) caret (fun b => oki b ∨ wo.heap.size ≤ b) rfl rfl (fun b hb => .inr (Nat.le_trans HZy.out hb)) HG.out HBy.out HBy.out.size (by rw [← HM.out]; omega) ?_; intro v8 w8 hR8 hb8 hg8 hkeep; have HR8 := Lib.hid hR8; have HB8 := Lib.hid hb8; have HU8 := Lib.hid (hkeep _ _ _ _ HU.out (by rw [List.length_append]; omega)); have hrow := HG.out.1; have HH8 := Lib.hid (H_either HHy.out hg8 (fun b hb => by rcases hrow b hb with h | h; exact .inl h; exact .inr (fun b' hb' => by have := hb'.2; have := HK.out.1; omega))); have HK8 := Lib.hid (Kept.of_grown hg8 HKy.out (fun b hb => by rcases hrow b hb with h | h; exact .inl (HOK.out b h).1; exact .inr (Nat.le_trans HK.out.1 h))); have HZ8 := Lib.hid (Nat.le_trans HZy.out hg8.size); clear hR8 hb8 hg8 hkeep hrow HG HU HHy HKy HBy HZy)
          clear hlt
          go_roundg f
          case measure => omega
          case rel => exact ⟨k + 1, by omega, (by go_num), Lib.hid (by have h := HR8.out; rwa [List.append_assoc, ← List.replicate_succ'] at h), HU8.out, HH8.out, HK8.out, HB8.out, HZ8.out⟩
end Go.Proofs.YtmgfdcfbjgokgaaDoor
