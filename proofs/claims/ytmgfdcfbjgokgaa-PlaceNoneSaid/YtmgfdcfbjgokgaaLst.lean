/- Lists of places in plain words. -/
import Derived.Test.YtmgfdcfbjgokgaaPLx3
import Derived.Test.YtmgfdcfbjgokgaaMay
import Derived.Laws.AppendOwn
import Derived.Maps.AppendAt
import Derived.Deep.AppendLies
import Derived.Lib.Hide
import Derived.BigQuiet
namespace Go.Proofs.Ytmgfdcfbjgokgaa
open Go Go.RowKit Go.Maps Go.Proofs.YtmgfdcfbjgokgaaW.PrintWords Go.Proofs.YtmgfdcfbjgokgaaW.PrintLast Go.Proofs.YtmgfdcfbjgokgaaW.PrintMore Go.Proofs.Ytmgfdcfbjgokgaa.PL
set_option linter.unusedVariables false
set_option linter.unusedSimpArgs false

abbrev Pl := ByteArray × Int
theorem add_block_ (a : Addr) (n : Nat) : (a.add n).block = a.block := by unfold Addr.add; split <;> rfl
def toPl (x : S24) : Pl := (x.f0, x.f1)
/-- What is wrong with a list. -/
def checkN (l : List Pl) : Int := if l.all (fun p => mayB p.1 p.2) then (if l.length > 64 then 31 else 0) else 30
theorem wrap_succ (k : Nat) (h : k < 9223372036854775807) : wrap64 ((k : Int) + 1) = ((k + 1 : Nat) : Int) := by unfold wrap64; omega
theorem check_l0 (l : List S24) (hs : ∀ x ∈ l, x.f0.size ≤ 9223372036854775807) (hl : l.length ≤ 9223372036854775806) : ∀ (d k j : Nat), j + d = l.length → d < k →
    place_Check.l0 k l l (l.length : Int) (j : Int) = some (if (l.drop j).all (fun p => mayB p.f0 p.f1) then (if l.length > 64 then 31 else 0) else 30)
  | 0, k + 1, j, hj, _ => by
    have : l.drop j = [] := List.drop_eq_nil_of_le (by omega)
    rw [this]
    simp only [place_Check.l0]
    rw [if_neg (by omega)]
    by_cases h : l.length > 64
    · rw [if_pos (by omega)]; simp [h]
    · rw [if_neg (by omega)]; simp [h]
  | d + 1, k + 1, j, hj, hk => by
    have hjl : j < l.length := by omega
    have hr : rd_T24 l (j : Int) = l[j] := by simp [rd_T24, hjl]
    simp only [place_Check.l0]
    rw [if_pos (by omega), if_pos (by omega), if_pos (by omega), hr]
    unfold place_Place_may.f
    rw [if_pos (hs _ (List.getElem_mem _)), Option.bind_some]
    rw [List.drop_eq_getElem_cons hjl, List.all_cons]
    cases hm : mayB l[j].f0 l[j].f1
    · simp
    · rw [if_pos rfl, wrap_succ j (by omega), check_l0 l hs hl d k (j + 1) (by omega) (by omega)]
      simp
theorem check_f (l : List S24) (hs : ∀ x ∈ l, x.f0.size ≤ 9223372036854775807) (hl : l.length ≤ 9223372036854775806) : place_Check.f (l.length + 1) l = some (checkN (l.map toPl)) := by
  unfold place_Check.f
  rw [show (0 : Int) = ((0 : Nat) : Int) from rfl, check_l0 l hs hl l.length (l.length + 1) 0 (by omega) (by omega)]
  unfold checkN
  simp [List.all_map, toPl, Function.comp_def]
theorem Check_any (A : Option Addr) (c : Nat) (l : List S24) (w : World) (h : Kd.C k24 w A l.length l) (hc : l.length ≤ c) (hs : ∀ x ∈ l, x.f0.size ≤ 9223372036854775807) (hl : l.length ≤ 9223372036854775806) :
    Calls Try.prog 12 #[.slice A l.length c] w fun e w' => e = .returned (.int .i64 (checkN (l.map toPl))) ∧ Below w.heap.size w w' :=
  place_Check.calls (l.length + 1) A c l _ w h hc (check_f l hs hl)
def ofPl (p : Pl) : S24 := ⟨p.1, p.2⟩
theorem infoPl : (Try.prog.info? 24).map (fun i => (i.zero, i.size, i.bytes)) = some (some (.agg #[.string ⟨#[]⟩, .int .i64 0]), 2, 24) := by kernel_rfl
theorem cell_two_new (w : World) (t : TypeId) (a b : Value) : ∀ j u, ([a, b] : List Value)[j]? = some u → (w.alloc (.cells #[a, b] t)).cell? ((⟨w.heap.size, 0, none⟩ : Addr).add j) = some u := by
  intro j u hu
  have := World.news_of_block (cs := #[a, b]) (t := t) (fr := (0, 0)) (heap_alloc_new w (.cells #[a, b] t)) j u
  exact this hu
theorem owns_ge {w : World} {base : Nat} {e : TypeId} {size n : Nat} {v : Value} {xs : List Value} (h : w.ownsRow base e size v n xs) : ∀ q, v.ownBlock = some q → base ≤ q := fun q hq => by
  rcases h.2 with ⟨rfl, _⟩ | ⟨g', c', cur, rfl, hbb, _⟩
  · simp [Value.ownBlock] at hq
  · have : g' = q := by simpa [Value.ownBlock] using hq
    omega
theorem checkN_zero {l : List Pl} (h : checkN l = 0) : l.length ≤ 64 ∧ ∀ x ∈ l, mayB x.1 x.2 = true := by
  unfold checkN at h
  split at h
  · rename_i ha
    split at h
    · cases h
    · exact ⟨by omega, fun x hx => by rw [List.all_eq_true] at ha; exact ha x hx⟩
  · cases h
theorem bs_ext {a b : ByteArray} (h : a.data.toList = b.data.toList) : a = b := by
  cases a; cases b
  simp only at h
  congr
  exact Array.toList_inj.1 h
end Go.Proofs.Ytmgfdcfbjgokgaa
