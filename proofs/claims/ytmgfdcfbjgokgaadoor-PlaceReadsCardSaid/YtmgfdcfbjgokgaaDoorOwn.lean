/- What 'own', 'ref', 'same', and the reference's 'Check' come to, in plain words. -/
import Derived.Test.YtmgfdcfbjgokgaaDoorLst
import Derived.Test.YtmgfdcfbjgokgaaDoorPLx3
import Derived.Test.YtmgfdcfbjgokgaaDoorPLx6
import Derived.Test.YtmgfdcfbjgokgaaDoorPLx8
import Derived.Test.YtmgfdcfbjgokgaaDoorPLx5
namespace Go.Proofs.YtmgfdcfbjgokgaaDoor
open Go.RowKit Go.Proofs.YtmgfdcfbjgokgaaDoorW.PrintWords Go.Proofs.YtmgfdcfbjgokgaaDoorW.PrintLast Go.Proofs.YtmgfdcfbjgokgaaDoor.PL
set_option linter.unusedVariables false
set_option linter.unusedSimpArgs false

def toOwn (x : S96) : S60 := ⟨x.f0, x.f1⟩
def toRef (x : S96) : S95 := ⟨x.f0, x.f1⟩
def spl (x : S96) : Pl := (x.f0, x.f1)
def rpl (x : S95) : Pl := (x.f0, x.f1)
def rof (p : Pl) : S95 := ⟨p.1, p.2⟩
theorem own_l0 (l : List S96) (hl : l.length ≤ 5864062014804) : ∀ (d k j : Nat) (acc : List S60), j + d = l.length → d < k → acc.length = j → erratalaw03_own.l0 k l acc (j : Int) = some (acc ++ (l.drop j).map toOwn)
  | 0, k + 1, j, acc, hj, _, _ => by
    rw [List.drop_eq_nil_of_le (by omega)]
    simp only [erratalaw03_own.l0]
    rw [if_neg (by omega)]
    simp
  | d + 1, k + 1, j, acc, hj, hk, ha => by
    have hjl : j < l.length := by omega
    have hr : rd_T96 l (j : Int) = l[j] := by simp [rd_T96, hjl]
    simp only [erratalaw03_own.l0]
    rw [if_pos (by omega), if_pos (by omega), if_pos (by omega), hr, wrap_succ j (by omega), own_l0 l hl d k (j + 1) _ (by omega) (by omega) (by simp [ha]), List.drop_eq_getElem_cons hjl, List.map_cons, List.append_assoc]
    rfl
theorem own_f (l : List S96) (hl : l.length ≤ 5864062014804) : erratalaw03_own.f (l.length + 1) l = some (l.map toOwn) := by
  have := own_l0 l hl l.length (l.length + 1) 0 [] (by omega) (by omega) rfl
  simpa [erratalaw03_own.f] using this
theorem ref_l0 (l : List S96) (hl : l.length ≤ 5864062014804) : ∀ (d k j : Nat) (acc : List S95), j + d = l.length → d < k → acc.length = j → erratalaw03_ref.l0 k l acc (j : Int) = some (acc ++ (l.drop j).map toRef)
  | 0, k + 1, j, acc, hj, _, _ => by
    rw [List.drop_eq_nil_of_le (by omega)]
    simp only [erratalaw03_ref.l0]
    rw [if_neg (by omega)]
    simp
  | d + 1, k + 1, j, acc, hj, hk, ha => by
    have hjl : j < l.length := by omega
    have hr : rd_T96 l (j : Int) = l[j] := by simp [rd_T96, hjl]
    simp only [erratalaw03_ref.l0]
    rw [if_pos (by omega), if_pos (by omega), if_pos (by omega), hr, wrap_succ j (by omega), ref_l0 l hl d k (j + 1) _ (by omega) (by omega) (by simp [ha]), List.drop_eq_getElem_cons hjl, List.map_cons, List.append_assoc]
    rfl
theorem ref_f (l : List S96) (hl : l.length ≤ 5864062014804) : erratalaw03_ref.f (l.length + 1) l = some (l.map toRef) := by
  have := ref_l0 l hl l.length (l.length + 1) 0 [] (by omega) (by omega) rfl
  simpa [erratalaw03_ref.f] using this
theorem same_l0 (a : List S60) (b : List S95) (hl : a.length ≤ 9223372036854775806) (h : a.map toPl = b.map rpl) : ∀ (d k j : Nat), j + d = a.length → d < k → erratalaw03_same.l0 k a b (j : Int) = some true
  | 0, k + 1, j, hj, _ => by
    simp only [erratalaw03_same.l0]
    rw [if_neg (by omega)]
  | d + 1, k + 1, j, hj, hk => by
    have hab : a.length = b.length := by have := congrArg List.length h; simpa using this
    have hja : j < a.length := by omega
    have hjb : j < b.length := by omega
    have hr : rd_T60 a (j : Int) = a[j] := by simp [rd_T60, hja]
    have hs : rd_T95 b (j : Int) = b[j] := by simp [rd_T95, hjb]
    have he : toPl a[j] = rpl b[j] := by
      have := congrArg (fun l => l[j]?) h
      simpa [hja, hjb] using this
    have e0 : a[j].f0 = b[j].f0 := congrArg Prod.fst he
    have e1 : a[j].f1 = b[j].f1 := congrArg Prod.snd he
    simp only [erratalaw03_same.l0]
    rw [if_pos (by omega), if_pos (by omega), if_pos (by omega), hr, hs, if_pos (by rw [e0]), if_pos e1, wrap_succ j (by omega), same_l0 a b hl h d k (j + 1) (by omega) (by omega)]
theorem same_f (a : List S60) (b : List S95) (hl : a.length ≤ 9223372036854775806) (h : a.map toPl = b.map rpl) : erratalaw03_same.f (a.length + 1) a b = some true := by
  have hab : a.length = b.length := by have := congrArg List.length h; simpa using this
  unfold erratalaw03_same.f
  rw [if_pos (by omega)]
  exact same_l0 a b hl h a.length (a.length + 1) 0 (by omega) (by omega)

theorem okName_drop (s : ByteArray) (j : Nat) (hj : j < s.size) : (s.data.toList.drop j).all okByte = (okByte s[j] && (s.data.toList.drop (j + 1)).all okByte) := by
  have hl : j < s.data.toList.length := by simpa using hj
  rw [List.drop_eq_getElem_cons hl, List.all_cons]
  simp [ByteArray.getElem_eq_getElem_data]
theorem ok_bt (s : ByteArray) (j : Nat) (hj : j < s.size) : okByte s[j] = (decide (33 ≤ bt s j) && decide (bt s j ≤ 126) && decide (¬ bt s j = 58)) := by
  have h := bt_at s (j : Int) (by simpa using hj)
  simp only [Int.toNat_natCast] at h
  rw [← h]
  unfold okByte
  congr 1
  · congr 1
    · rw [decide_eq_decide]; omega
    · rw [decide_eq_decide]; omega
  · rw [decide_eq_decide]; omega
theorem rmay_l0 (s : ByteArray) (n : Int) (hs : s.size ≤ 120) : ∀ (d k j : Nat), j + d = s.size → d < k → errataref03_May.l0 k (j : Int) s n = some ((s.data.toList.drop j).all okByte)
  | 0, k + 1, j, hj, _ => by
    have e : s.data.toList.drop j = [] := List.drop_eq_nil_of_le (by simp; omega)
    rw [e]
    simp only [errataref03_May.l0]
    rw [if_neg (by omega)]
    rfl
  | d + 1, k + 1, j, hj, hk => by
    have hjl : j < s.size := by omega
    rw [okName_drop s j hjl, ok_bt s j hjl]
    simp only [errataref03_May.l0]
    rw [if_pos (by omega), if_pos (by omega), wrap_succ j (by omega), rmay_l0 s n hs d k (j + 1) (by omega) (by omega)]
    by_cases h1 : bt s j < 33
    · rw [if_pos h1]; simp; intros; omega
    rw [if_neg h1]
    by_cases h2 : bt s j > 126
    · rw [if_pos h2]; simp; intros; omega
    rw [if_neg h2]
    by_cases h3 : bt s j = 58
    · rw [if_pos h3]; simp [h3]
    rw [if_neg h3]
    have e1 : decide (33 ≤ bt s j) = true := by simp; omega
    have e2 : decide (bt s j ≤ 126) = true := by simp; omega
    rw [e1, e2]
    simp [h3]
theorem rmay_f (s : ByteArray) (n : Int) (k : Nat) (hk : 124 ≤ k) : errataref03_May.f k s n = some (mayB s n) := by
  obtain ⟨k, rfl⟩ : ∃ j, k = j + 1 := ⟨k - 1, by omega⟩
  unfold errataref03_May.f mayB
  simp only [errataref03_May.j0]
  by_cases h1 : s.size < 1
  · rw [if_pos (by omega)]; simp [show ¬ 1 ≤ s.size by omega]
  rw [if_neg (by omega)]
  by_cases h2 : s.size > 120
  · rw [if_pos (by omega)]; simp [show ¬ s.size ≤ 120 by omega]
  rw [if_neg (by omega)]
  by_cases h3 : n < 0
  · rw [if_pos h3]; simp [show ¬ 0 ≤ n by omega]
  rw [if_neg h3]
  by_cases h4 : n > 1048576
  · rw [if_pos (by simpa using h4)]; simp [show ¬ n ≤ 1048576 by omega]
  rw [if_neg (by simpa using h4)]
  have := rmay_l0 s n (by omega) s.size k 0 (by omega) (by omega)
  rw [show (0 : Int) = ((0 : Nat) : Int) from rfl, this]
  simp [okName, show 1 ≤ s.size by omega, show s.size ≤ 120 by omega, show 0 ≤ n by omega, show n ≤ 1048576 by omega]
theorem rcheck_l0 (l : List S95) (hl : l.length ≤ 9223372036854775806) : ∀ (d k j : Nat), j + d = l.length → d + 125 ≤ k → errataref03_Check.l0 k l (j : Int) = some (if (l.drop j).all (fun p => mayB p.f0 p.f1) then (if l.length > 64 then 31 else 0) else 30)
  | 0, k + 1, j, hj, _ => by
    rw [List.drop_eq_nil_of_le (by omega)]
    simp only [errataref03_Check.l0]
    rw [if_neg (by omega)]
    by_cases h : l.length > 64
    · rw [if_pos (by omega)]; simp [h]
    · rw [if_neg (by omega)]; simp [h]
  | d + 1, k + 1, j, hj, hk => by
    have hjl : j < l.length := by omega
    have hr : rd_T95 l (j : Int) = l[j] := by simp [rd_T95, hjl]
    simp only [errataref03_Check.l0]
    rw [if_pos (by omega), if_pos (by omega), hr, rmay_f _ _ k (by omega), Option.bind_some, List.drop_eq_getElem_cons hjl, List.all_cons]
    cases hm : mayB l[j].f0 l[j].f1
    · simp
    · rw [if_pos rfl, wrap_succ j (by omega), rcheck_l0 l hl d k (j + 1) (by omega) (by omega)]
      simp
theorem rcheck_f (l : List S95) (hl : l.length ≤ 9223372036854775806) (k : Nat) (hk : l.length + 125 ≤ k) : errataref03_Check.f k l = some (checkN (l.map rpl)) := by
  unfold errataref03_Check.f
  rw [show (0 : Int) = ((0 : Nat) : Int) from rfl, rcheck_l0 l hl l.length k 0 (by omega) (by omega)]
  unfold checkN
  simp [List.all_map, rpl, Function.comp_def]
/-- A run in plain data. -/
abbrev Rn := List Pl × Int
def run50 (x : S50) : Rn := (x.f0.map toPl, x.f1)
def run52 (x : S52) : Rn := (x.f0.map rpl, x.f1)
end Go.Proofs.YtmgfdcfbjgokgaaDoor
