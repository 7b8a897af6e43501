/- The closed walk of strconv.ParseFloat at "1.0". -/
import Derived.Test.YtbbpngoffpegbaaGreatDoorProg
import Derived.WalkLawsBesides
import Derived.WalkSpells
import Derived.Lib.Hide
import Derived.Laws.Externs
import Derived.Laws.BitsAllLaws
import Derived.Deep.QuietTactic
import Derived.BigQuiet
import Derived.StillTailTactics
import Derived.LoopN
import Derived.WalkKit
import Derived.WalkMore
import Derived.OwnWalk
namespace Go.Proofs.YtbbpngoffpegbaaGreatDoor
open Go Go.RowKit
set_option linter.unusedVariables false
set_option linter.unusedSimpArgs false
abbrev s10 : ByteArray := ⟨#[49, 46, 48]⟩
/-- What ParseFloat reads of its memory at "1.0". -/
structure PTabs (w : World) : Prop where
  opt : w.cell? ⟨1, 0, none⟩ = some (.bool true)
  info : w.cell? ⟨11, 0, none⟩ = some (.int .u64 52)
  pow : ∃ (a : Addr) (n c : Nat), w.cell? ⟨14, 0, none⟩ = some (.slice (some a) n c) ∧ 1 < n ∧ n ≤ 100 ∧ w.cell? (a.add 1) = some (.float .f64 4621819117588971520)
theorem PTabs.drewN {w : World} (h : PTabs w) (n : Nat) : PTabs (w.drewN n) :=
  ⟨by rw [World.cell?_drewN]; exact h.opt, by rw [World.cell?_drewN]; exact h.info, by
    obtain ⟨a, m, c, h1, h2, h3, h4⟩ := h.pow
    exact ⟨a, m, c, by rw [World.cell?_drewN]; exact h1, h2, h3, by rw [World.cell?_drewN]; exact h4⟩⟩
set_option maxRecDepth 100000 in
set_option maxHeartbeats 4000000 in
theorem results_tmp7 {fn : Func} {a b c d e f g : Tmp} (h : fn.results = #[.tmp a, .tmp b, .tmp c, .tmp d, .tmp e, .tmp f, .tmp g]) (tmps : Array Value) (P : Program) (w : World) :
    (results fn tmps).run P w = .ok (.tuple #[tmps.getD a undef, tmps.getD b undef, tmps.getD c undef, tmps.getD d undef, tmps.getD e undef, tmps.getD f undef, tmps.getD g undef]) w := by
  simp [results, h]
theorem s10_0 (h : 0 < s10.size) : s10[0].toNat = 49 := rfl
theorem s10_1 (h : 1 < s10.size) : s10[1].toNat = 46 := rfl
theorem s10_2 (h : 2 < s10.size) : s10[2].toNat = 48 := rfl
set_option maxRecDepth 100000 in
set_option maxHeartbeats 4000000 in
theorem special_1 (w : World) : Calls Tryz.prog 179 #[.string s10] w fun e w' => e = .returned (.tuple #[.float .f64 0, .int .i64 0, .bool false]) ∧ w' = w := by
  go_enter Tryz.func179, Tryz.ntmps179
  go_wp2_with fail
  refine bodyPost_ret (results_tmp3 rfl _ _ _) rfl ?_
  exact ⟨rfl, rfl⟩
set_option maxRecDepth 100000 in
set_option maxHeartbeats 4000000 in
theorem readFloat_1 (w : World) : Calls Tryz.prog 180 #[.string s10] w fun e w' => e = .returned (.tuple #[.int .u64 10, .int .i64 (-1), .bool false, .bool false, .bool false, .int .i64 3, .bool true]) ∧ w' = w := by
  have e0 := s10_0
  have e1 := s10_1
  have e2 := s10_2
  go_enter Tryz.func180, Tryz.ntmps180
  go_wp2_with fail
  go_step3
  go_wp2_with fail
  go_step3
  go_wp2_with fail
  refine wp_loop_rounds 4 ?_
  rw [rounds_succ]
  go_wp2_with fail
  rw [rounds_succ]
  go_wp2_with fail
  rw [rounds_succ]
  go_wp2_with fail
  rw [rounds_succ]
  go_wp2_with fail
  simp only [Exit.noGoto_ret]
  refine bodyPost_ret (results_tmp7 rfl _ _ _) rfl ?_
  exact ⟨rfl, rfl⟩
set_option maxRecDepth 100000 in
set_option maxHeartbeats 4000000 in
theorem quo_1 (w : World) : Sem.run Tryz.prog (binOp BinOp.quo 22 (Value.float FloatKind.f64 (floatOfInt FloatKind.f64 10)) (Value.float FloatKind.f64 4621819117588971520)) w = .ok (.float .f64 4607182418800017408) w := by kernel_rfl
set_option maxRecDepth 100000 in
set_option maxHeartbeats 4000000 in
theorem exact64_1 (w : World) (h : PTabs w) : Calls Tryz.prog 189 #[.int .u64 10, .int .i64 (-1), .bool false] w fun e w' => e = .returned (.tuple #[.float .f64 4607182418800017408, .bool true]) ∧ w' = w := by
  have h1 := h.info
  obtain ⟨a, n, c, h2, h3, h4, h5⟩ := h.pow
  have h6 : (1 : Int) < n := by omega
  have h5 : w.cell? ⟨a.block, a.off + 1, none⟩ = some (.float .f64 4621819117588971520) := h5
  clear h
  have hq := quo_1
  go_enter Tryz.func189, Tryz.ntmps189
  go_wp2_with fail
  go_ret2
  exact ⟨rfl, rfl⟩
theorem b2u_0 (w : World) : Calls Tryz.prog 169 #[.bool false] w fun e w' => e = .returned (.int .u64 0) ∧ w' = w := by
  go_enter Tryz.func169, Tryz.ntmps169
  go_wp2_with fail
  go_ret
  exact ⟨rfl, rfl⟩
set_option maxRecDepth 100000 in
set_option maxHeartbeats 4000000 in
theorem atof64_1 (w : World) (h : PTabs w) : Calls Tryz.prog 177 #[.string s10] w fun e w' => e = .returned (.tuple #[.float .f64 4607182418800017408, .int .i64 3, .nilIface]) ∧ w' = w := by
  have h1 := h.opt
  have HP := Lib.hid h
  clear h
  go_enter Tryz.func177, Tryz.ntmps177
  go_wp2_with fail
  refine (special_1 w).mono ?_
  rintro e w1 ⟨rfl, rfl⟩
  go_wp2_with fail
  refine (readFloat_1 w1).mono ?_
  rintro e w2 ⟨rfl, rfl⟩
  go_wp2_with fail
  refine (b2u_0 w2).mono ?_
  rintro e w3 ⟨rfl, rfl⟩
  go_wp2_with fail
  refine (exact64_1 w3 HP.out).mono ?_
  rintro e w4 ⟨rfl, rfl⟩
  go_wp2_with fail
  go_ret3
  exact ⟨rfl, rfl⟩
set_option maxRecDepth 100000 in
theorem pfp_1 (w : World) (h : PTabs w) : Calls Tryz.prog 162 #[.string s10, .int .i64 64] w fun e w' => e = .returned (.tuple #[.float .f64 4607182418800017408, .int .i64 3, .nilIface]) ∧ w' = w := by
  have HP := Lib.hid h
  clear h
  go_enter Tryz.func162, Tryz.ntmps162
  go_wp2_with fail
  refine (atof64_1 w HP.out).mono ?_
  rintro e w1 ⟨rfl, rfl⟩
  go_wp2_with fail
  go_ret3
  exact ⟨rfl, rfl⟩
theorem iParseFloat_1 (w : World) (h : PTabs w) : Calls Tryz.prog 127 #[.string s10, .int .i64 64] w fun e w' => e = .returned (.tuple #[.float .f64 4607182418800017408, .nilIface]) ∧ w' = w := by
  have HP := Lib.hid h
  clear h
  go_enter Tryz.func127, Tryz.ntmps127
  go_wp2_with fail
  refine (pfp_1 w HP.out).mono ?_
  rintro e w1 ⟨rfl, rfl⟩
  go_wp2_with fail
  go_ret2
  exact ⟨rfl, rfl⟩
theorem ParseFloat_1 (w : World) (h : PTabs w) : Calls Tryz.prog 88 #[.string s10, .int .i64 64] w fun e w' => e = .returned (.tuple #[.float .f64 4607182418800017408, .nilIface]) ∧ w' = w := by
  have HP := Lib.hid h
  clear h
  go_enter Tryz.func88, Tryz.ntmps88
  go_wp2_with fail
  refine (iParseFloat_1 w HP.out).mono ?_
  rintro e w1 ⟨rfl, rfl⟩
  go_wp2_with fail
  go_ret2
  exact ⟨rfl, rfl⟩
end Go.Proofs.YtbbpngoffpegbaaGreatDoor
