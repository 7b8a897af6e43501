/- The run equations of type assertions (comma-ok) of the Go values of a value. (Printed by gentas.py.) -/
import Derived.Test.YtbbpngoffpegbaaGreatDoorProg
import Derived.WalkKit
namespace Go.Proofs.YtbbpngoffpegbaaGreatDoor
open Go Go.RowKit
theorem ta_nb (w : World) : Sem.run Tryz.prog (Instr.typeAssert .nilIface 20 4 true) w = .ok (.tuple #[.bool false, .bool false]) w := by kernel_rfl
theorem ta_bb (u : Value) (w : World) : Sem.run Tryz.prog (Instr.typeAssert (.iface 4 u) 20 4 true) w = .ok (.tuple #[u, .bool true]) w := by kernel_rfl
theorem ta_ib (u : Value) (w : World) : Sem.run Tryz.prog (Instr.typeAssert (.iface 2 u) 20 4 true) w = .ok (.tuple #[.bool false, .bool false]) w := by kernel_rfl
theorem ta_fb (u : Value) (w : World) : Sem.run Tryz.prog (Instr.typeAssert (.iface 22 u) 20 4 true) w = .ok (.tuple #[.bool false, .bool false]) w := by kernel_rfl
theorem ta_cb (u : Value) (w : World) : Sem.run Tryz.prog (Instr.typeAssert (.iface 48 u) 20 4 true) w = .ok (.tuple #[.bool false, .bool false]) w := by kernel_rfl
theorem ta_sb (u : Value) (w : World) : Sem.run Tryz.prog (Instr.typeAssert (.iface 9 u) 20 4 true) w = .ok (.tuple #[.bool false, .bool false]) w := by kernel_rfl
theorem ta_yb (u : Value) (w : World) : Sem.run Tryz.prog (Instr.typeAssert (.iface 32 u) 20 4 true) w = .ok (.tuple #[.bool false, .bool false]) w := by kernel_rfl
theorem ta_ab (u : Value) (w : World) : Sem.run Tryz.prog (Instr.typeAssert (.iface 34 u) 20 4 true) w = .ok (.tuple #[.bool false, .bool false]) w := by kernel_rfl
theorem ta_ni (w : World) : Sem.run Tryz.prog (Instr.typeAssert .nilIface 20 2 true) w = .ok (.tuple #[.int .i64 0, .bool false]) w := by kernel_rfl
theorem ta_bi (u : Value) (w : World) : Sem.run Tryz.prog (Instr.typeAssert (.iface 4 u) 20 2 true) w = .ok (.tuple #[.int .i64 0, .bool false]) w := by kernel_rfl
theorem ta_ii (u : Value) (w : World) : Sem.run Tryz.prog (Instr.typeAssert (.iface 2 u) 20 2 true) w = .ok (.tuple #[u, .bool true]) w := by kernel_rfl
theorem ta_fi (u : Value) (w : World) : Sem.run Tryz.prog (Instr.typeAssert (.iface 22 u) 20 2 true) w = .ok (.tuple #[.int .i64 0, .bool false]) w := by kernel_rfl
theorem ta_ci (u : Value) (w : World) : Sem.run Tryz.prog (Instr.typeAssert (.iface 48 u) 20 2 true) w = .ok (.tuple #[.int .i64 0, .bool false]) w := by kernel_rfl
theorem ta_si (u : Value) (w : World) : Sem.run Tryz.prog (Instr.typeAssert (.iface 9 u) 20 2 true) w = .ok (.tuple #[.int .i64 0, .bool false]) w := by kernel_rfl
theorem ta_yi (u : Value) (w : World) : Sem.run Tryz.prog (Instr.typeAssert (.iface 32 u) 20 2 true) w = .ok (.tuple #[.int .i64 0, .bool false]) w := by kernel_rfl
theorem ta_ai (u : Value) (w : World) : Sem.run Tryz.prog (Instr.typeAssert (.iface 34 u) 20 2 true) w = .ok (.tuple #[.int .i64 0, .bool false]) w := by kernel_rfl
theorem ta_nf (w : World) : Sem.run Tryz.prog (Instr.typeAssert .nilIface 20 22 true) w = .ok (.tuple #[.float .f64 0, .bool false]) w := by kernel_rfl
theorem ta_bf (u : Value) (w : World) : Sem.run Tryz.prog (Instr.typeAssert (.iface 4 u) 20 22 true) w = .ok (.tuple #[.float .f64 0, .bool false]) w := by kernel_rfl
theorem ta_if (u : Value) (w : World) : Sem.run Tryz.prog (Instr.typeAssert (.iface 2 u) 20 22 true) w = .ok (.tuple #[.float .f64 0, .bool false]) w := by kernel_rfl
theorem ta_ff (u : Value) (w : World) : Sem.run Tryz.prog (Instr.typeAssert (.iface 22 u) 20 22 true) w = .ok (.tuple #[u, .bool true]) w := by kernel_rfl
theorem ta_cf (u : Value) (w : World) : Sem.run Tryz.prog (Instr.typeAssert (.iface 48 u) 20 22 true) w = .ok (.tuple #[.float .f64 0, .bool false]) w := by kernel_rfl
theorem ta_sf (u : Value) (w : World) : Sem.run Tryz.prog (Instr.typeAssert (.iface 9 u) 20 22 true) w = .ok (.tuple #[.float .f64 0, .bool false]) w := by kernel_rfl
theorem ta_yf (u : Value) (w : World) : Sem.run Tryz.prog (Instr.typeAssert (.iface 32 u) 20 22 true) w = .ok (.tuple #[.float .f64 0, .bool false]) w := by kernel_rfl
theorem ta_af (u : Value) (w : World) : Sem.run Tryz.prog (Instr.typeAssert (.iface 34 u) 20 22 true) w = .ok (.tuple #[.float .f64 0, .bool false]) w := by kernel_rfl
theorem ta_nc (w : World) : Sem.run Tryz.prog (Instr.typeAssert .nilIface 20 48 true) w = .ok (.tuple #[.complex .f64 0 0, .bool false]) w := by kernel_rfl
theorem ta_bc (u : Value) (w : World) : Sem.run Tryz.prog (Instr.typeAssert (.iface 4 u) 20 48 true) w = .ok (.tuple #[.complex .f64 0 0, .bool false]) w := by kernel_rfl
theorem ta_ic (u : Value) (w : World) : Sem.run Tryz.prog (Instr.typeAssert (.iface 2 u) 20 48 true) w = .ok (.tuple #[.complex .f64 0 0, .bool false]) w := by kernel_rfl
theorem ta_fc (u : Value) (w : World) : Sem.run Tryz.prog (Instr.typeAssert (.iface 22 u) 20 48 true) w = .ok (.tuple #[.complex .f64 0 0, .bool false]) w := by kernel_rfl
theorem ta_cc (u : Value) (w : World) : Sem.run Tryz.prog (Instr.typeAssert (.iface 48 u) 20 48 true) w = .ok (.tuple #[u, .bool true]) w := by kernel_rfl
theorem ta_sc (u : Value) (w : World) : Sem.run Tryz.prog (Instr.typeAssert (.iface 9 u) 20 48 true) w = .ok (.tuple #[.complex .f64 0 0, .bool false]) w := by kernel_rfl
theorem ta_yc (u : Value) (w : World) : Sem.run Tryz.prog (Instr.typeAssert (.iface 32 u) 20 48 true) w = .ok (.tuple #[.complex .f64 0 0, .bool false]) w := by kernel_rfl
theorem ta_ac (u : Value) (w : World) : Sem.run Tryz.prog (Instr.typeAssert (.iface 34 u) 20 48 true) w = .ok (.tuple #[.complex .f64 0 0, .bool false]) w := by kernel_rfl
theorem ta_ns (w : World) : Sem.run Tryz.prog (Instr.typeAssert .nilIface 20 9 true) w = .ok (.tuple #[.string ⟨#[]⟩, .bool false]) w := by kernel_rfl
theorem ta_bs (u : Value) (w : World) : Sem.run Tryz.prog (Instr.typeAssert (.iface 4 u) 20 9 true) w = .ok (.tuple #[.string ⟨#[]⟩, .bool false]) w := by kernel_rfl
theorem ta_is (u : Value) (w : World) : Sem.run Tryz.prog (Instr.typeAssert (.iface 2 u) 20 9 true) w = .ok (.tuple #[.string ⟨#[]⟩, .bool false]) w := by kernel_rfl
theorem ta_fs (u : Value) (w : World) : Sem.run Tryz.prog (Instr.typeAssert (.iface 22 u) 20 9 true) w = .ok (.tuple #[.string ⟨#[]⟩, .bool false]) w := by kernel_rfl
theorem ta_cs (u : Value) (w : World) : Sem.run Tryz.prog (Instr.typeAssert (.iface 48 u) 20 9 true) w = .ok (.tuple #[.string ⟨#[]⟩, .bool false]) w := by kernel_rfl
theorem ta_ss (u : Value) (w : World) : Sem.run Tryz.prog (Instr.typeAssert (.iface 9 u) 20 9 true) w = .ok (.tuple #[u, .bool true]) w := by kernel_rfl
theorem ta_ys (u : Value) (w : World) : Sem.run Tryz.prog (Instr.typeAssert (.iface 32 u) 20 9 true) w = .ok (.tuple #[.string ⟨#[]⟩, .bool false]) w := by kernel_rfl
theorem ta_as (u : Value) (w : World) : Sem.run Tryz.prog (Instr.typeAssert (.iface 34 u) 20 9 true) w = .ok (.tuple #[.string ⟨#[]⟩, .bool false]) w := by kernel_rfl
theorem ta_ny (w : World) : Sem.run Tryz.prog (Instr.typeAssert .nilIface 20 32 true) w = .ok (.tuple #[.slice none 0 0, .bool false]) w := by kernel_rfl
theorem ta_by (u : Value) (w : World) : Sem.run Tryz.prog (Instr.typeAssert (.iface 4 u) 20 32 true) w = .ok (.tuple #[.slice none 0 0, .bool false]) w := by kernel_rfl
theorem ta_iy (u : Value) (w : World) : Sem.run Tryz.prog (Instr.typeAssert (.iface 2 u) 20 32 true) w = .ok (.tuple #[.slice none 0 0, .bool false]) w := by kernel_rfl
theorem ta_fy (u : Value) (w : World) : Sem.run Tryz.prog (Instr.typeAssert (.iface 22 u) 20 32 true) w = .ok (.tuple #[.slice none 0 0, .bool false]) w := by kernel_rfl
theorem ta_cy (u : Value) (w : World) : Sem.run Tryz.prog (Instr.typeAssert (.iface 48 u) 20 32 true) w = .ok (.tuple #[.slice none 0 0, .bool false]) w := by kernel_rfl
theorem ta_sy (u : Value) (w : World) : Sem.run Tryz.prog (Instr.typeAssert (.iface 9 u) 20 32 true) w = .ok (.tuple #[.slice none 0 0, .bool false]) w := by kernel_rfl
theorem ta_yy (u : Value) (w : World) : Sem.run Tryz.prog (Instr.typeAssert (.iface 32 u) 20 32 true) w = .ok (.tuple #[u, .bool true]) w := by kernel_rfl
theorem ta_ay (u : Value) (w : World) : Sem.run Tryz.prog (Instr.typeAssert (.iface 34 u) 20 32 true) w = .ok (.tuple #[.slice none 0 0, .bool false]) w := by kernel_rfl
theorem ta_na (w : World) : Sem.run Tryz.prog (Instr.typeAssert .nilIface 20 34 true) w = .ok (.tuple #[.slice none 0 0, .bool false]) w := by kernel_rfl
theorem ta_ba (u : Value) (w : World) : Sem.run Tryz.prog (Instr.typeAssert (.iface 4 u) 20 34 true) w = .ok (.tuple #[.slice none 0 0, .bool false]) w := by kernel_rfl
theorem ta_ia (u : Value) (w : World) : Sem.run Tryz.prog (Instr.typeAssert (.iface 2 u) 20 34 true) w = .ok (.tuple #[.slice none 0 0, .bool false]) w := by kernel_rfl
theorem ta_fa (u : Value) (w : World) : Sem.run Tryz.prog (Instr.typeAssert (.iface 22 u) 20 34 true) w = .ok (.tuple #[.slice none 0 0, .bool false]) w := by kernel_rfl
theorem ta_ca (u : Value) (w : World) : Sem.run Tryz.prog (Instr.typeAssert (.iface 48 u) 20 34 true) w = .ok (.tuple #[.slice none 0 0, .bool false]) w := by kernel_rfl
theorem ta_sa (u : Value) (w : World) : Sem.run Tryz.prog (Instr.typeAssert (.iface 9 u) 20 34 true) w = .ok (.tuple #[.slice none 0 0, .bool false]) w := by kernel_rfl
theorem ta_ya (u : Value) (w : World) : Sem.run Tryz.prog (Instr.typeAssert (.iface 32 u) 20 34 true) w = .ok (.tuple #[.slice none 0 0, .bool false]) w := by kernel_rfl
theorem ta_aa (u : Value) (w : World) : Sem.run Tryz.prog (Instr.typeAssert (.iface 34 u) 20 34 true) w = .ok (.tuple #[u, .bool true]) w := by kernel_rfl
end Go.Proofs.YtbbpngoffpegbaaGreatDoor
