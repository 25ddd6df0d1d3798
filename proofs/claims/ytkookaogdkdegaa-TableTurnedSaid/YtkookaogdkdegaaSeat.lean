/- The seat's table: of each type its kind, size and zero, held against the program by the kernel. Conditions: none. -/
import Derived.Test.YtkookaogdkdegaaProg
import Derived.Test.YtkookaogdkdegaaHLTop
namespace Go.HL
open Go Go.Proofs
set_option maxRecDepth 100000
def tyL : List (Nat × TyI) := [(2, ⟨2, 3, 0, 1, 8⟩),
  (3, ⟨2, 3, 0, 1, 8⟩),
  (4, ⟨1, 0, 0, 1, 1⟩),
  (5, ⟨2, 4, 0, 1, 1⟩),
  (9, ⟨3, 0, 0, 1, 16⟩),
  (12, ⟨2, 7, 0, 1, 8⟩),
  (13, ⟨7, 2, 0, 2, 24⟩),
  (20, ⟨9, 0, 0, 1, 16⟩),
  (21, ⟨2, 2, 0, 1, 4⟩),
  (22, ⟨5, 33, 0, 1, 24⟩),
  (32, ⟨7, 3, 0, 3, 24⟩),
  (33, ⟨7, 3, 0, 3, 24⟩),
  (36, ⟨5, 3, 0, 1, 24⟩),
  (46, ⟨2, 6, 0, 1, 4⟩),
  (50, ⟨4, 5, 0, 1, 8⟩)]
def flL : List (Nat × Nat × Nat) := [(832, 0, 9), (833, 1, 12), (2048, 0, 3), (2049, 1, 3), (2050, 2, 3), (2112, 0, 3), (2113, 1, 3), (2114, 2, 3)]
def zrL : List (Nat × Value) := [(2, .int .i64 0),
  (3, .int .i64 0),
  (4, .bool false),
  (5, .int .u8 0),
  (9, .string ⟨⟨[]⟩⟩),
  (12, .int .u64 0),
  (13, .agg ⟨[.string ⟨⟨[]⟩⟩, .int .u64 0]⟩),
  (20, .nilIface),
  (21, .int .i32 0),
  (22, .slice none 0 0),
  (32, .agg ⟨[.int .i64 0, .int .i64 0, .int .i64 0]⟩),
  (33, .agg ⟨[.int .i64 0, .int .i64 0, .int .i64 0]⟩),
  (36, .slice none 0 0),
  (46, .int .u32 0),
  (50, .pointer none)]
theorem tyL_ok : (tyL.all fun p => decide (tyI Try.prog p.1 = some p.2)) = true := by kernel_rfl
theorem flL_ok : (flL.all fun p => decide (fldI Try.prog (p.1 / 64) (p.1 % 64) = some p.2.1) && decide (fldT Try.prog (p.1 / 64) (p.1 % 64) = some p.2)) = true := by kernel_rfl
theorem zr2 : zeroI Try.prog 2 = some (.int .i64 0) := by kernel_rfl
theorem zr3 : zeroI Try.prog 3 = some (.int .i64 0) := by kernel_rfl
theorem zr4 : zeroI Try.prog 4 = some (.bool false) := by kernel_rfl
theorem zr5 : zeroI Try.prog 5 = some (.int .u8 0) := by kernel_rfl
theorem zr9 : zeroI Try.prog 9 = some (.string ⟨⟨[]⟩⟩) := by kernel_rfl
theorem zr12 : zeroI Try.prog 12 = some (.int .u64 0) := by kernel_rfl
theorem zr13 : zeroI Try.prog 13 = some (.agg ⟨[.string ⟨⟨[]⟩⟩, .int .u64 0]⟩) := by kernel_rfl
theorem zr20 : zeroI Try.prog 20 = some (.nilIface) := by kernel_rfl
theorem zr21 : zeroI Try.prog 21 = some (.int .i32 0) := by kernel_rfl
theorem zr22 : zeroI Try.prog 22 = some (.slice none 0 0) := by kernel_rfl
theorem zr32 : zeroI Try.prog 32 = some (.agg ⟨[.int .i64 0, .int .i64 0, .int .i64 0]⟩) := by kernel_rfl
theorem zr33 : zeroI Try.prog 33 = some (.agg ⟨[.int .i64 0, .int .i64 0, .int .i64 0]⟩) := by kernel_rfl
theorem zr36 : zeroI Try.prog 36 = some (.slice none 0 0) := by kernel_rfl
theorem zr46 : zeroI Try.prog 46 = some (.int .u32 0) := by kernel_rfl
theorem zr50 : zeroI Try.prog 50 = some (.pointer none) := by kernel_rfl
theorem zrL_ok : ∀ p ∈ zrL, zeroI Try.prog p.1 = some p.2 := by
  intro p hp
  simp only [zrL, List.mem_cons, List.not_mem_nil, or_false] at hp
  rcases hp with rfl | rfl | rfl | rfl | rfl | rfl | rfl | rfl | rfl | rfl | rfl | rfl | rfl | rfl | rfl
  · exact zr2
  · exact zr3
  · exact zr4
  · exact zr5
  · exact zr9
  · exact zr12
  · exact zr13
  · exact zr20
  · exact zr21
  · exact zr22
  · exact zr32
  · exact zr33
  · exact zr36
  · exact zr46
  · exact zr50
def S : Tab Try.prog := ⟨tyL, flL, zrL, tyL_ok, flL_ok, zrL_ok, by kernel_rfl⟩
end Go.HL
