/- The seat's table: of each type its kind, size and zero, held against the program by the kernel. Conditions: none. -/
import Derived.Test.YtkookaogdkdegaaDoorProg
import Derived.Test.YtkookaogdkdegaaDoorHLOps
namespace Go.HL
open Go Go.Proofs
set_option maxRecDepth 100000
def tyL : List (Nat × TyI) := [(2, ⟨2, 3, 0, 1, 8⟩),
  (3, ⟨2, 3, 0, 1, 8⟩),
  (4, ⟨1, 0, 0, 1, 1⟩),
  (5, ⟨2, 4, 0, 1, 1⟩),
  (9, ⟨3, 0, 0, 1, 16⟩),
  (12, ⟨2, 7, 0, 1, 8⟩),
  (13, ⟨7, 2, 0, 2, 24⟩),
  (20, ⟨9, 0, 0, 1, 16⟩),
  (21, ⟨2, 2, 0, 1, 4⟩),
  (22, ⟨5, 3, 0, 1, 24⟩),
  (24, ⟨9, 1, 0, 1, 16⟩),
  (25, ⟨9, 1, 0, 1, 16⟩),
  (31, ⟨5, 43, 0, 1, 24⟩),
  (32, ⟨4, 102, 0, 1, 8⟩),
  (35, ⟨4, 107, 0, 1, 8⟩),
  (38, ⟨5, 41, 0, 1, 24⟩),
  (40, ⟨7, 3, 0, 3, 24⟩),
  (41, ⟨7, 3, 0, 3, 24⟩),
  (42, ⟨7, 4, 0, 6, 48⟩),
  (43, ⟨7, 4, 0, 6, 48⟩),
  (49, ⟨5, 25, 0, 1, 24⟩),
  (52, ⟨4, 54, 0, 1, 8⟩),
  (53, ⟨7, 2, 0, 2, 24⟩),
  (54, ⟨7, 2, 0, 2, 24⟩),
  (57, ⟨5, 64, 0, 1, 24⟩),
  (59, ⟨4, 120, 0, 1, 8⟩),
  (63, ⟨7, 7, 0, 9, 72⟩),
  (64, ⟨7, 7, 0, 9, 72⟩),
  (73, ⟨5, 79, 0, 1, 24⟩),
  (74, ⟨4, 129, 0, 1, 8⟩),
  (77, ⟨5, 4, 0, 1, 24⟩),
  (78, ⟨7, 4, 0, 12, 104⟩),
  (79, ⟨7, 4, 0, 12, 104⟩),
  (84, ⟨5, 91, 0, 1, 24⟩),
  (85, ⟨5, 5, 0, 1, 24⟩),
  (87, ⟨4, 89, 0, 1, 8⟩),
  (88, ⟨7, 4, 0, 4, 40⟩),
  (89, ⟨7, 4, 0, 4, 40⟩),
  (90, ⟨7, 4, 0, 4, 48⟩),
  (91, ⟨7, 4, 0, 4, 48⟩),
  (101, ⟨7, 3, 0, 3, 40⟩),
  (102, ⟨7, 3, 0, 3, 40⟩),
  (103, ⟨7, 2, 0, 4, 32⟩),
  (104, ⟨7, 2, 0, 4, 32⟩),
  (105, ⟨6, 6, 104, 24, 192⟩),
  (106, ⟨7, 3, 0, 26, 208⟩),
  (107, ⟨7, 3, 0, 26, 208⟩),
  (111, ⟨4, 52, 0, 1, 8⟩),
  (113, ⟨4, 115, 0, 1, 8⟩),
  (114, ⟨7, 1, 0, 1, 16⟩),
  (115, ⟨7, 1, 0, 1, 16⟩),
  (118, ⟨6, 7, 41, 21, 168⟩),
  (119, ⟨7, 10, 0, 30, 264⟩),
  (120, ⟨7, 10, 0, 30, 264⟩),
  (127, ⟨8, 3, 4, 1, 8⟩),
  (128, ⟨7, 3, 0, 3, 24⟩),
  (129, ⟨7, 3, 0, 3, 24⟩),
  (136, ⟨2, 7, 0, 1, 8⟩),
  (156, ⟨6, 3, 3, 3, 24⟩),
  (157, ⟨5, 156, 0, 1, 24⟩),
  (160, ⟨2, 6, 0, 1, 4⟩),
  (162, ⟨2, 7, 0, 1, 8⟩),
  (169, ⟨9, 1, 0, 1, 16⟩),
  (172, ⟨9, 1, 0, 1, 16⟩),
  (174, ⟨9, 1, 0, 1, 16⟩),
  (176, ⟨9, 1, 0, 1, 16⟩),
  (188, ⟨4, 5, 0, 1, 8⟩),
  (199, ⟨2, 5, 0, 1, 2⟩),
  (206, ⟨4, 25, 0, 1, 8⟩)]
def flL : List (Nat × Nat × Nat) := [(832, 0, 9), (833, 1, 12), (2560, 0, 3), (2561, 1, 3), (2562, 2, 3), (2624, 0, 3), (2625, 1, 3), (2626, 2, 3), (2688, 0, 3), (2689, 1, 41), (2690, 4, 3), (2691, 5, 4), (2752, 0, 3), (2753, 1, 41), (2754, 4, 3), (2755, 5, 4), (3392, 0, 3), (3393, 1, 25), (3456, 0, 3), (3457, 1, 25), (4032, 0, 3), (4033, 1, 3), (4034, 2, 3), (4035, 3, 3), (4036, 4, 3), (4037, 5, 4), (4038, 6, 41), (4096, 0, 3), (4097, 1, 3), (4098, 2, 3), (4099, 3, 3), (4100, 4, 3), (4101, 5, 4), (4102, 6, 41), (4992, 0, 9), (4993, 1, 64), (4994, 10, 3), (4995, 11, 3), (5056, 0, 9), (5057, 1, 64), (5058, 10, 3), (5059, 11, 3), (5632, 0, 9), (5633, 1, 4), (5634, 2, 3), (5635, 3, 4), (5696, 0, 9), (5697, 1, 4), (5698, 2, 3), (5699, 3, 4), (5760, 0, 9), (5761, 1, 9), (5762, 2, 3), (5763, 3, 3), (5824, 0, 9), (5825, 1, 9), (5826, 2, 3), (5827, 3, 3), (6464, 0, 85), (6465, 1, 4), (6466, 2, 3), (6528, 0, 85), (6529, 1, 4), (6530, 2, 3), (6592, 0, 3), (6593, 1, 41), (6656, 0, 3), (6657, 1, 41), (6784, 0, 32), (6785, 1, 105), (6786, 25, 4), (6848, 0, 32), (6849, 1, 105), (6850, 25, 4), (7296, 0, 9), (7360, 0, 9), (7616, 0, 3), (7617, 1, 3), (7618, 2, 3), (7619, 3, 22), (7620, 4, 9), (7621, 5, 3), (7622, 6, 3), (7623, 7, 118), (7624, 28, 3), (7625, 29, 3), (7680, 0, 3), (7681, 1, 3), (7682, 2, 3), (7683, 3, 22), (7684, 4, 9), (7685, 5, 3), (7686, 6, 3), (7687, 7, 118), (7688, 28, 3), (7689, 29, 3), (8192, 0, 35), (8193, 1, 3), (8194, 2, 127), (8256, 0, 35), (8257, 1, 3), (8258, 2, 127)]
def zrL : List (Nat × Value) := [(2, .int .i64 0),
  (3, .int .i64 0),
  (4, .bool false),
  (5, .int .u8 0),
  (9, .string ⟨⟨[]⟩⟩),
  (12, .int .u64 0),
  (13, .agg ⟨[.string ⟨⟨[]⟩⟩, .int .u64 0]⟩),
  (20, .nilIface),
  (21, .int .i32 0),
  (22, .slice none 0 0),
  (24, .nilIface),
  (25, .nilIface),
  (31, .slice none 0 0),
  (32, .pointer none),
  (35, .pointer none),
  (38, .slice none 0 0),
  (40, .agg ⟨[.int .i64 0, .int .i64 0, .int .i64 0]⟩),
  (41, .agg ⟨[.int .i64 0, .int .i64 0, .int .i64 0]⟩),
  (42, .agg ⟨[.int .i64 0, .int .i64 0, .int .i64 0, .int .i64 0, .int .i64 0, .bool false]⟩),
  (43, .agg ⟨[.int .i64 0, .int .i64 0, .int .i64 0, .int .i64 0, .int .i64 0, .bool false]⟩),
  (49, .slice none 0 0),
  (52, .pointer none),
  (53, .agg ⟨[.int .i64 0, .nilIface]⟩),
  (54, .agg ⟨[.int .i64 0, .nilIface]⟩),
  (57, .slice none 0 0),
  (59, .pointer none),
  (63, .agg ⟨[.int .i64 0, .int .i64 0, .int .i64 0, .int .i64 0, .int .i64 0, .bool false, .int .i64 0, .int .i64 0, .int .i64 0]⟩),
  (64, .agg ⟨[.int .i64 0, .int .i64 0, .int .i64 0, .int .i64 0, .int .i64 0, .bool false, .int .i64 0, .int .i64 0, .int .i64 0]⟩),
  (73, .slice none 0 0),
  (74, .pointer none),
  (77, .slice none 0 0),
  (78, .agg ⟨[.string ⟨⟨[]⟩⟩, .int .i64 0, .int .i64 0, .int .i64 0, .int .i64 0, .int .i64 0, .bool false, .int .i64 0, .int .i64 0, .int .i64 0, .int .i64 0, .int .i64 0]⟩),
  (79, .agg ⟨[.string ⟨⟨[]⟩⟩, .int .i64 0, .int .i64 0, .int .i64 0, .int .i64 0, .int .i64 0, .bool false, .int .i64 0, .int .i64 0, .int .i64 0, .int .i64 0, .int .i64 0]⟩),
  (84, .slice none 0 0),
  (85, .slice none 0 0),
  (87, .pointer none),
  (88, .agg ⟨[.string ⟨⟨[]⟩⟩, .bool false, .int .i64 0, .bool false]⟩),
  (89, .agg ⟨[.string ⟨⟨[]⟩⟩, .bool false, .int .i64 0, .bool false]⟩),
  (90, .agg ⟨[.string ⟨⟨[]⟩⟩, .string ⟨⟨[]⟩⟩, .int .i64 0, .int .i64 0]⟩),
  (91, .agg ⟨[.string ⟨⟨[]⟩⟩, .string ⟨⟨[]⟩⟩, .int .i64 0, .int .i64 0]⟩),
  (101, .agg ⟨[.slice none 0 0, .bool false, .int .i64 0]⟩),
  (102, .agg ⟨[.slice none 0 0, .bool false, .int .i64 0]⟩),
  (103, .agg ⟨[.int .i64 0, .int .i64 0, .int .i64 0, .int .i64 0]⟩),
  (104, .agg ⟨[.int .i64 0, .int .i64 0, .int .i64 0, .int .i64 0]⟩),
  (105, .agg ⟨[.int .i64 0, .int .i64 0, .int .i64 0, .int .i64 0, .int .i64 0, .int .i64 0, .int .i64 0, .int .i64 0, .int .i64 0, .int .i64 0, .int .i64 0, .int .i64 0, .int .i64 0, .int .i64 0, .int .i64 0, .int .i64 0, .int .i64 0, .int .i64 0, .int .i64 0, .int .i64 0, .int .i64 0, .int .i64 0, .int .i64 0, .int .i64 0]⟩),
  (106, .agg ⟨[.pointer none, .int .i64 0, .int .i64 0, .int .i64 0, .int .i64 0, .int .i64 0, .int .i64 0, .int .i64 0, .int .i64 0, .int .i64 0, .int .i64 0, .int .i64 0, .int .i64 0, .int .i64 0, .int .i64 0, .int .i64 0, .int .i64 0, .int .i64 0, .int .i64 0, .int .i64 0, .int .i64 0, .int .i64 0, .int .i64 0, .int .i64 0, .int .i64 0, .bool false]⟩),
  (107, .agg ⟨[.pointer none, .int .i64 0, .int .i64 0, .int .i64 0, .int .i64 0, .int .i64 0, .int .i64 0, .int .i64 0, .int .i64 0, .int .i64 0, .int .i64 0, .int .i64 0, .int .i64 0, .int .i64 0, .int .i64 0, .int .i64 0, .int .i64 0, .int .i64 0, .int .i64 0, .int .i64 0, .int .i64 0, .int .i64 0, .int .i64 0, .int .i64 0, .int .i64 0, .bool false]⟩),
  (111, .pointer none),
  (113, .pointer none),
  (114, .agg ⟨[.string ⟨⟨[]⟩⟩]⟩),
  (115, .agg ⟨[.string ⟨⟨[]⟩⟩]⟩),
  (118, .agg ⟨[.int .i64 0, .int .i64 0, .int .i64 0, .int .i64 0, .int .i64 0, .int .i64 0, .int .i64 0, .int .i64 0, .int .i64 0, .int .i64 0, .int .i64 0, .int .i64 0, .int .i64 0, .int .i64 0, .int .i64 0, .int .i64 0, .int .i64 0, .int .i64 0, .int .i64 0, .int .i64 0, .int .i64 0]⟩),
  (119, .agg ⟨[.int .i64 0, .int .i64 0, .int .i64 0, .slice none 0 0, .string ⟨⟨[]⟩⟩, .int .i64 0, .int .i64 0, .int .i64 0, .int .i64 0, .int .i64 0, .int .i64 0, .int .i64 0, .int .i64 0, .int .i64 0, .int .i64 0, .int .i64 0, .int .i64 0, .int .i64 0, .int .i64 0, .int .i64 0, .int .i64 0, .int .i64 0, .int .i64 0, .int .i64 0, .int .i64 0, .int .i64 0, .int .i64 0, .int .i64 0, .int .i64 0, .int .i64 0]⟩),
  (120, .agg ⟨[.int .i64 0, .int .i64 0, .int .i64 0, .slice none 0 0, .string ⟨⟨[]⟩⟩, .int .i64 0, .int .i64 0, .int .i64 0, .int .i64 0, .int .i64 0, .int .i64 0, .int .i64 0, .int .i64 0, .int .i64 0, .int .i64 0, .int .i64 0, .int .i64 0, .int .i64 0, .int .i64 0, .int .i64 0, .int .i64 0, .int .i64 0, .int .i64 0, .int .i64 0, .int .i64 0, .int .i64 0, .int .i64 0, .int .i64 0, .int .i64 0, .int .i64 0]⟩),
  (127, .map none),
  (128, .agg ⟨[.pointer none, .int .i64 0, .map none]⟩),
  (129, .agg ⟨[.pointer none, .int .i64 0, .map none]⟩),
  (136, .int .u64 0),
  (156, .agg ⟨[.int .i64 0, .int .i64 0, .int .i64 0]⟩),
  (157, .slice none 0 0),
  (160, .int .u32 0),
  (162, .int .u64 0),
  (169, .nilIface),
  (172, .nilIface),
  (174, .nilIface),
  (176, .nilIface),
  (188, .pointer none),
  (199, .int .u16 0),
  (206, .pointer none)]
def stL : List (Nat × List (Nat × Nat × Nat)) := [(13, [(0, 1, 9), (1, 1, 12)]), (40, [(0, 1, 3), (1, 1, 3), (2, 1, 3)]), (41, [(0, 1, 3), (1, 1, 3), (2, 1, 3)]), (42, [(0, 1, 3), (1, 3, 41), (4, 1, 3), (5, 1, 4)]), (43, [(0, 1, 3), (1, 3, 41), (4, 1, 3), (5, 1, 4)]), (53, [(0, 1, 3), (1, 1, 25)]), (54, [(0, 1, 3), (1, 1, 25)]), (63, [(0, 1, 3), (1, 1, 3), (2, 1, 3), (3, 1, 3), (4, 1, 3), (5, 1, 4), (6, 3, 41)]), (64, [(0, 1, 3), (1, 1, 3), (2, 1, 3), (3, 1, 3), (4, 1, 3), (5, 1, 4), (6, 3, 41)]), (78, [(0, 1, 9), (1, 9, 64), (10, 1, 3), (11, 1, 3)]), (79, [(0, 1, 9), (1, 9, 64), (10, 1, 3), (11, 1, 3)]), (88, [(0, 1, 9), (1, 1, 4), (2, 1, 3), (3, 1, 4)]), (89, [(0, 1, 9), (1, 1, 4), (2, 1, 3), (3, 1, 4)]), (90, [(0, 1, 9), (1, 1, 9), (2, 1, 3), (3, 1, 3)]), (91, [(0, 1, 9), (1, 1, 9), (2, 1, 3), (3, 1, 3)]), (101, [(0, 1, 85), (1, 1, 4), (2, 1, 3)]), (102, [(0, 1, 85), (1, 1, 4), (2, 1, 3)]), (103, [(0, 1, 3), (1, 3, 41)]), (104, [(0, 1, 3), (1, 3, 41)]), (106, [(0, 1, 32), (1, 24, 105), (25, 1, 4)]), (107, [(0, 1, 32), (1, 24, 105), (25, 1, 4)]), (114, [(0, 1, 9)]), (115, [(0, 1, 9)]), (119, [(0, 1, 3), (1, 1, 3), (2, 1, 3), (3, 1, 22), (4, 1, 9), (5, 1, 3), (6, 1, 3), (7, 21, 118), (28, 1, 3), (29, 1, 3)]), (120, [(0, 1, 3), (1, 1, 3), (2, 1, 3), (3, 1, 22), (4, 1, 9), (5, 1, 3), (6, 1, 3), (7, 21, 118), (28, 1, 3), (29, 1, 3)]), (128, [(0, 1, 35), (1, 1, 3), (2, 1, 127)]), (129, [(0, 1, 35), (1, 1, 3), (2, 1, 127)])]
def eqL : List (Nat × List Nat) := [(41, [2, 2, 2]), (64, [2, 2, 2, 2, 2, 1, 2, 2, 2]), (104, [2, 2, 2, 2]), (156, [2, 2, 2])]
theorem stL_ok : (stL.all fun p => decide (stI Tryd.prog p.1 = some p.2)) = true := by kernel_rfl
theorem tyL_ok : (tyL.all fun p => decide (tyI Tryd.prog p.1 = some p.2)) = true := by kernel_rfl
theorem flL_ok : (flL.all fun p => decide (fldI Tryd.prog (p.1 / 64) (p.1 % 64) = some p.2.1) && decide (fldT Tryd.prog (p.1 / 64) (p.1 % 64) = some p.2)) = true := by kernel_rfl
theorem zr2 : zeroI Tryd.prog 2 = some (.int .i64 0) := by kernel_rfl
theorem zr3 : zeroI Tryd.prog 3 = some (.int .i64 0) := by kernel_rfl
theorem zr4 : zeroI Tryd.prog 4 = some (.bool false) := by kernel_rfl
theorem zr5 : zeroI Tryd.prog 5 = some (.int .u8 0) := by kernel_rfl
theorem zr9 : zeroI Tryd.prog 9 = some (.string ⟨⟨[]⟩⟩) := by kernel_rfl
theorem zr12 : zeroI Tryd.prog 12 = some (.int .u64 0) := by kernel_rfl
theorem zr13 : zeroI Tryd.prog 13 = some (.agg ⟨[.string ⟨⟨[]⟩⟩, .int .u64 0]⟩) := by kernel_rfl
theorem zr20 : zeroI Tryd.prog 20 = some (.nilIface) := by kernel_rfl
theorem zr21 : zeroI Tryd.prog 21 = some (.int .i32 0) := by kernel_rfl
theorem zr22 : zeroI Tryd.prog 22 = some (.slice none 0 0) := by kernel_rfl
theorem zr24 : zeroI Tryd.prog 24 = some (.nilIface) := by kernel_rfl
theorem zr25 : zeroI Tryd.prog 25 = some (.nilIface) := by kernel_rfl
theorem zr31 : zeroI Tryd.prog 31 = some (.slice none 0 0) := by kernel_rfl
theorem zr32 : zeroI Tryd.prog 32 = some (.pointer none) := by kernel_rfl
theorem zr35 : zeroI Tryd.prog 35 = some (.pointer none) := by kernel_rfl
theorem zr38 : zeroI Tryd.prog 38 = some (.slice none 0 0) := by kernel_rfl
theorem zr40 : zeroI Tryd.prog 40 = some (.agg ⟨[.int .i64 0, .int .i64 0, .int .i64 0]⟩) := by kernel_rfl
theorem zr41 : zeroI Tryd.prog 41 = some (.agg ⟨[.int .i64 0, .int .i64 0, .int .i64 0]⟩) := by kernel_rfl
theorem zr42 : zeroI Tryd.prog 42 = some (.agg ⟨[.int .i64 0, .int .i64 0, .int .i64 0, .int .i64 0, .int .i64 0, .bool false]⟩) := by kernel_rfl
theorem zr43 : zeroI Tryd.prog 43 = some (.agg ⟨[.int .i64 0, .int .i64 0, .int .i64 0, .int .i64 0, .int .i64 0, .bool false]⟩) := by kernel_rfl
theorem zr49 : zeroI Tryd.prog 49 = some (.slice none 0 0) := by kernel_rfl
theorem zr52 : zeroI Tryd.prog 52 = some (.pointer none) := by kernel_rfl
theorem zr53 : zeroI Tryd.prog 53 = some (.agg ⟨[.int .i64 0, .nilIface]⟩) := by kernel_rfl
theorem zr54 : zeroI Tryd.prog 54 = some (.agg ⟨[.int .i64 0, .nilIface]⟩) := by kernel_rfl
theorem zr57 : zeroI Tryd.prog 57 = some (.slice none 0 0) := by kernel_rfl
theorem zr59 : zeroI Tryd.prog 59 = some (.pointer none) := by kernel_rfl
theorem zr63 : zeroI Tryd.prog 63 = some (.agg ⟨[.int .i64 0, .int .i64 0, .int .i64 0, .int .i64 0, .int .i64 0, .bool false, .int .i64 0, .int .i64 0, .int .i64 0]⟩) := by kernel_rfl
theorem zr64 : zeroI Tryd.prog 64 = some (.agg ⟨[.int .i64 0, .int .i64 0, .int .i64 0, .int .i64 0, .int .i64 0, .bool false, .int .i64 0, .int .i64 0, .int .i64 0]⟩) := by kernel_rfl
theorem zr73 : zeroI Tryd.prog 73 = some (.slice none 0 0) := by kernel_rfl
theorem zr74 : zeroI Tryd.prog 74 = some (.pointer none) := by kernel_rfl
theorem zr77 : zeroI Tryd.prog 77 = some (.slice none 0 0) := by kernel_rfl
theorem zr78 : zeroI Tryd.prog 78 = some (.agg ⟨[.string ⟨⟨[]⟩⟩, .int .i64 0, .int .i64 0, .int .i64 0, .int .i64 0, .int .i64 0, .bool false, .int .i64 0, .int .i64 0, .int .i64 0, .int .i64 0, .int .i64 0]⟩) := by kernel_rfl
theorem zr79 : zeroI Tryd.prog 79 = some (.agg ⟨[.string ⟨⟨[]⟩⟩, .int .i64 0, .int .i64 0, .int .i64 0, .int .i64 0, .int .i64 0, .bool false, .int .i64 0, .int .i64 0, .int .i64 0, .int .i64 0, .int .i64 0]⟩) := by kernel_rfl
theorem zr84 : zeroI Tryd.prog 84 = some (.slice none 0 0) := by kernel_rfl
theorem zr85 : zeroI Tryd.prog 85 = some (.slice none 0 0) := by kernel_rfl
theorem zr87 : zeroI Tryd.prog 87 = some (.pointer none) := by kernel_rfl
theorem zr88 : zeroI Tryd.prog 88 = some (.agg ⟨[.string ⟨⟨[]⟩⟩, .bool false, .int .i64 0, .bool false]⟩) := by kernel_rfl
theorem zr89 : zeroI Tryd.prog 89 = some (.agg ⟨[.string ⟨⟨[]⟩⟩, .bool false, .int .i64 0, .bool false]⟩) := by kernel_rfl
theorem zr90 : zeroI Tryd.prog 90 = some (.agg ⟨[.string ⟨⟨[]⟩⟩, .string ⟨⟨[]⟩⟩, .int .i64 0, .int .i64 0]⟩) := by kernel_rfl
theorem zr91 : zeroI Tryd.prog 91 = some (.agg ⟨[.string ⟨⟨[]⟩⟩, .string ⟨⟨[]⟩⟩, .int .i64 0, .int .i64 0]⟩) := by kernel_rfl
theorem zr101 : zeroI Tryd.prog 101 = some (.agg ⟨[.slice none 0 0, .bool false, .int .i64 0]⟩) := by kernel_rfl
theorem zr102 : zeroI Tryd.prog 102 = some (.agg ⟨[.slice none 0 0, .bool false, .int .i64 0]⟩) := by kernel_rfl
theorem zr103 : zeroI Tryd.prog 103 = some (.agg ⟨[.int .i64 0, .int .i64 0, .int .i64 0, .int .i64 0]⟩) := by kernel_rfl
theorem zr104 : zeroI Tryd.prog 104 = some (.agg ⟨[.int .i64 0, .int .i64 0, .int .i64 0, .int .i64 0]⟩) := by kernel_rfl
theorem zr105 : zeroI Tryd.prog 105 = some (.agg ⟨[.int .i64 0, .int .i64 0, .int .i64 0, .int .i64 0, .int .i64 0, .int .i64 0, .int .i64 0, .int .i64 0, .int .i64 0, .int .i64 0, .int .i64 0, .int .i64 0, .int .i64 0, .int .i64 0, .int .i64 0, .int .i64 0, .int .i64 0, .int .i64 0, .int .i64 0, .int .i64 0, .int .i64 0, .int .i64 0, .int .i64 0, .int .i64 0]⟩) := by kernel_rfl
theorem zr106 : zeroI Tryd.prog 106 = some (.agg ⟨[.pointer none, .int .i64 0, .int .i64 0, .int .i64 0, .int .i64 0, .int .i64 0, .int .i64 0, .int .i64 0, .int .i64 0, .int .i64 0, .int .i64 0, .int .i64 0, .int .i64 0, .int .i64 0, .int .i64 0, .int .i64 0, .int .i64 0, .int .i64 0, .int .i64 0, .int .i64 0, .int .i64 0, .int .i64 0, .int .i64 0, .int .i64 0, .int .i64 0, .bool false]⟩) := by kernel_rfl
theorem zr107 : zeroI Tryd.prog 107 = some (.agg ⟨[.pointer none, .int .i64 0, .int .i64 0, .int .i64 0, .int .i64 0, .int .i64 0, .int .i64 0, .int .i64 0, .int .i64 0, .int .i64 0, .int .i64 0, .int .i64 0, .int .i64 0, .int .i64 0, .int .i64 0, .int .i64 0, .int .i64 0, .int .i64 0, .int .i64 0, .int .i64 0, .int .i64 0, .int .i64 0, .int .i64 0, .int .i64 0, .int .i64 0, .bool false]⟩) := by kernel_rfl
theorem zr111 : zeroI Tryd.prog 111 = some (.pointer none) := by kernel_rfl
theorem zr113 : zeroI Tryd.prog 113 = some (.pointer none) := by kernel_rfl
theorem zr114 : zeroI Tryd.prog 114 = some (.agg ⟨[.string ⟨⟨[]⟩⟩]⟩) := by kernel_rfl
theorem zr115 : zeroI Tryd.prog 115 = some (.agg ⟨[.string ⟨⟨[]⟩⟩]⟩) := by kernel_rfl
theorem zr118 : zeroI Tryd.prog 118 = some (.agg ⟨[.int .i64 0, .int .i64 0, .int .i64 0, .int .i64 0, .int .i64 0, .int .i64 0, .int .i64 0, .int .i64 0, .int .i64 0, .int .i64 0, .int .i64 0, .int .i64 0, .int .i64 0, .int .i64 0, .int .i64 0, .int .i64 0, .int .i64 0, .int .i64 0, .int .i64 0, .int .i64 0, .int .i64 0]⟩) := by kernel_rfl
theorem zr119 : zeroI Tryd.prog 119 = some (.agg ⟨[.int .i64 0, .int .i64 0, .int .i64 0, .slice none 0 0, .string ⟨⟨[]⟩⟩, .int .i64 0, .int .i64 0, .int .i64 0, .int .i64 0, .int .i64 0, .int .i64 0, .int .i64 0, .int .i64 0, .int .i64 0, .int .i64 0, .int .i64 0, .int .i64 0, .int .i64 0, .int .i64 0, .int .i64 0, .int .i64 0, .int .i64 0, .int .i64 0, .int .i64 0, .int .i64 0, .int .i64 0, .int .i64 0, .int .i64 0, .int .i64 0, .int .i64 0]⟩) := by kernel_rfl
theorem zr120 : zeroI Tryd.prog 120 = some (.agg ⟨[.int .i64 0, .int .i64 0, .int .i64 0, .slice none 0 0, .string ⟨⟨[]⟩⟩, .int .i64 0, .int .i64 0, .int .i64 0, .int .i64 0, .int .i64 0, .int .i64 0, .int .i64 0, .int .i64 0, .int .i64 0, .int .i64 0, .int .i64 0, .int .i64 0, .int .i64 0, .int .i64 0, .int .i64 0, .int .i64 0, .int .i64 0, .int .i64 0, .int .i64 0, .int .i64 0, .int .i64 0, .int .i64 0, .int .i64 0, .int .i64 0, .int .i64 0]⟩) := by kernel_rfl
theorem zr127 : zeroI Tryd.prog 127 = some (.map none) := by kernel_rfl
theorem zr128 : zeroI Tryd.prog 128 = some (.agg ⟨[.pointer none, .int .i64 0, .map none]⟩) := by kernel_rfl
theorem zr129 : zeroI Tryd.prog 129 = some (.agg ⟨[.pointer none, .int .i64 0, .map none]⟩) := by kernel_rfl
theorem zr136 : zeroI Tryd.prog 136 = some (.int .u64 0) := by kernel_rfl
theorem zr156 : zeroI Tryd.prog 156 = some (.agg ⟨[.int .i64 0, .int .i64 0, .int .i64 0]⟩) := by kernel_rfl
theorem zr157 : zeroI Tryd.prog 157 = some (.slice none 0 0) := by kernel_rfl
theorem zr160 : zeroI Tryd.prog 160 = some (.int .u32 0) := by kernel_rfl
theorem zr162 : zeroI Tryd.prog 162 = some (.int .u64 0) := by kernel_rfl
theorem zr169 : zeroI Tryd.prog 169 = some (.nilIface) := by kernel_rfl
theorem zr172 : zeroI Tryd.prog 172 = some (.nilIface) := by kernel_rfl
theorem zr174 : zeroI Tryd.prog 174 = some (.nilIface) := by kernel_rfl
theorem zr176 : zeroI Tryd.prog 176 = some (.nilIface) := by kernel_rfl
theorem zr188 : zeroI Tryd.prog 188 = some (.pointer none) := by kernel_rfl
theorem zr199 : zeroI Tryd.prog 199 = some (.int .u16 0) := by kernel_rfl
theorem zr206 : zeroI Tryd.prog 206 = some (.pointer none) := by kernel_rfl
theorem zrL_ok : ∀ p ∈ zrL, zeroI Tryd.prog p.1 = some p.2 := by
  intro p hp
  simp only [zrL, List.mem_cons, List.not_mem_nil, or_false] at hp
  rcases hp with rfl | rfl | rfl | rfl | rfl | rfl | rfl | rfl | rfl | rfl | rfl | rfl | rfl | rfl | rfl | rfl | rfl | rfl | rfl | rfl | rfl | rfl | rfl | rfl | rfl | rfl | rfl | rfl | rfl | rfl | rfl | rfl | rfl | rfl | rfl | rfl | rfl | rfl | rfl | rfl | rfl | rfl | rfl | rfl | rfl | rfl | rfl | rfl | rfl | rfl | rfl | rfl | rfl | rfl | rfl | rfl | rfl | rfl | rfl | rfl | rfl | rfl | rfl | rfl | rfl | rfl | rfl | rfl | rfl
  · exact zr2
  · exact zr3
  · exact zr4
  · exact zr5
  · exact zr9
  · exact zr12
  · exact zr13
  · exact zr20
  · exact zr21
  · exact zr22
  · exact zr24
  · exact zr25
  · exact zr31
  · exact zr32
  · exact zr35
  · exact zr38
  · exact zr40
  · exact zr41
  · exact zr42
  · exact zr43
  · exact zr49
  · exact zr52
  · exact zr53
  · exact zr54
  · exact zr57
  · exact zr59
  · exact zr63
  · exact zr64
  · exact zr73
  · exact zr74
  · exact zr77
  · exact zr78
  · exact zr79
  · exact zr84
  · exact zr85
  · exact zr87
  · exact zr88
  · exact zr89
  · exact zr90
  · exact zr91
  · exact zr101
  · exact zr102
  · exact zr103
  · exact zr104
  · exact zr105
  · exact zr106
  · exact zr107
  · exact zr111
  · exact zr113
  · exact zr114
  · exact zr115
  · exact zr118
  · exact zr119
  · exact zr120
  · exact zr127
  · exact zr128
  · exact zr129
  · exact zr136
  · exact zr156
  · exact zr157
  · exact zr160
  · exact zr162
  · exact zr169
  · exact zr172
  · exact zr174
  · exact zr176
  · exact zr188
  · exact zr199
  · exact zr206
theorem eqL_ok : (eqL.all fun p => decide (flatT Tryd.prog 8 p.1 = some p.2) && isA Tryd.prog p.1 && !(Tryd.prog.eqGuardType Tryd.prog.depth p.1)) = true := by kernel_rfl
def errTab : List (Nat × Nat) := [(0, 1), (1, 2), (2, 3), (3, 4), (4, 5), (5, 6), (6, 7), (7, 8), (8, 9)]
def S : Tab Tryd.prog := ⟨tyL, flL, zrL, stL, eqL, tyL_ok, flL_ok, zrL_ok, stL_ok, eqL_ok, by kernel_rfl⟩
end Go.HL
