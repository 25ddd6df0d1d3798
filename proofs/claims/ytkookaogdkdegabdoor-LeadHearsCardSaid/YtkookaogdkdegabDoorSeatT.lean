/- The seat's table: of each type its kind, size and zero, held against the program by the kernel. Conditions: none. -/
import Derived.Test.YtkookaogdkdegabDoorProg
import Derived.Test.YtkookaogdkdegabDoorHLOps
namespace Go.HL
open Go Go.Proofs
set_option maxRecDepth 100000
def tyL : List (Nat × TyI) := [(2, ⟨2, 3, 0, 1, 8⟩),
  (3, ⟨2, 3, 0, 1, 8⟩),
  (4, ⟨1, 0, 0, 1, 1⟩),
  (5, ⟨2, 4, 0, 1, 1⟩),
  (9, ⟨3, 0, 0, 1, 16⟩),
  (12, ⟨2, 7, 0, 1, 8⟩),
  (13, ⟨7, 2, 0, 2, 24⟩),
  (20, ⟨9, 0, 0, 1, 16⟩),
  (21, ⟨2, 2, 0, 1, 4⟩),
  (22, ⟨5, 27, 0, 1, 24⟩),
  (23, ⟨5, 34, 0, 1, 24⟩),
  (25, ⟨5, 28, 0, 1, 24⟩),
  (26, ⟨7, 3, 0, 3, 24⟩),
  (27, ⟨7, 3, 0, 3, 24⟩),
  (28, ⟨7, 3, 0, 3, 24⟩),
  (29, ⟨7, 2, 0, 2, 16⟩),
  (30, ⟨7, 2, 0, 2, 16⟩),
  (33, ⟨7, 3, 0, 3, 24⟩),
  (34, ⟨7, 3, 0, 3, 24⟩),
  (36, ⟨9, 1, 0, 1, 16⟩),
  (37, ⟨9, 1, 0, 1, 16⟩),
  (44, ⟨7, 7, 0, 9, 72⟩),
  (45, ⟨7, 7, 0, 9, 72⟩),
  (60, ⟨2, 6, 0, 1, 4⟩),
  (61, ⟨5, 5, 0, 1, 24⟩),
  (62, ⟨2, 7, 0, 1, 8⟩),
  (64, ⟨5, 3, 0, 1, 24⟩),
  (79, ⟨5, 87, 0, 1, 24⟩),
  (80, ⟨4, 155, 0, 1, 8⟩),
  (83, ⟨4, 160, 0, 1, 8⟩),
  (86, ⟨7, 4, 0, 6, 48⟩),
  (87, ⟨7, 4, 0, 6, 48⟩),
  (94, ⟨4, 96, 0, 1, 8⟩),
  (95, ⟨7, 4, 0, 4, 40⟩),
  (96, ⟨7, 4, 0, 4, 40⟩),
  (99, ⟨4, 135, 0, 1, 8⟩),
  (104, ⟨5, 45, 0, 1, 24⟩),
  (105, ⟨4, 172, 0, 1, 8⟩),
  (110, ⟨4, 116, 0, 1, 8⟩),
  (115, ⟨7, 9, 0, 9, 112⟩),
  (116, ⟨7, 9, 0, 9, 112⟩),
  (119, ⟨5, 126, 0, 1, 24⟩),
  (120, ⟨4, 183, 0, 1, 8⟩),
  (123, ⟨4, 129, 0, 1, 8⟩),
  (125, ⟨7, 4, 0, 12, 104⟩),
  (126, ⟨7, 4, 0, 12, 104⟩),
  (127, ⟨5, 4, 0, 1, 24⟩),
  (128, ⟨7, 3, 0, 3, 40⟩),
  (129, ⟨7, 3, 0, 3, 40⟩),
  (134, ⟨7, 4, 0, 4, 64⟩),
  (135, ⟨7, 4, 0, 4, 64⟩),
  (137, ⟨5, 9, 0, 1, 24⟩),
  (144, ⟨4, 146, 0, 1, 8⟩),
  (145, ⟨7, 2, 0, 2, 24⟩),
  (146, ⟨7, 2, 0, 2, 24⟩),
  (149, ⟨6, 3, 3, 3, 24⟩),
  (150, ⟨5, 149, 0, 1, 24⟩),
  (154, ⟨7, 3, 0, 3, 40⟩),
  (155, ⟨7, 3, 0, 3, 40⟩),
  (156, ⟨7, 2, 0, 4, 32⟩),
  (157, ⟨7, 2, 0, 4, 32⟩),
  (158, ⟨6, 6, 157, 24, 192⟩),
  (159, ⟨7, 3, 0, 26, 208⟩),
  (160, ⟨7, 3, 0, 26, 208⟩),
  (170, ⟨6, 7, 34, 21, 168⟩),
  (171, ⟨7, 10, 0, 30, 264⟩),
  (172, ⟨7, 10, 0, 30, 264⟩),
  (181, ⟨8, 3, 4, 1, 8⟩),
  (182, ⟨7, 3, 0, 3, 24⟩),
  (183, ⟨7, 3, 0, 3, 24⟩),
  (187, ⟨5, 37, 0, 1, 24⟩),
  (192, ⟨4, 144, 0, 1, 8⟩),
  (196, ⟨2, 7, 0, 1, 8⟩),
  (205, ⟨7, 0, 0, 0, 0⟩),
  (206, ⟨7, 0, 0, 0, 0⟩),
  (207, ⟨7, 0, 0, 0, 0⟩),
  (208, ⟨7, 0, 0, 0, 0⟩),
  (209, ⟨7, 3, 0, 1, 8⟩),
  (210, ⟨7, 3, 0, 1, 8⟩),
  (211, ⟨7, 3, 0, 2, 16⟩),
  (212, ⟨7, 3, 0, 2, 16⟩),
  (214, ⟨7, 3, 0, 11, 96⟩),
  (215, ⟨7, 3, 0, 11, 96⟩),
  (231, ⟨4, 212, 0, 1, 8⟩),
  (238, ⟨4, 60, 0, 1, 8⟩),
  (245, ⟨9, 1, 0, 1, 16⟩),
  (248, ⟨9, 1, 0, 1, 16⟩),
  (250, ⟨9, 1, 0, 1, 16⟩),
  (252, ⟨9, 1, 0, 1, 16⟩),
  (255, ⟨2, 3, 0, 1, 8⟩),
  (261, ⟨4, 210, 0, 1, 8⟩),
  (263, ⟨4, 196, 0, 1, 8⟩),
  (267, ⟨4, 286, 0, 1, 8⟩),
  (276, ⟨4, 5, 0, 1, 8⟩),
  (285, ⟨7, 1, 0, 1, 16⟩),
  (286, ⟨7, 1, 0, 1, 16⟩),
  (289, ⟨2, 5, 0, 1, 2⟩),
  (297, ⟨4, 37, 0, 1, 8⟩)]
def flL : List (Nat × Nat × Nat) := [(832, 0, 9), (833, 1, 12), (1664, 0, 3), (1665, 1, 3), (1666, 2, 3), (1728, 0, 3), (1729, 1, 3), (1730, 2, 3), (1792, 0, 3), (1793, 1, 3), (1794, 2, 3), (1856, 0, 3), (1857, 1, 3), (1920, 0, 3), (1921, 1, 3), (2112, 0, 3), (2113, 1, 3), (2114, 2, 3), (2176, 0, 3), (2177, 1, 3), (2178, 2, 3), (2816, 0, 3), (2817, 1, 3), (2818, 2, 3), (2819, 3, 3), (2820, 4, 3), (2821, 5, 4), (2822, 6, 34), (2880, 0, 3), (2881, 1, 3), (2882, 2, 3), (2883, 3, 3), (2884, 4, 3), (2885, 5, 4), (2886, 6, 34), (5504, 0, 3), (5505, 1, 34), (5506, 4, 3), (5507, 5, 4), (5568, 0, 3), (5569, 1, 34), (5570, 4, 3), (5571, 5, 4), (6080, 0, 9), (6081, 1, 4), (6082, 2, 3), (6083, 3, 4), (6144, 0, 9), (6145, 1, 4), (6146, 2, 3), (6147, 3, 4), (7360, 0, 3), (7361, 1, 3), (7362, 2, 3), (7363, 3, 64), (7364, 4, 9), (7365, 5, 3), (7366, 6, 104), (7367, 7, 3), (7368, 8, 3), (7424, 0, 3), (7425, 1, 3), (7426, 2, 3), (7427, 3, 64), (7428, 4, 9), (7429, 5, 3), (7430, 6, 104), (7431, 7, 3), (7432, 8, 3), (8000, 0, 9), (8001, 1, 45), (8002, 10, 3), (8003, 11, 3), (8064, 0, 9), (8065, 1, 45), (8066, 10, 3), (8067, 11, 3), (8192, 0, 3), (8193, 1, 99), (8194, 2, 127), (8256, 0, 3), (8257, 1, 99), (8258, 2, 127), (8576, 0, 94), (8577, 1, 64), (8578, 2, 23), (8579, 3, 4), (8640, 0, 94), (8641, 1, 64), (8642, 2, 23), (8643, 3, 4), (9280, 0, 3), (9281, 1, 37), (9344, 0, 3), (9345, 1, 37), (9856, 0, 61), (9857, 1, 4), (9858, 2, 3), (9920, 0, 61), (9921, 1, 4), (9922, 2, 3), (9984, 0, 3), (9985, 1, 34), (10048, 0, 3), (10049, 1, 34), (10176, 0, 80), (10177, 1, 158), (10178, 25, 4), (10240, 0, 80), (10241, 1, 158), (10242, 25, 4), (10944, 0, 3), (10945, 1, 3), (10946, 2, 3), (10947, 3, 64), (10948, 4, 9), (10949, 5, 3), (10950, 6, 3), (10951, 7, 170), (10952, 28, 3), (10953, 29, 3), (11008, 0, 3), (11009, 1, 3), (11010, 2, 3), (11011, 3, 64), (11012, 4, 9), (11013, 5, 3), (11014, 6, 3), (11015, 7, 170), (11016, 28, 3), (11017, 29, 3), (11648, 0, 83), (11649, 1, 3), (11650, 2, 181), (11712, 0, 83), (11713, 1, 3), (11714, 2, 181), (13378, 0, 196), (13442, 0, 196), (13505, 0, 210), (13506, 1, 60), (13569, 0, 210), (13570, 1, 60), (13696, 0, 3), (13697, 1, 45), (13698, 10, 37), (13760, 0, 3), (13761, 1, 45), (13762, 10, 37), (18240, 0, 9), (18304, 0, 9)]
def zrL : List (Nat × Value) := [(2, .int .i64 0),
  (3, .int .i64 0),
  (4, .bool false),
  (5, .int .u8 0),
  (9, .string ⟨⟨[]⟩⟩),
  (12, .int .u64 0),
  (13, .agg ⟨[.string ⟨⟨[]⟩⟩, .int .u64 0]⟩),
  (20, .nilIface),
  (21, .int .i32 0),
  (22, .slice none 0 0),
  (23, .slice none 0 0),
  (25, .slice none 0 0),
  (26, .agg ⟨[.int .i64 0, .int .i64 0, .int .i64 0]⟩),
  (27, .agg ⟨[.int .i64 0, .int .i64 0, .int .i64 0]⟩),
  (28, .agg ⟨[.int .i64 0, .int .i64 0, .int .i64 0]⟩),
  (29, .agg ⟨[.int .i64 0, .int .i64 0]⟩),
  (30, .agg ⟨[.int .i64 0, .int .i64 0]⟩),
  (33, .agg ⟨[.int .i64 0, .int .i64 0, .int .i64 0]⟩),
  (34, .agg ⟨[.int .i64 0, .int .i64 0, .int .i64 0]⟩),
  (36, .nilIface),
  (37, .nilIface),
  (44, .agg ⟨[.int .i64 0, .int .i64 0, .int .i64 0, .int .i64 0, .int .i64 0, .bool false, .int .i64 0, .int .i64 0, .int .i64 0]⟩),
  (45, .agg ⟨[.int .i64 0, .int .i64 0, .int .i64 0, .int .i64 0, .int .i64 0, .bool false, .int .i64 0, .int .i64 0, .int .i64 0]⟩),
  (60, .int .u32 0),
  (61, .slice none 0 0),
  (62, .int .u64 0),
  (64, .slice none 0 0),
  (79, .slice none 0 0),
  (80, .pointer none),
  (83, .pointer none),
  (86, .agg ⟨[.int .i64 0, .int .i64 0, .int .i64 0, .int .i64 0, .int .i64 0, .bool false]⟩),
  (87, .agg ⟨[.int .i64 0, .int .i64 0, .int .i64 0, .int .i64 0, .int .i64 0, .bool false]⟩),
  (94, .pointer none),
  (95, .agg ⟨[.string ⟨⟨[]⟩⟩, .bool false, .int .i64 0, .bool false]⟩),
  (96, .agg ⟨[.string ⟨⟨[]⟩⟩, .bool false, .int .i64 0, .bool false]⟩),
  (99, .pointer none),
  (104, .slice none 0 0),
  (105, .pointer none),
  (110, .pointer none),
  (115, .agg ⟨[.int .i64 0, .int .i64 0, .int .i64 0, .slice none 0 0, .string ⟨⟨[]⟩⟩, .int .i64 0, .slice none 0 0, .int .i64 0, .int .i64 0]⟩),
  (116, .agg ⟨[.int .i64 0, .int .i64 0, .int .i64 0, .slice none 0 0, .string ⟨⟨[]⟩⟩, .int .i64 0, .slice none 0 0, .int .i64 0, .int .i64 0]⟩),
  (119, .slice none 0 0),
  (120, .pointer none),
  (123, .pointer none),
  (125, .agg ⟨[.string ⟨⟨[]⟩⟩, .int .i64 0, .int .i64 0, .int .i64 0, .int .i64 0, .int .i64 0, .bool false, .int .i64 0, .int .i64 0, .int .i64 0, .int .i64 0, .int .i64 0]⟩),
  (126, .agg ⟨[.string ⟨⟨[]⟩⟩, .int .i64 0, .int .i64 0, .int .i64 0, .int .i64 0, .int .i64 0, .bool false, .int .i64 0, .int .i64 0, .int .i64 0, .int .i64 0, .int .i64 0]⟩),
  (127, .slice none 0 0),
  (128, .agg ⟨[.int .i64 0, .pointer none, .slice none 0 0]⟩),
  (129, .agg ⟨[.int .i64 0, .pointer none, .slice none 0 0]⟩),
  (134, .agg ⟨[.pointer none, .slice none 0 0, .slice none 0 0, .bool false]⟩),
  (135, .agg ⟨[.pointer none, .slice none 0 0, .slice none 0 0, .bool false]⟩),
  (137, .slice none 0 0),
  (144, .pointer none),
  (145, .agg ⟨[.int .i64 0, .nilIface]⟩),
  (146, .agg ⟨[.int .i64 0, .nilIface]⟩),
  (149, .agg ⟨[.int .i64 0, .int .i64 0, .int .i64 0]⟩),
  (150, .slice none 0 0),
  (154, .agg ⟨[.slice none 0 0, .bool false, .int .i64 0]⟩),
  (155, .agg ⟨[.slice none 0 0, .bool false, .int .i64 0]⟩),
  (156, .agg ⟨[.int .i64 0, .int .i64 0, .int .i64 0, .int .i64 0]⟩),
  (157, .agg ⟨[.int .i64 0, .int .i64 0, .int .i64 0, .int .i64 0]⟩),
  (158, .agg ⟨[.int .i64 0, .int .i64 0, .int .i64 0, .int .i64 0, .int .i64 0, .int .i64 0, .int .i64 0, .int .i64 0, .int .i64 0, .int .i64 0, .int .i64 0, .int .i64 0, .int .i64 0, .int .i64 0, .int .i64 0, .int .i64 0, .int .i64 0, .int .i64 0, .int .i64 0, .int .i64 0, .int .i64 0, .int .i64 0, .int .i64 0, .int .i64 0]⟩),
  (159, .agg ⟨[.pointer none, .int .i64 0, .int .i64 0, .int .i64 0, .int .i64 0, .int .i64 0, .int .i64 0, .int .i64 0, .int .i64 0, .int .i64 0, .int .i64 0, .int .i64 0, .int .i64 0, .int .i64 0, .int .i64 0, .int .i64 0, .int .i64 0, .int .i64 0, .int .i64 0, .int .i64 0, .int .i64 0, .int .i64 0, .int .i64 0, .int .i64 0, .int .i64 0, .bool false]⟩),
  (160, .agg ⟨[.pointer none, .int .i64 0, .int .i64 0, .int .i64 0, .int .i64 0, .int .i64 0, .int .i64 0, .int .i64 0, .int .i64 0, .int .i64 0, .int .i64 0, .int .i64 0, .int .i64 0, .int .i64 0, .int .i64 0, .int .i64 0, .int .i64 0, .int .i64 0, .int .i64 0, .int .i64 0, .int .i64 0, .int .i64 0, .int .i64 0, .int .i64 0, .int .i64 0, .bool false]⟩),
  (170, .agg ⟨[.int .i64 0, .int .i64 0, .int .i64 0, .int .i64 0, .int .i64 0, .int .i64 0, .int .i64 0, .int .i64 0, .int .i64 0, .int .i64 0, .int .i64 0, .int .i64 0, .int .i64 0, .int .i64 0, .int .i64 0, .int .i64 0, .int .i64 0, .int .i64 0, .int .i64 0, .int .i64 0, .int .i64 0]⟩),
  (171, .agg ⟨[.int .i64 0, .int .i64 0, .int .i64 0, .slice none 0 0, .string ⟨⟨[]⟩⟩, .int .i64 0, .int .i64 0, .int .i64 0, .int .i64 0, .int .i64 0, .int .i64 0, .int .i64 0, .int .i64 0, .int .i64 0, .int .i64 0, .int .i64 0, .int .i64 0, .int .i64 0, .int .i64 0, .int .i64 0, .int .i64 0, .int .i64 0, .int .i64 0, .int .i64 0, .int .i64 0, .int .i64 0, .int .i64 0, .int .i64 0, .int .i64 0, .int .i64 0]⟩),
  (172, .agg ⟨[.int .i64 0, .int .i64 0, .int .i64 0, .slice none 0 0, .string ⟨⟨[]⟩⟩, .int .i64 0, .int .i64 0, .int .i64 0, .int .i64 0, .int .i64 0, .int .i64 0, .int .i64 0, .int .i64 0, .int .i64 0, .int .i64 0, .int .i64 0, .int .i64 0, .int .i64 0, .int .i64 0, .int .i64 0, .int .i64 0, .int .i64 0, .int .i64 0, .int .i64 0, .int .i64 0, .int .i64 0, .int .i64 0, .int .i64 0, .int .i64 0, .int .i64 0]⟩),
  (181, .map none),
  (182, .agg ⟨[.pointer none, .int .i64 0, .map none]⟩),
  (183, .agg ⟨[.pointer none, .int .i64 0, .map none]⟩),
  (187, .slice none 0 0),
  (192, .pointer none),
  (196, .int .u64 0),
  (205, .agg ⟨[]⟩),
  (206, .agg ⟨[]⟩),
  (207, .agg ⟨[]⟩),
  (208, .agg ⟨[]⟩),
  (209, .agg ⟨[.int .u64 0]⟩),
  (210, .agg ⟨[.int .u64 0]⟩),
  (211, .agg ⟨[.int .u64 0, .int .u32 0]⟩),
  (212, .agg ⟨[.int .u64 0, .int .u32 0]⟩),
  (214, .agg ⟨[.int .i64 0, .int .i64 0, .int .i64 0, .int .i64 0, .int .i64 0, .int .i64 0, .bool false, .int .i64 0, .int .i64 0, .int .i64 0, .nilIface]⟩),
  (215, .agg ⟨[.int .i64 0, .int .i64 0, .int .i64 0, .int .i64 0, .int .i64 0, .int .i64 0, .bool false, .int .i64 0, .int .i64 0, .int .i64 0, .nilIface]⟩),
  (231, .pointer none),
  (238, .pointer none),
  (245, .nilIface),
  (248, .nilIface),
  (250, .nilIface),
  (252, .nilIface),
  (255, .int .i64 0),
  (261, .pointer none),
  (263, .pointer none),
  (267, .pointer none),
  (276, .pointer none),
  (285, .agg ⟨[.string ⟨⟨[]⟩⟩]⟩),
  (286, .agg ⟨[.string ⟨⟨[]⟩⟩]⟩),
  (289, .int .u16 0),
  (297, .pointer none)]
def stL : List (Nat × List (Nat × Nat × Nat)) := [(13, [(0, 1, 9), (1, 1, 12)]), (26, [(0, 1, 3), (1, 1, 3), (2, 1, 3)]), (27, [(0, 1, 3), (1, 1, 3), (2, 1, 3)]), (28, [(0, 1, 3), (1, 1, 3), (2, 1, 3)]), (29, [(0, 1, 3), (1, 1, 3)]), (30, [(0, 1, 3), (1, 1, 3)]), (33, [(0, 1, 3), (1, 1, 3), (2, 1, 3)]), (34, [(0, 1, 3), (1, 1, 3), (2, 1, 3)]), (44, [(0, 1, 3), (1, 1, 3), (2, 1, 3), (3, 1, 3), (4, 1, 3), (5, 1, 4), (6, 3, 34)]), (45, [(0, 1, 3), (1, 1, 3), (2, 1, 3), (3, 1, 3), (4, 1, 3), (5, 1, 4), (6, 3, 34)]), (86, [(0, 1, 3), (1, 3, 34), (4, 1, 3), (5, 1, 4)]), (87, [(0, 1, 3), (1, 3, 34), (4, 1, 3), (5, 1, 4)]), (95, [(0, 1, 9), (1, 1, 4), (2, 1, 3), (3, 1, 4)]), (96, [(0, 1, 9), (1, 1, 4), (2, 1, 3), (3, 1, 4)]), (115, [(0, 1, 3), (1, 1, 3), (2, 1, 3), (3, 1, 64), (4, 1, 9), (5, 1, 3), (6, 1, 104), (7, 1, 3), (8, 1, 3)]), (116, [(0, 1, 3), (1, 1, 3), (2, 1, 3), (3, 1, 64), (4, 1, 9), (5, 1, 3), (6, 1, 104), (7, 1, 3), (8, 1, 3)]), (125, [(0, 1, 9), (1, 9, 45), (10, 1, 3), (11, 1, 3)]), (126, [(0, 1, 9), (1, 9, 45), (10, 1, 3), (11, 1, 3)]), (128, [(0, 1, 3), (1, 1, 99), (2, 1, 127)]), (129, [(0, 1, 3), (1, 1, 99), (2, 1, 127)]), (134, [(0, 1, 94), (1, 1, 64), (2, 1, 23), (3, 1, 4)]), (135, [(0, 1, 94), (1, 1, 64), (2, 1, 23), (3, 1, 4)]), (145, [(0, 1, 3), (1, 1, 37)]), (146, [(0, 1, 3), (1, 1, 37)]), (154, [(0, 1, 61), (1, 1, 4), (2, 1, 3)]), (155, [(0, 1, 61), (1, 1, 4), (2, 1, 3)]), (156, [(0, 1, 3), (1, 3, 34)]), (157, [(0, 1, 3), (1, 3, 34)]), (159, [(0, 1, 80), (1, 24, 158), (25, 1, 4)]), (160, [(0, 1, 80), (1, 24, 158), (25, 1, 4)]), (171, [(0, 1, 3), (1, 1, 3), (2, 1, 3), (3, 1, 64), (4, 1, 9), (5, 1, 3), (6, 1, 3), (7, 21, 170), (28, 1, 3), (29, 1, 3)]), (172, [(0, 1, 3), (1, 1, 3), (2, 1, 3), (3, 1, 64), (4, 1, 9), (5, 1, 3), (6, 1, 3), (7, 21, 170), (28, 1, 3), (29, 1, 3)]), (182, [(0, 1, 83), (1, 1, 3), (2, 1, 181)]), (183, [(0, 1, 83), (1, 1, 3), (2, 1, 181)]), (205, []), (206, []), (207, []), (208, []), (209, [(0, 0, 207), (0, 0, 208), (0, 1, 196)]), (210, [(0, 0, 207), (0, 0, 208), (0, 1, 196)]), (211, [(0, 0, 206), (0, 1, 210), (1, 1, 60)]), (212, [(0, 0, 206), (0, 1, 210), (1, 1, 60)]), (214, [(0, 1, 3), (1, 9, 45), (10, 1, 37)]), (215, [(0, 1, 3), (1, 9, 45), (10, 1, 37)]), (285, [(0, 1, 9)]), (286, [(0, 1, 9)])]
def eqL : List (Nat × List Nat) := [(27, [2, 2, 2]), (28, [2, 2, 2]), (30, [2, 2]), (34, [2, 2, 2]), (45, [2, 2, 2, 2, 2, 1, 2, 2, 2]), (149, [2, 2, 2]), (157, [2, 2, 2, 2])]
theorem stL_ok : (stL.all fun p => decide (stI Tryd.prog p.1 = some p.2)) = true := by kernel_rfl
theorem tyL_ok : (tyL.all fun p => decide (tyI Tryd.prog p.1 = some p.2)) = true := by kernel_rfl
theorem flL_ok : (flL.all fun p => decide (fldI Tryd.prog (p.1 / 64) (p.1 % 64) = some p.2.1) && decide (fldT Tryd.prog (p.1 / 64) (p.1 % 64) = some p.2)) = true := by kernel_rfl
theorem zr2 : zeroI Tryd.prog 2 = some (.int .i64 0) := by kernel_rfl
theorem zr3 : zeroI Tryd.prog 3 = some (.int .i64 0) := by kernel_rfl
theorem zr4 : zeroI Tryd.prog 4 = some (.bool false) := by kernel_rfl
theorem zr5 : zeroI Tryd.prog 5 = some (.int .u8 0) := by kernel_rfl
theorem zr9 : zeroI Tryd.prog 9 = some (.string ⟨⟨[]⟩⟩) := by kernel_rfl
theorem zr12 : zeroI Tryd.prog 12 = some (.int .u64 0) := by kernel_rfl
theorem zr13 : zeroI Tryd.prog 13 = some (.agg ⟨[.string ⟨⟨[]⟩⟩, .int .u64 0]⟩) := by kernel_rfl
theorem zr20 : zeroI Tryd.prog 20 = some (.nilIface) := by kernel_rfl
theorem zr21 : zeroI Tryd.prog 21 = some (.int .i32 0) := by kernel_rfl
theorem zr22 : zeroI Tryd.prog 22 = some (.slice none 0 0) := by kernel_rfl
theorem zr23 : zeroI Tryd.prog 23 = some (.slice none 0 0) := by kernel_rfl
theorem zr25 : zeroI Tryd.prog 25 = some (.slice none 0 0) := by kernel_rfl
theorem zr26 : zeroI Tryd.prog 26 = some (.agg ⟨[.int .i64 0, .int .i64 0, .int .i64 0]⟩) := by kernel_rfl
theorem zr27 : zeroI Tryd.prog 27 = some (.agg ⟨[.int .i64 0, .int .i64 0, .int .i64 0]⟩) := by kernel_rfl
theorem zr28 : zeroI Tryd.prog 28 = some (.agg ⟨[.int .i64 0, .int .i64 0, .int .i64 0]⟩) := by kernel_rfl
theorem zr29 : zeroI Tryd.prog 29 = some (.agg ⟨[.int .i64 0, .int .i64 0]⟩) := by kernel_rfl
theorem zr30 : zeroI Tryd.prog 30 = some (.agg ⟨[.int .i64 0, .int .i64 0]⟩) := by kernel_rfl
theorem zr33 : zeroI Tryd.prog 33 = some (.agg ⟨[.int .i64 0, .int .i64 0, .int .i64 0]⟩) := by kernel_rfl
theorem zr34 : zeroI Tryd.prog 34 = some (.agg ⟨[.int .i64 0, .int .i64 0, .int .i64 0]⟩) := by kernel_rfl
theorem zr36 : zeroI Tryd.prog 36 = some (.nilIface) := by kernel_rfl
theorem zr37 : zeroI Tryd.prog 37 = some (.nilIface) := by kernel_rfl
theorem zr44 : zeroI Tryd.prog 44 = some (.agg ⟨[.int .i64 0, .int .i64 0, .int .i64 0, .int .i64 0, .int .i64 0, .bool false, .int .i64 0, .int .i64 0, .int .i64 0]⟩) := by kernel_rfl
theorem zr45 : zeroI Tryd.prog 45 = some (.agg ⟨[.int .i64 0, .int .i64 0, .int .i64 0, .int .i64 0, .int .i64 0, .bool false, .int .i64 0, .int .i64 0, .int .i64 0]⟩) := by kernel_rfl
theorem zr60 : zeroI Tryd.prog 60 = some (.int .u32 0) := by kernel_rfl
theorem zr61 : zeroI Tryd.prog 61 = some (.slice none 0 0) := by kernel_rfl
theorem zr62 : zeroI Tryd.prog 62 = some (.int .u64 0) := by kernel_rfl
theorem zr64 : zeroI Tryd.prog 64 = some (.slice none 0 0) := by kernel_rfl
theorem zr79 : zeroI Tryd.prog 79 = some (.slice none 0 0) := by kernel_rfl
theorem zr80 : zeroI Tryd.prog 80 = some (.pointer none) := by kernel_rfl
theorem zr83 : zeroI Tryd.prog 83 = some (.pointer none) := by kernel_rfl
theorem zr86 : zeroI Tryd.prog 86 = some (.agg ⟨[.int .i64 0, .int .i64 0, .int .i64 0, .int .i64 0, .int .i64 0, .bool false]⟩) := by kernel_rfl
theorem zr87 : zeroI Tryd.prog 87 = some (.agg ⟨[.int .i64 0, .int .i64 0, .int .i64 0, .int .i64 0, .int .i64 0, .bool false]⟩) := by kernel_rfl
theorem zr94 : zeroI Tryd.prog 94 = some (.pointer none) := by kernel_rfl
theorem zr95 : zeroI Tryd.prog 95 = some (.agg ⟨[.string ⟨⟨[]⟩⟩, .bool false, .int .i64 0, .bool false]⟩) := by kernel_rfl
theorem zr96 : zeroI Tryd.prog 96 = some (.agg ⟨[.string ⟨⟨[]⟩⟩, .bool false, .int .i64 0, .bool false]⟩) := by kernel_rfl
theorem zr99 : zeroI Tryd.prog 99 = some (.pointer none) := by kernel_rfl
theorem zr104 : zeroI Tryd.prog 104 = some (.slice none 0 0) := by kernel_rfl
theorem zr105 : zeroI Tryd.prog 105 = some (.pointer none) := by kernel_rfl
theorem zr110 : zeroI Tryd.prog 110 = some (.pointer none) := by kernel_rfl
theorem zr115 : zeroI Tryd.prog 115 = some (.agg ⟨[.int .i64 0, .int .i64 0, .int .i64 0, .slice none 0 0, .string ⟨⟨[]⟩⟩, .int .i64 0, .slice none 0 0, .int .i64 0, .int .i64 0]⟩) := by kernel_rfl
theorem zr116 : zeroI Tryd.prog 116 = some (.agg ⟨[.int .i64 0, .int .i64 0, .int .i64 0, .slice none 0 0, .string ⟨⟨[]⟩⟩, .int .i64 0, .slice none 0 0, .int .i64 0, .int .i64 0]⟩) := by kernel_rfl
theorem zr119 : zeroI Tryd.prog 119 = some (.slice none 0 0) := by kernel_rfl
theorem zr120 : zeroI Tryd.prog 120 = some (.pointer none) := by kernel_rfl
theorem zr123 : zeroI Tryd.prog 123 = some (.pointer none) := by kernel_rfl
theorem zr125 : zeroI Tryd.prog 125 = some (.agg ⟨[.string ⟨⟨[]⟩⟩, .int .i64 0, .int .i64 0, .int .i64 0, .int .i64 0, .int .i64 0, .bool false, .int .i64 0, .int .i64 0, .int .i64 0, .int .i64 0, .int .i64 0]⟩) := by kernel_rfl
theorem zr126 : zeroI Tryd.prog 126 = some (.agg ⟨[.string ⟨⟨[]⟩⟩, .int .i64 0, .int .i64 0, .int .i64 0, .int .i64 0, .int .i64 0, .bool false, .int .i64 0, .int .i64 0, .int .i64 0, .int .i64 0, .int .i64 0]⟩) := by kernel_rfl
theorem zr127 : zeroI Tryd.prog 127 = some (.slice none 0 0) := by kernel_rfl
theorem zr128 : zeroI Tryd.prog 128 = some (.agg ⟨[.int .i64 0, .pointer none, .slice none 0 0]⟩) := by kernel_rfl
theorem zr129 : zeroI Tryd.prog 129 = some (.agg ⟨[.int .i64 0, .pointer none, .slice none 0 0]⟩) := by kernel_rfl
theorem zr134 : zeroI Tryd.prog 134 = some (.agg ⟨[.pointer none, .slice none 0 0, .slice none 0 0, .bool false]⟩) := by kernel_rfl
theorem zr135 : zeroI Tryd.prog 135 = some (.agg ⟨[.pointer none, .slice none 0 0, .slice none 0 0, .bool false]⟩) := by kernel_rfl
theorem zr137 : zeroI Tryd.prog 137 = some (.slice none 0 0) := by kernel_rfl
theorem zr144 : zeroI Tryd.prog 144 = some (.pointer none) := by kernel_rfl
theorem zr145 : zeroI Tryd.prog 145 = some (.agg ⟨[.int .i64 0, .nilIface]⟩) := by kernel_rfl
theorem zr146 : zeroI Tryd.prog 146 = some (.agg ⟨[.int .i64 0, .nilIface]⟩) := by kernel_rfl
theorem zr149 : zeroI Tryd.prog 149 = some (.agg ⟨[.int .i64 0, .int .i64 0, .int .i64 0]⟩) := by kernel_rfl
theorem zr150 : zeroI Tryd.prog 150 = some (.slice none 0 0) := by kernel_rfl
theorem zr154 : zeroI Tryd.prog 154 = some (.agg ⟨[.slice none 0 0, .bool false, .int .i64 0]⟩) := by kernel_rfl
theorem zr155 : zeroI Tryd.prog 155 = some (.agg ⟨[.slice none 0 0, .bool false, .int .i64 0]⟩) := by kernel_rfl
theorem zr156 : zeroI Tryd.prog 156 = some (.agg ⟨[.int .i64 0, .int .i64 0, .int .i64 0, .int .i64 0]⟩) := by kernel_rfl
theorem zr157 : zeroI Tryd.prog 157 = some (.agg ⟨[.int .i64 0, .int .i64 0, .int .i64 0, .int .i64 0]⟩) := by kernel_rfl
theorem zr158 : zeroI Tryd.prog 158 = some (.agg ⟨[.int .i64 0, .int .i64 0, .int .i64 0, .int .i64 0, .int .i64 0, .int .i64 0, .int .i64 0, .int .i64 0, .int .i64 0, .int .i64 0, .int .i64 0, .int .i64 0, .int .i64 0, .int .i64 0, .int .i64 0, .int .i64 0, .int .i64 0, .int .i64 0, .int .i64 0, .int .i64 0, .int .i64 0, .int .i64 0, .int .i64 0, .int .i64 0]⟩) := by kernel_rfl
theorem zr159 : zeroI Tryd.prog 159 = some (.agg ⟨[.pointer none, .int .i64 0, .int .i64 0, .int .i64 0, .int .i64 0, .int .i64 0, .int .i64 0, .int .i64 0, .int .i64 0, .int .i64 0, .int .i64 0, .int .i64 0, .int .i64 0, .int .i64 0, .int .i64 0, .int .i64 0, .int .i64 0, .int .i64 0, .int .i64 0, .int .i64 0, .int .i64 0, .int .i64 0, .int .i64 0, .int .i64 0, .int .i64 0, .bool false]⟩) := by kernel_rfl
theorem zr160 : zeroI Tryd.prog 160 = some (.agg ⟨[.pointer none, .int .i64 0, .int .i64 0, .int .i64 0, .int .i64 0, .int .i64 0, .int .i64 0, .int .i64 0, .int .i64 0, .int .i64 0, .int .i64 0, .int .i64 0, .int .i64 0, .int .i64 0, .int .i64 0, .int .i64 0, .int .i64 0, .int .i64 0, .int .i64 0, .int .i64 0, .int .i64 0, .int .i64 0, .int .i64 0, .int .i64 0, .int .i64 0, .bool false]⟩) := by kernel_rfl
theorem zr170 : zeroI Tryd.prog 170 = some (.agg ⟨[.int .i64 0, .int .i64 0, .int .i64 0, .int .i64 0, .int .i64 0, .int .i64 0, .int .i64 0, .int .i64 0, .int .i64 0, .int .i64 0, .int .i64 0, .int .i64 0, .int .i64 0, .int .i64 0, .int .i64 0, .int .i64 0, .int .i64 0, .int .i64 0, .int .i64 0, .int .i64 0, .int .i64 0]⟩) := by kernel_rfl
theorem zr171 : zeroI Tryd.prog 171 = some (.agg ⟨[.int .i64 0, .int .i64 0, .int .i64 0, .slice none 0 0, .string ⟨⟨[]⟩⟩, .int .i64 0, .int .i64 0, .int .i64 0, .int .i64 0, .int .i64 0, .int .i64 0, .int .i64 0, .int .i64 0, .int .i64 0, .int .i64 0, .int .i64 0, .int .i64 0, .int .i64 0, .int .i64 0, .int .i64 0, .int .i64 0, .int .i64 0, .int .i64 0, .int .i64 0, .int .i64 0, .int .i64 0, .int .i64 0, .int .i64 0, .int .i64 0, .int .i64 0]⟩) := by kernel_rfl
theorem zr172 : zeroI Tryd.prog 172 = some (.agg ⟨[.int .i64 0, .int .i64 0, .int .i64 0, .slice none 0 0, .string ⟨⟨[]⟩⟩, .int .i64 0, .int .i64 0, .int .i64 0, .int .i64 0, .int .i64 0, .int .i64 0, .int .i64 0, .int .i64 0, .int .i64 0, .int .i64 0, .int .i64 0, .int .i64 0, .int .i64 0, .int .i64 0, .int .i64 0, .int .i64 0, .int .i64 0, .int .i64 0, .int .i64 0, .int .i64 0, .int .i64 0, .int .i64 0, .int .i64 0, .int .i64 0, .int .i64 0]⟩) := by kernel_rfl
theorem zr181 : zeroI Tryd.prog 181 = some (.map none) := by kernel_rfl
theorem zr182 : zeroI Tryd.prog 182 = some (.agg ⟨[.pointer none, .int .i64 0, .map none]⟩) := by kernel_rfl
theorem zr183 : zeroI Tryd.prog 183 = some (.agg ⟨[.pointer none, .int .i64 0, .map none]⟩) := by kernel_rfl
theorem zr187 : zeroI Tryd.prog 187 = some (.slice none 0 0) := by kernel_rfl
theorem zr192 : zeroI Tryd.prog 192 = some (.pointer none) := by kernel_rfl
theorem zr196 : zeroI Tryd.prog 196 = some (.int .u64 0) := by kernel_rfl
theorem zr205 : zeroI Tryd.prog 205 = some (.agg ⟨[]⟩) := by kernel_rfl
theorem zr206 : zeroI Tryd.prog 206 = some (.agg ⟨[]⟩) := by kernel_rfl
theorem zr207 : zeroI Tryd.prog 207 = some (.agg ⟨[]⟩) := by kernel_rfl
theorem zr208 : zeroI Tryd.prog 208 = some (.agg ⟨[]⟩) := by kernel_rfl
theorem zr209 : zeroI Tryd.prog 209 = some (.agg ⟨[.int .u64 0]⟩) := by kernel_rfl
theorem zr210 : zeroI Tryd.prog 210 = some (.agg ⟨[.int .u64 0]⟩) := by kernel_rfl
theorem zr211 : zeroI Tryd.prog 211 = some (.agg ⟨[.int .u64 0, .int .u32 0]⟩) := by kernel_rfl
theorem zr212 : zeroI Tryd.prog 212 = some (.agg ⟨[.int .u64 0, .int .u32 0]⟩) := by kernel_rfl
theorem zr214 : zeroI Tryd.prog 214 = some (.agg ⟨[.int .i64 0, .int .i64 0, .int .i64 0, .int .i64 0, .int .i64 0, .int .i64 0, .bool false, .int .i64 0, .int .i64 0, .int .i64 0, .nilIface]⟩) := by kernel_rfl
theorem zr215 : zeroI Tryd.prog 215 = some (.agg ⟨[.int .i64 0, .int .i64 0, .int .i64 0, .int .i64 0, .int .i64 0, .int .i64 0, .bool false, .int .i64 0, .int .i64 0, .int .i64 0, .nilIface]⟩) := by kernel_rfl
theorem zr231 : zeroI Tryd.prog 231 = some (.pointer none) := by kernel_rfl
theorem zr238 : zeroI Tryd.prog 238 = some (.pointer none) := by kernel_rfl
theorem zr245 : zeroI Tryd.prog 245 = some (.nilIface) := by kernel_rfl
theorem zr248 : zeroI Tryd.prog 248 = some (.nilIface) := by kernel_rfl
theorem zr250 : zeroI Tryd.prog 250 = some (.nilIface) := by kernel_rfl
theorem zr252 : zeroI Tryd.prog 252 = some (.nilIface) := by kernel_rfl
theorem zr255 : zeroI Tryd.prog 255 = some (.int .i64 0) := by kernel_rfl
theorem zr261 : zeroI Tryd.prog 261 = some (.pointer none) := by kernel_rfl
theorem zr263 : zeroI Tryd.prog 263 = some (.pointer none) := by kernel_rfl
theorem zr267 : zeroI Tryd.prog 267 = some (.pointer none) := by kernel_rfl
theorem zr276 : zeroI Tryd.prog 276 = some (.pointer none) := by kernel_rfl
theorem zr285 : zeroI Tryd.prog 285 = some (.agg ⟨[.string ⟨⟨[]⟩⟩]⟩) := by kernel_rfl
theorem zr286 : zeroI Tryd.prog 286 = some (.agg ⟨[.string ⟨⟨[]⟩⟩]⟩) := by kernel_rfl
theorem zr289 : zeroI Tryd.prog 289 = some (.int .u16 0) := by kernel_rfl
theorem zr297 : zeroI Tryd.prog 297 = some (.pointer none) := by kernel_rfl
theorem zrL_ok : ∀ p ∈ zrL, zeroI Tryd.prog p.1 = some p.2 := by
  intro p hp
  simp only [zrL, List.mem_cons, List.not_mem_nil, or_false] at hp
  rcases hp with rfl | rfl | rfl | rfl | rfl | rfl | rfl | rfl | rfl | rfl | rfl | rfl | rfl | rfl | rfl | rfl | rfl | rfl | rfl | rfl | rfl | rfl | rfl | rfl | rfl | rfl | rfl | rfl | rfl | rfl | rfl | rfl | rfl | rfl | rfl | rfl | rfl | rfl | rfl | rfl | rfl | rfl | rfl | rfl | rfl | rfl | rfl | rfl | rfl | rfl | rfl | rfl | rfl | rfl | rfl | rfl | rfl | rfl | rfl | rfl | rfl | rfl | rfl | rfl | rfl | rfl | rfl | rfl | rfl | rfl | rfl | rfl | rfl | rfl | rfl | rfl | rfl | rfl | rfl | rfl | rfl | rfl | rfl | rfl | rfl | rfl | rfl | rfl | rfl | rfl | rfl | rfl | rfl | rfl | rfl | rfl | rfl | rfl
  · exact zr2
  · exact zr3
  · exact zr4
  · exact zr5
  · exact zr9
  · exact zr12
  · exact zr13
  · exact zr20
  · exact zr21
  · exact zr22
  · exact zr23
  · exact zr25
  · exact zr26
  · exact zr27
  · exact zr28
  · exact zr29
  · exact zr30
  · exact zr33
  · exact zr34
  · exact zr36
  · exact zr37
  · exact zr44
  · exact zr45
  · exact zr60
  · exact zr61
  · exact zr62
  · exact zr64
  · exact zr79
  · exact zr80
  · exact zr83
  · exact zr86
  · exact zr87
  · exact zr94
  · exact zr95
  · exact zr96
  · exact zr99
  · exact zr104
  · exact zr105
  · exact zr110
  · exact zr115
  · exact zr116
  · exact zr119
  · exact zr120
  · exact zr123
  · exact zr125
  · exact zr126
  · exact zr127
  · exact zr128
  · exact zr129
  · exact zr134
  · exact zr135
  · exact zr137
  · exact zr144
  · exact zr145
  · exact zr146
  · exact zr149
  · exact zr150
  · exact zr154
  · exact zr155
  · exact zr156
  · exact zr157
  · exact zr158
  · exact zr159
  · exact zr160
  · exact zr170
  · exact zr171
  · exact zr172
  · exact zr181
  · exact zr182
  · exact zr183
  · exact zr187
  · exact zr192
  · exact zr196
  · exact zr205
  · exact zr206
  · exact zr207
  · exact zr208
  · exact zr209
  · exact zr210
  · exact zr211
  · exact zr212
  · exact zr214
  · exact zr215
  · exact zr231
  · exact zr238
  · exact zr245
  · exact zr248
  · exact zr250
  · exact zr252
  · exact zr255
  · exact zr261
  · exact zr263
  · exact zr267
  · exact zr276
  · exact zr285
  · exact zr286
  · exact zr289
  · exact zr297
theorem eqL_ok : (eqL.all fun p => decide (flatT Tryd.prog 8 p.1 = some p.2) && isA Tryd.prog p.1 && !(Tryd.prog.eqGuardType Tryd.prog.depth p.1)) = true := by kernel_rfl
def errTab : List (Nat × Nat) := [(2, 1), (0, 2), (4, 3), (5, 4), (7, 5), (6, 6), (3, 7), (8, 8), (1, 9)]
def S : Tab Tryd.prog := ⟨tyL, flL, zrL, stL, eqL, tyL_ok, flL_ok, zrL_ok, stL_ok, eqL_ok, by kernel_rfl⟩
end Go.HL
