/- The seat's surroundings for the evaluator. -/
import Derived.Test.YtdpkfljiipkhfaaGreatDoorPartRE
import Derived.Test.YtdpkfljiipkhfaaGreatDoorProg
import Derived.KernelRfl
import Derived.Lib.Bytealg
import Derived.Lib.Repeat
namespace Go.Rd
open Go.Ev Go.Proofs
set_option linter.unusedSimpArgs false
set_option linter.unusedVariables false

def mdOf : Nat → List Bool
  | 156 => [true]
  | 100 => [true]
  | 180 => [true]
  | 155 => [true]
  | 236 => [true]
  | 157 => [true]
  | 312 => [true]
  | 168 => [true]
  | 169 => [true]
  | 170 => [true]
  | 303 => [true]
  | 304 => [true]
  | 339 => [true]
  | 18 => [true]
  | 19 => [true]
  | 78 => [true]
  | 132 => [true]
  | 159 => [true]
  | 164 => [true]
  | 261 => [true]
  | 1000159 => [true]
  | 1000164 => [true]
  | 1000132 => [true]
  | 1000012 => [true]
  | 1000015 => [true]
  | 1000063 => [true]
  | 1000030 => [true]
  | 1000088 => [true]
  | 1000078 => [true]
  | _ => []
/-- Functions whose results hold no slice. -/
def flats : List Nat := [3, 4, 5, 6, 7, 8, 9, 10, 11, 16, 17, 20, 21, 22, 24, 25, 27, 28, 29, 31, 33, 34, 35, 36, 37, 38, 39, 40, 41, 42, 43, 45, 46, 47, 48, 49, 50, 54, 55, 56, 57, 58, 60, 61, 62, 64, 65, 66, 67, 68, 70, 71, 72, 75, 76, 79, 80, 82, 83, 87, 89, 90, 91, 92, 94, 95, 96, 97, 99, 101, 102, 103, 104, 106, 107, 108, 109, 110, 111, 112, 113, 114, 118, 120, 121, 122, 123, 124, 125, 126, 127, 128, 129, 130, 133, 134, 135, 136, 137, 138, 140, 141, 142, 143, 145, 146, 147, 149, 150, 151, 152, 153, 154, 158, 160, 161, 162, 163, 165, 166, 167, 168, 169, 170, 171, 172, 174, 175, 177, 179, 181, 182, 183, 184, 186, 187, 188, 190, 191, 193, 195, 196, 197, 198, 200, 201, 203, 204, 205, 206, 207, 208, 209, 210, 211, 212, 213, 215, 216, 218, 219, 220, 221, 222, 223, 224, 225, 226, 227, 228, 229, 230, 231, 232, 233, 234, 235, 237, 238, 239, 240, 241, 242, 243, 244, 245, 246, 247, 249, 250, 251, 253, 254, 255, 256, 257, 258, 259, 260, 263, 264, 265, 266, 267, 268, 269, 270, 271, 272, 273, 274, 276, 277, 278, 279, 281, 282, 283, 284, 285, 286, 287, 288, 289, 290, 291, 292, 293, 294, 295, 296, 298, 300, 301, 302, 303, 305, 306, 307, 308, 309, 310, 311, 313, 314, 315, 317, 318, 319, 320, 321, 322, 323, 324, 325, 326, 327, 328, 329, 330, 331, 332, 333, 334, 335, 336, 337, 338, 340, 341, 342, 343, 344, 345, 346, 347, 348, 349, 350, 351, 352, 353, 354, 358, 359, 360, 361, 362, 363, 364, 365, 366, 367, 368, 369, 370, 388, 390, 392, 395, 397, 398, 399, 400, 401]
def flatOf (f : Nat) : Bool := flats.contains f
/-- What functions of the library answer that the evaluator does not run. -/
def extOf : Nat → Option (List X → Option (List X × List (Option X)))
  | 233 => some fun
    | [.t (.str a), .t (.str b)] => some ([.t (.int .i64 (Lib.compareBytes a b))], [])
    | _ => none
  | 255 => some fun
    | [.t (.str a), .t (.int .i64 n)] => if 0 ≤ n ∧ n ≤ 9223372036854775807 ∧ a.length * n.toNat ≤ 140737488355328 then some ([.t (.str (Lib.repeatL a n.toNat))], []) else none
    | _ => none
  | 324 => some fun
    | [.t (.str a), .t (.int .u8 c)] => some ([.t (.int .i64 (Lib.countByte a c.toNat.toUInt8))], [])
    | _ => none
  | 363 => some fun
    | [.t (.str a), .t (.int .u8 c)] => some ([.t (.int .i64 (Lib.indexByte a c.toNat.toUInt8))], [])
    | _ => none
  | 131 => some fun
    | [.t (.list xs)] => if (xs.all fun x => x.cells.length == 3) = true ∧ xs.length < 4294967296 then some ([.row 74 xs], []) else none
    | _ => none
  | 78 => some fun _ => none
  | 132 => some fun _ => none
  | _ => none
noncomputable def E : Env := envE Tryz.prog mdOf flatOf extOf
theorem E_md (f : Nat) : E.md f = mdOf f := rfl
theorem E_ext (f : Nat) : E.ext f = extOf f := rfl
theorem E_ty2 : E.ty 2 = { k := .int .i64, size := 1, bytes := 8, zero := [.t (.int .i64 0)], elem := 0, fields := [] } := by kernel_rfl
theorem E_ty3 : E.ty 3 = { k := .int .i64, size := 1, bytes := 8, zero := [.t (.int .i64 0)], elem := 0, fields := [] } := by kernel_rfl
theorem E_ty4 : E.ty 4 = { k := .bool, size := 1, bytes := 1, zero := [.t (.bool false)], elem := 0, fields := [] } := by kernel_rfl
theorem E_ty5 : E.ty 5 = { k := .int .u8, size := 1, bytes := 1, zero := [.t (.int .u8 0)], elem := 0, fields := [] } := by kernel_rfl
theorem E_ty6 : E.ty 6 = { k := .int .u8, size := 1, bytes := 1, zero := [.t (.int .u8 0)], elem := 0, fields := [] } := by kernel_rfl
theorem E_ty7 : E.ty 7 = { k := .struct, size := 4, bytes := 24, zero := [.t (.int .i64 0), .t (.int .i64 0), .t (.bool false), .t (.int .u8 0)], elem := 0, fields := [(0, 2), (1, 3), (2, 4), (3, 6)] } := by kernel_rfl
theorem E_ty8 : E.ty 8 = { k := .struct, size := 4, bytes := 24, zero := [.t (.int .i64 0), .t (.int .i64 0), .t (.bool false), .t (.int .u8 0)], elem := 0, fields := [(0, 2), (1, 3), (2, 4), (3, 6)] } := by kernel_rfl
theorem E_ty9 : E.ty 9 = { k := .str, size := 1, bytes := 16, zero := [.t (.str [])], elem := 0, fields := [] } := by kernel_rfl
theorem E_ty11 : E.ty 11 = { k := .str, size := 1, bytes := 16, zero := [.t (.str [])], elem := 0, fields := [] } := by kernel_rfl
theorem E_ty12 : E.ty 12 = { k := .int .u64, size := 1, bytes := 8, zero := [.t (.int .u64 0)], elem := 0, fields := [] } := by kernel_rfl
theorem E_ty13 : E.ty 13 = { k := .struct, size := 2, bytes := 24, zero := [.t (.str []), .t (.int .u64 0)], elem := 0, fields := [(0, 9), (1, 12)] } := by kernel_rfl
theorem E_ty21 : E.ty 21 = { k := .int .i32, size := 1, bytes := 4, zero := [.t (.int .i32 0)], elem := 0, fields := [] } := by kernel_rfl
theorem E_ty73 : E.ty 73 = { k := .struct, size := 3, bytes := 32, zero := [.t (.int .i64 0), .t (.int .i64 0), .t (.str [])], elem := 0, fields := [(0, 3), (1, 3), (2, 9)] } := by kernel_rfl
theorem E_ty83 : E.ty 83 = { k := .struct, size := 3, bytes := 32, zero := [.t (.int .i64 0), .t (.int .i64 0), .t (.str [])], elem := 0, fields := [(0, 3), (1, 3), (2, 9)] } := by kernel_rfl
theorem E_ty74 : E.ty 74 = { k := .struct, size := 3, bytes := 32, zero := [.t (.int .i64 0), .t (.int .i64 0), .t (.str [])], elem := 0, fields := [(0, 3), (1, 3), (2, 9)] } := by kernel_rfl
theorem E_ty23 : E.ty 23 = { k := .slice, size := 1, bytes := 24, zero := [.nil], elem := 119, fields := [] } := by kernel_rfl
theorem E_ty70 : E.ty 70 = { k := .slice, size := 1, bytes := 24, zero := [.nil], elem := 9, fields := [] } := by kernel_rfl
theorem E_ty66 : E.ty 66 = { k := .slice, size := 1, bytes := 24, zero := [.nil], elem := 65, fields := [] } := by kernel_rfl
theorem E_ty67 : E.ty 67 = { k := .struct, size := 1, bytes := 24, zero := [.nil], elem := 0, fields := [(0, 66)] } := by kernel_rfl
theorem E_ty68 : E.ty 68 = { k := .struct, size := 1, bytes := 24, zero := [.nil], elem := 0, fields := [(0, 66)] } := by kernel_rfl
theorem E_ty30 : E.ty 30 = { k := .slice, size := 1, bytes := 24, zero := [.nil], elem := 62, fields := [] } := by kernel_rfl
theorem E_ty71 : E.ty 71 = { k := .struct, size := 6, bytes := 104, zero := [.nil, .nil, .t (.int .i64 0), .t (.int .i64 0), .nil, .t (.str [])], elem := 0, fields := [(0, 68), (1, 30), (2, 3), (3, 3), (4, 70), (5, 9)] } := by kernel_rfl
theorem E_ty72 : E.ty 72 = { k := .struct, size := 6, bytes := 104, zero := [.nil, .nil, .t (.int .i64 0), .t (.int .i64 0), .nil, .t (.str [])], elem := 0, fields := [(0, 68), (1, 30), (2, 3), (3, 3), (4, 70), (5, 9)] } := by kernel_rfl
theorem E_ty84 : E.ty 84 = { k := .struct, size := 5, bytes := 56, zero := [.t (.int .i64 0), .t (.str []), .t (.int .i64 0), .t (.int .i64 0), .t (.str [])], elem := 0, fields := [(0, 3), (1, 9), (2, 83)] } := by kernel_rfl
theorem E_ty90 : E.ty 90 = { k := .struct, size := 5, bytes := 56, zero := [.t (.int .i64 0), .t (.str []), .t (.int .i64 0), .t (.int .i64 0), .t (.str [])], elem := 0, fields := [(0, 3), (1, 9), (2, 74)] } := by kernel_rfl
theorem E_ty285 : E.ty 285 = { k := .struct, size := 5, bytes := 56, zero := [.t (.int .i64 0), .t (.str []), .t (.int .i64 0), .t (.int .i64 0), .t (.str [])], elem := 0, fields := [(0, 3), (1, 9), (2, 74)] } := by kernel_rfl
theorem E_ty37 : E.ty 37 = { k := .struct, size := 2, bytes := 40, zero := [.t (.str []), .nil], elem := 0, fields := [(0, 9), (1, 23)] } := by kernel_rfl
theorem E_ty38 : E.ty 38 = { k := .struct, size := 2, bytes := 40, zero := [.t (.str []), .nil], elem := 0, fields := [(0, 9), (1, 23)] } := by kernel_rfl
theorem E_ty47 : E.ty 47 = { k := .struct, size := 2, bytes := 40, zero := [.t (.str []), .nil], elem := 0, fields := [(0, 9), (1, 30)] } := by kernel_rfl
theorem E_ty48 : E.ty 48 = { k := .struct, size := 2, bytes := 40, zero := [.t (.str []), .nil], elem := 0, fields := [(0, 9), (1, 30)] } := by kernel_rfl
theorem E_ty57 : E.ty 57 = { k := .slice, size := 1, bytes := 24, zero := [.nil], elem := 5, fields := [] } := by kernel_rfl
theorem E_ty61 : E.ty 61 = { k := .struct, size := 2, bytes := 24, zero := [.t (.str []), .t (.bool false)], elem := 0, fields := [(0, 9), (1, 4)] } := by kernel_rfl
theorem E_ty119 : E.ty 119 = { k := .struct, size := 2, bytes := 24, zero := [.t (.str []), .t (.bool false)], elem := 0, fields := [(0, 9), (1, 4)] } := by kernel_rfl
theorem E_ty403 : E.ty 403 = { k := .struct, size := 3, bytes := 40, zero := [.t (.str []), .t (.str []), .t (.bool false)], elem := 0, fields := [(0, 9), (1, 9), (2, 4)] } := by kernel_rfl
theorem E_ty404 : E.ty 404 = { k := .struct, size := 3, bytes := 40, zero := [.t (.str []), .t (.str []), .t (.bool false)], elem := 0, fields := [(0, 9), (1, 9), (2, 4)] } := by kernel_rfl
theorem E_ty62 : E.ty 62 = { k := .struct, size := 2, bytes := 24, zero := [.t (.str []), .t (.bool false)], elem := 0, fields := [(0, 9), (1, 4)] } := by kernel_rfl
theorem E_ty26 : E.ty 26 = { k := .slice, size := 1, bytes := 24, zero := [.nil], elem := 74, fields := [] } := by kernel_rfl
theorem E_ty63 : E.ty 63 = { k := .slice, size := 1, bytes := 24, zero := [.nil], elem := 285, fields := [] } := by kernel_rfl
theorem E_ty64 : E.ty 64 = { k := .struct, size := 1, bytes := 24, zero := [.nil], elem := 0, fields := [(0, 63)] } := by kernel_rfl
theorem E_ty65 : E.ty 65 = { k := .struct, size := 1, bytes := 24, zero := [.nil], elem := 0, fields := [(0, 63)] } := by kernel_rfl
theorem E_ty202 : E.ty 202 = { k := .struct, size := 3, bytes := 40, zero := [.nil, .t (.int .i64 0), .t (.int .i64 0)], elem := 0, fields := [(0, 57), (1, 3), (2, 3)] } := by kernel_rfl
theorem E_ty203 : E.ty 203 = { k := .struct, size := 3, bytes := 40, zero := [.nil, .t (.int .i64 0), .t (.int .i64 0)], elem := 0, fields := [(0, 57), (1, 3), (2, 3)] } := by kernel_rfl
theorem E_ty77 : E.ty 77 = { k := .slice, size := 1, bytes := 24, zero := [.nil], elem := 211, fields := [] } := by kernel_rfl
theorem E_ty210 : E.ty 210 = { k := .struct, size := 4, bytes := 48, zero := [.t (.str []), .t (.int .i64 0), .t (.int .i64 0), .t (.str [])], elem := 0, fields := [(0, 9), (1, 74)] } := by kernel_rfl
theorem E_ty211 : E.ty 211 = { k := .struct, size := 4, bytes := 48, zero := [.t (.str []), .t (.int .i64 0), .t (.int .i64 0), .t (.str [])], elem := 0, fields := [(0, 9), (1, 74)] } := by kernel_rfl
theorem E_ty267 : E.ty 267 = { k := .slice, size := 1, bytes := 24, zero := [.nil], elem := 3, fields := [] } := by kernel_rfl
theorem E_ty216 : E.ty 216 = { k := .struct, size := 2, bytes := 24, zero := [.t (.str []), .t (.bool false)], elem := 0, fields := [(0, 9), (1, 4)] } := by kernel_rfl
theorem E_ty217 : E.ty 217 = { k := .struct, size := 2, bytes := 24, zero := [.t (.str []), .t (.bool false)], elem := 0, fields := [(0, 9), (1, 4)] } := by kernel_rfl
theorem E_ty197 : E.ty 197 = { k := .int .u64, size := 1, bytes := 8, zero := [.t (.int .u64 0)], elem := 0, fields := [] } := by kernel_rfl
theorem E_ty278 : E.ty 278 = { k := .int .u32, size := 1, bytes := 4, zero := [.t (.int .u32 0)], elem := 0, fields := [] } := by kernel_rfl
theorem E_ty280 : E.ty 280 = { k := .int .u64, size := 1, bytes := 8, zero := [.t (.int .u64 0)], elem := 0, fields := [] } := by kernel_rfl
theorem E_ty378 : E.ty 378 = { k := .struct, size := 2, bytes := 2, zero := [.t (.int .u8 0), .t (.int .u8 0)], elem := 0, fields := [(0, 5), (1, 5)] } := by kernel_rfl
theorem E_ty379 : E.ty 379 = { k := .struct, size := 2, bytes := 2, zero := [.t (.int .u8 0), .t (.int .u8 0)], elem := 0, fields := [(0, 5), (1, 5)] } := by kernel_rfl
theorem E_ty391 : E.ty 391 = { k := .int .u8, size := 1, bytes := 1, zero := [.t (.int .u8 0)], elem := 0, fields := [] } := by kernel_rfl
theorem E_ty392 : E.ty 392 = { k := .int .u8, size := 1, bytes := 1, zero := [.t (.int .u8 0)], elem := 0, fields := [] } := by kernel_rfl
theorem E_ty394 : E.ty 394 = { k := .int .i32, size := 1, bytes := 4, zero := [.t (.int .i32 0)], elem := 0, fields := [] } := by kernel_rfl
theorem E_ty395 : E.ty 395 = { k := .int .i32, size := 1, bytes := 4, zero := [.t (.int .i32 0)], elem := 0, fields := [] } := by kernel_rfl


theorem E_ty39 : E.ty 39 = { k := .slice, size := 1, bytes := 24, zero := [.nil], elem := 263, fields := [] } := by kernel_rfl
theorem E_ty40 : E.ty 40 = { k := .struct, size := 2, bytes := 32, zero := [.nil, .t (.int .i64 0)], elem := 0, fields := [(0, 39), (1, 3)] } := by kernel_rfl
theorem E_ty41 : E.ty 41 = { k := .struct, size := 2, bytes := 32, zero := [.nil, .t (.int .i64 0)], elem := 0, fields := [(0, 39), (1, 3)] } := by kernel_rfl
theorem E_ty42 : E.ty 42 = { k := .struct, size := 4, bytes := 72, zero := [.t (.str []), .nil, .nil, .t (.int .i64 0)], elem := 0, fields := [(0, 38), (2, 41)] } := by kernel_rfl
theorem E_ty43 : E.ty 43 = { k := .struct, size := 4, bytes := 72, zero := [.t (.str []), .nil, .nil, .t (.int .i64 0)], elem := 0, fields := [(0, 38), (2, 41)] } := by kernel_rfl
theorem E_ty49 : E.ty 49 = { k := .slice, size := 1, bytes := 24, zero := [.nil], elem := 135, fields := [] } := by kernel_rfl
theorem E_ty50 : E.ty 50 = { k := .struct, size := 2, bytes := 32, zero := [.nil, .t (.int .i64 0)], elem := 0, fields := [(0, 49), (1, 3)] } := by kernel_rfl
theorem E_ty51 : E.ty 51 = { k := .struct, size := 2, bytes := 32, zero := [.nil, .t (.int .i64 0)], elem := 0, fields := [(0, 49), (1, 3)] } := by kernel_rfl
theorem E_ty52 : E.ty 52 = { k := .struct, size := 4, bytes := 72, zero := [.t (.str []), .nil, .nil, .t (.int .i64 0)], elem := 0, fields := [(0, 48), (2, 51)] } := by kernel_rfl
theorem E_ty53 : E.ty 53 = { k := .struct, size := 4, bytes := 72, zero := [.t (.str []), .nil, .nil, .t (.int .i64 0)], elem := 0, fields := [(0, 48), (2, 51)] } := by kernel_rfl
theorem E_ty133 : E.ty 133 = { k := .slice, size := 1, bytes := 24, zero := [.nil], elem := 132, fields := [] } := by kernel_rfl
theorem E_ty134 : E.ty 134 = { k := .struct, size := 2, bytes := 32, zero := [.t (.int .i64 0), .nil], elem := 0, fields := [(0, 3), (1, 133)] } := by kernel_rfl
theorem E_ty135 : E.ty 135 = { k := .struct, size := 2, bytes := 32, zero := [.t (.int .i64 0), .nil], elem := 0, fields := [(0, 3), (1, 133)] } := by kernel_rfl
theorem E_ty132 : E.ty 132 = { k := .struct, size := 2, bytes := 24, zero := [.t (.str []), .t (.int .i64 0)], elem := 0, fields := [(0, 9), (1, 3)] } := by kernel_rfl
theorem E_ty261 : E.ty 261 = { k := .slice, size := 1, bytes := 24, zero := [.nil], elem := 358, fields := [] } := by kernel_rfl
theorem E_ty262 : E.ty 262 = { k := .struct, size := 2, bytes := 32, zero := [.t (.int .i64 0), .nil], elem := 0, fields := [(0, 3), (1, 261)] } := by kernel_rfl
theorem E_ty263 : E.ty 263 = { k := .struct, size := 2, bytes := 32, zero := [.t (.int .i64 0), .nil], elem := 0, fields := [(0, 3), (1, 261)] } := by kernel_rfl
theorem E_ty358 : E.ty 358 = { k := .struct, size := 2, bytes := 24, zero := [.t (.str []), .t (.int .i64 0)], elem := 0, fields := [(0, 9), (1, 3)] } := by kernel_rfl
theorem E_ty22 : E.ty 22 = { k := .slice, size := 1, bytes := 24, zero := [.nil], elem := 83, fields := [] } := by kernel_rfl
theorem E_ty85 : E.ty 85 = { k := .struct, size := 5, bytes := 56, zero := [.t (.int .i64 0), .t (.str []), .t (.int .i64 0), .t (.int .i64 0), .t (.str [])], elem := 0, fields := [(0, 3), (1, 9), (2, 83)] } := by kernel_rfl
theorem E_ty91 : E.ty 91 = { k := .struct, size := 5, bytes := 56, zero := [.t (.int .i64 0), .t (.str []), .t (.int .i64 0), .t (.int .i64 0), .t (.str [])], elem := 0, fields := [(0, 3), (1, 9), (2, 74)] } := by kernel_rfl
theorem E_ty102 : E.ty 102 = { k := .slice, size := 1, bytes := 24, zero := [.nil], elem := 91, fields := [] } := by kernel_rfl
theorem E_ty104 : E.ty 104 = { k := .slice, size := 1, bytes := 24, zero := [.nil], elem := 239, fields := [] } := by kernel_rfl
theorem E_ty105 : E.ty 105 = { k := .slice, size := 1, bytes := 24, zero := [.nil], elem := 38, fields := [] } := by kernel_rfl
theorem E_ty106 : E.ty 106 = { k := .struct, size := 3, bytes := 64, zero := [.t (.str []), .nil, .nil], elem := 0, fields := [(0, 9), (1, 104), (2, 105)] } := by kernel_rfl
theorem E_ty107 : E.ty 107 = { k := .struct, size := 3, bytes := 64, zero := [.t (.str []), .nil, .nil], elem := 0, fields := [(0, 9), (1, 104), (2, 105)] } := by kernel_rfl
theorem E_ty110 : E.ty 110 = { k := .slice, size := 1, bytes := 24, zero := [.nil], elem := 242, fields := [] } := by kernel_rfl
theorem E_ty111 : E.ty 111 = { k := .slice, size := 1, bytes := 24, zero := [.nil], elem := 48, fields := [] } := by kernel_rfl
theorem E_ty112 : E.ty 112 = { k := .struct, size := 3, bytes := 64, zero := [.t (.str []), .nil, .nil], elem := 0, fields := [(0, 9), (1, 110), (2, 111)] } := by kernel_rfl
theorem E_ty113 : E.ty 113 = { k := .struct, size := 3, bytes := 64, zero := [.t (.str []), .nil, .nil], elem := 0, fields := [(0, 9), (1, 110), (2, 111)] } := by kernel_rfl
theorem E_ty237 : E.ty 237 = { k := .slice, size := 1, bytes := 24, zero := [.nil], elem := 352, fields := [] } := by kernel_rfl
theorem E_ty238 : E.ty 238 = { k := .struct, size := 2, bytes := 32, zero := [.t (.int .i64 0), .nil], elem := 0, fields := [(0, 3), (1, 237)] } := by kernel_rfl
theorem E_ty239 : E.ty 239 = { k := .struct, size := 2, bytes := 32, zero := [.t (.int .i64 0), .nil], elem := 0, fields := [(0, 3), (1, 237)] } := by kernel_rfl
theorem E_ty240 : E.ty 240 = { k := .slice, size := 1, bytes := 24, zero := [.nil], elem := 244, fields := [] } := by kernel_rfl
theorem E_ty241 : E.ty 241 = { k := .struct, size := 2, bytes := 32, zero := [.t (.int .i64 0), .nil], elem := 0, fields := [(0, 3), (1, 240)] } := by kernel_rfl
theorem E_ty242 : E.ty 242 = { k := .struct, size := 2, bytes := 32, zero := [.t (.int .i64 0), .nil], elem := 0, fields := [(0, 3), (1, 240)] } := by kernel_rfl
theorem E_ty243 : E.ty 243 = { k := .struct, size := 5, bytes := 48, zero := [.t (.int .i64 0), .t (.bool false), .t (.int .i64 0), .t (.int .i64 0), .t (.str [])], elem := 0, fields := [(0, 3), (1, 4), (2, 74)] } := by kernel_rfl
theorem E_ty244 : E.ty 244 = { k := .struct, size := 5, bytes := 48, zero := [.t (.int .i64 0), .t (.bool false), .t (.int .i64 0), .t (.int .i64 0), .t (.str [])], elem := 0, fields := [(0, 3), (1, 4), (2, 74)] } := by kernel_rfl
theorem E_ty351 : E.ty 351 = { k := .struct, size := 5, bytes := 48, zero := [.t (.int .i64 0), .t (.bool false), .t (.int .i64 0), .t (.int .i64 0), .t (.str [])], elem := 0, fields := [(0, 3), (1, 4), (2, 83)] } := by kernel_rfl
theorem E_ty352 : E.ty 352 = { k := .struct, size := 5, bytes := 48, zero := [.t (.int .i64 0), .t (.bool false), .t (.int .i64 0), .t (.int .i64 0), .t (.str [])], elem := 0, fields := [(0, 3), (1, 4), (2, 83)] } := by kernel_rfl
theorem E_eq285 : E.eqT 285 = [.int .i64, .str, .int .i64, .int .i64, .str] := by kernel_rfl
theorem E_eq74 : E.eqT 74 = [.int .i64, .int .i64, .str] := by kernel_rfl
theorem mixed : Tryz.prog.follows .mixedOrders = true := by kernel_rfl
theorem names_ok : namesOK Tryz.prog = true := by kernel_rfl
attribute [simp] St.takeCell0 St.takeCells0 St.giveCell0 St.giveCells0 St.slIds St.lookX SV.isSl SV.hasSl X.shal1 St.roomOf sameRow St.clearAt St.appendIn run_seq run_region run_ret run_cond run_block run_exit run_skip run_nil run_cons stepO thenOps_some thenOps_ite run_consS stepS labS labOf appLab lookLab builtS fnKill ptrIds dynOK ckOK run_nilS thenBackS_res thenBackS_ite thenGoS_some fnMuts SV.isPtr thenOpsS_some thenOpsS_ite St.opS callBackS dataBack X.data X.data1 SV.plain1 SV.plainL SV.plain SV.plains thenSeq_normal thenSeq_exit thenSeq_ret thenSeq_ite thenBlock_normal thenBlock_exit thenBlock_ret thenBlock_ite thenLoop_normal thenLoop_exit thenLoop_ret thenLoop_ite thenCall_normal thenCall_ret thenCall_ite thenBack_res thenBack_ite thenGo_some thenPut_some thenPut_ite
  un pickMin St.append St.base St.moreOf St.fits St.elems T.listOf St.absorb St.absorbAll mkT bytesT toBytes St.bindCells St.bindCell St.giveMut St.giveCells St.giveCell liveIds St.mutIds St.capIds St.giveRo.go St.backOne St.regain St.freeze St.rowAt kill freezeAll
  guardOf fillP St.op St.val initSt emptySt St.bindAll St.bind St.put dstOk upd ofT St.bin binI isShift ofConst St.finish St.resVals muts ros St.takeAll St.take St.takeCell St.backAll T.one X.flats X.flat T.flat backFlat E_md mdOf X.quiets X.quiet St.takeCells St.convert St.builtin St.lenOf St.slen binS shiftI St.sliceAt St.boundOr asNat callPrep callBack callMid ownB St.mutAll St.roAll St.roIds rowIds SV.cells St.give St.giveRo St.peek St.peek1 kill freezeAll St.regainAll tupOf St.setO St.alloc eqCells kindsOK St.peekL TI.agg TI.known isSlice sliceOrStr SV.one fieldAt St.loadAt St.storeAt mkSV splice St.part T.cells T.setCells St.absorbL St.absorb1 St.indexAt St.indexAt0 globAt
attribute [simp] E_eq285 E_eq74 E_ty2 E_ty3 E_ty4 E_ty5 E_ty6 E_ty7 E_ty8 E_ty9 E_ty11 E_ty12 E_ty13 E_ty21 E_ty73 E_ty83 E_ty74 E_ty23 E_ty70 E_ty66 E_ty67 E_ty68 E_ty30 E_ty71 E_ty72 E_ty84 E_ty90 E_ty285 E_ty37 E_ty38 E_ty47 E_ty48 E_ty57 E_ty61 E_ty119 E_ty403 E_ty404 E_ty62 E_ty26 E_ty63 E_ty64 E_ty65 E_ty202 E_ty203 E_ty77 E_ty210 E_ty211 E_ty267 E_ty216 E_ty217 E_ty197 E_ty278 E_ty280 E_ty378 E_ty379 E_ty391 E_ty392 E_ty394 E_ty395 E_ty39 E_ty40 E_ty41 E_ty42 E_ty43 E_ty49 E_ty50 E_ty51 E_ty52 E_ty53 E_ty133 E_ty134 E_ty135 E_ty132 E_ty261 E_ty262 E_ty263 E_ty358 E_ty22 E_ty85 E_ty91 E_ty102 E_ty104 E_ty105 E_ty106 E_ty107 E_ty110 E_ty111 E_ty112 E_ty113 E_ty237 E_ty238 E_ty239 E_ty240 E_ty241 E_ty242 E_ty243 E_ty244 E_ty351 E_ty352
theorem fl34 : E.flat 34 = true := by kernel_rfl
theorem fl37 : E.flat 37 = true := by kernel_rfl
theorem fl40 : E.flat 40 = true := by kernel_rfl
theorem fl87 : E.flat 87 = true := by kernel_rfl
theorem fl66 : E.flat 66 = true := by kernel_rfl
theorem fl73 : E.flat 73 = false := by kernel_rfl
theorem fl82 : E.flat 82 = true := by kernel_rfl
theorem fl94 : E.flat 94 = true := by kernel_rfl
theorem fl92 : E.flat 92 = true := by kernel_rfl
theorem fl243 : E.flat 243 = true := by kernel_rfl
theorem fl56 : E.flat 56 = true := by kernel_rfl
theorem fl60 : E.flat 60 = true := by kernel_rfl
theorem fl11 : E.flat 11 = true := by kernel_rfl
theorem fl142 : E.flat 142 = true := by kernel_rfl
theorem fl196 : E.flat 196 = true := by kernel_rfl
theorem fl125 : E.flat 125 = true := by kernel_rfl
theorem fl14 : E.flat 14 = false := by kernel_rfl
theorem fl158 : E.flat 158 = true := by kernel_rfl
theorem fl62 : E.flat 62 = true := by kernel_rfl
theorem fl109 : E.flat 109 = true := by kernel_rfl
theorem fl90 : E.flat 90 = true := by kernel_rfl
theorem fl103 : E.flat 103 = true := by kernel_rfl
theorem fl17 : E.flat 17 = true := by kernel_rfl
theorem fl124 : E.flat 124 = true := by kernel_rfl
theorem fl89 : E.flat 89 = true := by kernel_rfl
theorem fl247 : E.flat 247 = true := by kernel_rfl
theorem fl137 : E.flat 137 = true := by kernel_rfl
theorem fl197 : E.flat 197 = true := by kernel_rfl
theorem fl145 : E.flat 145 = true := by kernel_rfl
theorem fl84 : E.flat 84 = false := by kernel_rfl
theorem fl100 : E.flat 100 = false := by kernel_rfl
theorem fl180 : E.flat 180 = false := by kernel_rfl
theorem fl171 : E.flat 171 = true := by kernel_rfl
theorem fl167 : E.flat 167 = true := by kernel_rfl
theorem fl43 : E.flat 43 = true := by kernel_rfl
theorem fl130 : E.flat 130 = true := by kernel_rfl
theorem fl98 : E.flat 98 = false := by kernel_rfl
theorem fl214 : E.flat 214 = false := by kernel_rfl
theorem fl205 : E.flat 205 = true := by kernel_rfl
theorem fl105 : E.flat 105 = false := by kernel_rfl
theorem fl134 : E.flat 134 = true := by kernel_rfl
theorem fl279 : E.flat 279 = true := by kernel_rfl
theorem fl173 : E.flat 173 = false := by kernel_rfl
theorem fl239 : E.flat 239 = true := by kernel_rfl
theorem fl240 : E.flat 240 = true := by kernel_rfl
theorem fl241 : E.flat 241 = true := by kernel_rfl
theorem fl242 : E.flat 242 = true := by kernel_rfl
theorem fl128 : E.flat 128 = true := by kernel_rfl
theorem fl129 : E.flat 129 = true := by kernel_rfl
theorem fl101 : E.flat 101 = true := by kernel_rfl
theorem fl162 : E.flat 162 = true := by kernel_rfl
theorem fl183 : E.flat 183 = true := by kernel_rfl
theorem fl64 : E.flat 64 = true := by kernel_rfl
theorem fl253 : E.flat 253 = true := by kernel_rfl
theorem fl315 : E.flat 315 = true := by kernel_rfl
theorem fl70 : E.flat 70 = true := by kernel_rfl
theorem fl218 : E.flat 218 = true := by kernel_rfl
theorem fl283 : E.flat 283 = true := by kernel_rfl
theorem fl284 : E.flat 284 = true := by kernel_rfl
theorem fl140 : E.flat 140 = true := by kernel_rfl
theorem fl155 : E.flat 155 = false := by kernel_rfl
theorem fl181 : E.flat 181 = true := by kernel_rfl
theorem fl236 : E.flat 236 = false := by kernel_rfl
theorem fl157 : E.flat 157 = false := by kernel_rfl
theorem fl266 : E.flat 266 = true := by kernel_rfl
theorem fl238 : E.flat 238 = true := by kernel_rfl
theorem fl265 : E.flat 265 = true := by kernel_rfl
theorem fl192 : E.flat 192 = false := by kernel_rfl
theorem fl194 : E.flat 194 = false := by kernel_rfl
theorem fl251 : E.flat 251 = true := by kernel_rfl
theorem fl252 : E.flat 252 = false := by kernel_rfl
theorem fl254 : E.flat 254 = true := by kernel_rfl
theorem fl102 : E.flat 102 = true := by kernel_rfl
theorem fl388 : E.flat 388 = true := by kernel_rfl
theorem fl93 : E.flat 93 = false := by kernel_rfl
theorem fl147 : E.flat 147 = true := by kernel_rfl
theorem fl178 : E.flat 178 = false := by kernel_rfl
theorem fl297 : E.flat 297 = false := by kernel_rfl
theorem fl287 : E.flat 287 = true := by kernel_rfl
theorem fl185 : E.flat 185 = false := by kernel_rfl
theorem fl151 : E.flat 151 = true := by kernel_rfl
theorem fl153 : E.flat 153 = true := by kernel_rfl
theorem fl189 : E.flat 189 = false := by kernel_rfl
theorem fl209 : E.flat 209 = true := by kernel_rfl
theorem fl210 : E.flat 210 = true := by kernel_rfl
theorem fl211 : E.flat 211 = true := by kernel_rfl
theorem fl152 : E.flat 152 = true := by kernel_rfl
theorem fl331 : E.flat 331 = true := by kernel_rfl
theorem fl313 : E.flat 313 = true := by kernel_rfl
theorem fl314 : E.flat 314 = true := by kernel_rfl
theorem fl207 : E.flat 207 = true := by kernel_rfl
theorem fl182 : E.flat 182 = true := by kernel_rfl
theorem fl269 : E.flat 269 = true := by kernel_rfl
theorem fl270 : E.flat 270 = true := by kernel_rfl
theorem fl244 : E.flat 244 = true := by kernel_rfl
theorem fl342 : E.flat 342 = true := by kernel_rfl
theorem fl141 : E.flat 141 = true := by kernel_rfl
theorem fl76 : E.flat 76 = true := by kernel_rfl
theorem fl215 : E.flat 215 = true := by kernel_rfl
theorem fl216 : E.flat 216 = true := by kernel_rfl
theorem fl222 : E.flat 222 = true := by kernel_rfl
theorem fl267 : E.flat 267 = true := by kernel_rfl
theorem fl268 : E.flat 268 = true := by kernel_rfl
theorem fl312 : E.flat 312 = false := by kernel_rfl
theorem fl277 : E.flat 277 = true := by kernel_rfl
theorem fl392 : E.flat 392 = true := by kernel_rfl
theorem fl168 : E.flat 168 = true := by kernel_rfl
theorem fl169 : E.flat 169 = true := by kernel_rfl
theorem fl170 : E.flat 170 = true := by kernel_rfl
theorem fl221 : E.flat 221 = true := by kernel_rfl
theorem fl262 : E.flat 262 = false := by kernel_rfl
theorem fl263 : E.flat 263 = true := by kernel_rfl
theorem fl264 : E.flat 264 = true := by kernel_rfl
theorem fl234 : E.flat 234 = true := by kernel_rfl
theorem fl233 : E.flat 233 = true := by kernel_rfl
theorem fl358 : E.flat 358 = true := by kernel_rfl
theorem fl359 : E.flat 359 = true := by kernel_rfl
theorem fl361 : E.flat 361 = true := by kernel_rfl
theorem fl298 : E.flat 298 = true := by kernel_rfl
theorem fl303 : E.flat 303 = true := by kernel_rfl
theorem fl304 : E.flat 304 = false := by kernel_rfl
theorem fl329 : E.flat 329 = true := by kernel_rfl
theorem fl255 : E.flat 255 = true := by kernel_rfl
theorem fl256 : E.flat 256 = true := by kernel_rfl
theorem fl301 : E.flat 301 = true := by kernel_rfl
theorem fl302 : E.flat 302 = true := by kernel_rfl
theorem fl316 : E.flat 316 = false := by kernel_rfl
theorem fl322 : E.flat 322 = true := by kernel_rfl
theorem fl323 : E.flat 323 = true := by kernel_rfl
theorem fl324 : E.flat 324 = true := by kernel_rfl
theorem fl325 : E.flat 325 = true := by kernel_rfl
theorem fl310 : E.flat 310 = true := by kernel_rfl
theorem fl339 : E.flat 339 = false := by kernel_rfl
theorem fl317 : E.flat 317 = true := by kernel_rfl
theorem fl318 : E.flat 318 = true := by kernel_rfl
theorem fl274 : E.flat 274 = true := by kernel_rfl
theorem fl275 : E.flat 275 = false := by kernel_rfl
theorem fl319 : E.flat 319 = true := by kernel_rfl
theorem fl276 : E.flat 276 = true := by kernel_rfl
theorem fl347 : E.flat 347 = true := by kernel_rfl
theorem fl348 : E.flat 348 = true := by kernel_rfl
theorem fl349 : E.flat 349 = true := by kernel_rfl
theorem fl350 : E.flat 350 = true := by kernel_rfl
theorem fl351 : E.flat 351 = true := by kernel_rfl
theorem fl343 : E.flat 343 = true := by kernel_rfl
theorem fl344 : E.flat 344 = true := by kernel_rfl
theorem fl345 : E.flat 345 = true := by kernel_rfl
theorem fl327 : E.flat 327 = true := by kernel_rfl
theorem fl328 : E.flat 328 = true := by kernel_rfl
theorem fl363 : E.flat 363 = true := by kernel_rfl
theorem fl364 : E.flat 364 = true := by kernel_rfl
theorem fl356 : E.flat 356 = false := by kernel_rfl
theorem fl357 : E.flat 357 = false := by kernel_rfl
theorem fl161 : E.flat 161 = true := by kernel_rfl
theorem fl395 : E.flat 395 = true := by kernel_rfl
theorem fl245 : E.flat 245 = true := by kernel_rfl
theorem fl246 : E.flat 246 = true := by kernel_rfl
theorem fl371 : E.flat 371 = false := by kernel_rfl
theorem fl372 : E.flat 372 = false := by kernel_rfl
theorem fl373 : E.flat 373 = false := by kernel_rfl
theorem fl374 : E.flat 374 = false := by kernel_rfl
theorem fl375 : E.flat 375 = false := by kernel_rfl
theorem fl376 : E.flat 376 = false := by kernel_rfl
theorem fl377 : E.flat 377 = false := by kernel_rfl
theorem fl378 : E.flat 378 = false := by kernel_rfl
theorem fl379 : E.flat 379 = false := by kernel_rfl
theorem fl380 : E.flat 380 = false := by kernel_rfl
theorem fl381 : E.flat 381 = false := by kernel_rfl
theorem fl382 : E.flat 382 = false := by kernel_rfl
theorem fl383 : E.flat 383 = false := by kernel_rfl
theorem fl384 : E.flat 384 = false := by kernel_rfl
theorem fl385 : E.flat 385 = false := by kernel_rfl
theorem fl389 : E.flat 389 = false := by kernel_rfl
theorem fl88 : E.flat 88 = false := by kernel_rfl
theorem fl393 : E.flat 393 = false := by kernel_rfl
theorem fl391 : E.flat 391 = false := by kernel_rfl
theorem fl394 : E.flat 394 = false := by kernel_rfl
theorem fl396 : E.flat 396 = false := by kernel_rfl
theorem fl402 : E.flat 402 = false := by kernel_rfl
theorem fl403 : E.flat 403 = false := by kernel_rfl
theorem fl404 : E.flat 404 = false := by kernel_rfl
theorem fl405 : E.flat 405 = false := by kernel_rfl
theorem fl21 : E.flat 21 = true := by kernel_rfl
theorem fl23 : E.flat 23 = false := by kernel_rfl
theorem fl81 : E.flat 81 = false := by kernel_rfl
theorem fl25 : E.flat 25 = true := by kernel_rfl
theorem fl67 : E.flat 67 = true := by kernel_rfl
theorem fl68 : E.flat 68 = true := by kernel_rfl
theorem fl72 : E.flat 72 = true := by kernel_rfl
theorem fl74 : E.flat 74 = false := by kernel_rfl
theorem fl75 : E.flat 75 = true := by kernel_rfl
theorem fl83 : E.flat 83 = true := by kernel_rfl
theorem fl156 : E.flat 156 = false := by kernel_rfl
theorem fl136 : E.flat 136 = true := by kernel_rfl
theorem fl138 : E.flat 138 = true := by kernel_rfl
theorem fl144 : E.flat 144 = false := by kernel_rfl
theorem fl146 : E.flat 146 = true := by kernel_rfl
theorem fl154 : E.flat 154 = true := by kernel_rfl
theorem fl237 : E.flat 237 = true := by kernel_rfl
theorem fl212 : E.flat 212 = true := by kernel_rfl
theorem fl213 : E.flat 213 = true := by kernel_rfl
theorem fl143 : E.flat 143 = true := by kernel_rfl
theorem fl71 : E.flat 71 = true := by kernel_rfl
theorem fl217 : E.flat 217 = false := by kernel_rfl
theorem fl219 : E.flat 219 = true := by kernel_rfl
theorem fl220 : E.flat 220 = true := by kernel_rfl
theorem fl79 : E.flat 79 = true := by kernel_rfl
theorem fl235 : E.flat 235 = true := by kernel_rfl
theorem fl296 : E.flat 296 = true := by kernel_rfl
theorem fl299 : E.flat 299 = false := by kernel_rfl
theorem fl300 : E.flat 300 = true := by kernel_rfl
theorem fl311 : E.flat 311 = true := by kernel_rfl
theorem fl337 : E.flat 337 = true := by kernel_rfl
theorem fl338 : E.flat 338 = true := by kernel_rfl
theorem fl341 : E.flat 341 = true := by kernel_rfl
theorem fl386 : E.flat 386 = false := by kernel_rfl
theorem fl387 : E.flat 387 = false := by kernel_rfl
theorem fl3 : E.flat 3 = true := by kernel_rfl
theorem fl4 : E.flat 4 = true := by kernel_rfl
theorem fl5 : E.flat 5 = true := by kernel_rfl
theorem fl6 : E.flat 6 = true := by kernel_rfl
theorem fl7 : E.flat 7 = true := by kernel_rfl
theorem fl8 : E.flat 8 = true := by kernel_rfl
theorem fl9 : E.flat 9 = true := by kernel_rfl
theorem fl10 : E.flat 10 = true := by kernel_rfl
theorem fl12 : E.flat 12 = false := by kernel_rfl
theorem fl13 : E.flat 13 = false := by kernel_rfl
theorem fl15 : E.flat 15 = false := by kernel_rfl
theorem fl16 : E.flat 16 = true := by kernel_rfl
theorem fl18 : E.flat 18 = false := by kernel_rfl
theorem fl19 : E.flat 19 = false := by kernel_rfl
theorem fl20 : E.flat 20 = true := by kernel_rfl
theorem fl22 : E.flat 22 = true := by kernel_rfl
theorem fl24 : E.flat 24 = true := by kernel_rfl
theorem fl26 : E.flat 26 = false := by kernel_rfl
theorem fl27 : E.flat 27 = true := by kernel_rfl
theorem fl28 : E.flat 28 = true := by kernel_rfl
theorem fl29 : E.flat 29 = true := by kernel_rfl
theorem fl30 : E.flat 30 = false := by kernel_rfl
theorem fl31 : E.flat 31 = true := by kernel_rfl
theorem fl32 : E.flat 32 = false := by kernel_rfl
theorem fl33 : E.flat 33 = true := by kernel_rfl
theorem fl35 : E.flat 35 = true := by kernel_rfl
theorem fl36 : E.flat 36 = true := by kernel_rfl
theorem fl38 : E.flat 38 = true := by kernel_rfl
theorem fl39 : E.flat 39 = true := by kernel_rfl
theorem fl41 : E.flat 41 = true := by kernel_rfl
theorem fl42 : E.flat 42 = true := by kernel_rfl
theorem fl44 : E.flat 44 = false := by kernel_rfl
theorem fl45 : E.flat 45 = true := by kernel_rfl
theorem fl46 : E.flat 46 = true := by kernel_rfl
theorem fl47 : E.flat 47 = true := by kernel_rfl
theorem fl48 : E.flat 48 = true := by kernel_rfl
theorem fl49 : E.flat 49 = true := by kernel_rfl
theorem fl50 : E.flat 50 = true := by kernel_rfl
theorem fl51 : E.flat 51 = false := by kernel_rfl
theorem fl52 : E.flat 52 = false := by kernel_rfl
theorem fl53 : E.flat 53 = false := by kernel_rfl
theorem fl54 : E.flat 54 = true := by kernel_rfl
theorem fl55 : E.flat 55 = true := by kernel_rfl
theorem fl57 : E.flat 57 = true := by kernel_rfl
theorem fl58 : E.flat 58 = true := by kernel_rfl
theorem fl59 : E.flat 59 = false := by kernel_rfl
theorem fl61 : E.flat 61 = true := by kernel_rfl
theorem fl63 : E.flat 63 = false := by kernel_rfl
theorem fl65 : E.flat 65 = true := by kernel_rfl
theorem fl69 : E.flat 69 = false := by kernel_rfl
theorem fl77 : E.flat 77 = false := by kernel_rfl
theorem fl78 : E.flat 78 = false := by kernel_rfl
theorem fl80 : E.flat 80 = true := by kernel_rfl
theorem fl85 : E.flat 85 = false := by kernel_rfl
theorem fl86 : E.flat 86 = false := by kernel_rfl
theorem fl91 : E.flat 91 = true := by kernel_rfl
theorem fl95 : E.flat 95 = true := by kernel_rfl
theorem fl96 : E.flat 96 = true := by kernel_rfl
theorem fl97 : E.flat 97 = true := by kernel_rfl
theorem fl99 : E.flat 99 = true := by kernel_rfl
theorem fl104 : E.flat 104 = true := by kernel_rfl
theorem fl106 : E.flat 106 = true := by kernel_rfl
theorem fl107 : E.flat 107 = true := by kernel_rfl
theorem fl108 : E.flat 108 = true := by kernel_rfl
theorem fl110 : E.flat 110 = true := by kernel_rfl
theorem fl111 : E.flat 111 = true := by kernel_rfl
theorem fl112 : E.flat 112 = true := by kernel_rfl
theorem fl113 : E.flat 113 = true := by kernel_rfl
theorem fl114 : E.flat 114 = true := by kernel_rfl
theorem fl115 : E.flat 115 = false := by kernel_rfl
theorem fl116 : E.flat 116 = false := by kernel_rfl
theorem fl117 : E.flat 117 = false := by kernel_rfl
theorem fl118 : E.flat 118 = true := by kernel_rfl
theorem fl119 : E.flat 119 = false := by kernel_rfl
theorem fl120 : E.flat 120 = true := by kernel_rfl
theorem fl121 : E.flat 121 = true := by kernel_rfl
theorem fl122 : E.flat 122 = true := by kernel_rfl
theorem fl123 : E.flat 123 = true := by kernel_rfl
theorem fl126 : E.flat 126 = true := by kernel_rfl
theorem fl127 : E.flat 127 = true := by kernel_rfl
theorem fl131 : E.flat 131 = false := by kernel_rfl
theorem fl132 : E.flat 132 = false := by kernel_rfl
theorem fl133 : E.flat 133 = true := by kernel_rfl
theorem fl135 : E.flat 135 = true := by kernel_rfl
theorem fl139 : E.flat 139 = false := by kernel_rfl
theorem fl148 : E.flat 148 = false := by kernel_rfl
theorem fl149 : E.flat 149 = true := by kernel_rfl
theorem fl150 : E.flat 150 = true := by kernel_rfl
theorem fl159 : E.flat 159 = false := by kernel_rfl
theorem fl160 : E.flat 160 = true := by kernel_rfl
theorem fl163 : E.flat 163 = true := by kernel_rfl
theorem fl164 : E.flat 164 = false := by kernel_rfl
theorem fl165 : E.flat 165 = true := by kernel_rfl
theorem fl166 : E.flat 166 = true := by kernel_rfl
theorem fl172 : E.flat 172 = true := by kernel_rfl
theorem fl174 : E.flat 174 = true := by kernel_rfl
theorem fl175 : E.flat 175 = true := by kernel_rfl
theorem fl176 : E.flat 176 = false := by kernel_rfl
theorem fl177 : E.flat 177 = true := by kernel_rfl
theorem fl179 : E.flat 179 = true := by kernel_rfl
theorem fl184 : E.flat 184 = true := by kernel_rfl
theorem fl186 : E.flat 186 = true := by kernel_rfl
theorem fl187 : E.flat 187 = true := by kernel_rfl
theorem fl188 : E.flat 188 = true := by kernel_rfl
theorem fl190 : E.flat 190 = true := by kernel_rfl
theorem fl191 : E.flat 191 = true := by kernel_rfl
theorem fl193 : E.flat 193 = true := by kernel_rfl
theorem fl195 : E.flat 195 = true := by kernel_rfl
theorem fl198 : E.flat 198 = true := by kernel_rfl
theorem fl199 : E.flat 199 = false := by kernel_rfl
theorem fl200 : E.flat 200 = true := by kernel_rfl
theorem fl201 : E.flat 201 = true := by kernel_rfl
theorem fl202 : E.flat 202 = false := by kernel_rfl
theorem fl203 : E.flat 203 = true := by kernel_rfl
theorem fl204 : E.flat 204 = true := by kernel_rfl
theorem fl206 : E.flat 206 = true := by kernel_rfl
theorem fl208 : E.flat 208 = true := by kernel_rfl
theorem fl223 : E.flat 223 = true := by kernel_rfl
theorem fl224 : E.flat 224 = true := by kernel_rfl
theorem fl225 : E.flat 225 = true := by kernel_rfl
theorem fl226 : E.flat 226 = true := by kernel_rfl
theorem fl227 : E.flat 227 = true := by kernel_rfl
theorem fl228 : E.flat 228 = true := by kernel_rfl
theorem fl229 : E.flat 229 = true := by kernel_rfl
theorem fl230 : E.flat 230 = true := by kernel_rfl
theorem fl231 : E.flat 231 = true := by kernel_rfl
theorem fl232 : E.flat 232 = true := by kernel_rfl
theorem fl248 : E.flat 248 = false := by kernel_rfl
theorem fl249 : E.flat 249 = true := by kernel_rfl
theorem fl250 : E.flat 250 = true := by kernel_rfl
theorem fl257 : E.flat 257 = true := by kernel_rfl
theorem fl258 : E.flat 258 = true := by kernel_rfl
theorem fl259 : E.flat 259 = true := by kernel_rfl
theorem fl260 : E.flat 260 = true := by kernel_rfl
theorem fl261 : E.flat 261 = false := by kernel_rfl
theorem fl271 : E.flat 271 = true := by kernel_rfl
theorem fl272 : E.flat 272 = true := by kernel_rfl
theorem fl273 : E.flat 273 = true := by kernel_rfl
theorem fl278 : E.flat 278 = true := by kernel_rfl
theorem fl280 : E.flat 280 = false := by kernel_rfl
theorem fl281 : E.flat 281 = true := by kernel_rfl
theorem fl282 : E.flat 282 = true := by kernel_rfl
theorem fl285 : E.flat 285 = true := by kernel_rfl
theorem fl286 : E.flat 286 = true := by kernel_rfl
theorem fl288 : E.flat 288 = true := by kernel_rfl
theorem fl289 : E.flat 289 = true := by kernel_rfl
theorem fl290 : E.flat 290 = true := by kernel_rfl
theorem fl291 : E.flat 291 = true := by kernel_rfl
theorem fl292 : E.flat 292 = true := by kernel_rfl
theorem fl293 : E.flat 293 = true := by kernel_rfl
theorem fl294 : E.flat 294 = true := by kernel_rfl
theorem fl295 : E.flat 295 = true := by kernel_rfl
theorem fl305 : E.flat 305 = true := by kernel_rfl
theorem fl306 : E.flat 306 = true := by kernel_rfl
theorem fl307 : E.flat 307 = true := by kernel_rfl
theorem fl308 : E.flat 308 = true := by kernel_rfl
theorem fl309 : E.flat 309 = true := by kernel_rfl
theorem fl320 : E.flat 320 = true := by kernel_rfl
theorem fl321 : E.flat 321 = true := by kernel_rfl
theorem fl326 : E.flat 326 = true := by kernel_rfl
theorem fl330 : E.flat 330 = true := by kernel_rfl
theorem fl332 : E.flat 332 = true := by kernel_rfl
theorem fl333 : E.flat 333 = true := by kernel_rfl
theorem fl334 : E.flat 334 = true := by kernel_rfl
theorem fl335 : E.flat 335 = true := by kernel_rfl
theorem fl336 : E.flat 336 = true := by kernel_rfl
theorem fl340 : E.flat 340 = true := by kernel_rfl
theorem fl346 : E.flat 346 = true := by kernel_rfl
theorem fl352 : E.flat 352 = true := by kernel_rfl
theorem fl353 : E.flat 353 = true := by kernel_rfl
theorem fl354 : E.flat 354 = true := by kernel_rfl
theorem fl355 : E.flat 355 = false := by kernel_rfl
theorem fl360 : E.flat 360 = true := by kernel_rfl
theorem fl362 : E.flat 362 = true := by kernel_rfl
theorem fl365 : E.flat 365 = true := by kernel_rfl
theorem fl366 : E.flat 366 = true := by kernel_rfl
theorem fl367 : E.flat 367 = true := by kernel_rfl
theorem fl368 : E.flat 368 = true := by kernel_rfl
theorem fl369 : E.flat 369 = true := by kernel_rfl
theorem fl370 : E.flat 370 = true := by kernel_rfl
theorem fl390 : E.flat 390 = true := by kernel_rfl
theorem fl397 : E.flat 397 = true := by kernel_rfl
theorem fl398 : E.flat 398 = true := by kernel_rfl
theorem fl399 : E.flat 399 = true := by kernel_rfl
theorem fl400 : E.flat 400 = true := by kernel_rfl
theorem fl401 : E.flat 401 = true := by kernel_rfl
attribute [simp] fl34 fl37 fl40 fl87 fl66 fl73 fl82 fl94 fl92 fl243 fl56 fl60 fl11 fl142 fl196 fl125 fl14 fl158 fl62 fl109 fl90 fl103 fl17 fl124 fl89 fl247 fl137 fl197 fl145 fl84 fl100 fl180 fl171 fl167 fl43 fl130 fl98 fl214 fl205 fl105 fl134 fl279 fl173 fl239 fl240 fl241 fl242 fl128 fl129 fl101 fl162 fl183 fl64 fl253 fl315 fl70 fl218 fl283 fl284 fl140 fl155 fl181 fl236 fl157 fl266 fl238 fl265 fl192 fl194 fl251 fl252 fl254 fl102 fl388 fl93 fl147 fl178 fl297 fl287 fl185 fl151 fl153 fl189 fl209 fl210 fl211 fl152 fl331 fl313 fl314 fl207 fl182 fl269 fl270 fl244 fl342 fl141 fl76 fl215 fl216 fl222 fl267 fl268 fl312 fl277 fl392 fl168 fl169 fl170 fl221 fl262 fl263 fl264 fl234 fl233 fl358 fl359 fl361 fl298 fl303 fl304 fl329 fl255 fl256 fl301 fl302 fl316 fl322 fl323 fl324 fl325 fl310 fl339 fl317 fl318 fl274 fl275 fl319 fl276 fl347 fl348 fl349 fl350 fl351 fl343 fl344 fl345 fl327 fl328 fl363 fl364 fl356 fl357 fl161 fl395 fl245 fl246 fl371 fl372 fl373 fl374 fl375 fl376 fl377 fl378 fl379 fl380 fl381 fl382 fl383 fl384 fl385 fl389 fl88 fl393 fl391 fl394 fl396 fl402 fl403 fl404 fl405 fl21 fl23 fl81 fl25 fl67 fl68 fl72 fl74 fl75 fl83 fl156 fl136 fl138 fl144 fl146 fl154 fl237 fl212 fl213 fl143 fl71 fl217 fl219 fl220 fl79 fl235 fl296 fl299 fl300 fl311 fl337 fl338 fl341 fl386 fl387 fl3 fl4 fl5 fl6 fl7 fl8 fl9 fl10 fl12 fl13 fl15 fl16 fl18 fl19 fl20 fl22 fl24 fl26 fl27 fl28 fl29 fl30 fl31 fl32 fl33 fl35 fl36 fl38 fl39 fl41 fl42 fl44 fl45 fl46 fl47 fl48 fl49 fl50 fl51 fl52 fl53 fl54 fl55 fl57 fl58 fl59 fl61 fl63 fl65 fl69 fl77 fl78 fl80 fl85 fl86 fl91 fl95 fl96 fl97 fl99 fl104 fl106 fl107 fl108 fl110 fl111 fl112 fl113 fl114 fl115 fl116 fl117 fl118 fl119 fl120 fl121 fl122 fl123 fl126 fl127 fl131 fl132 fl133 fl135 fl139 fl148 fl149 fl150 fl159 fl160 fl163 fl164 fl165 fl166 fl172 fl174 fl175 fl176 fl177 fl179 fl184 fl186 fl187 fl188 fl190 fl191 fl193 fl195 fl198 fl199 fl200 fl201 fl202 fl203 fl204 fl206 fl208 fl223 fl224 fl225 fl226 fl227 fl228 fl229 fl230 fl231 fl232 fl248 fl249 fl250 fl257 fl258 fl259 fl260 fl261 fl271 fl272 fl273 fl278 fl280 fl281 fl282 fl285 fl286 fl288 fl289 fl290 fl291 fl292 fl293 fl294 fl295 fl305 fl306 fl307 fl308 fl309 fl320 fl321 fl326 fl330 fl332 fl333 fl334 fl335 fl336 fl340 fl346 fl352 fl353 fl354 fl355 fl360 fl362 fl365 fl366 fl367 fl368 fl369 fl370 fl390 fl397 fl398 fl399 fl400 fl401
def findR (id : Nat) : Code → Option (Array Oper)
  | .region i ops _ => if i = id then some ops else none
  | .seq a b => (findR id a).or (findR id b)
  | .cond _ a b => (findR id a).or (findR id b)
  | .block _ a => findR id a
  | .loop a => findR id a
  | _ => none
def regionOf (f : Func) (id : Nat) : Array Oper := ((f.body).bind (findR id)).getD #[]
end Go.Rd
namespace Go.Rd
open Go.Ev Go.Proofs
set_option linter.unusedSimpArgs false
set_option linter.unusedVariables false
set_option maxRecDepth 100000
def pick (ops : Array Oper) (l : List Nat) : List Oper := l.filterMap (ops[·]?)
theorem d16_6 : E.draw (regionOf Tryz.f16 6) = some (pick (regionOf Tryz.f16 6) [0, 1, 2, 3, 4, 5, 6, 7, 8, 9]) := by kernel_rfl
theorem d17_6 : E.draw (regionOf Tryz.f17 6) = some (pick (regionOf Tryz.f17 6) [0, 1, 2, 3, 4, 5, 6, 7, 8, 9]) := by kernel_rfl
theorem d20_10 : E.draw (regionOf Tryz.f20 10) = some (pick (regionOf Tryz.f20 10) [0, 1, 2, 3, 4, 5, 6, 7]) := by kernel_rfl
theorem d57_4 : E.draw (regionOf Tryz.f57 4) = some (pick (regionOf Tryz.f57 4) [0, 1, 2, 3, 4, 5, 6, 7, 8, 9, 10, 11, 12, 13, 14, 15, 16, 17, 18, 19, 20, 21, 22, 24, 25, 26, 27, 23, 28, 29, 30, 31]) := by kernel_rfl
theorem d59_6 : E.draw (regionOf Tryz.f59 6) = some (pick (regionOf Tryz.f59 6) [0, 1, 2, 3, 4, 5, 6, 7, 8, 9, 10, 11, 12, 13, 14]) := by kernel_rfl
theorem n59_8 : E.draw (regionOf Tryz.f59 8) = none := by kernel_rfl
theorem s59_8 : E.drawS (regionOf Tryz.f59 8) = some ([(2, 10), (2, 12), (5, 10), (5, 11), (6, 10), (6, 11), (9, 10), (9, 11), (9, 12), (9, 13), (10, 12), (11, 12)], pick (regionOf Tryz.f59 8) [1, 2, 3, 5, 6, 7, 8, 11, 12, 13, 0, 4, 9, 10, 14, 15]) := by kernel_rfl
theorem d76_2 : E.draw (regionOf Tryz.f76 2) = some (pick (regionOf Tryz.f76 2) [0, 1, 2, 3, 4, 5, 6, 7, 8, 9, 10, 11]) := by kernel_rfl
theorem d93_4 : E.draw (regionOf Tryz.f93 4) = some (pick (regionOf Tryz.f93 4) [0, 1, 2, 3, 4, 5, 6, 7]) := by kernel_rfl
theorem d105_1 : E.draw (regionOf Tryz.f105 1) = some (pick (regionOf Tryz.f105 1) [0, 1, 2, 3, 4]) := by kernel_rfl
theorem d126_4 : E.draw (regionOf Tryz.f126 4) = some (pick (regionOf Tryz.f126 4) [0, 1, 2, 3, 4, 5, 7, 8, 9, 10, 11, 12, 6, 13, 14, 15]) := by kernel_rfl
theorem d126_7 : E.draw (regionOf Tryz.f126 7) = some (pick (regionOf Tryz.f126 7) [0, 2, 1, 3, 4, 5]) := by kernel_rfl
theorem d133_4 : E.draw (regionOf Tryz.f133 4) = some (pick (regionOf Tryz.f133 4) [0, 1, 2, 4, 5, 6, 3, 7, 8, 9]) := by kernel_rfl
theorem d134_1 : E.draw (regionOf Tryz.f134 1) = some (pick (regionOf Tryz.f134 1) [0, 1, 2, 3, 5, 6, 7, 8, 4, 9, 10, 11, 12]) := by kernel_rfl
theorem d171_27 : E.draw (regionOf Tryz.f171 27) = some (pick (regionOf Tryz.f171 27) [0, 1, 2, 3, 4, 5, 6, 7, 8, 9, 10, 11, 12, 13, 14, 15, 16, 17, 18, 19, 20, 21, 22, 23, 24, 25, 26, 27, 28, 29, 30, 31, 32, 33, 34, 35]) := by kernel_rfl
theorem d185_10 : E.draw (regionOf Tryz.f185 10) = some (pick (regionOf Tryz.f185 10) [0, 1, 2, 3, 4, 5, 6, 7, 8, 9, 10]) := by kernel_rfl
theorem d185_12 : E.draw (regionOf Tryz.f185 12) = some (pick (regionOf Tryz.f185 12) [0, 1, 2, 3, 4]) := by kernel_rfl
theorem d186_7 : E.draw (regionOf Tryz.f186 7) = some (pick (regionOf Tryz.f186 7) [0, 1, 2, 3, 4, 5, 6, 7]) := by kernel_rfl
theorem d189_4 : E.draw (regionOf Tryz.f189 4) = some (pick (regionOf Tryz.f189 4) [0, 1, 2, 3, 4, 5, 6, 7]) := by kernel_rfl
theorem d205_15 : E.draw (regionOf Tryz.f205 15) = some (pick (regionOf Tryz.f205 15) [0, 1, 2, 3, 4, 5, 6, 7, 8, 9]) := by kernel_rfl
theorem d205_24 : E.draw (regionOf Tryz.f205 24) = some (pick (regionOf Tryz.f205 24) [0, 1, 2, 3, 4, 5, 6, 7, 8, 9, 10]) := by kernel_rfl
theorem d205_25 : E.draw (regionOf Tryz.f205 25) = some (pick (regionOf Tryz.f205 25) [0, 1, 2, 3, 4, 5, 6, 7, 8, 9, 10, 11, 12, 13, 14]) := by kernel_rfl
theorem d205_26 : E.draw (regionOf Tryz.f205 26) = some (pick (regionOf Tryz.f205 26) [0, 1, 2, 3, 4, 5, 6, 7, 8, 9, 10, 11]) := by kernel_rfl
theorem d206_8 : E.draw (regionOf Tryz.f206 8) = some (pick (regionOf Tryz.f206 8) [0, 1, 2, 3, 4, 5, 6]) := by kernel_rfl
theorem d211_1 : E.draw (regionOf Tryz.f211 1) = some (pick (regionOf Tryz.f211 1) [0, 1, 2, 3, 5, 6, 7, 8, 4, 9, 10, 11, 12]) := by kernel_rfl
theorem d214_1 : E.draw (regionOf Tryz.f214 1) = some (pick (regionOf Tryz.f214 1) [0, 1, 2, 3, 4]) := by kernel_rfl
theorem d216_22 : E.draw (regionOf Tryz.f216 22) = some (pick (regionOf Tryz.f216 22) [0, 1, 2, 3, 4, 5, 8, 9, 10, 11, 12, 6, 7, 13, 14, 15, 16]) := by kernel_rfl
theorem d252_8 : E.draw (regionOf Tryz.f252 8) = some (pick (regionOf Tryz.f252 8) [0, 1, 2, 3, 4, 5, 6, 7, 8, 9, 10, 11, 12, 13, 14, 15, 16, 17, 18, 19, 20, 21]) := by kernel_rfl
theorem d277_8 : E.draw (regionOf Tryz.f277 8) = some (pick (regionOf Tryz.f277 8) [0, 1, 2, 3, 4, 5]) := by kernel_rfl
theorem d277_22 : E.draw (regionOf Tryz.f277 22) = some (pick (regionOf Tryz.f277 22) [0, 1, 2, 3, 4, 5, 6, 7]) := by kernel_rfl
theorem d277_30 : E.draw (regionOf Tryz.f277 30) = some (pick (regionOf Tryz.f277 30) [0, 1, 2, 3, 4, 5, 6, 7]) := by kernel_rfl
theorem d297_9 : E.draw (regionOf Tryz.f297 9) = some (pick (regionOf Tryz.f297 9) [0, 1, 2, 3, 4, 5, 6, 7, 8, 9, 10]) := by kernel_rfl
theorem d297_12 : E.draw (regionOf Tryz.f297 12) = some (pick (regionOf Tryz.f297 12) [0, 1, 2, 3, 4]) := by kernel_rfl
end Go.Rd
namespace Go.Pu
open Go.Ev
set_option linter.unusedSimpArgs false
set_option linter.unusedVariables false

abbrev Bytes := List UInt8
/-- A value: kind, number, text. -/
structure Val where
  k : Int
  n : Int
  t : Bytes
  deriving DecidableEq, Inhabited
structure Fld where
  name : Bytes
  v : Val
  deriving DecidableEq, Inhabited
def nullV : Val := ⟨0, 0, []⟩

theorem wrap_of {n : Int} (h1 : -9223372036854775808 ≤ n) (h2 : n < 9223372036854775808) : IntKind.i64.wrap n = n := by rw [IntKind.wrap_i64]; omega
/-- The number that bytes tell, after one. -/
def ofBytes (n : Int) : Bytes → Int
  | [] => n
  | b :: r => ofBytes (IntKind.i64.wrap (IntKind.i64.wrap (n * 256) + b.toNat)) r
def two (x y : UInt8) : Nat := x.toNat * 256 + y.toNat
theorem ofBytes_two (x y : UInt8) : ofBytes 0 [x, y] = (two x y : Nat) := by
  have hx := x.toNat_lt
  have hy := y.toNat_lt
  have h0 : IntKind.i64.wrap ((0 : Int) * 256) = 0 := wrap_of (by omega) (by omega)
  have h1 : IntKind.i64.wrap ((0 : Int) + x.toNat) = x.toNat := by rw [wrap_of (by omega) (by omega)]; omega
  have h2 : IntKind.i64.wrap ((x.toNat : Int) * 256) = x.toNat * 256 := wrap_of (by omega) (by omega)
  have h3 : IntKind.i64.wrap ((x.toNat : Int) * 256 + y.toNat) = x.toNat * 256 + y.toNat := wrap_of (by omega) (by omega)
  simp only [ofBytes, h0, h1, h2, h3, two]
  omega
theorem two_lt (x y : UInt8) : two x y < 65536 := by
  have hx := x.toNat_lt
  have hy := y.toNat_lt
  simp only [two]; omega
theorem two_inj {x y x' y' : UInt8} (h : two x y = two x' y') : x = x' ∧ y = y' := by
  have := x.toNat_lt; have := y.toNat_lt; have := x'.toNat_lt; have := y'.toNat_lt
  simp only [two] at h
  exact ⟨UInt8.toNat_inj.1 (by omega), UInt8.toNat_inj.1 (by omega)⟩

def natOf (n : Nat) : Bytes → Nat
  | [] => n
  | b :: r => natOf (n * 256 + b.toNat) r
theorem natOf_lt : ∀ (l : Bytes) (n k : Nat), n < k → natOf n l < k * 256 ^ l.length
  | [], n, k, h => by simpa [natOf] using h
  | b :: r, n, k, h => by
    have hb := b.toNat_lt
    have := natOf_lt r (n * 256 + b.toNat) (k * 256) (by omega)
    simp only [natOf, List.length_cons, Nat.pow_succ]
    rw [Nat.mul_assoc, Nat.mul_comm 256] at this
    exact this
theorem natOf_inj : ∀ (l l' : Bytes) (n n' : Nat), l.length = l'.length → natOf n l = natOf n' l' → n = n' ∧ l = l'
  | [], [], n, n', _, h => ⟨h, rfl⟩
  | b :: r, b' :: r', n, n', hl, h => by
    have hb := b.toNat_lt
    have hb' := b'.toNat_lt
    obtain ⟨h1, h2⟩ := natOf_inj r r' _ _ (by simpa using hl) h
    have e1 : n = n' := by omega
    have e2 : b = b' := UInt8.toNat_inj.1 (by omega)
    exact ⟨e1, by rw [e2, h2]⟩
  | [], _ :: _, _, _, hl, _ => by simp at hl
  | _ :: _, [], _, _, hl, _ => by simp at hl
theorem ofBytes_nat : ∀ (l : Bytes) (n : Nat), (n + 1) * 256 ^ l.length ≤ 9223372036854775808 → ofBytes n l = natOf n l
  | [], n, _ => rfl
  | b :: r, n, h => by
    have hb := b.toNat_lt
    have hp : 1 ≤ 256 ^ r.length := Nat.one_le_pow _ _ (by omega)
    have h' : ((n + 1) * 256) * 256 ^ r.length ≤ 9223372036854775808 := by
      rw [Nat.mul_assoc, Nat.mul_comm 256, ← Nat.pow_succ]; simpa using h
    have h2 : (n + 1) * 256 ≤ 9223372036854775808 := Nat.le_trans (Nat.le_mul_of_pos_right _ hp) h'
    have h3 : (n * 256 + b.toNat + 1) * 256 ^ r.length ≤ 9223372036854775808 := Nat.le_trans (Nat.mul_le_mul_right _ (by omega)) h'
    simp only [ofBytes, natOf]
    rw [wrap_of (n := (n : Int) * 256) (by omega) (by omega), wrap_of (by omega) (by omega)]
    have := ofBytes_nat r (n * 256 + b.toNat) h3
    rw [← this]
    congr 1
/-- Eight bytes that begin low. -/
theorem ofBytes_eight (x : UInt8) (r : Bytes) (hr : r.length = 7) (hx : ¬ 127 < x.toNat) : ofBytes 0 (x :: r) = (natOf 0 (x :: r) : Nat) ∧ natOf 0 (x :: r) < 9223372036854775808 := by
  have h0 : ofBytes 0 (x :: r) = ofBytes ((x.toNat : Nat) : Int) r := by
    have hx' := x.toNat_lt
    simp only [ofBytes]
    rw [wrap_of (n := 0 * 256) (by omega) (by omega), wrap_of (by omega) (by omega)]
    try (congr 1; omega)
  have hp : 256 ^ r.length = 72057594037927936 := by rw [hr]
  have h1 := ofBytes_nat r x.toNat (by rw [hp]; first | done | omega)
  have h2 := natOf_lt r x.toNat 128 (by omega)
  rw [hp] at h2
  have h3 : natOf 0 (x :: r) = natOf x.toNat r := by simp [natOf]
  exact ⟨by rw [h0, h1, h3], by rw [h3]; first | done | omega⟩

/-- The value at the beginning of a text, and what stands behind it. -/
def nextP : Bytes → Option (Val × Bytes)
  | [] => none
  | b :: r =>
    if b.toNat = 0 then some (⟨0, 0, []⟩, r)
    else if b.toNat = 1 then (match r with
      | [] => none
      | x :: r' => some (⟨1, x.toNat, []⟩, r'))
    else if b.toNat = 2 then
      if r.length < 8 then none
      else if 127 < (r.headD 0).toNat then none
      else some (⟨2, IntKind.i64.wrap (ofBytes 0 (r.take 8) - 4611686018427387904), []⟩, r.drop 8)
    else if b.toNat = 3 ∨ b.toNat = 4 ∨ b.toNat = 5 then (match r with
      | x :: y :: r' => if r'.length < two x y then none else some (⟨b.toNat, 0, r'.take (two x y)⟩, r'.drop (two x y))
      | _ => none)
    else none
theorem nextP_len {t : Bytes} {v : Val} {r : Bytes} (h : nextP t = some (v, r)) : r.length < t.length ∧ v.t.length + r.length < t.length := by
  unfold nextP at h
  split at h
  · cases h
  · rename_i b r0
    split at h
    · cases h; simp
    · split at h
      · split at h
        · cases h
        · cases h; simp; try omega
      · split at h
        · split at h
          · cases h
          · split at h
            · cases h
            · cases h; simp; omega
        · split at h
          · split at h
            · split at h
              · cases h
              · cases h; simp; omega
            · cases h
          · cases h
/-- The items of a list's body. -/
def itemsN : Nat → Bytes → Option (List Val)
  | _, [] => some []
  | 0, _ => none
  | n + 1, t => match nextP t with
    | none => none
    | some (v, r) => (itemsN n r).map (v :: ·)
def itemsP (t : Bytes) : Option (List Val) := itemsN t.length t
theorem itemsN_big : ∀ (n m : Nat) (t : Bytes), t.length ≤ n → t.length ≤ m → itemsN n t = itemsN m t
  | _, _, [], _, _ => by simp [itemsN]
  | n + 1, m + 1, x :: t, h1, h2 => by
    simp only [itemsN]
    cases h : nextP (x :: t) with
    | none => rfl
    | some p =>
      obtain ⟨v, r⟩ := p
      have := (nextP_len h).1
      simp only [List.length_cons] at h1 h2 this
      simp only
      rw [itemsN_big n m r (by omega) (by omega)]
  | 0, _, x :: t, h1, _ => by simp at h1
  | _, 0, x :: t, _, h2 => by simp at h2
theorem itemsP_nil : itemsP [] = some [] := rfl
theorem itemsP_none {x : UInt8} {t : Bytes} (h : nextP (x :: t) = none) : itemsP (x :: t) = none := by
  simp [itemsP, itemsN, h]
theorem itemsP_some {t : Bytes} {v : Val} {r : Bytes} (h : nextP t = some (v, r)) : itemsP t = (itemsP r).map (v :: ·) := by
  cases t with
  | nil => simp [nextP] at h
  | cons x t =>
    have := (nextP_len h).1
    simp only [List.length_cons] at this
    simp only [itemsP, List.length_cons, itemsN, h]
    rw [itemsN_big t.length r.length r (by omega) (by omega)]
/-- The fields of a document's body. -/
def fieldsN : Nat → Bytes → Option (List Fld)
  | _, [] => some []
  | 0, _ => none
  | n + 1, b :: t => if t.length < b.toNat then none else match nextP (t.drop b.toNat) with
    | none => none
    | some (v, r) => (fieldsN n r).map (⟨t.take b.toNat, v⟩ :: ·)
def fieldsP (t : Bytes) : Option (List Fld) := fieldsN t.length t
theorem fieldsN_big : ∀ (n m : Nat) (t : Bytes), t.length ≤ n → t.length ≤ m → fieldsN n t = fieldsN m t
  | _, _, [], _, _ => by simp [fieldsN]
  | n + 1, m + 1, x :: t, h1, h2 => by
    simp only [fieldsN]
    split
    · rfl
    · cases h : nextP (t.drop x.toNat) with
      | none => rfl
      | some p =>
        obtain ⟨v, r⟩ := p
        have := (nextP_len h).1
        simp only [List.length_cons, List.length_drop] at h1 h2 this
        simp only
        rw [fieldsN_big n m r (by omega) (by omega)]
  | 0, _, x :: t, h1, _ => by simp at h1
  | _, 0, x :: t, _, h2 => by simp at h2
theorem fieldsP_nil : fieldsP [] = some [] := rfl
theorem fieldsP_short {b : UInt8} {t : Bytes} (h : t.length < b.toNat) : fieldsP (b :: t) = none := by
  simp [fieldsP, fieldsN, h]
theorem fieldsP_none {b : UInt8} {t : Bytes} (h : ¬ t.length < b.toNat) (hn : nextP (t.drop b.toNat) = none) : fieldsP (b :: t) = none := by
  simp [fieldsP, fieldsN, h, hn]
theorem fieldsP_some {b : UInt8} {t : Bytes} {v : Val} {r : Bytes} (h : ¬ t.length < b.toNat) (hn : nextP (t.drop b.toNat) = some (v, r)) : fieldsP (b :: t) = (fieldsP r).map (⟨t.take b.toNat, v⟩ :: ·) := by
  have := (nextP_len hn).1
  simp only [List.length_drop] at this
  simp only [fieldsP, List.length_cons, fieldsN, if_neg h, hn]
  rw [fieldsN_big t.length r.length r (by omega) (by omega)]

def letterP (c : UInt8) : Bool := (decide ((97 : Int) ≤ c.toNat) && decide ((c.toNat : Int) ≤ 122)) || (decide ((65 : Int) ≤ c.toNat) && decide ((c.toNat : Int) ≤ 90)) || decide ((c.toNat : Int) = 95)
def digitP (c : UInt8) : Bool := decide ((48 : Int) ≤ c.toNat) && decide ((c.toNat : Int) ≤ 57)
def wordP : Bytes → Bool
  | [] => false
  | c :: r => letterP c && r.all (fun c => letterP c || digitP c) && decide (r.length < 40)
/-- A short name. -/
def nameP (t : Bytes) : Bool := wordP t && decide (t.length ≤ 12)
def rising : List Fld → Bool
  | [] => true
  | [_] => true
  | f :: g :: r => Op.bytesLess f.name g.name && rising (g :: r)
/-- A value is right, at most so deep. -/
def okP : Nat → Val → Bool
  | d, v =>
    if v.k = 0 then decide (v.n = 0) && v.t.isEmpty
    else if v.k = 1 then decide (0 ≤ v.n) && decide (v.n ≤ 1) && v.t.isEmpty
    else if v.k = 2 then decide (-1000000000000 ≤ v.n) && decide (v.n ≤ 1000000000000) && v.t.isEmpty
    else if v.k = 3 then decide (v.n = 0) && decide (v.t.length ≤ 300)
    else match d with
      | 0 => false
      | d + 1 =>
        if v.k = 4 then decide (v.n = 0) && decide (v.t.length ≤ 300) && (match itemsP v.t with
          | none => false
          | some xs => xs.all (okP d))
        else if v.k = 5 then decide (v.n = 0) && decide (v.t.length ≤ 300) && (match fieldsP v.t with
          | none => false
          | some fs => rising fs && fs.all (fun f => nameP f.name && okP d f.v))
        else false
def valueOK (v : Val) : Bool := okP 5 v

/-- Parted at each of some byte. -/
def cutP (c : UInt8) : Bytes → List Bytes
  | [] => [[]]
  | b :: r => if b = c then [] :: cutP c r else match cutP c r with
    | [] => [[b]]
    | w :: ws => (b :: w) :: ws
def pathOK (t : Bytes) : Bool := decide (t.length ≤ 50) && decide ((cutP 46 t).length ≤ 4) && (cutP 46 t).all nameP

def itemsL (t : Bytes) : List Val := (itemsP t).getD []
def fieldsL (t : Bytes) : List Fld := (fieldsP t).getD []
def fieldP (v : Val) (name : Bytes) : Option Val := ((fieldsL v.t).find? (fun f => f.name == name)).map (·.v)
/-- What names come to in a value. -/
def getP : List Bytes → Val → List Val
  | [], v => v :: (if v.k = 4 then itemsL v.t else [])
  | w :: ws, v =>
    let one := fun x => match fieldP x w with
      | none => []
      | some y => getP ws y
    if v.k = 5 then one v
    else if v.k = 4 then (itemsL v.t).flatMap (fun x => if x.k = 5 then one x else [])
    else []
def sgn (a b : Int) : Int := if a < b then -1 else if b < a then 1 else 0
def sgnT (a b : Bytes) : Int := if Op.bytesLess a b then -1 else if Op.bytesLess b a then 1 else 0
def orI (a b : Int) : Int := if a ≠ 0 then a else b
def cmpL {α : Type} (f : α → α → Int) : List α → List α → Int
  | [], [] => 0
  | [], _ :: _ => -1
  | _ :: _, [] => 1
  | x :: xs, y :: ys => orI (f x y) (cmpL f xs ys)
/-- The order of right values. -/
def ordP : Nat → Val → Val → Int
  | d, a, b =>
    orI (orI (sgn a.k b.k) (sgn a.n b.n)) (match d with
      | 0 => sgnT a.t b.t
      | d + 1 =>
        if a.k = 4 then cmpL (ordP d) (itemsL a.t) (itemsL b.t)
        else if a.k = 5 then cmpL (fun f g => orI (sgnT f.name g.name) (ordP d f.v g.v)) (fieldsL a.t) (fieldsL b.t)
        else sgnT a.t b.t)
def leastP (v : Val) : List Val → Val
  | [] => v
  | x :: r => leastP (if ordP 5 x v < 0 then x else v) r
def firstP (doc : Val) (path : Bytes) : Val := match getP (cutP 46 path) doc with
  | [] => nullV
  | v :: r => leastP v r

theorem nextP_kind {t : Bytes} {v : Val} {r : Bytes} (h : nextP t = some (v, r)) : ∃ b q, t = b :: q ∧ v.k = (b.toNat : Int) ∧
    ((b.toNat = 0 ∧ v = ⟨0, 0, []⟩ ∧ q = r) ∨ (b.toNat = 1 ∧ ∃ x : UInt8, q = x :: r ∧ v = ⟨1, x.toNat, []⟩) ∨
     (b.toNat = 2 ∧ ∃ x p, q = x :: p ++ r ∧ p.length = 7 ∧ v = ⟨2, (natOf 0 (x :: p) : Nat) - 4611686018427387904, []⟩ ∧ natOf 0 (x :: p) < 9223372036854775808) ∨
     ((b.toNat = 3 ∨ b.toNat = 4 ∨ b.toNat = 5) ∧ ∃ x y p, q = x :: y :: p ++ r ∧ p.length = two x y ∧ v = ⟨b.toNat, 0, p⟩)) := by
  unfold nextP at h
  split at h
  · cases h
  · rename_i b q
    refine ⟨b, q, rfl, ?_⟩
    split at h
    · rename_i h0
      cases h
      exact ⟨by simp [h0], .inl ⟨h0, rfl, rfl⟩⟩
    · split at h
      · rename_i h1
        split at h
        · cases h
        · rename_i x r'
          cases h
          exact ⟨by simp [h1], .inr (.inl ⟨h1, x, rfl, rfl⟩)⟩
      · split at h
        · rename_i h2
          split at h
          · cases h
          · rename_i hl
            split at h
            · cases h
            · rename_i hx
              cases q with
              | nil => simp at hl
              | cons x p =>
                simp only [List.headD_cons] at hx
                have hp : (p.take 7).length = 7 := by simp at hl ⊢; omega
                obtain ⟨e1, e2⟩ := ofBytes_eight x (p.take 7) hp hx
                simp only [Option.some.injEq, Prod.mk.injEq, List.take_succ_cons, List.drop_succ_cons] at h
                obtain ⟨rfl, rfl⟩ := h
                refine ⟨by simp [h2], .inr (.inr (.inl ⟨h2, x, p.take 7, by simp, hp, ?_, e2⟩))⟩
                rw [e1, wrap_of (by omega) (by omega)]
        · split at h
          · rename_i h3
            split at h
            · rename_i x y r'
              split at h
              · cases h
              · rename_i hl
                simp only [Option.some.injEq, Prod.mk.injEq] at h
                obtain ⟨rfl, rfl⟩ := h
                refine ⟨rfl, .inr (.inr (.inr ⟨h3, x, y, r'.take (two x y), by simp, by simp; omega, rfl⟩))⟩
            · cases h
          · cases h
theorem next_inj {t t' : Bytes} {v : Val} {r r' : Bytes} (h : nextP t = some (v, r)) (h' : nextP t' = some (v, r')) : ∃ p, t = p ++ r ∧ t' = p ++ r' := by
  obtain ⟨b, q, rfl, hk, hc⟩ := nextP_kind h
  obtain ⟨b', q', rfl, hk', hc'⟩ := nextP_kind h'
  have hb : b = b' := UInt8.toNat_inj.1 (by omega)
  subst hb
  rcases hc with ⟨h0, rfl, rfl⟩ | ⟨h1, x, rfl, rfl⟩ | ⟨h2, x, p, rfl, hp, rfl, hn⟩ | ⟨h3, x, y, p, rfl, hp, rfl⟩
  · rcases hc' with ⟨_, _, rfl⟩ | ⟨h1, _⟩ | ⟨h1, _⟩ | ⟨h1, _⟩
    · exact ⟨[b], rfl, rfl⟩
    · omega
    · omega
    · omega
  · rcases hc' with ⟨h0, _⟩ | ⟨_, x', rfl, e⟩ | ⟨h0, _⟩ | ⟨h0, _⟩
    · omega
    · simp only [Val.mk.injEq] at e
      have : x = x' := UInt8.toNat_inj.1 (by omega)
      subst this
      exact ⟨[b, x], rfl, rfl⟩
    · omega
    · omega
  · rcases hc' with ⟨h0, _⟩ | ⟨h0, _⟩ | ⟨_, x', p', rfl, hp', e, _⟩ | ⟨h0, _⟩
    · omega
    · omega
    · simp only [Val.mk.injEq] at e
      obtain ⟨_, e⟩ := natOf_inj (x :: p) (x' :: p') 0 0 (by simp [hp, hp']) (by omega)
      rw [← List.cons_append, ← List.cons_append, e]
      exact ⟨b :: x' :: p', rfl, rfl⟩
    · omega
  · rcases hc' with ⟨h0, _⟩ | ⟨h0, _⟩ | ⟨h0, _⟩ | ⟨_, x', y', p', rfl, hp', e⟩
    · omega
    · omega
    · omega
    · simp only [Val.mk.injEq] at e
      obtain ⟨_, _, rfl⟩ := e
      obtain ⟨rfl, rfl⟩ := two_inj (hp.symm.trans hp')
      exact ⟨b :: x :: y :: p, rfl, rfl⟩
theorem items_cases {t : Bytes} {xs : List Val} (h : itemsP t = some xs) : (t = [] ∧ xs = []) ∨ ∃ v r ys, nextP t = some (v, r) ∧ itemsP r = some ys ∧ xs = v :: ys := by
  cases t with
  | nil => exact .inl ⟨rfl, by simpa [itemsP, itemsN] using h.symm⟩
  | cons b t =>
    cases hn : nextP (b :: t) with
    | none => rw [itemsP_none hn] at h; cases h
    | some p =>
      obtain ⟨v, r⟩ := p
      rw [itemsP_some hn] at h
      cases hr : itemsP r with
      | none => rw [hr] at h; cases h
      | some ys =>
        rw [hr] at h
        exact .inr ⟨v, r, ys, rfl, hr, (Option.some.inj h).symm⟩
theorem items_inj : ∀ {xs : List Val} {t t' : Bytes}, itemsP t = some xs → itemsP t' = some xs → t = t'
  | [], t, t', h, h' => by
    rcases items_cases h with ⟨rfl, _⟩ | ⟨_, _, _, _, _, e⟩
    · rcases items_cases h' with ⟨rfl, _⟩ | ⟨_, _, _, _, _, e⟩
      · rfl
      · cases e
    · cases e
  | x :: xs, t, t', h, h' => by
    rcases items_cases h with ⟨_, e⟩ | ⟨v, r, ys, h1, h2, e⟩
    · cases e
    · rcases items_cases h' with ⟨_, e'⟩ | ⟨v', r', ys', h1', h2', e'⟩
      · cases e'
      · cases e
        cases e'
        obtain ⟨p, rfl, rfl⟩ := next_inj h1 h1'
        rw [items_inj h2 h2']
theorem fields_cases {t : Bytes} {xs : List Fld} (h : fieldsP t = some xs) : (t = [] ∧ xs = []) ∨ ∃ (b : UInt8) (q : Bytes) (v : Val) (r : Bytes) (ys : List Fld), t = b :: q ∧ ¬ q.length < b.toNat ∧ nextP (q.drop b.toNat) = some (v, r) ∧ fieldsP r = some ys ∧ xs = ⟨q.take b.toNat, v⟩ :: ys := by
  cases t with
  | nil => exact .inl ⟨rfl, by simpa [fieldsP, fieldsN] using h.symm⟩
  | cons b t =>
    by_cases hl : t.length < b.toNat
    · rw [fieldsP_short hl] at h; cases h
    · cases hn : nextP (t.drop b.toNat) with
      | none => rw [fieldsP_none hl hn] at h; cases h
      | some p =>
        obtain ⟨v, r⟩ := p
        rw [fieldsP_some hl hn] at h
        cases hr : fieldsP r with
        | none => rw [hr] at h; cases h
        | some ys =>
          rw [hr] at h
          exact .inr ⟨b, t, v, r, ys, rfl, hl, hn, hr, (Option.some.inj h).symm⟩
theorem fields_inj {xs : List Fld} : ∀ {t t' : Bytes}, fieldsP t = some xs → fieldsP t' = some xs → t = t' := by
  induction xs with
  | nil =>
    intro t t' h h'
    rcases fields_cases h with ⟨rfl, _⟩ | ⟨_, _, _, _, _, _, _, _, _, e⟩
    · rcases fields_cases h' with ⟨rfl, _⟩ | ⟨_, _, _, _, _, _, _, _, _, e⟩
      · rfl
      · cases e
    · cases e
  | cons x xs ih =>
    intro t t' h h'
    rcases fields_cases h with ⟨_, e⟩ | ⟨b, q, v, r, ys, rfl, hl, h1, h2, e⟩
    · cases e
    · rcases fields_cases h' with ⟨_, e'⟩ | ⟨b', q', v', r', ys', rfl, hl', h1', h2', e'⟩
      · cases e'
      · simp only [List.cons.injEq] at e e'
        obtain ⟨e1, e3⟩ := e
        obtain ⟨e1', e3'⟩ := e'
        subst e3; subst e3'
        rw [e1] at e1'
        simp only [Fld.mk.injEq] at e1'
        obtain ⟨e4, e5⟩ := e1'
        subst e5
        have hlen : b.toNat = b'.toNat := by
          have := congrArg List.length e4
          simp only [List.length_take] at this
          omega
        have hb : b = b' := UInt8.toNat_inj.1 hlen
        subst hb
        obtain ⟨p, hp, hp'⟩ := next_inj h1 h1'
        have e6 : r = r' := ih h2 h2'
        subst e6
        congr 1
        rw [← List.take_append_drop b.toNat q, ← List.take_append_drop b.toNat q', e4, hp, hp']

theorem bytesLess_iff : ∀ (a b : Bytes), Op.bytesLess a b = true ↔ a < b
  | [], [] => by simp [Op.bytesLess]
  | [], _ :: _ => by simp [Op.bytesLess]
  | _ :: _, [] => by simp [Op.bytesLess]
  | x :: a, y :: b => by
    simp only [Op.bytesLess, Bool.or_eq_true, Bool.and_eq_true, decide_eq_true_eq, beq_iff_eq, bytesLess_iff a b, List.cons_lt_cons_iff]
theorem bytesLess_irrefl (a : Bytes) : Op.bytesLess a a = false := by
  cases h : Op.bytesLess a a with
  | false => rfl
  | true => rw [bytesLess_iff] at h; exact absurd h (List.lt_irrefl a)
theorem bytesLess_trans {a b c : Bytes} (h : Op.bytesLess a b = true) (h2 : Op.bytesLess b c = true) : Op.bytesLess a c = true := by
  rw [bytesLess_iff] at *
  exact List.lt_trans h h2
theorem orI_zero {a b : Int} (h : orI a b = 0) : a = 0 ∧ b = 0 := by
  unfold orI at h
  split at h
  · rename_i h1; exact absurd h h1
  · rename_i h1; exact ⟨by omega, h⟩
theorem okP_range {d : Nat} {v : Val} (h : okP d v = true) : 0 ≤ v.k ∧ v.k ≤ 5 ∧ -1000000000000 ≤ v.n ∧ v.n ≤ 1000000000000 ∧ v.t.length ≤ 300 := by
  unfold okP at h
  split at h
  · simp at h; refine ⟨by omega, by omega, by omega, by omega, ?_⟩; simp [h.2]
  · split at h
    · simp at h; refine ⟨by omega, by omega, by omega, by omega, ?_⟩; simp [h.2]
    · split at h
      · simp at h; refine ⟨by omega, by omega, by omega, by omega, ?_⟩; simp [h.2]
      · split at h
        · simp at h; refine ⟨by omega, by omega, by omega, by omega, by omega⟩
        · cases d with
          | zero => simp at h
          | succ d =>
            simp only at h
            split at h
            · simp at h; refine ⟨by omega, by omega, by omega, by omega, by omega⟩
            · split at h
              · simp at h; refine ⟨by omega, by omega, by omega, by omega, by omega⟩
              · cases h
theorem okP_list {d : Nat} {v : Val} (h : okP d v = true) (hk : v.k = 4) : ∃ e xs, d = e + 1 ∧ v.n = 0 ∧ itemsP v.t = some xs ∧ (∀ x ∈ xs, okP e x = true) := by
  unfold okP at h
  simp only [hk] at h
  cases d with
  | zero => simp at h
  | succ d =>
    cases hi : itemsP v.t with
    | none => simp [hi] at h
    | some xs =>
      simp [hi] at h
      exact ⟨d, xs, rfl, h.1.1, rfl, h.2⟩
theorem okP_doc {d : Nat} {v : Val} (h : okP d v = true) (hk : v.k = 5) : ∃ e fs, d = e + 1 ∧ v.n = 0 ∧ fieldsP v.t = some fs ∧ rising fs = true ∧ (∀ f ∈ fs, nameP f.name = true ∧ okP e f.v = true) := by
  unfold okP at h
  simp only [hk] at h
  cases d with
  | zero => simp at h
  | succ d =>
    cases hi : fieldsP v.t with
    | none => simp [hi] at h
    | some xs =>
      simp [hi] at h
      exact ⟨d, xs, rfl, h.1.1, rfl, h.2.1, fun f hf => h.2.2 f hf⟩
theorem okP_small {d : Nat} {v : Val} (h : okP d v = true) (h3 : v.k ≠ 3) (h4 : v.k ≠ 4) (h5 : v.k ≠ 5) : v.t = [] := by
  unfold okP at h
  split at h
  · simp at h; exact h.2
  · split at h
    · simp at h; exact h.2
    · split at h
      · simp at h; exact h.2
      · cases d <;> simp [h3, h4, h5] at h
theorem Val.eq {a b : Val} (h1 : a.k = b.k) (h2 : a.n = b.n) (h3 : a.t = b.t) : a = b := by
  cases a; cases b; simp_all
/-- As the reference compares lists that are not alike. -/
def cmpS {α : Type} (f : α → α → Int) : List α → List α → Int
  | x :: xs, y :: ys => orI (f x y) (cmpS f xs ys)
  | xs, ys => if ys.length < xs.length then 1 else -1

def rtake (m : Nat) (p : Bytes × Bool) : Bytes × (Bytes × Bool) := if p.1.length < m then (List.replicate m 0, (p.1, true)) else (p.1.take m, (p.1.drop m, p.2))
def rnum (m : Nat) (p : Bytes × Bool) : Int × (Bytes × Bool) := (ofBytes 0 (rtake m p).1, (rtake m p).2)
def rvalue (p : Bytes × Bool) : Val × (Bytes × Bool) :=
  if (rnum 1 p).1 = 1 then (⟨1, (rnum 1 (rnum 1 p).2).1, []⟩, (rnum 1 (rnum 1 p).2).2)
  else if (rnum 1 p).1 = 2 then (⟨2, IntKind.i64.wrap ((rnum 8 (rnum 1 p).2).1 - 4611686018427387904), []⟩, (rnum 8 (rnum 1 p).2).2)
  else if (rnum 1 p).1 = 3 ∨ (rnum 1 p).1 = 4 ∨ (rnum 1 p).1 = 5 then (⟨(rnum 1 p).1, 0, (rtake (rnum 2 (rnum 1 p).2).1.toNat (rnum 2 (rnum 1 p).2).2).1⟩, (rtake (rnum 2 (rnum 1 p).2).1.toNat (rnum 2 (rnum 1 p).2).2).2)
  else (⟨(rnum 1 p).1, 0, []⟩, (rnum 1 p).2)
def rfield (p : Bytes × Bool) : Fld × (Bytes × Bool) :=
  (⟨(rtake (rnum 1 p).1.toNat (rnum 1 p).2).1, (rvalue (rtake (rnum 1 p).1.toNat (rnum 1 p).2).2).1⟩, (rvalue (rtake (rnum 1 p).1.toNat (rnum 1 p).2).2).2)
/-- Taken one by one, while there is something and nothing failed. -/
def loopI {α : Type} (f : Bytes × Bool → α × (Bytes × Bool)) : Nat → Bytes × Bool → List α × Bool
  | 0, p => ([], p.2)
  | n + 1, p => if p.1 = [] ∨ p.2 = true then ([], p.2) else ((f p).1 :: (loopI f n (f p).2).1, (loopI f n (f p).2).2)
def itemsI (t : Bytes) : List Val × Bool := loopI rvalue (t.length + 1) (t, false)
def fieldsI (t : Bytes) : List Fld × Bool := loopI rfield (t.length + 1) (t, false)

theorem ofBytes_one (x : UInt8) : ofBytes 0 [x] = (x.toNat : Int) := by
  have hx := x.toNat_lt
  simp only [ofBytes]
  rw [wrap_of (n := 0 * 256) (by omega) (by omega), wrap_of (by omega) (by omega)]; omega
theorem rnum1_cons (x : UInt8) (r : Bytes) (f : Bool) : rnum 1 (x :: r, f) = ((x.toNat : Int), (r, f)) := by
  simp [rnum, rtake, ofBytes_one]
theorem rnum1_nil (f : Bool) : rnum 1 ([], f) = (0, ([], true)) := by
  simp [rnum, rtake, ofBytes_one]
theorem rtake_fail (m : Nat) (p : Bytes × Bool) (h : p.2 = true) : (rtake m p).2.2 = true := by
  unfold rtake; split <;> simp [h]
theorem rtake_len (m : Nat) (p : Bytes × Bool) : (rtake m p).2.1.length ≤ p.1.length := by
  unfold rtake; split <;> simp
theorem rnum_fail (m : Nat) (p : Bytes × Bool) (h : p.2 = true) : (rnum m p).2.2 = true := rtake_fail m p h
theorem rnum_len (m : Nat) (p : Bytes × Bool) : (rnum m p).2.1.length ≤ p.1.length := rtake_len m p
theorem rvalue_fail (p : Bytes × Bool) (h : p.2 = true) : (rvalue p).2.2 = true := by
  unfold rvalue
  split
  · exact rnum_fail _ _ (rnum_fail _ _ h)
  · split
    · exact rnum_fail _ _ (rnum_fail _ _ h)
    · split
      · exact rtake_fail _ _ (rnum_fail _ _ (rnum_fail _ _ h))
      · exact rnum_fail _ _ h
theorem rvalue_len1 (p : Bytes × Bool) : (rvalue p).2.1.length ≤ (rnum 1 p).2.1.length := by
  unfold rvalue
  split
  · exact rnum_len _ _
  · split
    · exact rnum_len _ _
    · split
      · exact Nat.le_trans (rtake_len _ _) (rnum_len _ _)
      · exact Nat.le_refl _
theorem rvalue_len (x : UInt8) (r : Bytes) (f : Bool) : (rvalue (x :: r, f)).2.1.length ≤ r.length := by
  have := rvalue_len1 (x :: r, f)
  rwa [rnum1_cons] at this
theorem rvalue_nil (f : Bool) : (rvalue ([], f)).2.2 = true := by
  unfold rvalue
  simp [rnum1_nil]
theorem rnum2_cons (x y : UInt8) (r : Bytes) (f : Bool) : rnum 2 (x :: y :: r, f) = (((two x y : Nat) : Int), (r, f)) := by
  have h : ¬ r.length + 1 + 1 < 2 := by omega
  simp [rnum, rtake, h, ofBytes_two]
theorem rnum2_short {r : Bytes} (h : r.length < 2) (f : Bool) : (rnum 2 (r, f)).2.2 = true := by
  simp [rnum, rtake, h]
theorem rnum8 {r : Bytes} (h : ¬ r.length < 8) (f : Bool) : rnum 8 (r, f) = (ofBytes 0 (r.take 8), (r.drop 8, f)) := by
  simp [rnum, rtake, h]
theorem rnum8_short {r : Bytes} (h : r.length < 8) (f : Bool) : (rnum 8 (r, f)).2.2 = true := by
  simp [rnum, rtake, h]
theorem rvalue_next {t : Bytes} {v : Val} {r : Bytes} (f : Bool) (h : nextP t = some (v, r)) : rvalue (t, f) = (v, (r, f)) := by
  unfold nextP at h
  split at h
  · cases h
  · rename_i b q
    unfold rvalue
    simp only [rnum1_cons]
    split at h
    · rename_i h0
      cases h
      simp [h0]
    · split at h
      · rename_i h1
        split at h
        · cases h
        · cases h
          simp [h1, rnum1_cons]
      · split at h
        · rename_i h2
          split at h
          · cases h
          · rename_i hl
            split at h
            · cases h
            · cases h
              simp [h2, rnum8 hl]
        · split at h
          · rename_i h0 h1 h2 h3
            split at h
            · rename_i x y r'
              split at h
              · cases h
              · rename_i hl
                cases h
                rw [rnum2_cons]
                rw [if_neg (by omega), if_neg (by omega), if_pos (by omega)]
                simp [rtake, hl]
            · cases h
          · cases h
theorem okP_kind {d : Nat} {v : Val} (h : ¬ (0 ≤ v.k ∧ v.k ≤ 5)) : okP d v = false := by
  cases ho : okP d v with
  | false => rfl
  | true => have := okP_range ho; exact absurd ⟨this.1, this.2.1⟩ h
theorem wrap_big {z : Int} (h1 : -9223372036854775808 ≤ z) (h2 : z < 0) : ¬ (-1000000000000 ≤ IntKind.i64.wrap (z - 4611686018427387904) ∧ IntKind.i64.wrap (z - 4611686018427387904) ≤ 1000000000000) := by
  rw [IntKind.wrap_i64]; omega
/-- Eight bytes that begin high tell a number below 0. -/
theorem ofBytes_high (x : UInt8) (r : Bytes) (hr : r.length = 7) (hx : 127 < x.toNat) : -9223372036854775808 ≤ ofBytes 0 (x :: r) ∧ ofBytes 0 (x :: r) < 0 := by
  have key : ∀ (l : Bytes) (n : Int) (m : Nat), IntKind.i64.wrap n = IntKind.i64.wrap m → l ≠ [] → ofBytes n l = IntKind.i64.wrap (natOf m l : Nat) := by
    intro l
    induction l with
    | nil => intro n m h hl; exact absurd rfl hl
    | cons b l ih =>
      intro n m h _
      simp only [ofBytes, natOf]
      have e : IntKind.i64.wrap (IntKind.i64.wrap (n * 256) + b.toNat) = IntKind.i64.wrap ((m * 256 + b.toNat : Nat) : Int) := by
        rw [IntKind.wrap_i64, IntKind.wrap_i64] at h
        simp only [IntKind.wrap_i64]; omega
      cases l with
      | nil => simp only [ofBytes, natOf]; exact e
      | cons c l =>
        refine ih _ _ ?_ (by simp)
        rw [e]
        simp only [IntKind.wrap_i64]; omega
  rw [key (x :: r) 0 0 rfl (by simp)]
  have hx' := x.toNat_lt
  have h3 : natOf 0 (x :: r) = natOf x.toNat r := by simp [natOf]
  have hp : 256 ^ r.length = 72057594037927936 := by rw [hr]
  have h2 := natOf_lt r x.toNat 256 (by omega)
  rw [hp] at h2
  have lo : ∀ (l : Bytes) (n : Nat), n * 256 ^ l.length ≤ natOf n l := by
    intro l
    induction l with
    | nil => intro n; simp [natOf]
    | cons b l ih =>
      intro n
      simp only [natOf, List.length_cons, Nat.pow_succ]
      refine Nat.le_trans ?_ (ih (n * 256 + b.toNat))
      rw [Nat.mul_comm (256 ^ l.length), ← Nat.mul_assoc]
      exact Nat.mul_le_mul_right _ (by omega)
  have h4 := lo r x.toNat
  rw [hp] at h4
  rw [h3, IntKind.wrap_i64]
  omega
theorem rvalue_bad {b : UInt8} {q : Bytes} (f : Bool) (h : nextP (b :: q) = none) : (rvalue (b :: q, f)).2.2 = true ∨ ∀ d, okP d (rvalue (b :: q, f)).1 = false := by
  unfold nextP at h
  simp only at h
  unfold rvalue
  simp only [rnum1_cons]
  split at h
  · cases h
  · split at h
    · rename_i h1
      split at h
      · left; simp [h1, rnum1_nil]
      · cases h
    · split at h
      · rename_i h2
        split at h
        · rename_i hl
          left; simp [h2, rnum8_short hl]
        · rename_i hl
          split at h
          · rename_i hx
            right
            intro d
            rw [if_neg (by omega), if_pos (by omega)]
            simp only [rnum8 hl]
            cases q with
            | nil => simp at hl
            | cons x p =>
              simp only [List.headD_cons] at hx
              have hp : (p.take 7).length = 7 := by simp at hl ⊢; omega
              have hb := ofBytes_high x (p.take 7) hp hx
              simp only [List.take_succ_cons]
              cases ho : okP d ⟨2, IntKind.i64.wrap (ofBytes 0 (x :: p.take 7) - 4611686018427387904), []⟩ with
              | false => rfl
              | true =>
                have := okP_range ho
                exact absurd ⟨this.2.2.1, this.2.2.2.1⟩ (wrap_big hb.1 hb.2)
          · cases h
      · split at h
        · rename_i h0 h1 h2 h3
          left
          rw [if_neg (by omega), if_neg (by omega), if_pos (by omega)]
          split at h
          · rename_i x y r'
            split at h
            · rename_i hl
              rw [rnum2_cons]
              simp [rtake, hl]
            · cases h
          · rename_i hq
            have hs : q.length < 2 := by
              match q, hq with
              | [], _ => simp
              | [x], _ => simp
              | x :: y :: r', hq => exact absurd rfl (hq x y r')
            exact rtake_fail _ _ (rnum2_short hs f)
        · rename_i h0 h1 h2 h3
          right
          intro d
          rw [if_neg (by omega), if_neg (by omega), if_neg (by omega)]
          exact okP_kind (by simp only; omega)
theorem loopI_fail {α : Type} (f : Bytes × Bool → α × (Bytes × Bool)) (n : Nat) (p : Bytes × Bool) (h : p.2 = true) : loopI f n p = ([], true) := by
  cases n <;> simp [loopI, h]
theorem loopI_nil {α : Type} (f : Bytes × Bool → α × (Bytes × Bool)) (n : Nat) (b : Bool) : loopI f n ([], b) = ([], b) := by
  cases n <;> simp [loopI]
theorem items_I : ∀ (n : Nat) (t : Bytes), t.length < n → (∀ xs, itemsP t = some xs → loopI rvalue n (t, false) = (xs, false)) ∧
    (itemsP t = none → (loopI rvalue n (t, false)).2 = true ∨ ∃ x ∈ (loopI rvalue n (t, false)).1, ∀ d, okP d x = false)
  | 0, t, h => by omega
  | n + 1, [], _ => by
    refine ⟨fun xs hx => ?_, fun h => by simp [itemsP, itemsN] at h⟩
    have : xs = [] := by simpa [itemsP, itemsN] using hx.symm
    rw [loopI_nil, this]
  | n + 1, b :: q, hl => by
    have hstep : loopI rvalue (n + 1) (b :: q, false) = ((rvalue (b :: q, false)).1 :: (loopI rvalue n (rvalue (b :: q, false)).2).1, (loopI rvalue n (rvalue (b :: q, false)).2).2) := by simp [loopI]
    cases hn : nextP (b :: q) with
    | none =>
      refine ⟨fun xs hx => (by rw [itemsP_none hn] at hx; cases hx), fun _ => ?_⟩
      rw [hstep]
      rcases rvalue_bad false hn with h | h
      · left
        rw [loopI_fail _ _ _ h]
      · right
        exact ⟨_, List.mem_cons_self .., h⟩
    | some p =>
      obtain ⟨v, r⟩ := p
      have hr := (nextP_len hn).1
      simp only [List.length_cons] at hr hl
      obtain ⟨i1, i2⟩ := items_I n r (by omega)
      rw [hstep, rvalue_next false hn, itemsP_some hn]
      refine ⟨fun xs hx => ?_, fun hx => ?_⟩
      · cases hq : itemsP r with
        | none => rw [hq] at hx; cases hx
        | some ys =>
          rw [hq] at hx
          rw [i1 ys hq, ← Option.some.inj hx]
      · cases hq : itemsP r with
        | none =>
          rcases i2 hq with h | ⟨x, h1, h2⟩
          · exact .inl h
          · exact .inr ⟨x, List.mem_cons_of_mem _ h1, h2⟩
        | some ys => rw [hq] at hx; cases hx
theorem rfield_len (x : UInt8) (r : Bytes) (f : Bool) : (rfield (x :: r, f)).2.1.length ≤ r.length := by
  unfold rfield
  rw [rnum1_cons]
  refine Nat.le_trans (rvalue_len1 _) (Nat.le_trans (rnum_len _ _) (rtake_len _ _))
theorem rfield_eq (b : UInt8) (q : Bytes) (f : Bool) : rfield (b :: q, f) = (⟨(rtake b.toNat (q, f)).1, (rvalue (rtake b.toNat (q, f)).2).1⟩, (rvalue (rtake b.toNat (q, f)).2).2) := by
  unfold rfield
  rw [rnum1_cons]
  simp
theorem fields_I : ∀ (n : Nat) (t : Bytes), t.length < n → (∀ xs, fieldsP t = some xs → loopI rfield n (t, false) = (xs, false)) ∧
    (fieldsP t = none → (loopI rfield n (t, false)).2 = true ∨ ∃ x ∈ (loopI rfield n (t, false)).1, ∀ d, okP d x.v = false)
  | 0, t, h => by omega
  | n + 1, [], _ => by
    refine ⟨fun xs hx => ?_, fun h => by simp [fieldsP, fieldsN] at h⟩
    have : xs = [] := by simpa [fieldsP, fieldsN] using hx.symm
    rw [loopI_nil, this]
  | n + 1, b :: q, hl => by
    have hstep : loopI rfield (n + 1) (b :: q, false) = ((rfield (b :: q, false)).1 :: (loopI rfield n (rfield (b :: q, false)).2).1, (loopI rfield n (rfield (b :: q, false)).2).2) := by simp [loopI]
    rw [hstep]
    by_cases hb : q.length < b.toNat
    · have hf : (rfield (b :: q, false)).2.2 = true := by
        rw [rfield_eq]
        refine rvalue_fail _ ?_
        simp [rtake, hb]
      refine ⟨fun xs hx => (by rw [fieldsP_short hb] at hx; cases hx), fun _ => .inl ?_⟩
      rw [loopI_fail _ _ _ hf]
    · have ht : rtake b.toNat (q, false) = (q.take b.toNat, (q.drop b.toNat, false)) := by simp [rtake, hb]
      rw [rfield_eq, ht]
      cases hn : nextP (q.drop b.toNat) with
      | none =>
        refine ⟨fun xs hx => (by rw [fieldsP_none hb hn] at hx; cases hx), fun _ => ?_⟩
        cases hd : q.drop b.toNat with
        | nil =>
          left
          rw [loopI_fail _ _ _ (rvalue_nil false)]
        | cons c q' =>
          rw [hd] at hn
          rcases rvalue_bad false hn with h | h
          · left
            rw [loopI_fail _ _ _ h]
          · right
            exact ⟨_, List.mem_cons_self .., h⟩
      | some p =>
        obtain ⟨v, r⟩ := p
        have hr := (nextP_len hn).1
        simp only [List.length_cons, List.length_drop] at hr hl
        obtain ⟨i1, i2⟩ := fields_I n r (by omega)
        rw [rvalue_next false hn, fieldsP_some hb hn]
        refine ⟨fun xs hx => ?_, fun hx => ?_⟩
        · cases hq : fieldsP r with
          | none => rw [hq] at hx; cases hx
          | some ys =>
            rw [hq] at hx
            rw [i1 ys hq, ← Option.some.inj hx]
        · cases hq : fieldsP r with
          | none =>
            rcases i2 hq with h | ⟨x, h1, h2⟩
            · exact .inl h
            · exact .inr ⟨x, List.mem_cons_of_mem _ h1, h2⟩
          | some ys => rw [hq] at hx; cases hx
theorem itemsI_some {t : Bytes} {xs : List Val} (h : itemsP t = some xs) : itemsI t = (xs, false) := (items_I _ t (by omega)).1 xs h
theorem fieldsI_some {t : Bytes} {xs : List Fld} (h : fieldsP t = some xs) : fieldsI t = (xs, false) := (fields_I _ t (by omega)).1 xs h
def innerI (v : Val) : List Val × Bool :=
  if v.k = 4 then ((itemsI v.t).1, !(itemsI v.t).2)
  else ((fieldsI v.t).1.map (·.v), !(fieldsI v.t).2 && (fieldsI v.t).1.all (fun f => nameP f.name) && rising (fieldsI v.t).1)
/-- As the program asks. -/
def rightI : Nat → Val → Bool
  | d, v =>
    if v.k = 0 then decide (v.n = 0) && v.t.isEmpty
    else if v.k = 1 then decide (0 ≤ v.n) && decide (v.n ≤ 1) && v.t.isEmpty
    else if v.k = 2 then decide (-1000000000000 ≤ v.n) && decide (v.n ≤ 1000000000000) && v.t.isEmpty
    else if v.k = 3 then decide (v.n = 0) && decide (v.t.length ≤ 300)
    else if v.k = 4 ∨ v.k = 5 then decide (v.n = 0) && decide (v.t.length ≤ 300) && (match d with
      | 0 => false
      | d + 1 => (innerI v).2 && (innerI v).1.all (rightI d))
    else false
theorem all_false {α : Type} {l : List α} {p : α → Bool} {x : α} (hx : x ∈ l) (h : p x = false) : l.all p = false := by
  rw [List.all_eq_false]; exact ⟨x, hx, by simp [h]⟩
theorem all_both {α : Type} {p q : α → Bool} : ∀ (l : List α), (l.all p && l.all q) = l.all (fun x => p x && q x)
  | [] => rfl
  | x :: l => by
    simp only [List.all_cons, ← all_both l]
    cases p x <;> cases q x <;> simp
theorem rightI_eq : ∀ (d : Nat) (v : Val), rightI d v = okP d v := by
  intro d
  induction d with
  | zero => intro v; unfold rightI okP; simp
  | succ d ih =>
    intro v
    have ih' : rightI d = okP d := funext ih
    unfold rightI okP
    simp only [ih']
    by_cases h0 : v.k = 0
    · simp [h0]
    · by_cases h1 : v.k = 1
      · simp [h1]
      · by_cases h2 : v.k = 2
        · simp [h2]
        · by_cases h3 : v.k = 3
          · simp [h3]
          · by_cases h4 : v.k = 4
            · simp only [h4]
              simp only [innerI, h4]
              cases hi : itemsP v.t with
              | some xs => simp [itemsI_some hi]
              | none =>
                have := (items_I _ v.t (Nat.lt_succ_self _)).2 hi
                rcases this with h | ⟨x, hx, hb⟩
                · simp [itemsI, h]
                · have ha : (itemsI v.t).1.all (okP d) = false := all_false hx (hb d)
                  simp [ha]
            · by_cases h5 : v.k = 5
              · simp only [h5]
                simp only [innerI, h5]
                cases hi : fieldsP v.t with
                | some xs =>
                  simp only [fieldsI_some hi]
                  have hmap : (xs.map (·.v)).all (okP d) = xs.all (fun f => okP d f.v) := by rw [List.all_map]; rfl
                  simp only [hmap, ← all_both]
                  cases rising xs <;> cases xs.all (fun f => nameP f.name) <;> simp [Function.comp_def]
                | none =>
                  have := (fields_I _ v.t (Nat.lt_succ_self _)).2 hi
                  rcases this with h | ⟨x, hx, hb⟩
                  · simp [fieldsI, h]
                  · have ha : ((fieldsI v.t).1.map (·.v)).all (okP d) = false := by
                      rw [List.all_map]
                      exact all_false hx (hb d)
                    simp [ha]
              · simp [h0, h1, h2, h3, h4, h5]

/-- A search by halves. -/
def halves (lt : Nat → Bool) : Nat → Nat → Nat → Nat
  | 0, i, _ => i
  | n + 1, i, j => if i < j then (if lt ((i + j) / 2) then halves lt n ((i + j) / 2 + 1) j else halves lt n i ((i + j) / 2)) else i
theorem halves_ok {lt : Nat → Bool} {p m : Nat} (h1 : ∀ k, k < p → lt k = true) (h2 : ∀ k, p ≤ k → k < m → lt k = false) : ∀ (n i j : Nat), i ≤ p → p ≤ j → j ≤ m → j - i < n → halves lt n i j = p
  | 0, i, j, _, _, _, hn => by omega
  | n + 1, i, j, hi, hj, hm, hn => by
    unfold halves
    split
    · rename_i hij
      split
      · rename_i hl
        have : (i + j) / 2 < p := by
          by_cases hp : (i + j) / 2 < p
          · exact hp
          · rw [h2 _ (by omega) (by omega)] at hl; cases hl
        exact halves_ok h1 h2 n _ _ (by omega) hj hm (by omega)
      · rename_i hl
        have : p ≤ (i + j) / 2 := by
          by_cases hp : p ≤ (i + j) / 2
          · exact hp
          · rw [h1 _ (by omega)] at hl; simp at hl
        exact halves_ok h1 h2 n _ _ hi this (by omega) (by omega)
    · omega
/-- Where a name stands or would stand. -/
def placeP (fs : List Fld) (name : Bytes) : Nat := (fs.takeWhile (fun f => Op.bytesLess f.name name)).length
def thereP (fs : List Fld) (name : Bytes) : Bool := match fs[placeP fs name]? with
  | some f => f.name == name
  | none => false
theorem rising_tail {f : Fld} {r : List Fld} (h : rising (f :: r) = true) : rising r = true := by
  cases r with
  | nil => rfl
  | cons g r => simp [rising] at h; exact h.2
theorem rising_all : ∀ {f : Fld} {r : List Fld}, rising (f :: r) = true → ∀ g ∈ r, Op.bytesLess f.name g.name = true
  | f, [], _, g, hg => by simp at hg
  | f, x :: r, h, g, hg => by
    have hx : Op.bytesLess f.name x.name = true := by simp [rising] at h; exact h.1
    rcases List.mem_cons.1 hg with rfl | hg
    · exact hx
    · exact bytesLess_trans hx (rising_all (rising_tail h) g hg)
theorem rising_place : ∀ {fs : List Fld} (name : Bytes), rising fs = true → ∀ k f, fs[k]? = some f → (Op.bytesLess f.name name = true ↔ k < placeP fs name)
  | [], name, _, k, f, h => by simp at h
  | x :: r, name, hr, k, f, h => by
    unfold placeP
    simp only [List.takeWhile_cons]
    cases hx : Op.bytesLess x.name name with
    | true =>
      cases k with
      | zero => simp at h; subst h; simp [hx]
      | succ k =>
        have := rising_place (fs := r) name (rising_tail hr) k f (by simpa using h)
        simp only [placeP] at this
        simp only [if_true, List.length_cons]
        rw [this]; omega
    | false =>
      simp only [Bool.false_eq_true, if_false, List.length_nil]
      cases k with
      | zero => simp at h; subst h; simp [hx]
      | succ k =>
        have hf : f ∈ r := List.mem_of_getElem? (by simpa using h)
        have h3 := rising_all hr f hf
        constructor
        · intro h4
          rw [bytesLess_trans h3 h4] at hx; cases hx
        · intro h4; omega
theorem place_le (fs : List Fld) (name : Bytes) : placeP fs name ≤ fs.length := by
  unfold placeP
  induction fs with
  | nil => simp
  | cons x r ih => simp only [List.takeWhile_cons]; split <;> simp; exact ih
theorem find_place : ∀ {fs : List Fld} (name : Bytes), rising fs = true → fs.find? (fun f => f.name == name) = (fs[placeP fs name]?).bind (fun f => if f.name == name then some f else none)
  | [], name, _ => by simp
  | x :: r, name, hr => by
    unfold placeP
    simp only [List.takeWhile_cons, List.find?_cons]
    cases hx : Op.bytesLess x.name name with
    | true =>
      have hne : (x.name == name) = false := by
        cases he : x.name == name with
        | false => rfl
        | true =>
          have e : x.name = name := by simpa using he
          rw [e, bytesLess_irrefl] at hx; cases hx
      rw [hne]
      have := find_place (fs := r) name (rising_tail hr)
      simp only [placeP] at this
      simp only [if_true, List.length_cons, List.getElem?_cons_succ]
      exact this
    | false =>
      simp only [Bool.false_eq_true, if_false, List.length_nil, List.getElem?_cons_zero, Option.bind_some]
      cases he : x.name == name with
      | true => simp
      | false =>
        simp only [Bool.false_eq_true, if_false]
        rw [List.find?_eq_none]
        intro g hg he2
        have e : g.name = name := by simpa using he2
        have h3 := rising_all hr g hg
        rw [e] at h3
        rw [h3] at hx; cases hx
theorem field_place {v : Val} {fs : List Fld} (name : Bytes) (hf : fieldsP v.t = some fs) (hr : rising fs = true) : fieldP v name = (fs[placeP fs name]?).bind (fun f => if f.name == name then some f.v else none) := by
  unfold fieldP fieldsL
  rw [hf, Option.getD_some, find_place name hr]
  cases fs[placeP fs name]? with
  | none => rfl
  | some f => simp only [Option.bind_some]; split <;> rfl
end Go.Pu
namespace Go.Rd
open Go.Ev Go.Proofs Go.Pu
set_option linter.unusedSimpArgs false
set_option linter.unusedVariables false
def loopsOf : Code → List Code
  | .seq a b => loopsOf a ++ loopsOf b
  | .cond _ a b => loopsOf a ++ loopsOf b
  | .block _ a => loopsOf a
  | .loop a => a :: loopsOf a
  | _ => []
def loopAt (f : Func) (k : Nat) : Code := match f.body with
  | some c => (loopsOf c).getD k .skip
  | none => .skip
abbrev Ss := Nat → SV
abbrev Os := Nat → Ob
/-- What a piece of code comes to. -/
def After (N : Nat) (I : Ss → Os → Nat → Prop) (R : Ex → Ss → Os → Nat → Prop) : Option Out → Prop
  | some (.st .normal st) => st.N = N ∧ I st.s st.o st.n
  | some (.st e st) => st.N = N ∧ R e st.s st.o st.n
  | _ => False
theorem After_normal (N : Nat) (I : Ss → Os → Nat → Prop) (R : Ex → Ss → Os → Nat → Prop) (st : St) : After N I R (some (.st .normal st)) = (st.N = N ∧ I st.s st.o st.n) := rfl
theorem After_ret (N : Nat) (I : Ss → Os → Nat → Prop) (R : Ex → Ss → Os → Nat → Prop) (st : St) : After N I R (some (.st .ret st)) = (st.N = N ∧ R .ret st.s st.o st.n) := rfl
theorem After_exit (N : Nat) (I : Ss → Os → Nat → Prop) (R : Ex → Ss → Os → Nat → Prop) (id : Nat) (st : St) : After N I R (some (.st (.exit id) st)) = (st.N = N ∧ R (.exit id) st.s st.o st.n) := rfl
theorem After_ite (N : Nat) (I : Ss → Os → Nat → Prop) (R : Ex → Ss → Os → Nat → Prop) (p : Prop) [Decidable p] (x y : Option Out) : After N I R (if p then x else y) = if p then After N I R x else After N I R y := by split <;> rfl
attribute [simp] After_normal After_ret After_exit After_ite
/-- A loop: what holds ahead of each round, and what it comes to. -/
theorem loop_for {c : Code} {N : Nat} (I : Nat → Ss → Os → Nat → Prop) (R : Ex → Ss → Os → Nat → Prop) (n : Nat)
    (step : ∀ i s o q, i < n → I i s o q → After N (I (i + 1)) R (run E (.code c ⟨s, o, q, N⟩)))
    (last : ∀ s o q, I n s o q → After N (fun _ _ _ => False) R (run E (.code c ⟨s, o, q, N⟩))) :
    ∀ k i s o q, i + k = n → I i s o q → ∃ e s' o' q', run E (.code (.loop c) ⟨s, o, q, N⟩) = some (.st e ⟨s', o', q', N⟩) ∧ R e s' o' q' := by
  have out : ∀ {J : Ss → Os → Nat → Prop} {st : St}, After N J R (run E (.code c st)) → (∃ s o q, run E (.code c st) = some (.st .normal ⟨s, o, q, N⟩) ∧ J s o q) ∨ ∃ e s o q, run E (.code (.loop c) st) = some (.st e ⟨s, o, q, N⟩) ∧ R e s o q := by
    intro J st h
    rw [run_loop]
    cases hr : run E (.code c st) with
    | none => rw [hr] at h; exact h.elim
    | some x =>
      rw [hr] at h
      cases x with
      | res => exact h.elim
      | st e st' =>
        obtain ⟨s, o, q, M⟩ := st'
        cases e with
        | normal => obtain ⟨rfl, h⟩ := h; exact .inl ⟨s, o, q, rfl, h⟩
        | exit id => obtain ⟨rfl, h⟩ := h; exact .inr ⟨_, s, o, q, rfl, h⟩
        | ret => obtain ⟨rfl, h⟩ := h; exact .inr ⟨_, s, o, q, rfl, h⟩
  intro k
  induction k with
  | zero =>
    intro i s o q hi hI
    obtain rfl : i = n := by omega
    rcases out (last s o q hI) with ⟨_, _, _, _, h⟩ | h
    · exact h.elim
    · exact h
  | succ k ih =>
    intro i s o q hi hI
    rcases out (step i s o q (by omega) hI) with ⟨s', o', q', h1, h2⟩ | h
    · obtain ⟨e, s'', o'', q'', h4, h5⟩ := ih (i + 1) s' o' q' (by omega) h2
      refine ⟨e, s'', o'', q'', ?_, h5⟩
      rw [run_loop, h1]
      exact h4
    · exact h
/-- A loop with a measure. -/
theorem loop_wf {c : Code} {N : Nat} (I : Nat → Ss → Os → Nat → Prop) (R : Ex → Ss → Os → Nat → Prop)
    (step : ∀ k s o q, I k s o q → After N (fun s' o' q' => ∃ j, j < k ∧ I j s' o' q') R (run E (.code c ⟨s, o, q, N⟩))) :
    ∀ k s o q, I k s o q → ∃ e s' o' q', run E (.code (.loop c) ⟨s, o, q, N⟩) = some (.st e ⟨s', o', q', N⟩) ∧ R e s' o' q' := by
  intro k
  induction k using Nat.strongRecOn with
  | ind k ih =>
    intro s o q hI
    have h := step k s o q hI
    rw [run_loop]
    cases hr : run E (.code c ⟨s, o, q, N⟩) with
    | none => rw [hr] at h; exact h.elim
    | some x =>
      rw [hr] at h
      cases x with
      | res => exact h.elim
      | st e st' =>
        obtain ⟨s', o', q', M⟩ := st'
        cases e with
        | normal =>
          obtain ⟨rfl, j, hj, h⟩ := h
          exact ih j hj s' o' q' h
        | exit id => obtain ⟨rfl, h⟩ := h; exact ⟨_, s', o', q', rfl, h⟩
        | ret => obtain ⟨rfl, h⟩ := h; exact ⟨_, s', o', q', rfl, h⟩
/-- What is told of each start, told by functions of the start. -/
theorem sk {I : Ss → Os → Nat → Prop} {Q : Ss → Os → Nat → Ex → Ss → Os → Nat → Prop} (h : ∀ s o q, I s o q → ∃ e s' o' q', Q s o q e s' o' q') :
    ∃ (X : Ss → Os → Nat → Ex) (A : Ss → Os → Nat → Ss) (B : Ss → Os → Nat → Os) (C : Ss → Os → Nat → Nat), ∀ s o q, I s o q → Q s o q (X s o q) (A s o q) (B s o q) (C s o q) := by
  classical
  have h' : ∀ s o q, ∃ p : Ex × Ss × Os × Nat, I s o q → Q s o q p.1 p.2.1 p.2.2.1 p.2.2.2 := by
    intro s o q
    by_cases hI : I s o q
    · obtain ⟨e, s', o', q', hQ⟩ := h s o q hI
      exact ⟨(e, s', o', q'), fun _ => hQ⟩
    · exact ⟨(.normal, s, o, q), fun hI' => absurd hI' hI⟩
  exact ⟨fun s o q => (h' s o q).choose.1, fun s o q => (h' s o q).choose.2.1, fun s o q => (h' s o q).choose.2.2.1, fun s o q => (h' s o q).choose.2.2.2, fun s o q => (h' s o q).choose_spec⟩
/-- The same, with a number more. -/
theorem sk1 {I : Ss → Os → Nat → Prop} {Q : Ss → Os → Nat → Ex → Ss → Os → Nat → Prop} {R : Ss → Os → Nat → Ex → Ss → Os → Nat → Nat → Prop} (h : ∀ s o q, I s o q → ∃ e s' o' q', Q s o q e s' o' q' ∧ ∃ m, R s o q e s' o' q' m) :
    ∃ (X : Ss → Os → Nat → Ex) (A : Ss → Os → Nat → Ss) (B : Ss → Os → Nat → Os) (C M : Ss → Os → Nat → Nat), ∀ s o q, I s o q → Q s o q (X s o q) (A s o q) (B s o q) (C s o q) ∧ R s o q (X s o q) (A s o q) (B s o q) (C s o q) (M s o q) := by
  obtain ⟨X, A, B, C, hx⟩ := sk h
  classical
  have h' : ∀ s o q, ∃ m, I s o q → R s o q (X s o q) (A s o q) (B s o q) (C s o q) m := by
    intro s o q
    by_cases hI : I s o q
    · obtain ⟨m, hm⟩ := (hx s o q hI).2
      exact ⟨m, fun _ => hm⟩
    · exact ⟨0, fun hI' => absurd hI' hI⟩
  exact ⟨X, A, B, C, fun s o q => (h' s o q).choose, fun s o q hI => ⟨(hx s o q hI).1, (h' s o q).choose_spec hI⟩⟩
theorem wrap_nat {n : Nat} (h : n < 9223372036854775808) : IntKind.i64.wrap (n : Int) = n := wrap_of (by omega) (by omega)
theorem wrap_succ {n : Nat} (h : n < 9223372036854775807) : IntKind.i64.wrap ((n : Int) + 1) = ((n + 1 : Nat) : Int) := by rw [wrap_of (by omega) (by omega)]; rfl
theorem wrap_byte (b : UInt8) : IntKind.i64.wrap (b.toNat : Int) = (b.toNat : Int) := by have := b.toNat_lt; exact wrap_of (by omega) (by omega)
theorem wrap_0 : IntKind.i64.wrap 0 = 0 := wrap_of (by omega) (by omega)
theorem wrap_1 : IntKind.i64.wrap 1 = 1 := wrap_of (by omega) (by omega)
attribute [simp] wrap_0 wrap_1
theorem succ_ne (n : Nat) : ((n : Int) + 1 = 0) = False := by simp; omega
abbrev valT (v : Val) : T := .agg [.int .i64 v.k, .int .i64 v.n, .str v.t]
abbrev fldT (f : Fld) : T := .agg [.str f.name, .int .i64 f.v.k, .int .i64 f.v.n, .str f.v.t]
/-- A value's three cells, as a result. -/
abbrev valX (v : Val) : X := .agg [.t (.int .i64 v.k), .t (.int .i64 v.n), .t (.str v.t)]
abbrev xI (n : Int) : X := .t (.int .i64 n)
abbrev xB (b : Bool) : X := .t (.bool b)
abbrev xS (s : Bytes) : X := .t (.str s)
abbrev xU (c : UInt8) : X := .t (.int .u8 c.toNat)
abbrev xV (v : Val) : X := .t (valT v)
abbrev strT (s : Bytes) : T := .str s
structure Trm where
  op : Int
  path : Bytes
  v : Val
  deriving DecidableEq, Inhabited
abbrev trmT (t : Trm) : T := .agg [.int .i64 t.op, .str t.path, .int .i64 t.v.k, .int .i64 t.v.n, .str t.v.t]
abbrev trmX (t : Trm) : X := .agg [.t (.int .i64 t.op), .t (.str t.path), .t (.int .i64 t.v.k), .t (.int .i64 t.v.n), .t (.str t.v.t)]
abbrev clsT (c : List Trm) : T := .agg [.list (c.map trmT)]
abbrev filT (f : List (List Trm)) : T := .agg [.list (f.map clsT)]
structure Prt where
  path : Bytes
  desc : Bool
  deriving DecidableEq, Inhabited
abbrev prtT (p : Prt) : T := .agg [.str p.path, .bool p.desc]
abbrev prtX (p : Prt) : X := .agg [.t (.str p.path), .t (.bool p.desc)]
/-- The place of the first one, or -1. -/
def idxP {α : Type} (p : α → Bool) : List α → Int
  | [] => -1
  | x :: r => if p x then 0 else if idxP p r < 0 then -1 else idxP p r + 1
theorem idxP_neg {α : Type} (p : α → Bool) : ∀ (l : List α), idxP p l < 0 ↔ l.any p = false
  | [] => by simp [idxP]
  | x :: r => by
    have ih := idxP_neg p r
    unfold idxP
    cases hp : p x with
    | true => simp [hp]
    | false =>
      simp only [hp, Bool.false_eq_true, if_false, List.any_cons, Bool.false_or]
      split
      · rename_i h; simp [ih.1 h]
      · rename_i h
        rw [← ih]
        omega
theorem idxP_ge {α : Type} (p : α → Bool) (l : List α) : decide (0 ≤ idxP p l) = l.any p := by
  have h := idxP_neg p l
  cases ha : l.any p with
  | true => simp; rw [ha] at h; simp at h; omega
  | false => simp; exact h.2 ha
end Go.Rd
namespace Go.Rd
open Go.Ev Go.Proofs Go.Pu
set_option linter.unusedSimpArgs false
set_option linter.unusedVariables false
set_option maxRecDepth 100000
set_option maxHeartbeats 4000000
theorem l01In (a b c : Int) : run E (.call 142 [xI a, xI b, xI c]) = some (.res [xB (decide (b ≤ a) && decide (a ≤ c))] []) := by
  rw [run_call E 142 _ rfl Tryz.func142 rfl rfl rfl (by simp)]
  by_cases h : b ≤ a <;> simp [h]
theorem inRange (a b c : Int) : run E (.call 109 [xI a, xI b, xI c]) = some (.res [xB (decide (b ≤ a) && decide (a ≤ c))] []) := by
  rw [run_call E 109 _ rfl Tryz.func109 rfl rfl rfl (by simp)]
  by_cases h : b ≤ a <;> simp [h]
theorem l01Bit (b : Bool) : run E (.call 287 [xB b]) = some (.res [xI (if b then 1 else 0)] []) := by
  rw [run_call E 287 _ rfl Tryz.func287 rfl rfl rfl (by simp)]
  cases b <;> simp
theorem l00Letter (c : UInt8) : run E (.call 358 [xU c]) = some (.res [xB (letterP c)] []) := by
  rw [run_call E 358 _ rfl Tryz.func358 rfl rfl rfl (by simp)]
  by_cases h1 : (97 : Int) ≤ c.toNat <;> by_cases h2 : (c.toNat : Int) ≤ 122 <;> by_cases h3 : (65 : Int) ≤ c.toNat <;> by_cases h4 : (c.toNat : Int) ≤ 90 <;> by_cases h5 : (c.toNat : Int) = 95 <;> simp [letterP, h1, h2, h3, h4, h5]
theorem isLetter (c : UInt8) : run E (.call 269 [xU c]) = some (.res [xB (letterP c)] []) := by
  rw [run_call E 269 _ rfl Tryz.func269 rfl rfl rfl (by simp)]
  by_cases h1 : (97 : Int) ≤ c.toNat <;> by_cases h2 : (c.toNat : Int) ≤ 122 <;> by_cases h3 : (65 : Int) ≤ c.toNat <;> by_cases h4 : (c.toNat : Int) ≤ 90 <;> by_cases h5 : (c.toNat : Int) = 95 <;> simp [letterP, h1, h2, h3, h4, h5]
theorem l00Digit (c : UInt8) : run E (.call 359 [xU c]) = some (.res [xB (digitP c)] []) := by
  rw [run_call E 359 _ rfl Tryz.func359 rfl rfl rfl (by simp)]
  by_cases h1 : (48 : Int) ≤ c.toNat <;> by_cases h2 : (c.toNat : Int) ≤ 57 <;> simp [digitP, h1, h2]
theorem isDigit (c : UInt8) : run E (.call 270 [xU c]) = some (.res [xB (digitP c)] []) := by
  rw [run_call E 270 _ rfl Tryz.func270 rfl rfl rfl (by simp)]
  by_cases h1 : (48 : Int) ≤ c.toNat <;> by_cases h2 : (c.toNat : Int) ≤ 57 <;> simp [digitP, h1, h2]
def wordB (c : UInt8) : Bool := letterP c || digitP c
theorem l00Word_loop (t : Bytes) (ht : t.length < 9223372036854775807) (b : Bool) : ∀ k i s o q, i + k = t.length → (s 0 = .t (.str t) ∧ s 3 = .t (.int .i64 i) ∧ b = (t.drop i).all wordB) →
    ∃ e s' o' q', run E (.code (.loop (loopAt Tryz.f331 0)) ⟨s, o, q, 36⟩) = some (.st e ⟨s', o', q', 36⟩) ∧ (b = true → e = .exit 0) ∧ (b = false → e = .ret ∧ s' 2 = .t (.bool false)) := by
  refine loop_for (fun i s o q => s 0 = .t (.str t) ∧ s 3 = .t (.int .i64 i) ∧ b = (t.drop i).all wordB) (fun e s' o' q' => (b = true → e = .exit 0) ∧ (b = false → e = .ret ∧ s' 2 = .t (.bool false))) t.length ?_ ?_
  · rintro i s o q hi ⟨h0, h3, hp⟩
    have hd : t.drop i = t[i] :: t.drop (i + 1) := by rw [List.drop_eq_getElem_cons hi]
    have hi' : (i : Int) < (t.length : Int) := by omega
    have hw := wrap_succ (n := i) (by omega)
    rw [hd, List.all_cons, wordB] at hp
    cases hl : letterP t[i] <;> cases hg : digitP t[i] <;> simp [hl, hg] at hp <;> simp [loopAt, loopsOf, Tryz.f331, h0, h3, hi, hi', l00Letter, l00Digit, hl, hg, hw, hp]
  · rintro s o q ⟨h0, h3, hp⟩
    simp at hp
    simp [loopAt, loopsOf, Tryz.f331, h0, h3, hp]
theorem l00Word (t : Bytes) (ht : t.length < 9223372036854775807) : run E (.call 331 [xS t]) = some (.res [xB (wordP t)] []) := by
  rw [run_call E 331 _ rfl Tryz.func331 rfl rfl rfl (by simp)]
  cases t with
  | nil => simp [wordP]
  | cons c r =>
    have hc : ∀ n : Nat, ((n : Int) + 1 < 1) = False := fun n => by simp; omega
    cases hl : letterP c with
    | false =>
      by_cases h40 : (40 : Int) < (r.length : Int) + 1 <;> simp [wordP, h40, hc, l00Letter, hl]
    | true =>
      by_cases h40 : (40 : Int) < (r.length : Int) + 1
      · have h : ¬ r.length < 40 := by omega
        simp [wordP, h40, hc, h]
      · have h : r.length < 40 := by omega
        have e : r.all (fun c => letterP c || digitP c) = r.all wordB := rfl
        have lp := fun b (hb : b = r.all wordB) => sk (fun s o q hI => l00Word_loop (c :: r) ht b r.length 1 s o q (by simp; omega) hI)
        simp only [loopAt, loopsOf, Tryz.f331] at lp
        cases hb : r.all wordB with
        | true =>
          obtain ⟨X, A, B, C, hx⟩ := lp true hb.symm
          simp [hb, -List.all_eq_true] at hx
          simp [wordP, h40, hc, h, l00Letter, hl, hx, e, hb, -List.all_eq_true]
        | false =>
          obtain ⟨X, A, B, C, hx⟩ := lp false hb.symm
          simp [hb, -List.all_eq_true, -List.all_eq_false] at hx
          simp [wordP, h40, hc, h, l00Letter, hl, hx, e, hb, -List.all_eq_true, -List.all_eq_false]
theorem nameOK_spec (t : Bytes) (ht : t.length < 9223372036854775807) : run E (.call 279 [xS t]) = some (.res [xB (wordP t)] []) := by
  rw [run_call E 279 _ rfl Tryz.func279 rfl rfl rfl (by simp)]
  simp [l00Word t ht]
theorem l01Name (t : Bytes) (ht : t.length < 9223372036854775807) : run E (.call 196 [xS t]) = some (.res [xB (nameP t)] []) := by
  rw [run_call E 196 _ rfl Tryz.func196 rfl rfl rfl (by simp)]
  cases h : wordP t with
  | false => simp [nameOK_spec t ht, nameP, h]
  | true =>
    have hc : ((t.length : Int) ≤ 12) = (t.length ≤ 12) := by simp; omega
    simp [nameOK_spec t ht, nameP, h, hc]
def nameFrom : Bytes → Bool
  | [] => true
  | c :: r => letterP c && r.all wordB
theorem nameOK (t : Bytes) (ht : t.length < 9223372036854775807) : run E (.call 183 [xS t]) = some (.res [xB (wordP t)] []) := by
  rw [run_call E 183 _ rfl Tryz.func183 rfl rfl rfl (by simp)]
  have lp := fun b (hb : b = nameFrom t) => sk (fun s o q hI => loop_for (c := loopAt Tryz.f183 0) (N := 29)
    (fun i s o q => s 0 = .t (.str t) ∧ s 5 = .t (.int .i64 t.length) ∧ s 6 = .t (.int .i64 i) ∧ b = if i = 0 then nameFrom t else (t.drop i).all wordB)
    (fun e s' o' q' => e = (if b then .exit 0 else .ret) ∧ s' 0 = .t (.str t) ∧ (b = false → s' 2 = .t (.bool false))) t.length
    (by
      rintro i s o q hi ⟨h0, h5, h6, hp⟩
      have hd : t.drop i = t[i] :: t.drop (i + 1) := by rw [List.drop_eq_getElem_cons hi]
      have hi' : (i : Int) < (t.length : Int) := by omega
      have hw := wrap_succ (n := i) (by omega)
      have hp' : b = ((letterP t[i] || (digitP t[i] && decide (i ≠ 0))) && (t.drop (i + 1)).all wordB) := by
        rw [hp]
        split
        · rename_i hz
          subst hz
          cases t with
          | nil => simp at hi
          | cons c r => simp [nameFrom]
        · rename_i hz
          rw [hd, List.all_cons, wordB]
          simp [hz]
      clear hp
      have hz : ((i : Int) = 0) = (i = 0) := by simp
      by_cases h0' : i = 0
      · subst h0'
        simp only [Int.ofNat_zero, Int.natCast_zero] at *
        cases hl : letterP t[0] <;> cases hg : digitP t[0] <;> simp [hl, hg] at hp' <;> simp [loopAt, loopsOf, Tryz.f183, h0, h5, h6, hi, hi', isLetter, isDigit, hl, hg, hw, hp']
      · cases hl : letterP t[i] <;> cases hg : digitP t[i] <;> simp [hl, hg, h0'] at hp' <;> simp [loopAt, loopsOf, Tryz.f183, h0, h5, h6, hi, hi', isLetter, isDigit, hl, hg, hw, hp', hz, h0'])
    (by
      rintro s o q ⟨h0, h5, h6, hp⟩
      have hb : b = true := by
        rw [hp]
        split
        · rename_i hz
          have : t = [] := List.eq_nil_of_length_eq_zero hz
          rw [this]; rfl
        · simp
      simp [loopAt, loopsOf, Tryz.f183, h0, h5, h6, hb])
    t.length 0 s o q (by omega) hI)
  simp only [loopAt, loopsOf, Tryz.f183] at lp
  have e : wordP t = (nameFrom t && (decide (1 ≤ (t.length : Int)) && decide ((t.length : Int) ≤ 40))) := by
    cases t with
    | nil => rfl
    | cons c r =>
      have h1 : (1 : Int) ≤ ((c :: r).length : Int) := by simp; omega
      have h2 : (((c :: r).length : Int) ≤ 40) = (r.length < 40) := by simp; omega
      simp only [h1, h2, wordP, nameFrom, decide_true, Bool.true_and]
      rfl
  cases hb : nameFrom t with
  | true =>
    obtain ⟨X, A, B, C, hx⟩ := lp true hb.symm
    simp [hb] at hx
    simp [hx, inRange, e, hb]
  | false =>
    obtain ⟨X, A, B, C, hx⟩ := lp false hb.symm
    simp [hb] at hx
    simp [hx, inRange, e, hb]
theorem isShort (t : Bytes) (ht : t.length < 9223372036854775807) : run E (.call 103 [xS t]) = some (.res [xB (nameP t)] []) := by
  rw [run_call E 103 _ rfl Tryz.func103 rfl rfl rfl (by simp)]
  by_cases h : t.length ≤ 12
  · have h' : (t.length : Int) ≤ 12 := by omega
    simp [nameOK t ht, nameP, h, h']
  · have h' : ¬ (t.length : Int) ≤ 12 := by omega
    simp [nameP, h, h']
theorem indexFunc_203_0 (xs : List Bytes) (g : Nat)  (p : Bytes → Bool) (hl : xs.length < 9223372036854775807) (hm : E.md g = []) (hf : E.flat g = true) (hp : ∀ x ∈ xs, run E (.call g [.t (strT x)]) = some (.res [xB (p x)] [])) :
    run E (.call 182 [.t (.list (xs.map strT)), .fn g []]) = some (.res [xI (idxP p xs)] []) := by
  rw [run_call E 182 _ rfl Tryz.func182 rfl rfl rfl (by simp)]
  rw [E_md] at hm
  have lp := fun (r : Int) (hr : r = idxP p xs) => sk (fun s o q hI => loop_for (c := loopAt Tryz.f182 0) (N := 19)
    (fun i s o q => s 0 = .t (.list (xs.map strT)) ∧ s 1 = .fn g [] ∧ s 7 = .t (.int .i64 xs.length) ∧ s 8 = .t (.int .i64 i) ∧ r = if idxP p (xs.drop i) < 0 then -1 else idxP p (xs.drop i) + i)
    (fun e s' o' q' => e = (if r < 0 then .exit 0 else .ret) ∧ (0 ≤ r → s' 4 = .t (.int .i64 r))) xs.length
    (by
      rintro i s o q hi ⟨h0, h1, h7, h8, hr⟩
      have hd : xs.drop i = xs[i] :: xs.drop (i + 1) := by rw [List.drop_eq_getElem_cons hi]
      have hi' : (i : Int) < (xs.length : Int) := by omega
      have hw := wrap_succ (n := i) (by omega)
      have hx := hp xs[i] (List.getElem_mem hi)
      rw [hd, idxP] at hr
      cases hpx : p xs[i] with
      | true =>
        simp [hpx] at hr hx
        have hr' : ¬ r < 0 := by omega
        simp [-mdOf, loopAt, loopsOf, Tryz.f182, h0, h1, h7, h8, hi, hi', hx, hw, hm, hf, hr', hr]
      | false =>
        simp [hpx] at hr hx
        have hr2 : r = if idxP p (xs.drop (i + 1)) < 0 then -1 else idxP p (xs.drop (i + 1)) + ((i : Int) + 1) := by
          rw [hr]
          by_cases hq : idxP p (xs.drop (i + 1)) < 0
          · simp [hq]
          · have : ¬ idxP p (xs.drop (i + 1)) + 1 < 0 := by omega
            simp [hq, this]; omega
        clear hr
        simp [-mdOf, loopAt, loopsOf, Tryz.f182, h0, h1, h7, h8, hi, hi', hx, hw, hm, hf]
        exact hr2)
    (by
      rintro s o q ⟨h0, h1, h7, h8, hr⟩
      simp [idxP] at hr
      simp [loopAt, loopsOf, Tryz.f182, h0, h1, h7, h8, hr])
    xs.length 0 s o q (by omega) hI)
  simp only [loopAt, loopsOf, Tryz.f182] at lp
  obtain ⟨X, A, B, C, hx⟩ := lp _ rfl
  have hz : idxP p xs = if idxP p xs < 0 then -1 else idxP p xs := by
    cases xs with
    | nil => simp [idxP]
    | cons x r =>
      unfold idxP
      split
      · simp
      · split
        · simp
        · have : ¬ idxP p r + 1 < 0 := by omega
          simp [this]
  simp [← hz] at hx
  by_cases h : idxP p xs < 0
  · have h1 : idxP p xs = -1 := by rw [hz]; simp [h]
    simp [h] at hx
    simp [hx, h1]
  · have h2 : 0 ≤ idxP p xs := by omega
    simp [h, h2] at hx
    simp [hx]
theorem containsFunc_138_0 (xs : List Bytes) (g : Nat)  (p : Bytes → Bool) (hl : xs.length < 9223372036854775807) (hm : E.md g = []) (hf : E.flat g = true) (hp : ∀ x ∈ xs, run E (.call g [.t (strT x)]) = some (.res [xB (p x)] [])) :
    run E (.call 101 [.t (.list (xs.map strT)), .fn g []]) = some (.res [xB (xs.any p)] []) := by
  rw [run_call E 101 _ rfl Tryz.func101 rfl rfl rfl (by simp)]
  have h := indexFunc_203_0 xs g  p hl hm hf hp
  simp [h, idxP_ge]
theorem indexFunc_206_1 (xs : List Val) (g : Nat) (c : List T) (p : Val → Bool) (hl : xs.length < 9223372036854775807) (hm : E.md g = []) (hf : E.flat g = true) (hp : ∀ x ∈ xs, run E (.call g [.t (valT x), .dref c]) = some (.res [xB (p x)] [])) :
    run E (.call 244 [.t (.list (xs.map valT)), .fn g [c]]) = some (.res [xI (idxP p xs)] []) := by
  rw [run_call E 244 _ rfl Tryz.func244 rfl rfl rfl (by simp)]
  rw [E_md] at hm
  have lp := fun (r : Int) (hr : r = idxP p xs) => sk (fun s o q hI => loop_for (c := loopAt Tryz.f244 0) (N := 19)
    (fun i s o q => s 0 = .t (.list (xs.map valT)) ∧ s 1 = .fn g [.dptr c] ∧ s 7 = .t (.int .i64 xs.length) ∧ s 8 = .t (.int .i64 i) ∧ r = if idxP p (xs.drop i) < 0 then -1 else idxP p (xs.drop i) + i)
    (fun e s' o' q' => e = (if r < 0 then .exit 0 else .ret) ∧ (0 ≤ r → s' 4 = .t (.int .i64 r))) xs.length
    (by
      rintro i s o q hi ⟨h0, h1, h7, h8, hr⟩
      have hd : xs.drop i = xs[i] :: xs.drop (i + 1) := by rw [List.drop_eq_getElem_cons hi]
      have hi' : (i : Int) < (xs.length : Int) := by omega
      have hw := wrap_succ (n := i) (by omega)
      have hx := hp xs[i] (List.getElem_mem hi)
      rw [hd, idxP] at hr
      cases hpx : p xs[i] with
      | true =>
        simp [hpx] at hr hx
        have hr' : ¬ r < 0 := by omega
        simp [-mdOf, loopAt, loopsOf, Tryz.f244, h0, h1, h7, h8, hi, hi', hx, hw, hm, hf, hr', hr]
      | false =>
        simp [hpx] at hr hx
        have hr2 : r = if idxP p (xs.drop (i + 1)) < 0 then -1 else idxP p (xs.drop (i + 1)) + ((i : Int) + 1) := by
          rw [hr]
          by_cases hq : idxP p (xs.drop (i + 1)) < 0
          · simp [hq]
          · have : ¬ idxP p (xs.drop (i + 1)) + 1 < 0 := by omega
            simp [hq, this]; omega
        clear hr
        simp [-mdOf, loopAt, loopsOf, Tryz.f244, h0, h1, h7, h8, hi, hi', hx, hw, hm, hf]
        exact hr2)
    (by
      rintro s o q ⟨h0, h1, h7, h8, hr⟩
      simp [idxP] at hr
      simp [loopAt, loopsOf, Tryz.f244, h0, h1, h7, h8, hr])
    xs.length 0 s o q (by omega) hI)
  simp only [loopAt, loopsOf, Tryz.f244] at lp
  obtain ⟨X, A, B, C, hx⟩ := lp _ rfl
  have hz : idxP p xs = if idxP p xs < 0 then -1 else idxP p xs := by
    cases xs with
    | nil => simp [idxP]
    | cons x r =>
      unfold idxP
      split
      · simp
      · split
        · simp
        · have : ¬ idxP p r + 1 < 0 := by omega
          simp [this]
  simp [← hz] at hx
  by_cases h : idxP p xs < 0
  · have h1 : idxP p xs = -1 := by rw [hz]; simp [h]
    simp [h] at hx
    simp [hx, h1]
  · have h2 : 0 ≤ idxP p xs := by omega
    simp [h, h2] at hx
    simp [hx]
theorem containsFunc_143_1 (xs : List Val) (g : Nat) (c : List T) (p : Val → Bool) (hl : xs.length < 9223372036854775807) (hm : E.md g = []) (hf : E.flat g = true) (hp : ∀ x ∈ xs, run E (.call g [.t (valT x), .dref c]) = some (.res [xB (p x)] [])) :
    run E (.call 253 [.t (.list (xs.map valT)), .fn g [c]]) = some (.res [xB (xs.any p)] []) := by
  rw [run_call E 253 _ rfl Tryz.func253 rfl rfl rfl (by simp)]
  have h := indexFunc_206_1 xs g c p hl hm hf hp
  simp [h, idxP_ge]
theorem indexFunc_202_0 (xs : List Prt) (g : Nat)  (p : Prt → Bool) (hl : xs.length < 9223372036854775807) (hm : E.md g = []) (hf : E.flat g = true) (hp : ∀ x ∈ xs, run E (.call g [.t (prtT x)]) = some (.res [xB (p x)] [])) :
    run E (.call 207 [.t (.list (xs.map prtT)), .fn g []]) = some (.res [xI (idxP p xs)] []) := by
  rw [run_call E 207 _ rfl Tryz.func207 rfl rfl rfl (by simp)]
  rw [E_md] at hm
  have lp := fun (r : Int) (hr : r = idxP p xs) => sk (fun s o q hI => loop_for (c := loopAt Tryz.f207 0) (N := 19)
    (fun i s o q => s 0 = .t (.list (xs.map prtT)) ∧ s 1 = .fn g [] ∧ s 7 = .t (.int .i64 xs.length) ∧ s 8 = .t (.int .i64 i) ∧ r = if idxP p (xs.drop i) < 0 then -1 else idxP p (xs.drop i) + i)
    (fun e s' o' q' => e = (if r < 0 then .exit 0 else .ret) ∧ (0 ≤ r → s' 4 = .t (.int .i64 r))) xs.length
    (by
      rintro i s o q hi ⟨h0, h1, h7, h8, hr⟩
      have hd : xs.drop i = xs[i] :: xs.drop (i + 1) := by rw [List.drop_eq_getElem_cons hi]
      have hi' : (i : Int) < (xs.length : Int) := by omega
      have hw := wrap_succ (n := i) (by omega)
      have hx := hp xs[i] (List.getElem_mem hi)
      rw [hd, idxP] at hr
      cases hpx : p xs[i] with
      | true =>
        simp [hpx] at hr hx
        have hr' : ¬ r < 0 := by omega
        simp [-mdOf, loopAt, loopsOf, Tryz.f207, h0, h1, h7, h8, hi, hi', hx, hw, hm, hf, hr', hr]
      | false =>
        simp [hpx] at hr hx
        have hr2 : r = if idxP p (xs.drop (i + 1)) < 0 then -1 else idxP p (xs.drop (i + 1)) + ((i : Int) + 1) := by
          rw [hr]
          by_cases hq : idxP p (xs.drop (i + 1)) < 0
          · simp [hq]
          · have : ¬ idxP p (xs.drop (i + 1)) + 1 < 0 := by omega
            simp [hq, this]; omega
        clear hr
        simp [-mdOf, loopAt, loopsOf, Tryz.f207, h0, h1, h7, h8, hi, hi', hx, hw, hm, hf]
        exact hr2)
    (by
      rintro s o q ⟨h0, h1, h7, h8, hr⟩
      simp [idxP] at hr
      simp [loopAt, loopsOf, Tryz.f207, h0, h1, h7, h8, hr])
    xs.length 0 s o q (by omega) hI)
  simp only [loopAt, loopsOf, Tryz.f207] at lp
  obtain ⟨X, A, B, C, hx⟩ := lp _ rfl
  have hz : idxP p xs = if idxP p xs < 0 then -1 else idxP p xs := by
    cases xs with
    | nil => simp [idxP]
    | cons x r =>
      unfold idxP
      split
      · simp
      · split
        · simp
        · have : ¬ idxP p r + 1 < 0 := by omega
          simp [this]
  simp [← hz] at hx
  by_cases h : idxP p xs < 0
  · have h1 : idxP p xs = -1 := by rw [hz]; simp [h]
    simp [h] at hx
    simp [hx, h1]
  · have h2 : 0 ≤ idxP p xs := by omega
    simp [h, h2] at hx
    simp [hx]
theorem containsFunc_136_0 (xs : List Prt) (g : Nat)  (p : Prt → Bool) (hl : xs.length < 9223372036854775807) (hm : E.md g = []) (hf : E.flat g = true) (hp : ∀ x ∈ xs, run E (.call g [.t (prtT x)]) = some (.res [xB (p x)] [])) :
    run E (.call 128 [.t (.list (xs.map prtT)), .fn g []]) = some (.res [xB (xs.any p)] []) := by
  rw [run_call E 128 _ rfl Tryz.func128 rfl rfl rfl (by simp)]
  have h := indexFunc_202_0 xs g  p hl hm hf hp
  simp [h, idxP_ge]
theorem cutP_ne (c : UInt8) : ∀ (l : Bytes), cutP c l ≠ []
  | [] => by simp [cutP]
  | b :: r => by
    unfold cutP
    split
    · simp
    · split <;> simp
theorem cutP_none (c : UInt8) : ∀ (l : Bytes), l.count c = 0 → cutP c l = [l]
  | [], _ => rfl
  | b :: r, h => by
    rw [List.count_cons] at h
    have hb : ¬ b = c := by intro e; simp [e] at h
    have hr : r.count c = 0 := by omega
    simp [cutP, hb, cutP_none c r hr]
theorem cutP_index (c : UInt8) : ∀ (l : Bytes), 0 < l.count c → ∃ k : Nat, Lib.indexByte l c = k ∧ k < l.length ∧ cutP c l = l.take k :: cutP c (l.drop (k + 1)) ∧ l.count c = (l.drop (k + 1)).count c + 1
  | [], h => by simp at h
  | b :: r, h => by
    by_cases hb : b = c
    · subst hb
      exact ⟨0, by simp [Lib.indexByte], by simp, by simp [cutP], by simp⟩
    · have hr : 0 < r.count c := by simpa [List.count_cons, hb] using h
      obtain ⟨k, h1, h2, h3, h4⟩ := cutP_index c r hr
      have hk : ¬ (k : Int) = -1 := by omega
      refine ⟨k + 1, by simp [Lib.indexByte, hb, h1, hk], by simp; omega, ?_, ?_⟩
      · simp [cutP, hb, h3]
      · simp [List.count_cons, hb, h4]
theorem cutP_length (c : UInt8) : ∀ (l : Bytes), (cutP c l).length = l.count c + 1
  | [] => by simp [cutP]
  | b :: r => by
    have ih := cutP_length c r
    by_cases hb : b = c
    · simp [cutP, hb, ih, List.count_cons]
    · have := cutP_ne c r
      cases hq : cutP c r with
      | nil => exact absurd hq this
      | cons w ws =>
        rw [hq] at ih
        simp [cutP, hb, hq, List.count_cons] at ih ⊢
        exact ih
theorem ext271 (s : Bytes) (c : UInt8) : run E (.call 324 [xS s, xU c]) = some (.res [xI (s.count c : Nat)] []) := by
  rw [run_ext E 324 _ (g := _) rfl]
  simp [Lib.countByte]
theorem ext294 (s : Bytes) (c : UInt8) : run E (.call 363 [xS s, xU c]) = some (.res [xI (Lib.indexByte s c)] []) := by
  rw [run_ext E 363 _ (g := _) rfl]
  simp
theorem indexOne (s : Bytes) (c : UInt8) : run E (.call 264 [xS s, xS [c]]) = some (.res [xI (Lib.indexByte s c)] []) := by
  have h284 : run E (.call 348 [xS s, xU c]) = some (.res [xI (Lib.indexByte s c)] []) := by
    rw [run_call E 348 _ rfl Tryz.func348 rfl rfl rfl (by simp)]
    simp [ext294]
  have h272 : run E (.call 325 [xS s, xS [c]]) = some (.res [xI (Lib.indexByte s c)] []) := by
    rw [run_call E 325 _ rfl Tryz.func325 rfl rfl rfl (by simp)]
    simp [h284]
    intro h; subst h; simp [Lib.indexByte]
  rw [run_call E 264 _ rfl Tryz.func264 rfl rfl rfl (by simp)]
  simp [h272]
theorem countOne (s : Bytes) (c : UInt8) : run E (.call 263 [xS s, xS [c]]) = some (.res [xI (s.count c : Nat)] []) := by
  rw [run_call E 263 _ rfl Tryz.func263 rfl rfl rfl (by simp)]
  simp [ext271]
theorem set_mid {α : Type} (ps : List α) (x z : α) (n : Nat) : (ps ++ List.replicate (n + 1) z).set ps.length x = (ps ++ [x]) ++ List.replicate n z := by
  rw [List.set_append_right _ _ (Nat.le_refl _)]
  simp [List.replicate_succ]
theorem genSplit (s0 : Bytes) (c : UInt8) (hs : s0.length < 4294967296) : run E (.call 178 [xS s0, xS [c], xI 0, xI (-1)]) = some (.res [.row 9 ((cutP c s0).map strT)] []) := by
  rw [run_call E 178 _ rfl Tryz.func178 rfl rfl rfl (by simp)]
  have hcl := cutP_length c s0
  have hcle : s0.count c ≤ s0.length := List.count_le_length
  have hw1 := wrap_succ (n := s0.count c) (by omega)
  have hw2 := wrap_succ (n := s0.length) (by omega)
  have hmin : ¬ ((s0.length : Int) + 1 < (s0.count c : Int) + 1) := by omega
  have lp := sk (fun s o q hI => loop_for (c := loopAt Tryz.f178 0) (N := 66)
    (fun i s o q => ∃ r ps, s 0 = .t (.str r) ∧ s 1 = .t (.str [c]) ∧ s 2 = .t (.int .i64 0) ∧ s 3 = .t (.int .i64 (s0.count c : Nat)) ∧ s 9 = .row 0 ∧ s 10 = .t (.int .i64 i) ∧ ps.length = i ∧ cutP c s0 = ps ++ cutP c r ∧ r.count c + i = s0.count c ∧ r.length ≤ s0.length ∧ o 0 = .row 9 (ps.map strT ++ List.replicate (s0.count c + 1 - i) (.str [])) true)
    (fun e s' o' q' => e = .exit 0 ∧ s' 0 = .t (.str ((cutP c s0).getLast (cutP_ne c s0))) ∧ s' 9 = .row 0 ∧ s' 10 = .t (.int .i64 (s0.count c : Nat)) ∧ o' 0 = .row 9 ((cutP c s0).dropLast.map strT ++ [.str []]) true) (s0.count c)
    (by
      rintro i s o q hi ⟨r, ps, h0, h1, h2, h3, h9, h10, hp, hc, hr, hl, ho⟩
      obtain ⟨k, hk1, hk2, hk3, hk4⟩ := cutP_index c r (by omega)
      have hi' : (i : Int) < (s0.count c : Int) := by omega
      have hk0 : ¬ (k : Int) < 0 := by omega
      have hw := wrap_succ (n := i) (by omega)
      have hwk := wrap_nat (n := k) (by omega)
      have hwk1 := wrap_succ (n := k) (by omega)
      have hk' : (k : Int) ≤ (r.length : Int) := by omega
      have hk2' : k ≤ r.length := by omega
      have hk3' : k + 1 ≤ r.length := by omega
      have hlen : i < ps.length + (s0.count c + 1 - i) := by omega
      have hq : (0 : Int) ≤ (k : Int) + 1 := by omega
      have hq2 : ((k : Int) + 1).toNat = k + 1 := by omega
      have hget : (List.map strT ps ++ List.replicate (s0.count c + 1 - i) (T.str []))[i]? = some (.str []) := by
        have hpos : 0 < s0.count c + 1 - i := by omega
        rw [List.getElem?_append_right (by simp [hp])]
        simp only [List.length_map, hp, Nat.sub_self, List.getElem?_replicate, hpos, if_true]
      have hset : (List.map strT ps ++ List.replicate (s0.count c + 1 - i) (T.str [])).set i (.str (r.take k)) = (ps ++ [r.take k]).map strT ++ List.replicate (s0.count c + 1 - (i + 1)) (T.str []) := by
        have e : s0.count c + 1 - i = (s0.count c - i) + 1 := by omega
        have e2 : s0.count c + 1 - (i + 1) = s0.count c - i := by omega
        rw [e, e2]
        have := set_mid (List.map strT ps) (.str (r.take k)) (.str []) (s0.count c - i)
        rw [List.length_map, hp] at this
        rw [this]
        simp
      simp [loopAt, loopsOf, Tryz.f178, h0, h1, h2, h3, h9, h10, hi', indexOne, hk1, hk0, hwk, hwk1, hw, hk2', hk3', ho, hget, hset, hq, hq2]
      refine ⟨ps ++ [r.take k], by simp [hp], ?_, by omega, by omega, by simp⟩
      rw [hc, hk3]
      simp)
    (by
      rintro s o q ⟨r, ps, h0, h1, h2, h3, h9, h10, hp, hc, hr, hl, ho⟩
      have h00 : r.count c = 0 := by omega
      rw [cutP_none c r h00] at hc
      have e : s0.count c + 1 - s0.count c = 1 := by omega
      rw [e] at ho
      simp [loopAt, loopsOf, Tryz.f178, h0, h1, h2, h3, h9, h10, hc, ho])
    (s0.count c) 0 s o q (by omega) hI)
  simp only [loopAt, loopsOf, Tryz.f178] at lp
  obtain ⟨X, A, B, C, hx⟩ := lp
  have hx' := fun s o q a0 a1 a2 a3 a9 a10 a11 => hx s o q ⟨s0, [], a0, a1, a2, a3, a9, a10, rfl, rfl, rfl, Nat.le_refl _, a11⟩
  clear hx
  simp at hx'
  have hn1 : ((s0.count c : Int) + 1).toNat = s0.count c + 1 := by omega
  have hn2 : (0 : Int) ≤ (s0.count c : Int) + 1 := by omega
  have hn3 : s0.count c + 1 ≤ 140737488355328 := by omega
  have hn4 : (s0.count c + 1) * 16 ≤ 140737488355328 := by omega
  have hw3 : IntKind.i64.wrap ((s0.count c : Int) + 1 - 1) = (s0.count c : Int) := by rw [wrap_of (by omega) (by omega)]; omega
  have hl : (cutP c s0).dropLast.length = s0.count c := by rw [List.length_dropLast, hcl]; omega
  have hset : ((cutP c s0).dropLast.map strT ++ [T.str []]).set (s0.count c) (.str ((cutP c s0).getLast (cutP_ne c s0))) = (cutP c s0).map strT := by
    have h1 : ((cutP c s0).dropLast.map strT).length = s0.count c := by rw [List.length_map, hl]
    rw [List.set_append_right _ _ (by rw [h1]; exact Nat.le_refl _), h1, Nat.sub_self, List.set_cons_zero]
    conv => rhs; rw [← List.dropLast_concat_getLast (cutP_ne c s0)]
    simp
  have hget : ((cutP c s0).dropLast.map strT ++ [T.str []])[s0.count c]? = some (.str []) := by
    have h1 : ((cutP c s0).dropLast.map strT).length = s0.count c := by rw [List.length_map, hl]
    rw [List.getElem?_append_right (by rw [h1]; exact Nat.le_refl _), h1, Nat.sub_self]
    rfl
  have hw4 := wrap_nat (n := s0.count c) (by omega)
  simp only [List.map_dropLast] at hget hset
  have htake : List.take (s0.count c + 1) ((cutP c s0).map strT) = (cutP c s0).map strT := List.take_of_length_le (by rw [List.length_map, hcl]; exact Nat.le_refl _)
  simp [countOne, hw1, hw2, hw4, hmin, hn1, hn2, hn3, hn4, hw3, hx', hget, hset, hcl, htake]
theorem split (s : Bytes) (c : UInt8) (hs : s.length < 4294967296) : run E (.call 98 [xS s, xS [c]]) = some (.res [.row 9 ((cutP c s).map strT)] []) := by
  rw [run_call E 98 _ rfl Tryz.func98 rfl rfl rfl (by simp)]
  simp [genSplit s c hs]
theorem pathClosure (t : Bytes) (ht : t.length < 9223372036854775807) : run E (.call 102 [xS t]) = some (.res [xB (!nameP t)] []) := by
  rw [run_call E 102 _ rfl Tryz.func102 rfl rfl rfl (by simp)]
  simp [isShort t ht]
theorem cutP_mem (c : UInt8) : ∀ (l : Bytes), ∀ w ∈ cutP c l, w.length ≤ l.length
  | [], w, hw => by simp [cutP] at hw; simp [hw]
  | b :: r, w, hw => by
    have ih := cutP_mem c r
    unfold cutP at hw
    split at hw
    · rcases List.mem_cons.1 hw with rfl | hw
      · simp
      · have := ih w hw; simp; omega
    · split at hw
      · simp at hw; simp [hw]
      · rename_i a l hq
        rw [hq] at ih
        rcases List.mem_cons.1 hw with rfl | hw
        · have := ih a (by simp); simp; omega
        · have := ih w (by simp [hw]); simp; omega
theorem implPathOK (t : Bytes) (ht : t.length < 4294967296) : run E (.call 43 [xS t]) = some (.res [xB (pathOK t)] []) := by
  rw [run_call E 43 _ rfl Tryz.func43 rfl rfl rfl (by simp)]
  have hc := containsFunc_138_0 (cutP 46 t) 102 (fun w => !nameP w) (by have := cutP_length 46 t; have : t.count 46 ≤ t.length := List.count_le_length; omega) rfl rfl
    (fun x hx => pathClosure x (by have := cutP_mem 46 t x hx; omega))
  have hn : (!(cutP 46 t).any (fun w => !nameP w)) = (cutP 46 t).all nameP := by simp [List.any_eq_not_all_not]
  have h1 : ((t.length : Int) ≤ 50) = (t.length ≤ 50) := by simp; omega
  have h2 : (((cutP 46 t).length : Int) ≤ 4) = ((cutP 46 t).length ≤ 4) := by simp; omega
  by_cases h : t.length ≤ 50
  · by_cases h' : (cutP 46 t).length ≤ 4
    · simp [split t 46 ht, h1, h2, h, h', hc, pathOK, hn]
    · simp [split t 46 ht, h1, h2, h, h', pathOK]
  · simp [split t 46 ht, h1, h2, h, pathOK]
theorem cutP_step (c : UInt8) : ∀ (l : Bytes) (k : Nat) (hk : k < l.length), (l.take k).count c = 0 → l[k] = c → cutP c l = l.take k :: cutP c (l.drop (k + 1))
  | [], k, hk, _, _ => by simp at hk
  | b :: r, 0, hk, _, h => by
    simp at h
    simp [cutP, h]
  | b :: r, k + 1, hk, h0, h => by
    simp only [List.take_succ_cons, List.count_cons] at h0
    have hb : ¬ b = c := by intro e; simp [e] at h0
    have := cutP_step c r k (by simpa using hk) (by omega) (by simpa using h)
    simp [cutP, hb, this]
theorem cutP_suffix (c : UInt8) : ∀ (n : Nat) (l : Bytes), l.length ≤ n → ∃ p, l = p ++ (cutP c l).getLast (cutP_ne c l) := by
  intro n
  induction n with
  | zero =>
    intro l hl
    have : l = [] := List.eq_nil_of_length_eq_zero (by omega)
    subst this
    exact ⟨[], by simp [cutP]⟩
  | succ n ih =>
    intro l hl
    by_cases h0 : l.count c = 0
    · exact ⟨[], by simp [cutP_none c l h0]⟩
    · obtain ⟨k, h1, h2, h3, h4⟩ := cutP_index c l (by omega)
      obtain ⟨p, hp⟩ := ih (l.drop (k + 1)) (by simp; omega)
      refine ⟨l.take (k + 1) ++ p, ?_⟩
      have e : (cutP c l).getLast (cutP_ne c l) = (cutP c (l.drop (k + 1))).getLast (cutP_ne c _) := by
        simp only [h3]
        rw [List.getLast_cons (cutP_ne c _)]
      rw [e, List.append_assoc, ← hp, List.take_append_drop]
theorem l00Cut (t : Bytes) (c : UInt8) (ht : t.length < 9223372036854775807) (hb : t.length < 4294967296) : run E (.call 173 [xS t, xU c]) = some (.res [.row 9 ((cutP c t).map strT)] []) := by
  rw [run_call E 173 _ rfl Tryz.func173 rfl rfl rfl (by simp)]
  have lp := sk1 (fun s o q hI => loop_for (c := loopAt Tryz.f173 0) (N := 35)
    (fun i s o q => ∃ r ps f, s 0 = .t (.str t) ∧ s 1 = .t (.int .u8 c.toNat) ∧ s 5 = .row r ∧ s 6 = .t (.int .i64 (f : Nat)) ∧ s 7 = .t (.int .i64 i) ∧ o r = .row 9 (ps.map strT) true ∧ r < q ∧ f ≤ i ∧ ps.length ≤ i ∧ cutP c t = ps ++ cutP c (t.drop f) ∧ ((t.drop f).take (i - f)).count c = 0)
    (fun e s' o' q' => ∃ r, e = .exit 0 ∧ s' 0 = .t (.str t) ∧ s' 5 = .row r ∧ s' 6 = .t (.int .i64 ((t.length - ((cutP c t).getLast (cutP_ne c t)).length : Nat) : Int)) ∧ o' r = .row 9 ((cutP c t).dropLast.map strT) true ∧ ¬ r = q' ∧ ¬ r = q' + 1) t.length
    (by
      rintro i s o q hi ⟨r, ps, f, h0, h1, h5, h6, h7, ho, hrq, hf, hps, hc, hz⟩
      have hi' : (i : Int) < (t.length : Int) := by omega
      have hw := wrap_succ (n := i) (by omega)
      have hrn : r ≠ q := by omega
      have hrn2 : r ≠ q + 1 := by omega
      have hqn : q ≠ r := by omega
      have hfi : f ≤ t.length := by omega
      have hil : i ≤ t.length := by omega
      have hidx : (t.drop f)[i - f]'(by simp; omega) = t[i] := by simp [List.getElem_drop]; congr 1; omega
      have hpl : ps.length + 1 ≤ 140737488355328 := by omega
      have hpl2 : (ps.length + 1) * 16 ≤ 140737488355328 := by omega
      by_cases hb : t[i] = c
      · have hbn : (t[i].toNat : Int) = (c.toNat : Int) := by rw [hb]
        have hst := cutP_step c (t.drop f) (i - f) (by simp; omega) hz (by rw [hidx]; exact hb)
        simp [loopAt, loopsOf, Tryz.f173, h0, h1, h5, h6, h7, hi, hi', hb, hw, ho, hrn, hrn2, hqn, hf, hil, hpl, hpl2]
        refine ⟨ps ++ [(t.drop f).take (i - f)], i + 1, rfl, ?_, Nat.le_refl _, by simp; omega, ?_, by simp⟩
        · simp [List.drop_take]
        · rw [hc, hst]
          simp [List.drop_drop]
          congr 2; omega
      · have hbn : ¬ (t[i].toNat : Int) = (c.toNat : Int) := by
          intro h
          exact hb (UInt8.toNat_inj.1 (by omega))
        simp [loopAt, loopsOf, Tryz.f173, h0, h1, h5, h6, h7, hi, hi', hbn, hw, ho]
        refine ⟨ps, f, rfl, rfl, hrq, by omega, by omega, hc, ?_⟩
        have e : i + 1 - f = (i - f) + 1 := by omega
        rw [e, List.take_add_one, List.count_append, hz]
        rw [List.getElem?_eq_getElem (by simp; omega), hidx]
        simp [hb])
    (by
      rintro s o q ⟨r, ps, f, h0, h1, h5, h6, h7, ho, hrq, hf, hps, hc, hz⟩
      have hcut : cutP c (t.drop f) = [t.drop f] := cutP_none c _ (by
        have : (t.drop f).take (t.length - f) = t.drop f := List.take_of_length_le (by simp)
        rwa [this] at hz)
      rw [hcut] at hc
      simp [loopAt, loopsOf, Tryz.f173, h0, h1, h5, h6, h7, hc, ho, hrq]
      omega)
    t.length 0 s o q (by omega) hI)
  simp only [loopAt, loopsOf, Tryz.f173] at lp
  obtain ⟨X, A, B, C, M, hx⟩ := lp
  have hx' := fun s o q r a0 a1 a5 a6 a7 a8 a9 => hx s o q ⟨r, [], 0, a0, a1, a5, a6, a7, a8, a9, Nat.le_refl _, Nat.le_refl _, rfl, by simp⟩
  clear hx
  simp at hx'
  have hl : (cutP c t).length ≤ t.length + 1 := by rw [cutP_length]; have : t.count c ≤ t.length := List.count_le_length; omega
  have hlast := cutP_mem c t _ (List.getLast_mem (cutP_ne c t))
  obtain ⟨p, hp⟩ := cutP_suffix c t.length t (Nat.le_refl _)
  have hdrop : t.drop (t.length - ((cutP c t).getLast (cutP_ne c t)).length) = (cutP c t).getLast (cutP_ne c t) := by
    have : ∀ L : Bytes, t = p ++ L → t.drop (t.length - L.length) = L := by intro L h; rw [h]; simp
    exact this _ hp
  have hd2 : (cutP c t).dropLast.length + 1 = (cutP c t).length := by rw [List.length_dropLast, cutP_length]; omega
  have hpl : (cutP c t).length - 1 + 1 ≤ 140737488355328 := by omega
  have hpl2 : ((cutP c t).length - 1 + 1) * 16 ≤ 140737488355328 := by omega
  have hfin : (cutP c t).dropLast.map strT ++ [.str ((cutP c t).getLast (cutP_ne c t))] = (cutP c t).map strT := by
    conv => rhs; rw [← List.dropLast_concat_getLast (cutP_ne c t)]
    simp
  simp only [List.map_dropLast] at hfin hx'
  have hx1 := fun s o q r a0 a1 a5 a6 a7 a8 a9 => (hx' s o q r a0 a1 a5 a6 a7 a8 a9).1
  simp [hx', hdrop, hpl, hpl2, hfin]
theorem specPathOK (t : Bytes) (ht : t.length < 4294967296) : run E (.call 125 [xS t]) = some (.res [xB (pathOK t)] []) := by
  rw [run_call E 125 _ rfl Tryz.func125 rfl rfl rfl (by simp)]
  have hcl := cutP_length 46 t
  have hct : t.count 46 ≤ t.length := List.count_le_length
  have h1 : ((65536 : Int) < (t.length : Int)) = (65536 < t.length) := by simp; omega
  have h2 : ((50 : Int) < (t.length : Int)) = (50 < t.length) := by simp; omega
  have h3 : ((4 : Int) < ((cutP 46 t).length : Int)) = (4 < (cutP 46 t).length) := by simp; omega
  have hcut := l00Cut t 46 (by omega) ht
  have e46 : ((46 : UInt8).toNat : Int) = 46 := rfl
  rw [xU, e46] at hcut
  by_cases hL : 65536 < t.length
  · have : ¬ t.length ≤ 50 := by omega
    simp [h1, hL, pathOK, this]
  · by_cases h4 : 4 < (cutP 46 t).length
    · have h4' : ¬ (cutP 46 t).length ≤ 4 := by omega
      simp [h1, hL, hcut, h3, h4, pathOK, h4']
    · by_cases h5 : 50 < t.length
      · have h5' : ¬ t.length ≤ 50 := by omega
        simp [h1, hL, hcut, h3, h4, h2, h5, pathOK, h5']
      · have h4' : (cutP 46 t).length ≤ 4 := by omega
        have h5' : t.length ≤ 50 := by omega
        have lp := fun b (hb : b = (cutP 46 t).all nameP) => sk (fun s o q hI => loop_for (c := loopAt Tryz.f125 0) (N := 30)
          (fun i s o q => s 3 = .row 0 ∧ s 4 = .t (.int .i64 i) ∧ o 0 = .row 9 ((cutP 46 t).map strT) true ∧ b = ((cutP 46 t).drop i).all nameP)
          (fun e s' o' q' => e = (if b then .exit 0 else .ret) ∧ (b = false → s' 2 = .t (.bool false))) (cutP 46 t).length
          (by
            rintro i s o q hi ⟨h3, h4, ho, hp⟩
            have hd : (cutP 46 t).drop i = (cutP 46 t)[i] :: (cutP 46 t).drop (i + 1) := by rw [List.drop_eq_getElem_cons hi]
            have hi' : (i : Int) < ((cutP 46 t).length : Int) := by omega
            have hw := wrap_succ (n := i) (by omega)
            have hn := l01Name (cutP 46 t)[i] (by have := cutP_mem 46 t _ (List.getElem_mem hi); omega)
            rw [hd, List.all_cons] at hp
            cases hv : nameP (cutP 46 t)[i] <;> simp [hv] at hp hn <;> simp [loopAt, loopsOf, Tryz.f125, h3, h4, ho, hi, hi', hn, hw, hp])
          (by
            rintro s o q ⟨h3, h4, ho, hp⟩
            simp at hp
            simp [loopAt, loopsOf, Tryz.f125, h3, h4, ho, hp])
          (cutP 46 t).length 0 s o q (by omega) hI)
        simp only [loopAt, loopsOf, Tryz.f125] at lp
        cases hb : (cutP 46 t).all nameP with
        | true =>
          obtain ⟨X, A, B, C, hx⟩ := lp true hb.symm
          simp [hb, -List.all_eq_true] at hx
          simp [h1, hL, hcut, h3, h4, h2, h5, pathOK, h4', h5', hb, hx, -List.all_eq_true]
        | false =>
          obtain ⟨X, A, B, C, hx⟩ := lp false hb.symm
          simp [hb, -List.all_eq_true, -List.all_eq_false] at hx
          simp [h1, hL, hcut, h3, h4, h2, h5, pathOK, h4', h5', hb, hx, -List.all_eq_true, -List.all_eq_false]
end Go.Rd
