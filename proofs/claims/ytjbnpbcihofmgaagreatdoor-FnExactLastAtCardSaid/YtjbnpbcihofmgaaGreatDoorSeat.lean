/- The seat's surroundings for the evaluator. -/
import Derived.Test.YtjbnpbcihofmgaaGreatDoorEvTwo
import Derived.Test.YtjbnpbcihofmgaaGreatDoorProg
import Derived.KernelRfl
import Derived.Lib.Bytealg
import Derived.Lib.Repeat
set_option linter.unusedSimpArgs false
set_option linter.unusedVariables false
namespace Go.Zd
open Go.Ev Go.Proofs

def mdOf : Nat → List Bool
  | 231 => [true]
  | 232 => [true]
  | 233 => [true]
  | _ => []
/-- Functions whose results hold no slice. -/
def flats : List Nat := [3, 4, 5, 6, 7, 8, 9, 10, 11, 12, 13, 14, 15, 16, 17, 18, 19, 21, 22, 23, 24, 25, 26, 27, 28, 30, 31, 32, 33, 34, 38, 39, 40, 41, 42, 43, 44, 45, 46, 47, 48, 49, 50, 51, 52, 53, 54, 56, 57, 58, 59, 60, 61, 62, 63, 64, 65, 66, 67, 68, 69, 70, 71, 72, 73, 76, 77, 78, 79, 80, 81, 82, 83, 84, 85, 86, 87, 88, 89, 90, 93, 94, 95, 96, 97, 98, 101, 102, 107, 108, 109, 110, 111, 112, 113, 115, 116, 117, 118, 119, 120, 121, 123, 125, 126, 128, 129, 130, 132, 133, 134, 135, 136, 137, 138, 139, 140, 141, 142, 143, 144, 145, 146, 148, 149, 150, 151, 152, 153, 155, 158, 161, 162, 163, 166, 168, 169, 170, 171, 172, 173, 175, 176, 177, 178, 180, 181, 184, 185, 187, 189, 190, 192, 193, 195, 196, 197, 198, 199, 200, 201, 202, 203, 204, 205, 206, 207, 208, 209, 211, 212, 213, 214, 215, 216, 217, 218, 220, 221, 222, 223, 224, 226, 227, 228, 229, 230, 231, 232, 233, 234, 235, 236, 238, 240, 243, 244, 245, 246, 247, 248, 249, 250, 251, 252, 253, 255, 256, 257, 258, 259, 260, 261, 262, 263, 264, 265, 266, 267, 269, 270, 271, 272, 273, 275, 276, 277, 278, 280, 281, 282, 283, 284, 285, 286, 287, 288, 289, 290, 291, 292, 293, 294, 295]
def flatOf (f : Nat) : Bool := flats.contains f
/-- What functions of the library answer that the evaluator does not run. -/
def extOf : Nat → Option (List X → Option (List X × List (Option X)))
  | 246 => some fun
    | [.t (.str a), .t (.str b)] => some ([.t (.int .i64 (Lib.compareBytes a b))], [])
    | _ => none
  | 262 => some fun
    | [.t (.str a), .t (.int .i64 n)] => if 0 ≤ n ∧ n ≤ 9223372036854775807 ∧ a.length * n.toNat ≤ 140737488355328 then some ([.t (.str (Lib.repeatL a n.toNat))], []) else none
    | _ => none
  | 271 => some fun
    | [.t (.str a), .t (.int .u8 c)] => some ([.t (.int .i64 (Lib.countByte a c.toNat.toUInt8))], [])
    | _ => none
  | 294 => some fun
    | [.t (.str a), .t (.int .u8 c)] => some ([.t (.int .i64 (Lib.indexByte a c.toNat.toUInt8))], [])
    | _ => none
  | _ => none
noncomputable def E : Env := envD Tryz.prog mdOf flatOf extOf
theorem E_md (f : Nat) : E.md f = mdOf f := rfl
theorem E_flat (f : Nat) : E.flat f = flatOf f := rfl
theorem E_ext (f : Nat) : E.ext f = extOf f := rfl
theorem E_fn (f : Nat) : E.fn f = Tryz.prog.funcs[f]? := rfl
theorem E_ty2 : E.ty 2 = { k := .int .i64, size := 1, bytes := 8, zero := [.t (.int .i64 0)], elem := 0, fields := [] } := by kernel_rfl
theorem E_ty3 : E.ty 3 = { k := .int .i64, size := 1, bytes := 8, zero := [.t (.int .i64 0)], elem := 0, fields := [] } := by kernel_rfl
theorem E_ty4 : E.ty 4 = { k := .bool, size := 1, bytes := 1, zero := [.t (.bool false)], elem := 0, fields := [] } := by kernel_rfl
theorem E_ty5 : E.ty 5 = { k := .int .u8, size := 1, bytes := 1, zero := [.t (.int .u8 0)], elem := 0, fields := [] } := by kernel_rfl
theorem E_ty6 : E.ty 6 = { k := .int .u8, size := 1, bytes := 1, zero := [.t (.int .u8 0)], elem := 0, fields := [] } := by kernel_rfl
theorem E_ty7 : E.ty 7 = { k := .struct, size := 4, bytes := 24, zero := [.t (.int .i64 0), .t (.int .i64 0), .t (.bool false), .t (.int .u8 0)], elem := 0, fields := [(0, 2), (1, 3), (2, 4), (3, 6)] } := by kernel_rfl
theorem E_ty8 : E.ty 8 = { k := .struct, size := 4, bytes := 24, zero := [.t (.int .i64 0), .t (.int .i64 0), .t (.bool false), .t (.int .u8 0)], elem := 0, fields := [(0, 2), (1, 3), (2, 4), (3, 6)] } := by kernel_rfl
theorem E_ty9 : E.ty 9 = { k := .str, size := 1, bytes := 16, zero := [.t (.str [])], elem := 0, fields := [] } := by kernel_rfl
theorem E_ty10 : E.ty 10 = { k := .str, size := 1, bytes := 16, zero := [.t (.str [])], elem := 0, fields := [] } := by kernel_rfl
theorem E_ty11 : E.ty 11 = { k := .str, size := 1, bytes := 16, zero := [.t (.str [])], elem := 0, fields := [] } := by kernel_rfl
theorem E_ty12 : E.ty 12 = { k := .int .u64, size := 1, bytes := 8, zero := [.t (.int .u64 0)], elem := 0, fields := [] } := by kernel_rfl
theorem E_ty13 : E.ty 13 = { k := .struct, size := 2, bytes := 24, zero := [.t (.str []), .t (.int .u64 0)], elem := 0, fields := [(0, 9), (1, 12)] } := by kernel_rfl
theorem E_ty14 : E.ty 14 = { k := .struct, size := 2, bytes := 24, zero := [.t (.str []), .t (.int .u64 0)], elem := 0, fields := [(0, 9), (1, 12)] } := by kernel_rfl
theorem E_ty21 : E.ty 21 = { k := .int .i32, size := 1, bytes := 4, zero := [.t (.int .i32 0)], elem := 0, fields := [] } := by kernel_rfl
theorem E_ty22 : E.ty 22 = { k := .struct, size := 3, bytes := 32, zero := [.t (.int .i64 0), .t (.int .i64 0), .t (.str [])], elem := 0, fields := [(0, 3), (1, 3), (2, 9)] } := by kernel_rfl
theorem E_ty23 : E.ty 23 = { k := .struct, size := 3, bytes := 32, zero := [.t (.int .i64 0), .t (.int .i64 0), .t (.str [])], elem := 0, fields := [(0, 3), (1, 3), (2, 9)] } := by kernel_rfl
theorem E_ty25 : E.ty 25 = { k := .struct, size := 3, bytes := 32, zero := [.t (.int .i64 0), .t (.int .i64 0), .t (.str [])], elem := 0, fields := [(0, 3), (1, 3), (2, 9)] } := by kernel_rfl
theorem E_ty31 : E.ty 31 = { k := .slice, size := 1, bytes := 24, zero := [.nil], elem := 216, fields := [] } := by kernel_rfl
theorem E_ty32 : E.ty 32 = { k := .struct, size := 1, bytes := 24, zero := [.nil], elem := 0, fields := [(0, 31)] } := by kernel_rfl
theorem E_ty33 : E.ty 33 = { k := .struct, size := 1, bytes := 24, zero := [.nil], elem := 0, fields := [(0, 31)] } := by kernel_rfl
theorem E_ty34 : E.ty 34 = { k := .slice, size := 1, bytes := 24, zero := [.nil], elem := 100, fields := [] } := by kernel_rfl
theorem E_ty35 : E.ty 35 = { k := .slice, size := 1, bytes := 24, zero := [.nil], elem := 9, fields := [] } := by kernel_rfl
theorem E_ty36 : E.ty 36 = { k := .struct, size := 6, bytes := 104, zero := [.nil, .nil, .t (.int .i64 0), .t (.int .i64 0), .nil, .t (.str [])], elem := 0, fields := [(0, 33), (1, 34), (2, 3), (3, 3), (4, 35), (5, 9)] } := by kernel_rfl
theorem E_ty37 : E.ty 37 = { k := .struct, size := 6, bytes := 104, zero := [.nil, .nil, .t (.int .i64 0), .t (.int .i64 0), .nil, .t (.str [])], elem := 0, fields := [(0, 33), (1, 34), (2, 3), (3, 3), (4, 35), (5, 9)] } := by kernel_rfl
theorem E_ty40 : E.ty 40 = { k := .slice, size := 1, bytes := 24, zero := [.nil], elem := 173, fields := [] } := by kernel_rfl
theorem E_ty41 : E.ty 41 = { k := .struct, size := 1, bytes := 24, zero := [.nil], elem := 0, fields := [(0, 40)] } := by kernel_rfl
theorem E_ty42 : E.ty 42 = { k := .struct, size := 1, bytes := 24, zero := [.nil], elem := 0, fields := [(0, 40)] } := by kernel_rfl
theorem E_ty43 : E.ty 43 = { k := .slice, size := 1, bytes := 24, zero := [.nil], elem := 108, fields := [] } := by kernel_rfl
theorem E_ty44 : E.ty 44 = { k := .struct, size := 6, bytes := 104, zero := [.nil, .nil, .t (.int .i64 0), .t (.int .i64 0), .nil, .t (.str [])], elem := 0, fields := [(0, 42), (1, 43), (2, 3), (3, 3), (4, 35), (5, 9)] } := by kernel_rfl
theorem E_ty45 : E.ty 45 = { k := .struct, size := 6, bytes := 104, zero := [.nil, .nil, .t (.int .i64 0), .t (.int .i64 0), .nil, .t (.str [])], elem := 0, fields := [(0, 42), (1, 43), (2, 3), (3, 3), (4, 35), (5, 9)] } := by kernel_rfl
theorem E_ty49 : E.ty 49 = { k := .struct, size := 5, bytes := 56, zero := [.t (.int .i64 0), .t (.str []), .t (.int .i64 0), .t (.int .i64 0), .t (.str [])], elem := 0, fields := [(0, 3), (1, 9), (2, 23)] } := by kernel_rfl
theorem E_ty50 : E.ty 50 = { k := .struct, size := 5, bytes := 56, zero := [.t (.int .i64 0), .t (.str []), .t (.int .i64 0), .t (.int .i64 0), .t (.str [])], elem := 0, fields := [(0, 3), (1, 9), (2, 23)] } := by kernel_rfl
theorem E_ty54 : E.ty 54 = { k := .struct, size := 5, bytes := 56, zero := [.t (.int .i64 0), .t (.str []), .t (.int .i64 0), .t (.int .i64 0), .t (.str [])], elem := 0, fields := [(0, 3), (1, 9), (2, 25)] } := by kernel_rfl
theorem E_ty55 : E.ty 55 = { k := .struct, size := 5, bytes := 56, zero := [.t (.int .i64 0), .t (.str []), .t (.int .i64 0), .t (.int .i64 0), .t (.str [])], elem := 0, fields := [(0, 3), (1, 9), (2, 25)] } := by kernel_rfl
theorem E_ty58 : E.ty 58 = { k := .slice, size := 1, bytes := 24, zero := [.nil], elem := 185, fields := [] } := by kernel_rfl
theorem E_ty59 : E.ty 59 = { k := .slice, size := 1, bytes := 24, zero := [.nil], elem := 74, fields := [] } := by kernel_rfl
theorem E_ty60 : E.ty 60 = { k := .struct, size := 3, bytes := 64, zero := [.t (.str []), .nil, .nil], elem := 0, fields := [(0, 9), (1, 58), (2, 59)] } := by kernel_rfl
theorem E_ty61 : E.ty 61 = { k := .struct, size := 3, bytes := 64, zero := [.t (.str []), .nil, .nil], elem := 0, fields := [(0, 9), (1, 58), (2, 59)] } := by kernel_rfl
theorem E_ty64 : E.ty 64 = { k := .slice, size := 1, bytes := 24, zero := [.nil], elem := 136, fields := [] } := by kernel_rfl
theorem E_ty65 : E.ty 65 = { k := .slice, size := 1, bytes := 24, zero := [.nil], elem := 79, fields := [] } := by kernel_rfl
theorem E_ty66 : E.ty 66 = { k := .struct, size := 3, bytes := 64, zero := [.t (.str []), .nil, .nil], elem := 0, fields := [(0, 9), (1, 64), (2, 65)] } := by kernel_rfl
theorem E_ty67 : E.ty 67 = { k := .struct, size := 3, bytes := 64, zero := [.t (.str []), .nil, .nil], elem := 0, fields := [(0, 9), (1, 64), (2, 65)] } := by kernel_rfl
theorem E_ty73 : E.ty 73 = { k := .struct, size := 2, bytes := 40, zero := [.t (.str []), .nil], elem := 0, fields := [(0, 9), (1, 34)] } := by kernel_rfl
theorem E_ty74 : E.ty 74 = { k := .struct, size := 2, bytes := 40, zero := [.t (.str []), .nil], elem := 0, fields := [(0, 9), (1, 34)] } := by kernel_rfl
theorem E_ty78 : E.ty 78 = { k := .struct, size := 2, bytes := 40, zero := [.t (.str []), .nil], elem := 0, fields := [(0, 9), (1, 43)] } := by kernel_rfl
theorem E_ty79 : E.ty 79 = { k := .struct, size := 2, bytes := 40, zero := [.t (.str []), .nil], elem := 0, fields := [(0, 9), (1, 43)] } := by kernel_rfl
theorem E_ty86 : E.ty 86 = { k := .slice, size := 1, bytes := 24, zero := [.nil], elem := 5, fields := [] } := by kernel_rfl
theorem E_ty90 : E.ty 90 = { k := .slice, size := 1, bytes := 24, zero := [.nil], elem := 4, fields := [] } := by kernel_rfl
theorem E_ty93 : E.ty 93 = { k := .struct, size := 5, bytes := 48, zero := [.t (.int .i64 0), .t (.bool false), .t (.int .i64 0), .t (.int .i64 0), .t (.str [])], elem := 0, fields := [(0, 3), (1, 4), (2, 25)] } := by kernel_rfl
theorem E_ty94 : E.ty 94 = { k := .struct, size := 5, bytes := 48, zero := [.t (.int .i64 0), .t (.bool false), .t (.int .i64 0), .t (.int .i64 0), .t (.str [])], elem := 0, fields := [(0, 3), (1, 4), (2, 25)] } := by kernel_rfl
theorem E_ty99 : E.ty 99 = { k := .struct, size := 2, bytes := 24, zero := [.t (.str []), .t (.bool false)], elem := 0, fields := [(0, 9), (1, 4)] } := by kernel_rfl
theorem E_ty100 : E.ty 100 = { k := .struct, size := 2, bytes := 24, zero := [.t (.str []), .t (.bool false)], elem := 0, fields := [(0, 9), (1, 4)] } := by kernel_rfl
theorem E_ty103 : E.ty 103 = { k := .struct, size := 3, bytes := 40, zero := [.t (.str []), .t (.str []), .t (.bool false)], elem := 0, fields := [(0, 9), (1, 9), (2, 4)] } := by kernel_rfl
theorem E_ty104 : E.ty 104 = { k := .struct, size := 3, bytes := 40, zero := [.t (.str []), .t (.str []), .t (.bool false)], elem := 0, fields := [(0, 9), (1, 9), (2, 4)] } := by kernel_rfl
theorem E_ty108 : E.ty 108 = { k := .struct, size := 2, bytes := 24, zero := [.t (.str []), .t (.bool false)], elem := 0, fields := [(0, 9), (1, 4)] } := by kernel_rfl
theorem E_ty113 : E.ty 113 = { k := .struct, size := 5, bytes := 56, zero := [.t (.int .i64 0), .t (.str []), .t (.int .i64 0), .t (.int .i64 0), .t (.str [])], elem := 0, fields := [(0, 3), (1, 9), (2, 23)] } := by kernel_rfl
theorem E_ty116 : E.ty 116 = { k := .struct, size := 5, bytes := 56, zero := [.t (.int .i64 0), .t (.str []), .t (.int .i64 0), .t (.int .i64 0), .t (.str [])], elem := 0, fields := [(0, 3), (1, 9), (2, 25)] } := by kernel_rfl
theorem E_ty134 : E.ty 134 = { k := .slice, size := 1, bytes := 24, zero := [.nil], elem := 94, fields := [] } := by kernel_rfl
theorem E_ty135 : E.ty 135 = { k := .struct, size := 2, bytes := 32, zero := [.t (.int .i64 0), .nil], elem := 0, fields := [(0, 3), (1, 134)] } := by kernel_rfl
theorem E_ty136 : E.ty 136 = { k := .struct, size := 2, bytes := 32, zero := [.t (.int .i64 0), .nil], elem := 0, fields := [(0, 3), (1, 134)] } := by kernel_rfl
theorem E_ty166 : E.ty 166 = { k := .slice, size := 1, bytes := 24, zero := [.nil], elem := 25, fields := [] } := by kernel_rfl
theorem E_ty171 : E.ty 171 = { k := .slice, size := 1, bytes := 24, zero := [.nil], elem := 55, fields := [] } := by kernel_rfl
theorem E_ty172 : E.ty 172 = { k := .struct, size := 1, bytes := 24, zero := [.nil], elem := 0, fields := [(0, 171)] } := by kernel_rfl
theorem E_ty173 : E.ty 173 = { k := .struct, size := 1, bytes := 24, zero := [.nil], elem := 0, fields := [(0, 171)] } := by kernel_rfl
theorem E_ty183 : E.ty 183 = { k := .slice, size := 1, bytes := 24, zero := [.nil], elem := 278, fields := [] } := by kernel_rfl
theorem E_ty184 : E.ty 184 = { k := .struct, size := 2, bytes := 32, zero := [.t (.int .i64 0), .nil], elem := 0, fields := [(0, 3), (1, 183)] } := by kernel_rfl
theorem E_ty185 : E.ty 185 = { k := .struct, size := 2, bytes := 32, zero := [.t (.int .i64 0), .nil], elem := 0, fields := [(0, 3), (1, 183)] } := by kernel_rfl
theorem E_ty194 : E.ty 194 = { k := .struct, size := 3, bytes := 40, zero := [.nil, .t (.int .i64 0), .t (.int .i64 0)], elem := 0, fields := [(0, 86), (1, 3), (2, 3)] } := by kernel_rfl
theorem E_ty195 : E.ty 195 = { k := .struct, size := 3, bytes := 40, zero := [.nil, .t (.int .i64 0), .t (.int .i64 0)], elem := 0, fields := [(0, 86), (1, 3), (2, 3)] } := by kernel_rfl
theorem E_ty196 : E.ty 196 = { k := .slice, size := 1, bytes := 24, zero := [.nil], elem := 198, fields := [] } := by kernel_rfl
theorem E_ty197 : E.ty 197 = { k := .struct, size := 4, bytes := 48, zero := [.t (.str []), .t (.int .i64 0), .t (.int .i64 0), .t (.str [])], elem := 0, fields := [(0, 9), (1, 25)] } := by kernel_rfl
theorem E_ty198 : E.ty 198 = { k := .struct, size := 4, bytes := 48, zero := [.t (.str []), .t (.int .i64 0), .t (.int .i64 0), .t (.str [])], elem := 0, fields := [(0, 9), (1, 25)] } := by kernel_rfl
theorem E_ty204 : E.ty 204 = { k := .slice, size := 1, bytes := 24, zero := [.nil], elem := 3, fields := [] } := by kernel_rfl
theorem E_ty214 : E.ty 214 = { k := .slice, size := 1, bytes := 24, zero := [.nil], elem := 50, fields := [] } := by kernel_rfl
theorem E_ty215 : E.ty 215 = { k := .struct, size := 1, bytes := 24, zero := [.nil], elem := 0, fields := [(0, 214)] } := by kernel_rfl
theorem E_ty216 : E.ty 216 = { k := .struct, size := 1, bytes := 24, zero := [.nil], elem := 0, fields := [(0, 214)] } := by kernel_rfl
theorem E_ty266 : E.ty 266 = { k := .struct, size := 2, bytes := 24, zero := [.t (.str []), .t (.bool false)], elem := 0, fields := [(0, 9), (1, 4)] } := by kernel_rfl
theorem E_ty267 : E.ty 267 = { k := .struct, size := 2, bytes := 24, zero := [.t (.str []), .t (.bool false)], elem := 0, fields := [(0, 9), (1, 4)] } := by kernel_rfl
theorem E_ty277 : E.ty 277 = { k := .struct, size := 5, bytes := 48, zero := [.t (.int .i64 0), .t (.bool false), .t (.int .i64 0), .t (.int .i64 0), .t (.str [])], elem := 0, fields := [(0, 3), (1, 4), (2, 23)] } := by kernel_rfl
theorem E_ty278 : E.ty 278 = { k := .struct, size := 5, bytes := 48, zero := [.t (.int .i64 0), .t (.bool false), .t (.int .i64 0), .t (.int .i64 0), .t (.str [])], elem := 0, fields := [(0, 3), (1, 4), (2, 23)] } := by kernel_rfl
theorem E_ty282 : E.ty 282 = { k := .int .u64, size := 1, bytes := 8, zero := [.t (.int .u64 0)], elem := 0, fields := [] } := by kernel_rfl
theorem E_ty312 : E.ty 312 = { k := .int .u32, size := 1, bytes := 4, zero := [.t (.int .u32 0)], elem := 0, fields := [] } := by kernel_rfl
theorem E_ty315 : E.ty 315 = { k := .int .u64, size := 1, bytes := 8, zero := [.t (.int .u64 0)], elem := 0, fields := [] } := by kernel_rfl
theorem E_ty321 : E.ty 321 = { k := .struct, size := 2, bytes := 2, zero := [.t (.int .u8 0), .t (.int .u8 0)], elem := 0, fields := [(0, 5), (1, 5)] } := by kernel_rfl
theorem E_ty322 : E.ty 322 = { k := .struct, size := 2, bytes := 2, zero := [.t (.int .u8 0), .t (.int .u8 0)], elem := 0, fields := [(0, 5), (1, 5)] } := by kernel_rfl
theorem E_ty332 : E.ty 332 = { k := .int .u8, size := 1, bytes := 1, zero := [.t (.int .u8 0)], elem := 0, fields := [] } := by kernel_rfl
theorem E_ty333 : E.ty 333 = { k := .int .u8, size := 1, bytes := 1, zero := [.t (.int .u8 0)], elem := 0, fields := [] } := by kernel_rfl
theorem E_ty335 : E.ty 335 = { k := .int .i32, size := 1, bytes := 4, zero := [.t (.int .i32 0)], elem := 0, fields := [] } := by kernel_rfl
theorem E_ty336 : E.ty 336 = { k := .int .i32, size := 1, bytes := 4, zero := [.t (.int .i32 0)], elem := 0, fields := [] } := by kernel_rfl
theorem E_eq25 : E.eqT 25 = [.int .i64, .int .i64, .str] := by kernel_rfl
theorem mixed : Tryz.prog.follows .mixedOrders = true := by kernel_rfl
theorem names_ok : namesOK Tryz.prog = true := by kernel_rfl
attribute [simp] run_seq run_region run_ret run_cond run_block run_exit run_skip run_nil run_cons stepO thenOps_some thenOps_ite thenSeq_normal thenSeq_exit thenSeq_ret thenSeq_ite thenBlock_normal thenBlock_exit thenBlock_ret thenBlock_ite thenLoop_normal thenLoop_exit thenLoop_ret thenLoop_ite thenCall_normal thenCall_ret thenCall_ite thenBack_res thenBack_ite thenGo_some thenPut_some thenPut_ite
  un pickMin St.append St.base St.moreOf St.fits St.elems T.listOf St.absorb St.absorbAll mkT bytesT toBytes St.bindCells St.bindCell St.giveMut St.giveCells St.giveCell liveIds St.mutIds St.capIds St.giveRo.go St.backOne St.regain St.freeze St.rowAt kill freezeAll
  guardOf fillP St.op St.val initSt emptySt St.bindAll St.bind St.put dstOk upd ofT St.bin binI isShift ofConst St.finish St.resVals muts ros St.takeAll St.take St.takeCell St.backAll T.one X.flats X.flat T.flat backFlat E_md mdOf X.quiets X.quiet St.takeCells St.convert St.builtin St.lenOf St.slen binS shiftI St.sliceAt St.boundOr asNat callPrep callBack callMid St.mutAll St.roAll St.roIds rowIds SV.cells St.give St.giveRo St.peek St.peek1 kill freezeAll St.regainAll tupOf St.setO St.alloc eqCells kindsOK St.peekL TI.agg TI.known isSlice sliceOrStr SV.one fieldAt St.loadAt St.storeAt mkSV splice St.part T.cells T.setCells St.absorbL St.absorb1 St.indexAt
attribute [simp] E_eq25 E_ty2 E_ty3 E_ty4 E_ty5 E_ty6 E_ty7 E_ty8 E_ty9 E_ty10 E_ty11 E_ty12 E_ty13 E_ty14 E_ty21 E_ty22 E_ty23 E_ty25 E_ty31 E_ty32 E_ty33 E_ty34 E_ty35 E_ty36 E_ty37 E_ty40 E_ty41 E_ty42 E_ty43 E_ty44 E_ty45 E_ty49 E_ty50 E_ty54 E_ty55 E_ty58 E_ty59 E_ty60 E_ty61 E_ty64 E_ty65 E_ty66 E_ty67 E_ty73 E_ty74 E_ty78 E_ty79 E_ty86 E_ty90 E_ty93 E_ty94 E_ty99 E_ty100 E_ty103 E_ty104 E_ty108 E_ty113 E_ty116 E_ty134 E_ty135 E_ty136 E_ty166 E_ty171 E_ty172 E_ty173 E_ty183 E_ty184 E_ty185 E_ty194 E_ty195 E_ty196 E_ty197 E_ty198 E_ty204 E_ty214 E_ty215 E_ty216 E_ty266 E_ty267 E_ty277 E_ty278 E_ty282 E_ty312 E_ty315 E_ty321 E_ty322 E_ty332 E_ty333 E_ty335 E_ty336 
theorem fl3 : E.flat 3 = true := by kernel_rfl
theorem fl4 : E.flat 4 = true := by kernel_rfl
theorem fl5 : E.flat 5 = true := by kernel_rfl
theorem fl6 : E.flat 6 = true := by kernel_rfl
theorem fl7 : E.flat 7 = true := by kernel_rfl
theorem fl8 : E.flat 8 = true := by kernel_rfl
theorem fl9 : E.flat 9 = true := by kernel_rfl
theorem fl10 : E.flat 10 = true := by kernel_rfl
theorem fl11 : E.flat 11 = true := by kernel_rfl
theorem fl12 : E.flat 12 = true := by kernel_rfl
theorem fl13 : E.flat 13 = true := by kernel_rfl
theorem fl14 : E.flat 14 = true := by kernel_rfl
theorem fl15 : E.flat 15 = true := by kernel_rfl
theorem fl16 : E.flat 16 = true := by kernel_rfl
theorem fl17 : E.flat 17 = true := by kernel_rfl
theorem fl18 : E.flat 18 = true := by kernel_rfl
theorem fl19 : E.flat 19 = true := by kernel_rfl
theorem fl20 : E.flat 20 = false := by kernel_rfl
theorem fl21 : E.flat 21 = true := by kernel_rfl
theorem fl22 : E.flat 22 = true := by kernel_rfl
theorem fl23 : E.flat 23 = true := by kernel_rfl
theorem fl24 : E.flat 24 = true := by kernel_rfl
theorem fl25 : E.flat 25 = true := by kernel_rfl
theorem fl26 : E.flat 26 = true := by kernel_rfl
theorem fl27 : E.flat 27 = true := by kernel_rfl
theorem fl28 : E.flat 28 = true := by kernel_rfl
theorem fl29 : E.flat 29 = false := by kernel_rfl
theorem fl30 : E.flat 30 = true := by kernel_rfl
theorem fl31 : E.flat 31 = true := by kernel_rfl
theorem fl32 : E.flat 32 = true := by kernel_rfl
theorem fl33 : E.flat 33 = true := by kernel_rfl
theorem fl34 : E.flat 34 = true := by kernel_rfl
theorem fl35 : E.flat 35 = false := by kernel_rfl
theorem fl36 : E.flat 36 = false := by kernel_rfl
theorem fl37 : E.flat 37 = false := by kernel_rfl
theorem fl38 : E.flat 38 = true := by kernel_rfl
theorem fl39 : E.flat 39 = true := by kernel_rfl
theorem fl40 : E.flat 40 = true := by kernel_rfl
theorem fl41 : E.flat 41 = true := by kernel_rfl
theorem fl42 : E.flat 42 = true := by kernel_rfl
theorem fl43 : E.flat 43 = true := by kernel_rfl
theorem fl44 : E.flat 44 = true := by kernel_rfl
theorem fl45 : E.flat 45 = true := by kernel_rfl
theorem fl46 : E.flat 46 = true := by kernel_rfl
theorem fl47 : E.flat 47 = true := by kernel_rfl
theorem fl48 : E.flat 48 = true := by kernel_rfl
theorem fl49 : E.flat 49 = true := by kernel_rfl
theorem fl50 : E.flat 50 = true := by kernel_rfl
theorem fl51 : E.flat 51 = true := by kernel_rfl
theorem fl52 : E.flat 52 = true := by kernel_rfl
theorem fl53 : E.flat 53 = true := by kernel_rfl
theorem fl54 : E.flat 54 = true := by kernel_rfl
theorem fl55 : E.flat 55 = false := by kernel_rfl
theorem fl56 : E.flat 56 = true := by kernel_rfl
theorem fl57 : E.flat 57 = true := by kernel_rfl
theorem fl58 : E.flat 58 = true := by kernel_rfl
theorem fl59 : E.flat 59 = true := by kernel_rfl
theorem fl60 : E.flat 60 = true := by kernel_rfl
theorem fl61 : E.flat 61 = true := by kernel_rfl
theorem fl62 : E.flat 62 = true := by kernel_rfl
theorem fl63 : E.flat 63 = true := by kernel_rfl
theorem fl64 : E.flat 64 = true := by kernel_rfl
theorem fl65 : E.flat 65 = true := by kernel_rfl
theorem fl66 : E.flat 66 = true := by kernel_rfl
theorem fl67 : E.flat 67 = true := by kernel_rfl
theorem fl68 : E.flat 68 = true := by kernel_rfl
theorem fl69 : E.flat 69 = true := by kernel_rfl
theorem fl70 : E.flat 70 = true := by kernel_rfl
theorem fl71 : E.flat 71 = true := by kernel_rfl
theorem fl72 : E.flat 72 = true := by kernel_rfl
theorem fl73 : E.flat 73 = true := by kernel_rfl
theorem fl74 : E.flat 74 = false := by kernel_rfl
theorem fl75 : E.flat 75 = false := by kernel_rfl
theorem fl76 : E.flat 76 = true := by kernel_rfl
theorem fl77 : E.flat 77 = true := by kernel_rfl
theorem fl78 : E.flat 78 = true := by kernel_rfl
theorem fl79 : E.flat 79 = true := by kernel_rfl
theorem fl80 : E.flat 80 = true := by kernel_rfl
theorem fl81 : E.flat 81 = true := by kernel_rfl
theorem fl82 : E.flat 82 = true := by kernel_rfl
theorem fl83 : E.flat 83 = true := by kernel_rfl
theorem fl84 : E.flat 84 = true := by kernel_rfl
theorem fl85 : E.flat 85 = true := by kernel_rfl
theorem fl86 : E.flat 86 = true := by kernel_rfl
theorem fl87 : E.flat 87 = true := by kernel_rfl
theorem fl88 : E.flat 88 = true := by kernel_rfl
theorem fl89 : E.flat 89 = true := by kernel_rfl
theorem fl90 : E.flat 90 = true := by kernel_rfl
theorem fl91 : E.flat 91 = false := by kernel_rfl
theorem fl92 : E.flat 92 = false := by kernel_rfl
theorem fl93 : E.flat 93 = true := by kernel_rfl
theorem fl94 : E.flat 94 = true := by kernel_rfl
theorem fl95 : E.flat 95 = true := by kernel_rfl
theorem fl96 : E.flat 96 = true := by kernel_rfl
theorem fl97 : E.flat 97 = true := by kernel_rfl
theorem fl98 : E.flat 98 = true := by kernel_rfl
theorem fl99 : E.flat 99 = false := by kernel_rfl
theorem fl100 : E.flat 100 = false := by kernel_rfl
theorem fl101 : E.flat 101 = true := by kernel_rfl
theorem fl102 : E.flat 102 = true := by kernel_rfl
theorem fl103 : E.flat 103 = false := by kernel_rfl
theorem fl104 : E.flat 104 = false := by kernel_rfl
theorem fl105 : E.flat 105 = false := by kernel_rfl
theorem fl106 : E.flat 106 = false := by kernel_rfl
theorem fl107 : E.flat 107 = true := by kernel_rfl
theorem fl108 : E.flat 108 = true := by kernel_rfl
theorem fl109 : E.flat 109 = true := by kernel_rfl
theorem fl110 : E.flat 110 = true := by kernel_rfl
theorem fl111 : E.flat 111 = true := by kernel_rfl
theorem fl112 : E.flat 112 = true := by kernel_rfl
theorem fl113 : E.flat 113 = true := by kernel_rfl
theorem fl114 : E.flat 114 = false := by kernel_rfl
theorem fl115 : E.flat 115 = true := by kernel_rfl
theorem fl116 : E.flat 116 = true := by kernel_rfl
theorem fl117 : E.flat 117 = true := by kernel_rfl
theorem fl118 : E.flat 118 = true := by kernel_rfl
theorem fl119 : E.flat 119 = true := by kernel_rfl
theorem fl120 : E.flat 120 = true := by kernel_rfl
theorem fl121 : E.flat 121 = true := by kernel_rfl
theorem fl122 : E.flat 122 = false := by kernel_rfl
theorem fl123 : E.flat 123 = true := by kernel_rfl
theorem fl124 : E.flat 124 = false := by kernel_rfl
theorem fl125 : E.flat 125 = true := by kernel_rfl
theorem fl126 : E.flat 126 = true := by kernel_rfl
theorem fl127 : E.flat 127 = false := by kernel_rfl
theorem fl128 : E.flat 128 = true := by kernel_rfl
theorem fl129 : E.flat 129 = true := by kernel_rfl
theorem fl130 : E.flat 130 = true := by kernel_rfl
theorem fl131 : E.flat 131 = false := by kernel_rfl
theorem fl132 : E.flat 132 = true := by kernel_rfl
theorem fl133 : E.flat 133 = true := by kernel_rfl
theorem fl134 : E.flat 134 = true := by kernel_rfl
theorem fl135 : E.flat 135 = true := by kernel_rfl
theorem fl136 : E.flat 136 = true := by kernel_rfl
theorem fl137 : E.flat 137 = true := by kernel_rfl
theorem fl138 : E.flat 138 = true := by kernel_rfl
theorem fl139 : E.flat 139 = true := by kernel_rfl
theorem fl140 : E.flat 140 = true := by kernel_rfl
theorem fl141 : E.flat 141 = true := by kernel_rfl
theorem fl142 : E.flat 142 = true := by kernel_rfl
theorem fl143 : E.flat 143 = true := by kernel_rfl
theorem fl144 : E.flat 144 = true := by kernel_rfl
theorem fl145 : E.flat 145 = true := by kernel_rfl
theorem fl146 : E.flat 146 = true := by kernel_rfl
theorem fl147 : E.flat 147 = false := by kernel_rfl
theorem fl148 : E.flat 148 = true := by kernel_rfl
theorem fl149 : E.flat 149 = true := by kernel_rfl
theorem fl150 : E.flat 150 = true := by kernel_rfl
theorem fl151 : E.flat 151 = true := by kernel_rfl
theorem fl152 : E.flat 152 = true := by kernel_rfl
theorem fl153 : E.flat 153 = true := by kernel_rfl
theorem fl154 : E.flat 154 = false := by kernel_rfl
theorem fl155 : E.flat 155 = true := by kernel_rfl
theorem fl156 : E.flat 156 = false := by kernel_rfl
theorem fl157 : E.flat 157 = false := by kernel_rfl
theorem fl158 : E.flat 158 = true := by kernel_rfl
theorem fl159 : E.flat 159 = false := by kernel_rfl
theorem fl160 : E.flat 160 = false := by kernel_rfl
theorem fl161 : E.flat 161 = true := by kernel_rfl
theorem fl162 : E.flat 162 = true := by kernel_rfl
theorem fl163 : E.flat 163 = true := by kernel_rfl
theorem fl164 : E.flat 164 = false := by kernel_rfl
theorem fl165 : E.flat 165 = false := by kernel_rfl
theorem fl166 : E.flat 166 = true := by kernel_rfl
theorem fl167 : E.flat 167 = false := by kernel_rfl
theorem fl168 : E.flat 168 = true := by kernel_rfl
theorem fl169 : E.flat 169 = true := by kernel_rfl
theorem fl170 : E.flat 170 = true := by kernel_rfl
theorem fl171 : E.flat 171 = true := by kernel_rfl
theorem fl172 : E.flat 172 = true := by kernel_rfl
theorem fl173 : E.flat 173 = true := by kernel_rfl
theorem fl174 : E.flat 174 = false := by kernel_rfl
theorem fl175 : E.flat 175 = true := by kernel_rfl
theorem fl176 : E.flat 176 = true := by kernel_rfl
theorem fl177 : E.flat 177 = true := by kernel_rfl
theorem fl178 : E.flat 178 = true := by kernel_rfl
theorem fl179 : E.flat 179 = false := by kernel_rfl
theorem fl180 : E.flat 180 = true := by kernel_rfl
theorem fl181 : E.flat 181 = true := by kernel_rfl
theorem fl182 : E.flat 182 = false := by kernel_rfl
theorem fl183 : E.flat 183 = false := by kernel_rfl
theorem fl184 : E.flat 184 = true := by kernel_rfl
theorem fl185 : E.flat 185 = true := by kernel_rfl
theorem fl186 : E.flat 186 = false := by kernel_rfl
theorem fl187 : E.flat 187 = true := by kernel_rfl
theorem fl188 : E.flat 188 = false := by kernel_rfl
theorem fl189 : E.flat 189 = true := by kernel_rfl
theorem fl190 : E.flat 190 = true := by kernel_rfl
theorem fl191 : E.flat 191 = false := by kernel_rfl
theorem fl192 : E.flat 192 = true := by kernel_rfl
theorem fl193 : E.flat 193 = true := by kernel_rfl
theorem fl194 : E.flat 194 = false := by kernel_rfl
theorem fl195 : E.flat 195 = true := by kernel_rfl
theorem fl196 : E.flat 196 = true := by kernel_rfl
theorem fl197 : E.flat 197 = true := by kernel_rfl
theorem fl198 : E.flat 198 = true := by kernel_rfl
theorem fl199 : E.flat 199 = true := by kernel_rfl
theorem fl200 : E.flat 200 = true := by kernel_rfl
theorem fl201 : E.flat 201 = true := by kernel_rfl
theorem fl202 : E.flat 202 = true := by kernel_rfl
theorem fl203 : E.flat 203 = true := by kernel_rfl
theorem fl204 : E.flat 204 = true := by kernel_rfl
theorem fl205 : E.flat 205 = true := by kernel_rfl
theorem fl206 : E.flat 206 = true := by kernel_rfl
theorem fl207 : E.flat 207 = true := by kernel_rfl
theorem fl208 : E.flat 208 = true := by kernel_rfl
theorem fl209 : E.flat 209 = true := by kernel_rfl
theorem fl210 : E.flat 210 = false := by kernel_rfl
theorem fl211 : E.flat 211 = true := by kernel_rfl
theorem fl212 : E.flat 212 = true := by kernel_rfl
theorem fl213 : E.flat 213 = true := by kernel_rfl
theorem fl214 : E.flat 214 = true := by kernel_rfl
theorem fl215 : E.flat 215 = true := by kernel_rfl
theorem fl216 : E.flat 216 = true := by kernel_rfl
theorem fl217 : E.flat 217 = true := by kernel_rfl
theorem fl218 : E.flat 218 = true := by kernel_rfl
theorem fl219 : E.flat 219 = false := by kernel_rfl
theorem fl220 : E.flat 220 = true := by kernel_rfl
theorem fl221 : E.flat 221 = true := by kernel_rfl
theorem fl222 : E.flat 222 = true := by kernel_rfl
theorem fl223 : E.flat 223 = true := by kernel_rfl
theorem fl224 : E.flat 224 = true := by kernel_rfl
theorem fl225 : E.flat 225 = false := by kernel_rfl
theorem fl226 : E.flat 226 = true := by kernel_rfl
theorem fl227 : E.flat 227 = true := by kernel_rfl
theorem fl228 : E.flat 228 = true := by kernel_rfl
theorem fl229 : E.flat 229 = true := by kernel_rfl
theorem fl230 : E.flat 230 = true := by kernel_rfl
theorem fl231 : E.flat 231 = true := by kernel_rfl
theorem fl232 : E.flat 232 = true := by kernel_rfl
theorem fl233 : E.flat 233 = true := by kernel_rfl
theorem fl234 : E.flat 234 = true := by kernel_rfl
theorem fl235 : E.flat 235 = true := by kernel_rfl
theorem fl236 : E.flat 236 = true := by kernel_rfl
theorem fl237 : E.flat 237 = false := by kernel_rfl
theorem fl238 : E.flat 238 = true := by kernel_rfl
theorem fl239 : E.flat 239 = false := by kernel_rfl
theorem fl240 : E.flat 240 = true := by kernel_rfl
theorem fl241 : E.flat 241 = false := by kernel_rfl
theorem fl242 : E.flat 242 = false := by kernel_rfl
theorem fl243 : E.flat 243 = true := by kernel_rfl
theorem fl244 : E.flat 244 = true := by kernel_rfl
theorem fl245 : E.flat 245 = true := by kernel_rfl
theorem fl246 : E.flat 246 = true := by kernel_rfl
theorem fl247 : E.flat 247 = true := by kernel_rfl
theorem fl248 : E.flat 248 = true := by kernel_rfl
theorem fl249 : E.flat 249 = true := by kernel_rfl
theorem fl250 : E.flat 250 = true := by kernel_rfl
theorem fl251 : E.flat 251 = true := by kernel_rfl
theorem fl252 : E.flat 252 = true := by kernel_rfl
theorem fl253 : E.flat 253 = true := by kernel_rfl
theorem fl254 : E.flat 254 = false := by kernel_rfl
theorem fl255 : E.flat 255 = true := by kernel_rfl
theorem fl256 : E.flat 256 = true := by kernel_rfl
theorem fl257 : E.flat 257 = true := by kernel_rfl
theorem fl258 : E.flat 258 = true := by kernel_rfl
theorem fl259 : E.flat 259 = true := by kernel_rfl
theorem fl260 : E.flat 260 = true := by kernel_rfl
theorem fl261 : E.flat 261 = true := by kernel_rfl
theorem fl262 : E.flat 262 = true := by kernel_rfl
theorem fl263 : E.flat 263 = true := by kernel_rfl
theorem fl264 : E.flat 264 = true := by kernel_rfl
theorem fl265 : E.flat 265 = true := by kernel_rfl
theorem fl266 : E.flat 266 = true := by kernel_rfl
theorem fl267 : E.flat 267 = true := by kernel_rfl
theorem fl268 : E.flat 268 = false := by kernel_rfl
theorem fl269 : E.flat 269 = true := by kernel_rfl
theorem fl270 : E.flat 270 = true := by kernel_rfl
theorem fl271 : E.flat 271 = true := by kernel_rfl
theorem fl272 : E.flat 272 = true := by kernel_rfl
theorem fl273 : E.flat 273 = true := by kernel_rfl
theorem fl274 : E.flat 274 = false := by kernel_rfl
theorem fl275 : E.flat 275 = true := by kernel_rfl
theorem fl276 : E.flat 276 = true := by kernel_rfl
theorem fl277 : E.flat 277 = true := by kernel_rfl
theorem fl278 : E.flat 278 = true := by kernel_rfl
theorem fl279 : E.flat 279 = false := by kernel_rfl
theorem fl280 : E.flat 280 = true := by kernel_rfl
theorem fl281 : E.flat 281 = true := by kernel_rfl
theorem fl282 : E.flat 282 = true := by kernel_rfl
theorem fl283 : E.flat 283 = true := by kernel_rfl
theorem fl284 : E.flat 284 = true := by kernel_rfl
theorem fl285 : E.flat 285 = true := by kernel_rfl
theorem fl286 : E.flat 286 = true := by kernel_rfl
theorem fl287 : E.flat 287 = true := by kernel_rfl
theorem fl288 : E.flat 288 = true := by kernel_rfl
theorem fl289 : E.flat 289 = true := by kernel_rfl
theorem fl290 : E.flat 290 = true := by kernel_rfl
theorem fl291 : E.flat 291 = true := by kernel_rfl
theorem fl292 : E.flat 292 = true := by kernel_rfl
theorem fl293 : E.flat 293 = true := by kernel_rfl
theorem fl294 : E.flat 294 = true := by kernel_rfl
theorem fl295 : E.flat 295 = true := by kernel_rfl
theorem fl296 : E.flat 296 = false := by kernel_rfl
theorem fl297 : E.flat 297 = false := by kernel_rfl
attribute [simp] fl3 fl4 fl5 fl6 fl7 fl8 fl9 fl10 fl11 fl12 fl13 fl14 fl15 fl16 fl17 fl18 fl19 fl20 fl21 fl22 fl23 fl24 fl25 fl26 fl27 fl28 fl29 fl30 fl31 fl32 fl33 fl34 fl35 fl36 fl37 fl38 fl39 fl40 fl41 fl42 fl43 fl44 fl45 fl46 fl47 fl48 fl49 fl50 fl51 fl52 fl53 fl54 fl55 fl56 fl57 fl58 fl59 fl60 fl61 fl62 fl63 fl64 fl65 fl66 fl67 fl68 fl69 fl70 fl71 fl72 fl73 fl74 fl75 fl76 fl77 fl78 fl79 fl80 fl81 fl82 fl83 fl84 fl85 fl86 fl87 fl88 fl89 fl90 fl91 fl92 fl93 fl94 fl95 fl96 fl97 fl98 fl99 fl100 fl101 fl102 fl103 fl104 fl105 fl106 fl107 fl108 fl109 fl110 fl111 fl112 fl113 fl114 fl115 fl116 fl117 fl118 fl119 fl120 fl121 fl122 fl123 fl124 fl125 fl126 fl127 fl128 fl129 fl130 fl131 fl132 fl133 fl134 fl135 fl136 fl137 fl138 fl139 fl140 fl141 fl142 fl143 fl144 fl145 fl146 fl147 fl148 fl149 fl150 fl151 fl152 fl153 fl154 fl155 fl156 fl157 fl158 fl159 fl160 fl161 fl162 fl163 fl164 fl165 fl166 fl167 fl168 fl169 fl170 fl171 fl172 fl173 fl174 fl175 fl176 fl177 fl178 fl179 fl180 fl181 fl182 fl183 fl184 fl185 fl186 fl187 fl188 fl189 fl190 fl191 fl192 fl193 fl194 fl195 fl196 fl197 fl198 fl199 fl200 fl201 fl202 fl203 fl204 fl205 fl206 fl207 fl208 fl209 fl210 fl211 fl212 fl213 fl214 fl215 fl216 fl217 fl218 fl219 fl220 fl221 fl222 fl223 fl224 fl225 fl226 fl227 fl228 fl229 fl230 fl231 fl232 fl233 fl234 fl235 fl236 fl237 fl238 fl239 fl240 fl241 fl242 fl243 fl244 fl245 fl246 fl247 fl248 fl249 fl250 fl251 fl252 fl253 fl254 fl255 fl256 fl257 fl258 fl259 fl260 fl261 fl262 fl263 fl264 fl265 fl266 fl267 fl268 fl269 fl270 fl271 fl272 fl273 fl274 fl275 fl276 fl277 fl278 fl279 fl280 fl281 fl282 fl283 fl284 fl285 fl286 fl287 fl288 fl289 fl290 fl291 fl292 fl293 fl294 fl295 fl296 fl297
end Go.Zd
