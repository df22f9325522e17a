/- The regions that draw their order: each comes of one order. -/
import Derived.Test.YtjbnpbcihofmgaaGreatDoorSeat
set_option linter.unusedSimpArgs false
set_option linter.unusedVariables false
namespace Go.Zd
open Go.Ev Go.Proofs
set_option maxRecDepth 100000
def findR (id : Nat) : Code → Option (Array Oper)
  | .region i ops _ => if i = id then some ops else none
  | .seq a b => (findR id a).or (findR id b)
  | .cond _ a b => (findR id a).or (findR id b)
  | .block _ a => findR id a
  | .loop a => findR id a
  | _ => none
def regionOf (f : Func) (id : Nat) : Array Oper := ((f.body).bind (findR id)).getD #[]
def pick (ops : Array Oper) (l : List Nat) : List Oper := l.filterMap (ops[·]?)
theorem d4_10 : E.draw (regionOf Tryz.f4 10) = some (pick (regionOf Tryz.f4 10) [0, 1, 2, 3, 4]) := by kernel_rfl
theorem d5_8 : E.draw (regionOf Tryz.f5 8) = some (pick (regionOf Tryz.f5 8) [0, 2, 1, 3, 4, 5, 6, 7, 8, 9]) := by kernel_rfl
theorem d5_9 : E.draw (regionOf Tryz.f5 9) = some (pick (regionOf Tryz.f5 9) [0, 2, 1, 3, 4, 5, 6, 7, 8, 9]) := by kernel_rfl
theorem d6_10 : E.draw (regionOf Tryz.f6 10) = some (pick (regionOf Tryz.f6 10) [0, 1, 2, 3, 4]) := by kernel_rfl
theorem d7_10 : E.draw (regionOf Tryz.f7 10) = some (pick (regionOf Tryz.f7 10) [0, 1, 2, 3, 4]) := by kernel_rfl
theorem d8_8 : E.draw (regionOf Tryz.f8 8) = some (pick (regionOf Tryz.f8 8) [0, 2, 1, 3, 4, 5, 6, 7, 8, 9]) := by kernel_rfl
theorem d8_10 : E.draw (regionOf Tryz.f8 10) = some (pick (regionOf Tryz.f8 10) [0, 1, 2, 3, 4, 5, 6, 7, 8]) := by kernel_rfl
theorem d8_13 : E.draw (regionOf Tryz.f8 13) = some (pick (regionOf Tryz.f8 13) [0, 1, 2, 3, 4]) := by kernel_rfl
theorem d8_27 : E.draw (regionOf Tryz.f8 27) = some (pick (regionOf Tryz.f8 27) [0, 2, 1, 3, 4, 5, 6, 7, 8, 9]) := by kernel_rfl
theorem d9_20 : E.draw (regionOf Tryz.f9 20) = some (pick (regionOf Tryz.f9 20) [0, 1, 2, 3, 4, 5, 6, 7, 8, 9, 10, 11, 12, 13, 14, 15, 16, 17, 18, 19, 20, 21, 22, 23, 24, 25, 26, 27, 28, 29, 30, 31, 32, 33, 34, 35, 36, 37, 38, 39, 40, 41, 42, 43, 44, 45, 46, 47, 48, 49, 50, 51, 52]) := by kernel_rfl
theorem d10_10 : E.draw (regionOf Tryz.f10 10) = some (pick (regionOf Tryz.f10 10) [0, 1, 2, 3, 4]) := by kernel_rfl
theorem d11_10 : E.draw (regionOf Tryz.f11 10) = some (pick (regionOf Tryz.f11 10) [0, 1, 2, 3, 4, 5, 6, 7, 8, 9]) := by kernel_rfl
theorem d11_13 : E.draw (regionOf Tryz.f11 13) = some (pick (regionOf Tryz.f11 13) [0, 1, 2, 3, 4]) := by kernel_rfl
theorem d12_8 : E.draw (regionOf Tryz.f12 8) = some (pick (regionOf Tryz.f12 8) [0, 2, 1, 3, 4, 5, 6, 7, 8, 9, 10]) := by kernel_rfl
theorem d12_9 : E.draw (regionOf Tryz.f12 9) = some (pick (regionOf Tryz.f12 9) [0, 2, 1, 3, 4, 5, 6, 7, 8, 9, 10]) := by kernel_rfl
theorem d28_11 : E.draw (regionOf Tryz.f28 11) = some (pick (regionOf Tryz.f28 11) [0, 1, 2, 3, 4, 5, 6, 7, 8, 9, 10, 11, 12]) := by kernel_rfl
theorem d28_17 : E.draw (regionOf Tryz.f28 17) = some (pick (regionOf Tryz.f28 17) [0, 1, 2, 3, 4, 5, 6, 7, 8, 9, 10, 11, 12, 13, 14, 15, 16, 17, 18, 19, 20, 21, 22, 23, 24, 25, 26]) := by kernel_rfl
theorem d30_10 : E.draw (regionOf Tryz.f30 10) = some (pick (regionOf Tryz.f30 10) [0, 1, 2, 3, 4, 5, 6, 7, 8, 9, 10, 11, 12, 13, 14, 15, 16, 17, 18]) := by kernel_rfl
theorem d38_6 : E.draw (regionOf Tryz.f38 6) = some (pick (regionOf Tryz.f38 6) [0, 1, 2, 3, 4, 5, 6, 7, 8]) := by kernel_rfl
theorem d42_4 : E.draw (regionOf Tryz.f42 4) = some (pick (regionOf Tryz.f42 4) [0, 1, 2, 3, 4, 5, 6]) := by kernel_rfl
theorem d65_8 : E.draw (regionOf Tryz.f65 8) = some (pick (regionOf Tryz.f65 8) [0, 1, 2, 3, 4, 5, 6]) := by kernel_rfl
theorem d81_6 : E.draw (regionOf Tryz.f81 6) = some (pick (regionOf Tryz.f81 6) [0, 1, 2, 3, 4, 5, 6, 7, 8, 9]) := by kernel_rfl
theorem d84_10 : E.draw (regionOf Tryz.f84 10) = some (pick (regionOf Tryz.f84 10) [0, 1, 2, 3, 4, 5, 6, 7, 8, 9]) := by kernel_rfl
theorem d89_8 : E.draw (regionOf Tryz.f89 8) = some (pick (regionOf Tryz.f89 8) [0, 1, 2, 3, 4, 5, 6, 7, 8, 9, 10, 11, 12, 13, 14, 15, 16, 17]) := by kernel_rfl
theorem d93_3 : E.draw (regionOf Tryz.f93 3) = some (pick (regionOf Tryz.f93 3) [0, 1, 2, 3, 4, 5, 6, 7, 8, 9, 10, 11, 12, 13, 14, 15, 16, 17]) := by kernel_rfl
theorem d95_4 : E.draw (regionOf Tryz.f95 4) = some (pick (regionOf Tryz.f95 4) [0, 1, 2, 3, 4, 5, 6, 7, 8, 9, 10, 11, 12, 13, 14, 15, 16, 17, 18, 19, 20, 21, 22, 23, 24, 25, 26, 27, 28, 29]) := by kernel_rfl
theorem d96_6 : E.draw (regionOf Tryz.f96 6) = some (pick (regionOf Tryz.f96 6) [0, 1, 2, 3, 4, 5, 6, 7, 8, 9]) := by kernel_rfl
theorem d97_6 : E.draw (regionOf Tryz.f97 6) = some (pick (regionOf Tryz.f97 6) [0, 1, 2, 3, 4, 5, 6, 7, 8, 9]) := by kernel_rfl
theorem d99_5 : E.draw (regionOf Tryz.f99 5) = some (pick (regionOf Tryz.f99 5) [0, 1, 2, 3, 4, 5, 6, 7, 8]) := by kernel_rfl
theorem d100_1 : E.draw (regionOf Tryz.f100 1) = some (pick (regionOf Tryz.f100 1) [0, 1, 2, 3, 4, 5, 6]) := by kernel_rfl
theorem d113_1 : E.draw (regionOf Tryz.f113 1) = some (pick (regionOf Tryz.f113 1) [0, 1, 2, 3, 4, 5, 6, 7]) := by kernel_rfl
theorem d113_5 : E.draw (regionOf Tryz.f113 5) = some (pick (regionOf Tryz.f113 5) [0, 1, 2, 3, 4, 5, 6, 7, 8]) := by kernel_rfl
theorem d116_1 : E.draw (regionOf Tryz.f116 1) = some (pick (regionOf Tryz.f116 1) [0, 1, 2, 3, 4, 5, 6, 7]) := by kernel_rfl
theorem d117_6 : E.draw (regionOf Tryz.f117 6) = some (pick (regionOf Tryz.f117 6) [0, 1, 2, 3, 4, 5, 6, 7, 8, 9]) := by kernel_rfl
theorem d121_2 : E.draw (regionOf Tryz.f121 2) = some (pick (regionOf Tryz.f121 2) [0, 1, 2, 3, 4, 5, 6, 7, 8, 9, 10]) := by kernel_rfl
theorem d121_9 : E.draw (regionOf Tryz.f121 9) = some (pick (regionOf Tryz.f121 9) [0, 1, 2, 3, 4, 5, 6, 7]) := by kernel_rfl
theorem d121_17 : E.draw (regionOf Tryz.f121 17) = some (pick (regionOf Tryz.f121 17) [0, 1, 2, 3, 4, 5, 6, 7, 8, 9, 10]) := by kernel_rfl
theorem d121_20 : E.draw (regionOf Tryz.f121 20) = some (pick (regionOf Tryz.f121 20) [0, 1, 2, 3, 4, 5, 6, 7, 8, 9]) := by kernel_rfl
theorem d124_1 : E.draw (regionOf Tryz.f124 1) = some (pick (regionOf Tryz.f124 1) [0, 1, 2, 3, 4]) := by kernel_rfl
theorem d125_24 : E.draw (regionOf Tryz.f125 24) = some (pick (regionOf Tryz.f125 24) [0, 1, 2, 3, 4, 5, 6, 7, 8, 9, 10]) := by kernel_rfl
theorem d125_25 : E.draw (regionOf Tryz.f125 25) = some (pick (regionOf Tryz.f125 25) [0, 1, 2, 3, 4, 5, 6, 7, 8, 9, 10, 11, 12, 13, 14]) := by kernel_rfl
theorem d125_26 : E.draw (regionOf Tryz.f125 26) = some (pick (regionOf Tryz.f125 26) [0, 1, 2, 3, 4, 5, 6, 7, 8, 9, 10, 11]) := by kernel_rfl
theorem d127_1 : E.draw (regionOf Tryz.f127 1) = some (pick (regionOf Tryz.f127 1) [0, 1, 2, 3, 4]) := by kernel_rfl
theorem d128_7 : E.draw (regionOf Tryz.f128 7) = some (pick (regionOf Tryz.f128 7) [0, 1, 2, 3, 4, 5, 6, 7]) := by kernel_rfl
theorem d129_1 : E.draw (regionOf Tryz.f129 1) = some (pick (regionOf Tryz.f129 1) [0, 1, 2, 3, 5, 6, 7, 8, 4, 9, 10, 11, 12]) := by kernel_rfl
theorem d154_12 : E.draw (regionOf Tryz.f154 12) = some (pick (regionOf Tryz.f154 12) [0, 1, 2, 3, 4, 5, 6, 7, 8, 9, 10, 11, 12]) := by kernel_rfl
theorem d167_8 : E.draw (regionOf Tryz.f167 8) = some (pick (regionOf Tryz.f167 8) [0, 1, 2, 3, 4, 5, 6, 7, 8, 9, 10, 11, 12, 13, 14, 15, 16, 17, 18, 19, 20, 21]) := by kernel_rfl
theorem d177_1 : E.draw (regionOf Tryz.f177 1) = some (pick (regionOf Tryz.f177 1) [0, 1, 2, 3, 4, 5, 6, 7, 8, 9, 10]) := by kernel_rfl
theorem d177_6 : E.draw (regionOf Tryz.f177 6) = some (pick (regionOf Tryz.f177 6) [0, 1, 2, 3, 4, 5, 6, 7, 8]) := by kernel_rfl
theorem d177_13 : E.draw (regionOf Tryz.f177 13) = some (pick (regionOf Tryz.f177 13) [0, 1, 2, 3, 4, 5, 6, 7, 8, 9, 10]) := by kernel_rfl
theorem d177_16 : E.draw (regionOf Tryz.f177 16) = some (pick (regionOf Tryz.f177 16) [0, 1, 2, 3, 4, 5, 6, 7]) := by kernel_rfl
theorem d179_4 : E.draw (regionOf Tryz.f179 4) = some (pick (regionOf Tryz.f179 4) [0, 1, 2, 3, 4, 5, 6, 7]) := by kernel_rfl
theorem d184_1 : E.draw (regionOf Tryz.f184 1) = some (pick (regionOf Tryz.f184 1) [0, 1, 2, 3, 4, 5, 6]) := by kernel_rfl
theorem d188_9 : E.draw (regionOf Tryz.f188 9) = some (pick (regionOf Tryz.f188 9) [0, 1, 2, 3, 4, 5, 6, 7, 8, 9, 10]) := by kernel_rfl
theorem d188_12 : E.draw (regionOf Tryz.f188 12) = some (pick (regionOf Tryz.f188 12) [0, 1, 2, 3, 4]) := by kernel_rfl
theorem d191_10 : E.draw (regionOf Tryz.f191 10) = some (pick (regionOf Tryz.f191 10) [0, 1, 2, 3, 4, 5, 6, 7, 8, 9, 10]) := by kernel_rfl
theorem d191_12 : E.draw (regionOf Tryz.f191 12) = some (pick (regionOf Tryz.f191 12) [0, 1, 2, 3, 4]) := by kernel_rfl
theorem d194_4 : E.draw (regionOf Tryz.f194 4) = some (pick (regionOf Tryz.f194 4) [0, 1, 2, 3, 4, 5, 6, 7]) := by kernel_rfl
theorem d197_1 : E.draw (regionOf Tryz.f197 1) = some (pick (regionOf Tryz.f197 1) [0, 1, 2, 3, 5, 6, 7, 8, 4, 9, 10, 11, 12]) := by kernel_rfl
theorem d211_2 : E.draw (regionOf Tryz.f211 2) = some (pick (regionOf Tryz.f211 2) [0, 1, 2, 3, 4, 5, 6, 7, 8, 9, 10, 11]) := by kernel_rfl
theorem d212_6 : E.draw (regionOf Tryz.f212 6) = some (pick (regionOf Tryz.f212 6) [0, 1, 2, 3, 4, 5, 6, 7, 8, 9]) := by kernel_rfl
theorem d214_22 : E.draw (regionOf Tryz.f214 22) = some (pick (regionOf Tryz.f214 22) [0, 1, 2, 3, 4, 5, 8, 9, 10, 11, 12, 6, 7, 13, 14, 15, 16]) := by kernel_rfl
theorem d219_4 : E.draw (regionOf Tryz.f219 4) = some (pick (regionOf Tryz.f219 4) [0, 1, 2, 3, 4, 5, 6, 7, 8, 9, 10, 11, 12]) := by kernel_rfl
theorem d220_8 : E.draw (regionOf Tryz.f220 8) = some (pick (regionOf Tryz.f220 8) [0, 1, 2, 3, 4, 5]) := by kernel_rfl
theorem d220_22 : E.draw (regionOf Tryz.f220 22) = some (pick (regionOf Tryz.f220 22) [0, 1, 2, 3, 4, 5, 6, 7]) := by kernel_rfl
theorem d220_30 : E.draw (regionOf Tryz.f220 30) = some (pick (regionOf Tryz.f220 30) [0, 1, 2, 3, 4, 5, 6, 7]) := by kernel_rfl
theorem d228_6 : E.draw (regionOf Tryz.f228 6) = some (pick (regionOf Tryz.f228 6) [0, 1, 2, 3, 4, 5, 6, 7, 8, 9]) := by kernel_rfl
theorem d229_28 : E.draw (regionOf Tryz.f229 28) = some (pick (regionOf Tryz.f229 28) [0, 1, 2, 3, 4, 5, 6]) := by kernel_rfl
theorem d239_11 : E.draw (regionOf Tryz.f239 11) = some (pick (regionOf Tryz.f239 11) [0, 1, 2, 3, 4, 5, 6, 7, 8]) := by kernel_rfl
theorem d239_15 : E.draw (regionOf Tryz.f239 15) = some (pick (regionOf Tryz.f239 15) [0, 1, 2, 3, 4, 5, 6, 7, 8]) := by kernel_rfl
theorem d249_4 : E.draw (regionOf Tryz.f249 4) = some (pick (regionOf Tryz.f249 4) [0, 1, 2, 3, 4, 5]) := by kernel_rfl
theorem d260_5 : E.draw (regionOf Tryz.f260 5) = some (pick (regionOf Tryz.f260 5) [0, 1, 2, 3, 4, 5, 6, 7, 8, 9, 10, 11, 12]) := by kernel_rfl
theorem d275_5 : E.draw (regionOf Tryz.f275 5) = some (pick (regionOf Tryz.f275 5) [0, 1, 2, 3, 4, 5, 6, 7, 8, 9, 10, 11, 12, 13]) := by kernel_rfl
theorem d293_3 : E.draw (regionOf Tryz.f293 3) = some (pick (regionOf Tryz.f293 3) [0, 1, 2, 3, 4, 5, 6, 7, 8, 9, 10, 11, 12, 13, 14, 15]) := by kernel_rfl
theorem d28_23 : E.draw (regionOf Tryz.f28 23) = some (pick (regionOf Tryz.f28 23) [0, 1, 2, 3, 4, 5, 6, 7, 8, 9, 10, 11, 12, 13, 14, 15, 16, 17, 18, 19, 20, 21, 22, 23, 24, 25, 26, 27, 28, 29]) := by kernel_rfl
theorem d99_13 : E.draw (regionOf Tryz.f99 13) = some (pick (regionOf Tryz.f99 13) [0, 1, 2, 3, 4, 5, 6, 7, 8, 9, 10, 11, 12, 13, 14, 15, 16, 17, 18, 19]) := by kernel_rfl
theorem d107_27 : E.draw (regionOf Tryz.f107 27) = some (pick (regionOf Tryz.f107 27) [0, 1, 2, 3, 4, 5, 6, 7, 8, 9, 10, 11, 12, 13, 14, 15, 16, 17, 18, 19, 20, 21, 22, 23, 24, 25, 26, 27, 28, 29, 30, 31, 32, 33, 34, 35]) := by kernel_rfl
theorem d125_15 : E.draw (regionOf Tryz.f125 15) = some (pick (regionOf Tryz.f125 15) [0, 1, 2, 3, 4, 5, 6, 7, 8, 9]) := by kernel_rfl
theorem d142_20 : E.draw (regionOf Tryz.f142 20) = some (pick (regionOf Tryz.f142 20) [0, 1, 2, 3, 4, 5]) := by kernel_rfl
end Go.Zd
