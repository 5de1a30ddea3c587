/- A text of the proof. -/
import Derived.Test.YtkpbcgjmckodiaaGreatDoorProg
import Derived.Test.YtkpbcgjmckodiaaGreatDoorKAmZv
import Derived.KernelRfl
set_option linter.unusedSimpArgs false
set_option linter.unusedVariables false
namespace Go.AM
open Go Go.Proofs
noncomputable def asG (P : Program) : List AV → Cs → Option (AV × Cs)
  | [.iface 149 (.agg [c]), .iface 154 (.ref b g i j)], s => match aStore P 149 (.ref b g i j) (.agg [c]) s.hp.get with
    | some (b', blk) => some (.bool true, { s with hp := s.hp.put b' blk })
    | none => none
  | _, _ => none
def isG : List AV → Cs → Option (AV × Cs)
  | [.iface 657 (.gp k o _), .iface 657 (.gp k' o' _)], s => match Nat.beq k k' with
    | true => match Nat.beq o o' with
      | true => some (.bool true, s)
      | false => none
    | false => none
  | _, _ => none
noncomputable def base0 : Cons := conL [(49, .inp (asG Tryz.prog)), (51, .inp isG), (33, .inp noG), (325, .inp noG), (329, .inp noG), (65, .ext sameG), (421, .ext ibsG), (268, .ext cntG), (138, .pure joinG)]
def glT : Nat → AV
  | 0 => .gp 0 0 [.str [], .str [], .str [112, 117, 116], .str [107, 118], .str [100, 101, 108], .str [107], .str [98, 97, 116, 99, 104], .str [119], .str [103, 101, 116], .str [104, 107], .str [102, 108, 111, 111, 114], .str [104, 107], .str [99, 101, 105, 108, 105, 110, 103], .str [104, 107], .str [99, 111, 117, 110, 116], .str [104, 114], .str [112, 105, 110], .str [], .str [117, 110, 112, 105, 110], .str [104], .str [111, 112, 101, 110], .str [104, 114], .str [110, 101, 120, 116], .str [104], .str [112, 114, 101, 118], .str [104], .str [115, 104, 117, 116], .str [104], .str [100, 105, 102, 102], .str [104, 111], .str [119, 111, 114, 107], .str [], .str [99, 111, 109, 112, 97, 99, 116], .str [], .str [115, 116, 97, 116, 115], .str []]
  | 1 => .gp 1 0 [.iface 657 (.gp 1528 0 [.str [98, 117, 115, 121]])]
  | 2 => .gp 2 0 [.iface 367 (.agg [.gp 999 81 []])]
  | 3 => .gp 3 0 [.int .u8 34, .int .u8 34, .int .u8 92, .int .u8 92, .int .u8 10, .int .u8 110, .int .u8 13, .int .u8 114, .int .u8 9, .int .u8 116]
  | 4 => .gp 4 0 [.int .u64 1, .int .u64 10, .int .u64 100, .int .u64 1000, .int .u64 10000, .int .u64 100000, .int .u64 1000000, .int .u64 10000000, .int .u64 100000000, .int .u64 1000000000, .int .u64 10000000000, .int .u64 100000000000, .int .u64 1000000000000, .int .u64 10000000000000, .int .u64 100000000000000, .int .u64 1000000000000000, .int .u64 10000000000000000, .int .u64 100000000000000000, .int .u64 1000000000000000000, .int .u64 10000000000000000000]
  | 5 => .gp 5 0 []
  | 6 => .gp 6 0 [.iface 657 (.gp 1208 0 [.str [105, 110, 118, 97, 108, 105, 100, 32, 115, 121, 110, 116, 97, 120]])]
  | 7 => .gp 7 0 [.iface 657 (.gp 1152 0 [.str [118, 97, 108, 117, 101, 32, 111, 117, 116, 32, 111, 102, 32, 114, 97, 110, 103, 101]])]
  | 8 => .gp 8 0 []
  | 9 => .gp 9 0 [.int .u8 128, .int .u8 191, .int .u8 160, .int .u8 191, .int .u8 128, .int .u8 159, .int .u8 144, .int .u8 191, .int .u8 128, .int .u8 143, .int .u8 0, .int .u8 0, .int .u8 0, .int .u8 0, .int .u8 0, .int .u8 0, .int .u8 0, .int .u8 0, .int .u8 0, .int .u8 0, .int .u8 0, .int .u8 0, .int .u8 0, .int .u8 0, .int .u8 0, .int .u8 0, .int .u8 0, .int .u8 0, .int .u8 0, .int .u8 0, .int .u8 0, .int .u8 0]
  | 10 => .gp 10 0 [.int .u8 0, .int .u8 1, .int .u8 28, .int .u8 2, .int .u8 29, .int .u8 14, .int .u8 24, .int .u8 3, .int .u8 30, .int .u8 22, .int .u8 20, .int .u8 15, .int .u8 25, .int .u8 17, .int .u8 4, .int .u8 8, .int .u8 31, .int .u8 27, .int .u8 13, .int .u8 23, .int .u8 21, .int .u8 19, .int .u8 16, .int .u8 7, .int .u8 26, .int .u8 12, .int .u8 18, .int .u8 6, .int .u8 11, .int .u8 5, .int .u8 10, .int .u8 9]
  | 11 => .gp 11 0 [.int .u8 0, .int .u8 1, .int .u8 56, .int .u8 2, .int .u8 57, .int .u8 49, .int .u8 28, .int .u8 3, .int .u8 61, .int .u8 58, .int .u8 42, .int .u8 50, .int .u8 38, .int .u8 29, .int .u8 17, .int .u8 4, .int .u8 62, .int .u8 47, .int .u8 59, .int .u8 36, .int .u8 45, .int .u8 43, .int .u8 51, .int .u8 22, .int .u8 53, .int .u8 39, .int .u8 33, .int .u8 30, .int .u8 24, .int .u8 18, .int .u8 12, .int .u8 5, .int .u8 63, .int .u8 55, .int .u8 48, .int .u8 27, .int .u8 60, .int .u8 41, .int .u8 37, .int .u8 16, .int .u8 46, .int .u8 35, .int .u8 44, .int .u8 21, .int .u8 52, .int .u8 32, .int .u8 23, .int .u8 11, .int .u8 54, .int .u8 26, .int .u8 40, .int .u8 15, .int .u8 34, .int .u8 20, .int .u8 31, .int .u8 10, .int .u8 25, .int .u8 14, .int .u8 19, .int .u8 9, .int .u8 13, .int .u8 8, .int .u8 7, .int .u8 6]
  | 12 => .gp 12 0 [.iface 657 (.gp 1472 0 [.str [115, 101, 116, 116, 108, 101, 100]])]
  | _ => .top
@[reducible] def adrOf (ad off : Nat → Nat) : Adr := ⟨ad, off, glT⟩
def tb32 : List Line := [
  ⟨[.int .i64 4], .tup [.agg [.int .i64 4, .nils, .int .i64 4, .nils, .nils, .int .i64 1, .int .i64 0, .int .i64 16, .nils, .int .i64 16, .nils, .nils, .nils, .nils, .int .i64 0, .int .i64 0, .int .i64 0, .int .i64 0, .int .i64 0, .int .i64 0], .int .i64 0], []⟩,
  ⟨[.int .i64 1], .tup [.agg [.int .i64 1, .nils, .int .i64 1, .nils, .nils, .int .i64 1, .int .i64 0, .int .i64 16, .nils, .int .i64 16, .nils, .nils, .nils, .nils, .int .i64 0, .int .i64 0, .int .i64 0, .int .i64 0, .int .i64 0, .int .i64 0], .int .i64 0], []⟩]
def tb10 : List Line := [
  ⟨[.str [115, 105, 122, 101, 32, 49]], .tup [.sl 0 1 2 0 2, .int .i64 0], [⟨1, true, true, 2, [[.str [115, 105, 122, 101], .bool false], [.str [49], .bool false]], none⟩]⟩,
  ⟨[.str [112, 117, 116, 32, 48, 32, 34, 97, 34, 32, 34, 120, 34]], .tup [.sl 0 3 2 0 4, .int .i64 0], [⟨3, true, true, 2, [[.str [112, 117, 116], .bool false], [.str [48], .bool false], [.str [97], .bool true], [.str [120], .bool true]], none⟩]⟩,
  ⟨[.str [112, 117, 116, 32, 48, 32, 34, 98, 34, 32, 34, 121, 34]], .tup [.sl 0 3 2 0 4, .int .i64 0], [⟨3, true, true, 2, [[.str [112, 117, 116], .bool false], [.str [48], .bool false], [.str [98], .bool true], [.str [121], .bool true]], none⟩]⟩,
  ⟨[.str [112, 117, 116, 32, 48, 32, 34, 99, 34, 32, 34, 122, 34]], .tup [.sl 0 3 2 0 4, .int .i64 0], [⟨3, true, true, 2, [[.str [112, 117, 116], .bool false], [.str [48], .bool false], [.str [99], .bool true], [.str [122], .bool true]], none⟩]⟩,
  ⟨[.str [100, 101, 108, 32, 48, 32, 34, 97, 34]], .tup [.sl 0 2 2 0 3, .int .i64 0], [⟨2, true, true, 2, [[.str [100, 101, 108], .bool false], [.str [48], .bool false], [.str [97], .bool true]], none⟩]⟩,
  ⟨[.str [103, 101, 116, 32, 48, 32, 48, 32, 48, 32, 34, 97, 34]], .tup [.sl 0 4 2 0 5, .int .i64 0], [⟨4, true, true, 2, [[.str [103, 101, 116], .bool false], [.str [48], .bool false], [.str [48], .bool false], [.str [48], .bool false], [.str [97], .bool true]], none⟩]⟩,
  ⟨[.str [108, 101, 118, 101, 108, 115]], .tup [.sl 0 0 2 0 1, .int .i64 0], [⟨0, true, true, 2, [[.str [108, 101, 118, 101, 108, 115], .bool false]], none⟩]⟩,
  ⟨[.str [100, 101, 98, 116]], .tup [.sl 0 0 2 0 1, .int .i64 0], [⟨0, true, true, 2, [[.str [100, 101, 98, 116], .bool false]], none⟩]⟩]
def tb11 : List Line := [
  ⟨[.str [115, 105, 122, 101]], .tup [.int .i64 0, .int .i64 4], []⟩,
  ⟨[.str [112, 117, 116]], .tup [.int .i64 1, .int .i64 0], []⟩,
  ⟨[.str [100, 101, 108]], .tup [.int .i64 2, .int .i64 0], []⟩,
  ⟨[.str [103, 101, 116]], .tup [.int .i64 4, .int .i64 0], []⟩,
  ⟨[.str [108, 101, 118, 101, 108, 115]], .tup [.int .i64 0, .int .i64 4], []⟩,
  ⟨[.str [100, 101, 98, 116]], .tup [.int .i64 0, .int .i64 4], []⟩]
def tb46 : List Line := [
  ⟨[.agg [.int .i64 1, .int .i64 0, .str [97], .str [120], .str [], .str [], .bool false, .int .i64 0, .int .i64 0, .int .i64 0, .int .i64 0, .nils]], .int .i64 0, []⟩,
  ⟨[.agg [.int .i64 1, .int .i64 0, .str [98], .str [121], .str [], .str [], .bool false, .int .i64 0, .int .i64 0, .int .i64 0, .int .i64 0, .nils]], .int .i64 0, []⟩,
  ⟨[.agg [.int .i64 1, .int .i64 0, .str [99], .str [122], .str [], .str [], .bool false, .int .i64 0, .int .i64 0, .int .i64 0, .int .i64 0, .nils]], .int .i64 0, []⟩,
  ⟨[.agg [.int .i64 2, .int .i64 0, .str [97], .str [], .str [], .str [], .bool false, .int .i64 0, .int .i64 0, .int .i64 0, .int .i64 0, .nils]], .int .i64 0, []⟩,
  ⟨[.agg [.int .i64 4, .int .i64 0, .str [97], .str [], .str [], .str [], .bool false, .int .i64 0, .int .i64 0, .int .i64 0, .int .i64 0, .nils]], .int .i64 0, []⟩]
def tb22 : List Line := [
  ⟨[.str [112, 117, 116, 32, 48, 32, 34, 97, 34, 32, 34, 120, 34]], .tup [.agg [.int .i64 1, .int .i64 0, .str [97], .str [120], .str [], .str [], .bool false, .int .i64 0, .int .i64 0, .int .i64 0, .int .i64 0, .nils], .int .i64 0], []⟩,
  ⟨[.str [112, 117, 116, 32, 48, 32, 34, 98, 34, 32, 34, 121, 34]], .tup [.agg [.int .i64 1, .int .i64 0, .str [98], .str [121], .str [], .str [], .bool false, .int .i64 0, .int .i64 0, .int .i64 0, .int .i64 0, .nils], .int .i64 0], []⟩,
  ⟨[.str [112, 117, 116, 32, 48, 32, 34, 99, 34, 32, 34, 122, 34]], .tup [.agg [.int .i64 1, .int .i64 0, .str [99], .str [122], .str [], .str [], .bool false, .int .i64 0, .int .i64 0, .int .i64 0, .int .i64 0, .nils], .int .i64 0], []⟩,
  ⟨[.str [100, 101, 108, 32, 48, 32, 34, 97, 34]], .tup [.agg [.int .i64 2, .int .i64 0, .str [97], .str [], .str [], .str [], .bool false, .int .i64 0, .int .i64 0, .int .i64 0, .int .i64 0, .nils], .int .i64 0], []⟩,
  ⟨[.str [103, 101, 116, 32, 48, 32, 48, 32, 48, 32, 34, 97, 34]], .tup [.agg [.int .i64 4, .int .i64 0, .str [97], .str [], .str [], .str [], .bool false, .int .i64 0, .int .i64 0, .int .i64 0, .int .i64 0, .nils], .int .i64 0], []⟩]
def tb309 : List Line := [
  ⟨[.agg [.int .i64 1, .nils]], .tup [.int .i64 0, .int .i64 0], []⟩,
  ⟨[.agg [.int .i64 1, .psl 4 [[.str [97], .str [120], .bool false, .int .i64 1]]]], .tup [.int .i64 0, .int .i64 0], []⟩,
  ⟨[.agg [.int .i64 1, .psl 4 [[.str [98], .str [121], .bool false, .int .i64 2]]]], .tup [.int .i64 0, .int .i64 0], []⟩,
  ⟨[.agg [.int .i64 1, .psl 4 [[.str [99], .str [122], .bool false, .int .i64 3]]]], .tup [.int .i64 0, .int .i64 0], []⟩]
def tb96 : List Line := [
  ⟨[.agg [.int .i64 16, .nils, .int .i64 16, .nils, .nils, .nils]], .int .i64 0, []⟩]
def tb373 : List Line := [
  ⟨[.psl 4 [[.str [97], .str [120], .bool false, .int .i64 1]]], .tup [.int .i64 0, .int .i64 0], []⟩,
  ⟨[.psl 4 [[.str [98], .str [121], .bool false, .int .i64 2]]], .tup [.int .i64 0, .int .i64 0], []⟩,
  ⟨[.psl 4 [[.str [99], .str [122], .bool false, .int .i64 3]]], .tup [.int .i64 0, .int .i64 0], []⟩]
def tb340 : List Line := [
  ⟨[.agg [.int .i64 1, .nils]], .tup [.int .i64 0, .int .i64 0, .int .i64 0], []⟩,
  ⟨[.agg [.int .i64 1, .psl 1 [[.psl 2 [[.int .i64 1, .psl 4 [[.str [97], .str [120], .bool false, .int .i64 1]]]]]]]], .tup [.int .i64 0, .int .i64 0, .int .i64 0], []⟩,
  ⟨[.agg [.int .i64 1, .psl 1 [[.psl 2 [[.int .i64 1, .psl 4 [[.str [97], .str [120], .bool false, .int .i64 1]]], [.int .i64 2, .psl 4 [[.str [98], .str [121], .bool false, .int .i64 2]]]]]]]], .tup [.int .i64 0, .int .i64 0, .int .i64 0], []⟩]
def tb521 : List Line := [
  ⟨[.agg [.psl 1 [[.psl 4 [[.str [98], .str [121], .bool false, .int .i64 2]]], [.psl 4 [[.str [97], .str [120], .bool false, .int .i64 1]]]], .psl 1 [[.int .i64 0], [.int .i64 0]], .psl 2 [[.str [98], .bool false], [.str [97], .bool false]], .psl 1 [[.int .i64 0], [.int .i64 0]], .int .i64 1]], .tup [.int .i64 0, .int .i64 0], []⟩]
def tb448 : List Line := [
  ⟨[.agg [.psl 1 [[.psl 4 [[.str [98], .str [121], .bool false, .int .i64 2]]], [.psl 4 [[.str [97], .str [120], .bool false, .int .i64 1]]]], .psl 1 [[.int .i64 0], [.int .i64 0]], .psl 2 [[.str [98], .bool false], [.str [97], .bool false]], .psl 1 [[.int .i64 0], [.int .i64 0]], .int .i64 1, .bool false, .str [], .bool true, .nils, .int .i64 0]], .int .i64 0, []⟩]
def tb235 : List Line := [
  ⟨[.agg [.int .i64 1, .nils, .nils, .int .i64 1]], .tup [.int .i64 0, .int .i64 0], []⟩,
  ⟨[.agg [.int .i64 1, .psl 1 [[.psl 2 [[.int .i64 1, .psl 4 [[.str [97], .str [120], .bool false, .int .i64 1]]]]]], .nils, .int .i64 2]], .tup [.int .i64 0, .int .i64 0], []⟩,
  ⟨[.agg [.int .i64 1, .psl 1 [[.psl 2 [[.int .i64 1, .psl 4 [[.str [97], .str [120], .bool false, .int .i64 1]]], [.int .i64 2, .psl 4 [[.str [98], .str [121], .bool false, .int .i64 2]]]]]], .psl 11 [[.int .i64 0, .psl 1 [[.psl 4 [[.str [98], .str [121], .bool false, .int .i64 2]]], [.psl 4 [[.str [97], .str [120], .bool false, .int .i64 1]]]], .psl 1 [[.int .i64 0], [.int .i64 0]], .psl 2 [[.str [98], .bool false], [.str [97], .bool false]], .psl 1 [[.int .i64 0], [.int .i64 0]], .int .i64 1, .bool false, .str [], .bool true, .nils, .int .i64 0]], .int .i64 3]], .tup [.int .i64 0, .int .i64 0], []⟩]
def tb95 : List Line := [
  ⟨[.agg [.int .i64 1, .nils, .int .i64 1, .nils, .nils, .int .i64 1]], .int .i64 0, []⟩,
  ⟨[.agg [.int .i64 1, .psl 4 [[.str [97], .str [120], .bool false, .int .i64 1]], .int .i64 1, .nils, .nils, .int .i64 1]], .int .i64 0, []⟩,
  ⟨[.agg [.int .i64 1, .psl 4 [[.str [98], .str [121], .bool false, .int .i64 2]], .int .i64 1, .psl 1 [[.psl 2 [[.int .i64 1, .psl 4 [[.str [97], .str [120], .bool false, .int .i64 1]]]]]], .nils, .int .i64 2]], .int .i64 0, []⟩,
  ⟨[.agg [.int .i64 1, .psl 4 [[.str [99], .str [122], .bool false, .int .i64 3]], .int .i64 1, .psl 1 [[.psl 2 [[.int .i64 1, .psl 4 [[.str [97], .str [120], .bool false, .int .i64 1]]], [.int .i64 2, .psl 4 [[.str [98], .str [121], .bool false, .int .i64 2]]]]]], .psl 11 [[.int .i64 0, .psl 1 [[.psl 4 [[.str [98], .str [121], .bool false, .int .i64 2]]], [.psl 4 [[.str [97], .str [120], .bool false, .int .i64 1]]]], .psl 1 [[.int .i64 0], [.int .i64 0]], .psl 2 [[.str [98], .bool false], [.str [97], .bool false]], .psl 1 [[.int .i64 0], [.int .i64 0]], .int .i64 1, .bool false, .str [], .bool true, .nils, .int .i64 0]], .int .i64 3]], .int .i64 0, []⟩]
def tb47 : List Line := [
  ⟨[.agg [.int .i64 1, .nils, .int .i64 1, .nils, .nils, .int .i64 1, .int .i64 0, .int .i64 16, .nils, .int .i64 16, .nils, .nils, .nils, .nils, .int .i64 0, .int .i64 0, .int .i64 0, .int .i64 0, .int .i64 0, .int .i64 0]], .int .i64 0, []⟩,
  ⟨[.agg [.int .i64 1, .psl 4 [[.str [97], .str [120], .bool false, .int .i64 1]], .int .i64 1, .nils, .nils, .int .i64 1, .int .i64 1, .int .i64 16, .nils, .int .i64 16, .nils, .nils, .nils, .nils, .int .i64 1, .int .i64 0, .int .i64 0, .int .i64 0, .int .i64 0, .int .i64 0]], .int .i64 0, []⟩,
  ⟨[.agg [.int .i64 1, .psl 4 [[.str [98], .str [121], .bool false, .int .i64 2]], .int .i64 1, .psl 1 [[.psl 2 [[.int .i64 1, .psl 4 [[.str [97], .str [120], .bool false, .int .i64 1]]]]]], .nils, .int .i64 2, .int .i64 2, .int .i64 16, .nils, .int .i64 16, .nils, .nils, .nils, .nils, .int .i64 2, .int .i64 0, .int .i64 1, .int .i64 0, .int .i64 0, .int .i64 0]], .int .i64 0, []⟩,
  ⟨[.agg [.int .i64 1, .psl 4 [[.str [99], .str [122], .bool false, .int .i64 3]], .int .i64 1, .psl 1 [[.psl 2 [[.int .i64 1, .psl 4 [[.str [97], .str [120], .bool false, .int .i64 1]]], [.int .i64 2, .psl 4 [[.str [98], .str [121], .bool false, .int .i64 2]]]]]], .psl 11 [[.int .i64 0, .psl 1 [[.psl 4 [[.str [98], .str [121], .bool false, .int .i64 2]]], [.psl 4 [[.str [97], .str [120], .bool false, .int .i64 1]]]], .psl 1 [[.int .i64 0], [.int .i64 0]], .psl 2 [[.str [98], .bool false], [.str [97], .bool false]], .psl 1 [[.int .i64 0], [.int .i64 0]], .int .i64 1, .bool false, .str [], .bool true, .nils, .int .i64 0]], .int .i64 3, .int .i64 3, .int .i64 16, .nils, .int .i64 16, .nils, .nils, .nils, .nils, .int .i64 3, .int .i64 0, .int .i64 2, .int .i64 0, .int .i64 0, .int .i64 0]], .int .i64 0, []⟩,
  ⟨[.agg [.int .i64 1, .psl 4 [[.str [99], .str [122], .bool false, .int .i64 3]], .int .i64 1, .psl 1 [[.psl 2 [[.int .i64 1, .psl 4 [[.str [97], .str [120], .bool false, .int .i64 1]]], [.int .i64 2, .psl 4 [[.str [98], .str [121], .bool false, .int .i64 2]]]]]], .psl 11 [[.int .i64 0, .psl 1 [[.psl 4 [[.str [98], .str [121], .bool false, .int .i64 2]]], [.psl 4 [[.str [97], .str [120], .bool false, .int .i64 1]]]], .psl 1 [[.int .i64 0], [.int .i64 0]], .psl 2 [[.str [98], .bool false], [.str [97], .bool false]], .psl 1 [[.int .i64 0], [.int .i64 0]], .int .i64 1, .bool false, .str [], .bool true, .nils, .int .i64 0]], .int .i64 3, .int .i64 3, .int .i64 16, .nils, .int .i64 16, .nils, .nils, .nils, .nils, .int .i64 3, .int .i64 1, .int .i64 2, .int .i64 0, .int .i64 0, .int .i64 0]], .int .i64 0, []⟩]
def tb50 : List Line := [
  ⟨[.agg [.int .i64 1, .nils, .nils, .int .i64 1], .int .i64 0], .tup [.agg [.int .i64 1, .nils, .nils, .int .i64 1], .agg [.int .i64 0, .int .i64 0, .int .i64 0, .int .i64 0, .int .i64 0, .int .i64 0, .int .i64 0, .int .i64 0, .int .i64 0, .int .i64 0, .int .i64 0, .int .i64 0, .int .i64 0, .int .i64 0, .int .i64 0], .int .i64 0], []⟩,
  ⟨[.agg [.int .i64 1, .psl 1 [[.psl 2 [[.int .i64 1, .psl 4 [[.str [97], .str [120], .bool false, .int .i64 1]]]]]], .nils, .int .i64 2], .int .i64 0], .tup [.agg [.int .i64 1, .psl 1 [[.psl 2 [[.int .i64 1, .psl 4 [[.str [97], .str [120], .bool false, .int .i64 1]]]]]], .nils, .int .i64 2], .agg [.int .i64 0, .int .i64 0, .int .i64 0, .int .i64 0, .int .i64 0, .int .i64 0, .int .i64 0, .int .i64 0, .int .i64 0, .int .i64 0, .int .i64 0, .int .i64 0, .int .i64 0, .int .i64 0, .int .i64 0], .int .i64 0], []⟩,
  ⟨[.agg [.int .i64 1, .psl 1 [[.psl 2 [[.int .i64 1, .psl 4 [[.str [97], .str [120], .bool false, .int .i64 1]]], [.int .i64 2, .psl 4 [[.str [98], .str [121], .bool false, .int .i64 2]]]]]], .psl 11 [[.int .i64 0, .psl 1 [[.psl 4 [[.str [98], .str [121], .bool false, .int .i64 2]]], [.psl 4 [[.str [97], .str [120], .bool false, .int .i64 1]]]], .psl 1 [[.int .i64 0], [.int .i64 0]], .psl 2 [[.str [98], .bool false], [.str [97], .bool false]], .psl 1 [[.int .i64 0], [.int .i64 0]], .int .i64 1, .bool false, .str [], .bool true, .nils, .int .i64 0]], .int .i64 3], .int .i64 0], .tup [.agg [.int .i64 1, .psl 1 [[.psl 2 [[.int .i64 1, .psl 4 [[.str [97], .str [120], .bool false, .int .i64 1]]], [.int .i64 2, .psl 4 [[.str [98], .str [121], .bool false, .int .i64 2]]]]]], .psl 11 [[.int .i64 0, .psl 1 [[.psl 4 [[.str [98], .str [121], .bool false, .int .i64 2]]], [.psl 4 [[.str [97], .str [120], .bool false, .int .i64 1]]]], .psl 1 [[.int .i64 0], [.int .i64 0]], .psl 2 [[.str [98], .bool false], [.str [97], .bool false]], .psl 1 [[.int .i64 0], [.int .i64 0]], .int .i64 1, .bool false, .str [], .bool true, .nils, .int .i64 0]], .int .i64 3], .agg [.int .i64 0, .int .i64 0, .int .i64 0, .int .i64 0, .int .i64 0, .int .i64 0, .int .i64 0, .int .i64 0, .int .i64 0, .int .i64 0, .int .i64 0, .int .i64 0, .int .i64 0, .int .i64 0, .int .i64 0], .int .i64 0], []⟩]
def tb212 : List Line := [
  ⟨[.agg [.int .i64 1, .nils, .int .i64 1, .nils, .nils, .int .i64 1], .psl 4 [[.str [97], .str [120], .bool false, .int .i64 1]]], .tup [.agg [.int .i64 1, .slk 0 0 4 0 1 2 true, .int .i64 1, .nils, .nils, .int .i64 1], .int .i64 1, .int .i64 0], [⟨0, true, true, 4, [[.str [97], .str [120], .bool false, .int .i64 1], [.str [], .str [], .bool false, .int .i64 0]], none⟩]⟩,
  ⟨[.agg [.int .i64 1, .psl 4 [[.str [97], .str [120], .bool false, .int .i64 1]], .int .i64 1, .nils, .nils, .int .i64 1], .psl 4 [[.str [98], .str [121], .bool false, .int .i64 2]]], .tup [.agg [.int .i64 1, .slk 1 0 4 0 1 2 true, .int .i64 1, .slk 0 0 1 0 1 1 true, .nils, .int .i64 2], .int .i64 2, .int .i64 0], [⟨0, true, false, 1, [[.psl 2 [[.int .i64 1, .psl 4 [[.str [97], .str [120], .bool false, .int .i64 1]]]]]], none⟩, ⟨0, true, true, 4, [[.str [98], .str [121], .bool false, .int .i64 2], [.str [], .str [], .bool false, .int .i64 0]], none⟩]⟩,
  ⟨[.agg [.int .i64 1, .psl 4 [[.str [98], .str [121], .bool false, .int .i64 2]], .int .i64 1, .psl 1 [[.psl 2 [[.int .i64 1, .psl 4 [[.str [97], .str [120], .bool false, .int .i64 1]]]]]], .nils, .int .i64 2], .psl 4 [[.str [99], .str [122], .bool false, .int .i64 3]]], .tup [.agg [.int .i64 1, .slk 2 0 4 0 1 2 true, .int .i64 1, .slk 1 0 1 0 1 1 true, .sl 0 0 11 0 1, .int .i64 3], .int .i64 2, .int .i64 0], [⟨0, true, false, 11, [[.int .i64 0, .psl 1 [[.psl 4 [[.str [98], .str [121], .bool false, .int .i64 2]]], [.psl 4 [[.str [97], .str [120], .bool false, .int .i64 1]]]], .psl 1 [[.int .i64 0], [.int .i64 0]], .psl 2 [[.str [98], .bool false], [.str [97], .bool false]], .psl 1 [[.int .i64 0], [.int .i64 0]], .int .i64 1, .bool false, .str [], .bool true, .nils, .int .i64 0]], none⟩, ⟨0, true, false, 1, [[.psl 2 [[.int .i64 1, .psl 4 [[.str [97], .str [120], .bool false, .int .i64 1]]], [.int .i64 2, .psl 4 [[.str [98], .str [121], .bool false, .int .i64 2]]]]]], none⟩, ⟨0, true, true, 4, [[.str [99], .str [122], .bool false, .int .i64 3], [.str [], .str [], .bool false, .int .i64 0]], none⟩]⟩,
  ⟨[.agg [.int .i64 1, .psl 4 [[.str [99], .str [122], .bool false, .int .i64 3]], .int .i64 1, .psl 1 [[.psl 2 [[.int .i64 1, .psl 4 [[.str [97], .str [120], .bool false, .int .i64 1]]], [.int .i64 2, .psl 4 [[.str [98], .str [121], .bool false, .int .i64 2]]]]]], .psl 11 [[.int .i64 0, .psl 1 [[.psl 4 [[.str [98], .str [121], .bool false, .int .i64 2]]], [.psl 4 [[.str [97], .str [120], .bool false, .int .i64 1]]]], .psl 1 [[.int .i64 0], [.int .i64 0]], .psl 2 [[.str [98], .bool false], [.str [97], .bool false]], .psl 1 [[.int .i64 0], [.int .i64 0]], .int .i64 1, .bool false, .str [], .bool true, .nils, .int .i64 0]], .int .i64 3], .psl 4 [[.str [97], .str [], .bool true, .int .i64 4]]], .tup [.agg [.int .i64 0, .nils, .int .i64 0, .nils, .nils, .int .i64 0], .int .i64 0, .int .i64 10], []⟩]
def tb277 : List Line := [
  ⟨[.agg [.psl 4 [[.str [99], .str [122], .bool false, .int .i64 3]], .psl 2 [[.int .i64 2, .psl 4 [[.str [98], .str [121], .bool false, .int .i64 2]]], [.int .i64 1, .psl 4 [[.str [97], .str [120], .bool false, .int .i64 1]]]]]], .tup [.int .i64 0, .int .i64 0], []⟩]
def tb23 : List Line := [
  ⟨[.agg [.int .i64 1, .nils, .int .i64 1, .nils, .nils, .int .i64 1, .int .i64 0, .int .i64 16, .nils, .int .i64 16, .nils, .nils, .nils, .nils, .int .i64 0, .int .i64 0, .int .i64 0, .int .i64 0, .int .i64 0, .int .i64 0], .agg [.int .i64 1, .int .i64 0, .str [97], .str [120], .str [], .str [], .bool false, .int .i64 0, .int .i64 0, .int .i64 0, .int .i64 0, .nils]], .tup [.agg [.int .i64 1, .slk 0 0 4 0 1 2 true, .int .i64 1, .nils, .nils, .int .i64 1, .int .i64 1, .int .i64 16, .nils, .int .i64 16, .nils, .nils, .nils, .nils, .int .i64 1, .int .i64 0, .int .i64 0, .int .i64 0, .int .i64 0, .int .i64 0], .agg [.int .i64 0, .str [], .str [], .int .i64 0, .int .i64 0, .int .i64 0, .nils, .int .i64 0, .int .i64 0, .int .i64 0, .int .i64 0, .int .i64 0, .int .i64 0, .int .i64 0, .int .i64 0, .int .i64 0, .int .i64 0, .int .i64 0, .int .i64 0, .int .i64 0, .int .i64 0, .int .i64 0, .int .i64 0, .int .i64 0], .int .i64 0], [⟨0, true, true, 4, [[.str [97], .str [120], .bool false, .int .i64 1], [.str [], .str [], .bool false, .int .i64 0]], none⟩]⟩,
  ⟨[.agg [.int .i64 1, .psl 4 [[.str [97], .str [120], .bool false, .int .i64 1]], .int .i64 1, .nils, .nils, .int .i64 1, .int .i64 1, .int .i64 16, .nils, .int .i64 16, .nils, .nils, .nils, .nils, .int .i64 1, .int .i64 0, .int .i64 0, .int .i64 0, .int .i64 0, .int .i64 0], .agg [.int .i64 1, .int .i64 0, .str [98], .str [121], .str [], .str [], .bool false, .int .i64 0, .int .i64 0, .int .i64 0, .int .i64 0, .nils]], .tup [.agg [.int .i64 1, .slk 1 0 4 0 1 2 true, .int .i64 1, .slk 0 0 1 0 1 1 true, .nils, .int .i64 2, .int .i64 2, .int .i64 16, .nils, .int .i64 16, .nils, .nils, .nils, .nils, .int .i64 2, .int .i64 0, .int .i64 1, .int .i64 0, .int .i64 0, .int .i64 0], .agg [.int .i64 0, .str [], .str [], .int .i64 0, .int .i64 0, .int .i64 0, .nils, .int .i64 0, .int .i64 0, .int .i64 0, .int .i64 0, .int .i64 0, .int .i64 0, .int .i64 0, .int .i64 0, .int .i64 0, .int .i64 0, .int .i64 0, .int .i64 0, .int .i64 0, .int .i64 0, .int .i64 0, .int .i64 0, .int .i64 0], .int .i64 0], [⟨0, true, false, 1, [[.psl 2 [[.int .i64 1, .psl 4 [[.str [97], .str [120], .bool false, .int .i64 1]]]]]], none⟩, ⟨0, true, true, 4, [[.str [98], .str [121], .bool false, .int .i64 2], [.str [], .str [], .bool false, .int .i64 0]], none⟩]⟩,
  ⟨[.agg [.int .i64 1, .psl 4 [[.str [98], .str [121], .bool false, .int .i64 2]], .int .i64 1, .psl 1 [[.psl 2 [[.int .i64 1, .psl 4 [[.str [97], .str [120], .bool false, .int .i64 1]]]]]], .nils, .int .i64 2, .int .i64 2, .int .i64 16, .nils, .int .i64 16, .nils, .nils, .nils, .nils, .int .i64 2, .int .i64 0, .int .i64 1, .int .i64 0, .int .i64 0, .int .i64 0], .agg [.int .i64 1, .int .i64 0, .str [99], .str [122], .str [], .str [], .bool false, .int .i64 0, .int .i64 0, .int .i64 0, .int .i64 0, .nils]], .tup [.agg [.int .i64 1, .slk 2 0 4 0 1 2 true, .int .i64 1, .slk 1 0 1 0 1 1 true, .sl 0 0 11 0 1, .int .i64 3, .int .i64 3, .int .i64 16, .nils, .int .i64 16, .nils, .nils, .nils, .nils, .int .i64 3, .int .i64 0, .int .i64 2, .int .i64 0, .int .i64 0, .int .i64 0], .agg [.int .i64 0, .str [], .str [], .int .i64 0, .int .i64 0, .int .i64 0, .nils, .int .i64 0, .int .i64 0, .int .i64 0, .int .i64 0, .int .i64 0, .int .i64 0, .int .i64 0, .int .i64 0, .int .i64 0, .int .i64 0, .int .i64 0, .int .i64 0, .int .i64 0, .int .i64 0, .int .i64 0, .int .i64 0, .int .i64 0], .int .i64 0], [⟨0, true, false, 11, [[.int .i64 0, .psl 1 [[.psl 4 [[.str [98], .str [121], .bool false, .int .i64 2]]], [.psl 4 [[.str [97], .str [120], .bool false, .int .i64 1]]]], .psl 1 [[.int .i64 0], [.int .i64 0]], .psl 2 [[.str [98], .bool false], [.str [97], .bool false]], .psl 1 [[.int .i64 0], [.int .i64 0]], .int .i64 1, .bool false, .str [], .bool true, .nils, .int .i64 0]], none⟩, ⟨0, true, false, 1, [[.psl 2 [[.int .i64 1, .psl 4 [[.str [97], .str [120], .bool false, .int .i64 1]]], [.int .i64 2, .psl 4 [[.str [98], .str [121], .bool false, .int .i64 2]]]]]], none⟩, ⟨0, true, true, 4, [[.str [99], .str [122], .bool false, .int .i64 3], [.str [], .str [], .bool false, .int .i64 0]], none⟩]⟩,
  ⟨[.agg [.int .i64 1, .psl 4 [[.str [99], .str [122], .bool false, .int .i64 3]], .int .i64 1, .psl 1 [[.psl 2 [[.int .i64 1, .psl 4 [[.str [97], .str [120], .bool false, .int .i64 1]]], [.int .i64 2, .psl 4 [[.str [98], .str [121], .bool false, .int .i64 2]]]]]], .psl 11 [[.int .i64 0, .psl 1 [[.psl 4 [[.str [98], .str [121], .bool false, .int .i64 2]]], [.psl 4 [[.str [97], .str [120], .bool false, .int .i64 1]]]], .psl 1 [[.int .i64 0], [.int .i64 0]], .psl 2 [[.str [98], .bool false], [.str [97], .bool false]], .psl 1 [[.int .i64 0], [.int .i64 0]], .int .i64 1, .bool false, .str [], .bool true, .nils, .int .i64 0]], .int .i64 3, .int .i64 3, .int .i64 16, .nils, .int .i64 16, .nils, .nils, .nils, .nils, .int .i64 3, .int .i64 0, .int .i64 2, .int .i64 0, .int .i64 0, .int .i64 0], .agg [.int .i64 2, .int .i64 0, .str [97], .str [], .str [], .str [], .bool false, .int .i64 0, .int .i64 0, .int .i64 0, .int .i64 0, .nils]], .tup [.agg [.int .i64 1, .psl 4 [[.str [99], .str [122], .bool false, .int .i64 3]], .int .i64 1, .psl 1 [[.psl 2 [[.int .i64 1, .psl 4 [[.str [97], .str [120], .bool false, .int .i64 1]]], [.int .i64 2, .psl 4 [[.str [98], .str [121], .bool false, .int .i64 2]]]]]], .psl 11 [[.int .i64 0, .psl 1 [[.psl 4 [[.str [98], .str [121], .bool false, .int .i64 2]]], [.psl 4 [[.str [97], .str [120], .bool false, .int .i64 1]]]], .psl 1 [[.int .i64 0], [.int .i64 0]], .psl 2 [[.str [98], .bool false], [.str [97], .bool false]], .psl 1 [[.int .i64 0], [.int .i64 0]], .int .i64 1, .bool false, .str [], .bool true, .nils, .int .i64 0]], .int .i64 3, .int .i64 3, .int .i64 16, .nils, .int .i64 16, .nils, .nils, .nils, .nils, .int .i64 3, .int .i64 1, .int .i64 2, .int .i64 0, .int .i64 0, .int .i64 0], .agg [.int .i64 10, .str [], .str [], .int .i64 0, .int .i64 0, .int .i64 0, .nils, .int .i64 0, .int .i64 0, .int .i64 0, .int .i64 0, .int .i64 0, .int .i64 0, .int .i64 0, .int .i64 0, .int .i64 0, .int .i64 0, .int .i64 0, .int .i64 0, .int .i64 0, .int .i64 0, .int .i64 0, .int .i64 0, .int .i64 0], .int .i64 0], []⟩,
  ⟨[.agg [.int .i64 1, .psl 4 [[.str [99], .str [122], .bool false, .int .i64 3]], .int .i64 1, .psl 1 [[.psl 2 [[.int .i64 1, .psl 4 [[.str [97], .str [120], .bool false, .int .i64 1]]], [.int .i64 2, .psl 4 [[.str [98], .str [121], .bool false, .int .i64 2]]]]]], .psl 11 [[.int .i64 0, .psl 1 [[.psl 4 [[.str [98], .str [121], .bool false, .int .i64 2]]], [.psl 4 [[.str [97], .str [120], .bool false, .int .i64 1]]]], .psl 1 [[.int .i64 0], [.int .i64 0]], .psl 2 [[.str [98], .bool false], [.str [97], .bool false]], .psl 1 [[.int .i64 0], [.int .i64 0]], .int .i64 1, .bool false, .str [], .bool true, .nils, .int .i64 0]], .int .i64 3, .int .i64 3, .int .i64 16, .nils, .int .i64 16, .nils, .nils, .nils, .nils, .int .i64 3, .int .i64 1, .int .i64 2, .int .i64 0, .int .i64 0, .int .i64 0], .agg [.int .i64 4, .int .i64 0, .str [97], .str [], .str [], .str [], .bool false, .int .i64 0, .int .i64 0, .int .i64 0, .int .i64 0, .nils]], .tup [.agg [.int .i64 1, .psl 4 [[.str [99], .str [122], .bool false, .int .i64 3]], .int .i64 1, .psl 1 [[.psl 2 [[.int .i64 1, .psl 4 [[.str [97], .str [120], .bool false, .int .i64 1]]], [.int .i64 2, .psl 4 [[.str [98], .str [121], .bool false, .int .i64 2]]]]]], .psl 11 [[.int .i64 0, .psl 1 [[.psl 4 [[.str [98], .str [121], .bool false, .int .i64 2]]], [.psl 4 [[.str [97], .str [120], .bool false, .int .i64 1]]]], .psl 1 [[.int .i64 0], [.int .i64 0]], .psl 2 [[.str [98], .bool false], [.str [97], .bool false]], .psl 1 [[.int .i64 0], [.int .i64 0]], .int .i64 1, .bool false, .str [], .bool true, .nils, .int .i64 0]], .int .i64 3, .int .i64 3, .int .i64 16, .nils, .int .i64 16, .nils, .nils, .nils, .nils, .int .i64 3, .int .i64 1, .int .i64 2, .int .i64 0, .int .i64 0, .int .i64 0], .agg [.int .i64 0, .str [], .str [120], .int .i64 0, .int .i64 0, .int .i64 0, .nils, .int .i64 0, .int .i64 0, .int .i64 0, .int .i64 0, .int .i64 0, .int .i64 0, .int .i64 0, .int .i64 0, .int .i64 0, .int .i64 0, .int .i64 0, .int .i64 0, .int .i64 0, .int .i64 0, .int .i64 0, .int .i64 0, .int .i64 0], .int .i64 0], []⟩]
def tb166 : List Line := [
  ⟨[.agg [.int .i64 1, .psl 4 [[.str [99], .str [122], .bool false, .int .i64 3]], .int .i64 1, .psl 1 [[.psl 2 [[.int .i64 1, .psl 4 [[.str [97], .str [120], .bool false, .int .i64 1]]], [.int .i64 2, .psl 4 [[.str [98], .str [121], .bool false, .int .i64 2]]]]]], .psl 11 [[.int .i64 0, .psl 1 [[.psl 4 [[.str [98], .str [121], .bool false, .int .i64 2]]], [.psl 4 [[.str [97], .str [120], .bool false, .int .i64 1]]]], .psl 1 [[.int .i64 0], [.int .i64 0]], .psl 2 [[.str [98], .bool false], [.str [97], .bool false]], .psl 1 [[.int .i64 0], [.int .i64 0]], .int .i64 1, .bool false, .str [], .bool true, .nils, .int .i64 0]], .int .i64 3, .int .i64 3, .int .i64 16, .nils, .int .i64 16, .nils, .nils, .nils, .nils, .int .i64 3, .int .i64 1, .int .i64 2, .int .i64 0, .int .i64 0, .int .i64 0]], .tup [.sl 0 0 5 0 1, .int .i64 0], [⟨0, true, true, 5, [[.int .i64 2, .int .i64 2, .int .i64 0, .bool true, .int .i64 2]], none⟩]⟩]
def tb4 : List Line := [
  ⟨[], .bool true, []⟩]
section
variable (ad off : Nat → Nat)
theorem ck32 : @linesB (adrOf ad off) Tryz.prog base0 32 tb32 = true := by kernel_rfl
noncomputable def cn32 : Cons := conT 32 tb32 base0
theorem ck10 : @linesB (adrOf ad off) Tryz.prog cn32 10 tb10 = true := by kernel_rfl
noncomputable def cn10 : Cons := conT 10 tb10 cn32
theorem ck11 : @linesB (adrOf ad off) Tryz.prog cn10 11 tb11 = true := by kernel_rfl
noncomputable def cn11 : Cons := conT 11 tb11 cn10
theorem ck46 : @linesB (adrOf ad off) Tryz.prog cn11 46 tb46 = true := by kernel_rfl
noncomputable def cn46 : Cons := conT 46 tb46 cn11
theorem ck22 : @linesB (adrOf ad off) Tryz.prog cn46 22 tb22 = true := by kernel_rfl
noncomputable def cn22 : Cons := conT 22 tb22 cn46
theorem ck309 : @linesB (adrOf ad off) Tryz.prog cn22 309 tb309 = true := by kernel_rfl
noncomputable def cn309 : Cons := conT 309 tb309 cn22
theorem ck96 : @linesB (adrOf ad off) Tryz.prog cn309 96 tb96 = true := by kernel_rfl
noncomputable def cn96 : Cons := conT 96 tb96 cn309
theorem ck373 : @linesB (adrOf ad off) Tryz.prog cn96 373 tb373 = true := by kernel_rfl
noncomputable def cn373 : Cons := conT 373 tb373 cn96
theorem ck340 : @linesB (adrOf ad off) Tryz.prog cn373 340 tb340 = true := by kernel_rfl
noncomputable def cn340 : Cons := conT 340 tb340 cn373
theorem ck521 : @linesB (adrOf ad off) Tryz.prog cn340 521 tb521 = true := by kernel_rfl
noncomputable def cn521 : Cons := conT 521 tb521 cn340
theorem ck448 : @linesB (adrOf ad off) Tryz.prog cn521 448 tb448 = true := by kernel_rfl
noncomputable def cn448 : Cons := conT 448 tb448 cn521
theorem ck235 : @linesB (adrOf ad off) Tryz.prog cn448 235 tb235 = true := by kernel_rfl
noncomputable def cn235 : Cons := conT 235 tb235 cn448
theorem ck95 : @linesB (adrOf ad off) Tryz.prog cn235 95 tb95 = true := by kernel_rfl
noncomputable def cn95 : Cons := conT 95 tb95 cn235
theorem ck47 : @linesB (adrOf ad off) Tryz.prog cn95 47 tb47 = true := by kernel_rfl
noncomputable def cn47 : Cons := conT 47 tb47 cn95
theorem ck50 : @linesB (adrOf ad off) Tryz.prog cn47 50 tb50 = true := by kernel_rfl
noncomputable def cn50 : Cons := conT 50 tb50 cn47
theorem ck212 : @linesB (adrOf ad off) Tryz.prog cn50 212 tb212 = true := by kernel_rfl
noncomputable def cn212 : Cons := conT 212 tb212 cn50
theorem ck277 : @linesB (adrOf ad off) Tryz.prog cn212 277 tb277 = true := by kernel_rfl
noncomputable def cn277 : Cons := conT 277 tb277 cn212
theorem ck23 : @linesB (adrOf ad off) Tryz.prog cn277 23 tb23 = true := by kernel_rfl
noncomputable def cn23 : Cons := conT 23 tb23 cn277
theorem ck166 : @linesB (adrOf ad off) Tryz.prog cn23 166 tb166 = true := by kernel_rfl
noncomputable def cn166 : Cons := conT 166 tb166 cn23
theorem ck4 : @linesB (adrOf ad off) Tryz.prog cn166 4 tb4 = true := by kernel_rfl
noncomputable def cn4 : Cons := conT 4 tb4 cn166
theorem ckLast (x : List UInt8) : @lineB (adrOf ad off) Tryz.prog cn4 3 ⟨[.strb 18446744073709551615 x], .bool true, []⟩ = true := by kernel_rfl
theorem PCall_str [Adr] {P : Program} {f : FuncId} {x : List UInt8} {n : Nat} {r : AV} {k : List ABlk} (hx : x.length ≤ n) (h : PCall P f [.strb n x] r k) : PCall P f [.str x] r k :=
  ⟨h.1, fun w F vs h1 h2 h3 => h.2 w F vs h1 h2 (by simp only [VRels, VRel] at h3 ⊢; obtain ⟨v, _, rfl, hv, rfl⟩ := h3; exact ⟨v, _, rfl, ⟨hv, hx⟩, rfl⟩)⟩
theorem ranAll (hP : POk Tryz.prog) (h0 : @COk (adrOf ad off) Tryz.prog base0) (x : List UInt8) (hx : x.length ≤ 18446744073709551615) : @PCall (adrOf ad off) Tryz.prog 3 [.str x] (.bool true) [] := by
  letI : Adr := adrOf ad off
  have h1 : COk Tryz.prog cn32 := conT_run hP h0 (ck32 ad off)
  have h2 : COk Tryz.prog cn10 := conT_run hP h1 (ck10 ad off)
  have h3 : COk Tryz.prog cn11 := conT_run hP h2 (ck11 ad off)
  have h4 : COk Tryz.prog cn46 := conT_run hP h3 (ck46 ad off)
  have h5 : COk Tryz.prog cn22 := conT_run hP h4 (ck22 ad off)
  have h6 : COk Tryz.prog cn309 := conT_run hP h5 (ck309 ad off)
  have h7 : COk Tryz.prog cn96 := conT_run hP h6 (ck96 ad off)
  have h8 : COk Tryz.prog cn373 := conT_run hP h7 (ck373 ad off)
  have h9 : COk Tryz.prog cn340 := conT_run hP h8 (ck340 ad off)
  have h10 : COk Tryz.prog cn521 := conT_run hP h9 (ck521 ad off)
  have h11 : COk Tryz.prog cn448 := conT_run hP h10 (ck448 ad off)
  have h12 : COk Tryz.prog cn235 := conT_run hP h11 (ck235 ad off)
  have h13 : COk Tryz.prog cn95 := conT_run hP h12 (ck95 ad off)
  have h14 : COk Tryz.prog cn47 := conT_run hP h13 (ck47 ad off)
  have h15 : COk Tryz.prog cn50 := conT_run hP h14 (ck50 ad off)
  have h16 : COk Tryz.prog cn212 := conT_run hP h15 (ck212 ad off)
  have h17 : COk Tryz.prog cn277 := conT_run hP h16 (ck277 ad off)
  have h18 : COk Tryz.prog cn23 := conT_run hP h17 (ck23 ad off)
  have h19 : COk Tryz.prog cn166 := conT_run hP h18 (ck166 ad off)
  have h20 : COk Tryz.prog cn4 := conT_run hP h19 (ck4 ad off)
  exact PCall_str hx (lineB_ok hP h20 (ckLast ad off x))
end
end Go.AM
