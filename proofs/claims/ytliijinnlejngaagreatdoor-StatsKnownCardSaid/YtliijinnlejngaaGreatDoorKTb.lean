/- A text of the proof. -/
import Derived.Test.YtliijinnlejngaaGreatDoorProg
import Derived.Test.YtliijinnlejngaaGreatDoorKAmZv
import Derived.KernelRfl
set_option linter.unusedSimpArgs false
set_option linter.unusedVariables false
namespace Go.AM
open Go Go.Proofs
noncomputable def asG (P : Program) : List AV → Cs → Option (AV × Cs)
  | [.iface 117 (.agg [c]), .iface 124 (.ref b g i j)], s => match aStore P 117 (.ref b g i j) (.agg [c]) s.hp.get with
    | some (b', blk) => some (.bool true, { s with hp := s.hp.put b' blk })
    | none => none
  | _, _ => none
def isG : List AV → Cs → Option (AV × Cs)
  | [.iface 581 (.gp k o _), .iface 581 (.gp k' o' _)], s => match Nat.beq k k' with
    | true => match Nat.beq o o' with
      | true => some (.bool true, s)
      | false => none
    | false => none
  | _, _ => none
noncomputable def base0 : Cons := fun f => match Nat.beq f 31 with
  | true => some (.inp (asG Tryz.prog))
  | false => match Nat.beq f 33 with
    | true => some (.inp isG)
    | false => none
def glT : Nat → AV
  | 0 => .gp 0 0 [.iface 581 (.gp 1256 0 [.str [98, 117, 115, 121]])]
  | 1 => .gp 1 0 [.iface 277 (.agg [.gp 999 119 []])]
  | 2 => .gp 2 0 [.str [], .str [], .str [112, 117, 116], .str [107, 118], .str [100, 101, 108], .str [107], .str [98, 97, 116, 99, 104], .str [119], .str [103, 101, 116], .str [104, 107], .str [102, 108, 111, 111, 114], .str [104, 107], .str [99, 101, 105, 108, 105, 110, 103], .str [104, 107], .str [99, 111, 117, 110, 116], .str [104, 114], .str [112, 105, 110], .str [], .str [117, 110, 112, 105, 110], .str [104], .str [111, 112, 101, 110], .str [104, 114], .str [110, 101, 120, 116], .str [104], .str [112, 114, 101, 118], .str [104], .str [115, 104, 117, 116], .str [104], .str [100, 105, 102, 102], .str [104, 111], .str [119, 111, 114, 107], .str [], .str [99, 111, 109, 112, 97, 99, 116], .str [], .str [115, 116, 97, 116, 115], .str []]
  | 3 => .gp 3 0 [.iface 581 (.gp 1200 0 [.str [115, 101, 116, 116, 108, 101, 100]])]
  | 4 => .gp 4 0 []
  | _ => .top
@[reducible] def adrOf (ad off : Nat → Nat) : Adr := ⟨ad, off, glT⟩
def tb138 : List Line := [
  ⟨[.agg [.int .i64 1, .nils]], .tup [.int .i64 0, .int .i64 0], []⟩,
  ⟨[.agg [.int .i64 1, .psl 4 [[.str [97], .str [120], .bool false, .int .i64 1]]]], .tup [.int .i64 0, .int .i64 0], []⟩,
  ⟨[.agg [.int .i64 1, .psl 4 [[.str [98], .str [121], .bool false, .int .i64 2]]]], .tup [.int .i64 0, .int .i64 0], []⟩,
  ⟨[.agg [.int .i64 1, .psl 4 [[.str [99], .str [122], .bool false, .int .i64 3]]]], .tup [.int .i64 0, .int .i64 0], []⟩]
def tb36 : List Line := [
  ⟨[.agg [.int .i64 16, .nils, .int .i64 16, .nils, .nils, .nils]], .int .i64 0, []⟩]
def tb145 : List Line := [
  ⟨[.psl 4 [[.str [97], .str [120], .bool false, .int .i64 1]]], .tup [.int .i64 0, .int .i64 0], []⟩,
  ⟨[.psl 4 [[.str [98], .str [121], .bool false, .int .i64 2]]], .tup [.int .i64 0, .int .i64 0], []⟩,
  ⟨[.psl 4 [[.str [99], .str [122], .bool false, .int .i64 3]]], .tup [.int .i64 0, .int .i64 0], []⟩]
def tb155 : List Line := [
  ⟨[.agg [.int .i64 1, .nils]], .tup [.int .i64 0, .int .i64 0, .int .i64 0], []⟩,
  ⟨[.agg [.int .i64 1, .psl 1 [[.psl 2 [[.int .i64 1, .psl 4 [[.str [97], .str [120], .bool false, .int .i64 1]]]]]]]], .tup [.int .i64 0, .int .i64 0, .int .i64 0], []⟩,
  ⟨[.agg [.int .i64 1, .psl 1 [[.psl 2 [[.int .i64 1, .psl 4 [[.str [97], .str [120], .bool false, .int .i64 1]]], [.int .i64 2, .psl 4 [[.str [98], .str [121], .bool false, .int .i64 2]]]]]]]], .tup [.int .i64 0, .int .i64 0, .int .i64 0], []⟩]
def tb96 : List Line := [
  ⟨[.agg [.psl 4 [[.str [98], .str [121], .bool false, .int .i64 2]], .psl 2 [[.int .i64 1, .psl 4 [[.str [97], .str [120], .bool false, .int .i64 1]]]]]], .tup [.int .i64 0, .int .i64 0], []⟩,
  ⟨[.agg [.psl 4 [[.str [99], .str [122], .bool false, .int .i64 3]], .psl 2 [[.int .i64 2, .psl 4 [[.str [98], .str [121], .bool false, .int .i64 2]]], [.int .i64 1, .psl 4 [[.str [97], .str [120], .bool false, .int .i64 1]]]]]], .tup [.int .i64 0, .int .i64 0], []⟩]
def tb99 : List Line := [
  ⟨[.agg [.psl 4 [[.str [98], .str [121], .bool false, .int .i64 2]], .psl 2 [[.int .i64 1, .psl 4 [[.str [97], .str [120], .bool false, .int .i64 1]]]]]], .sl 0 1 2 0 2, [⟨1, true, true, 2, [[.str [97], .str [120]], [.str [98], .str [121]]]⟩]⟩,
  ⟨[.agg [.psl 4 [[.str [99], .str [122], .bool false, .int .i64 3]], .psl 2 [[.int .i64 2, .psl 4 [[.str [98], .str [121], .bool false, .int .i64 2]]], [.int .i64 1, .psl 4 [[.str [97], .str [120], .bool false, .int .i64 1]]]]]], .sl 0 2 2 0 3, [⟨2, true, true, 2, [[.str [97], .str [120]], [.str [98], .str [121]], [.str [99], .str [122]]]⟩]⟩]
def tb15 : List Line := [
  ⟨[.agg [.psl 4 [[.str [98], .str [121], .bool false, .int .i64 2]], .psl 2 [[.int .i64 1, .psl 4 [[.str [97], .str [120], .bool false, .int .i64 1]]]]], .agg [.str [], .str [], .bool false]], .tup [.int .i64 2, .int .i64 0], []⟩,
  ⟨[.agg [.psl 4 [[.str [99], .str [122], .bool false, .int .i64 3]], .psl 2 [[.int .i64 2, .psl 4 [[.str [98], .str [121], .bool false, .int .i64 2]]], [.int .i64 1, .psl 4 [[.str [97], .str [120], .bool false, .int .i64 1]]]]], .agg [.str [], .str [], .bool false]], .tup [.int .i64 3, .int .i64 0], []⟩]
def tb222 : List Line := [
  ⟨[.agg [.psl 1 [[.psl 4 [[.str [98], .str [121], .bool false, .int .i64 2]]], [.psl 4 [[.str [97], .str [120], .bool false, .int .i64 1]]]], .psl 1 [[.int .i64 0], [.int .i64 0]], .psl 2 [[.str [98], .bool false], [.str [97], .bool false]], .psl 1 [[.int .i64 0], [.int .i64 0]], .int .i64 1]], .tup [.int .i64 0, .int .i64 0], []⟩]
def tb167 : List Line := [
  ⟨[.agg [.psl 1 [[.psl 4 [[.str [98], .str [121], .bool false, .int .i64 2]]], [.psl 4 [[.str [97], .str [120], .bool false, .int .i64 1]]]], .psl 1 [[.int .i64 0], [.int .i64 0]], .psl 2 [[.str [98], .bool false], [.str [97], .bool false]], .psl 1 [[.int .i64 0], [.int .i64 0]], .int .i64 1, .bool false, .str [], .bool true, .nils, .int .i64 0]], .int .i64 0, []⟩]
def tb101 : List Line := [
  ⟨[.agg [.int .i64 1, .nils, .nils, .int .i64 1]], .tup [.int .i64 0, .int .i64 0], []⟩,
  ⟨[.agg [.int .i64 1, .psl 1 [[.psl 2 [[.int .i64 1, .psl 4 [[.str [97], .str [120], .bool false, .int .i64 1]]]]]], .nils, .int .i64 2]], .tup [.int .i64 0, .int .i64 0], []⟩,
  ⟨[.agg [.int .i64 1, .psl 1 [[.psl 2 [[.int .i64 1, .psl 4 [[.str [97], .str [120], .bool false, .int .i64 1]]], [.int .i64 2, .psl 4 [[.str [98], .str [121], .bool false, .int .i64 2]]]]]], .psl 11 [[.int .i64 0, .psl 1 [[.psl 4 [[.str [98], .str [121], .bool false, .int .i64 2]]], [.psl 4 [[.str [97], .str [120], .bool false, .int .i64 1]]]], .psl 1 [[.int .i64 0], [.int .i64 0]], .psl 2 [[.str [98], .bool false], [.str [97], .bool false]], .psl 1 [[.int .i64 0], [.int .i64 0]], .int .i64 1, .bool false, .str [], .bool true, .nils, .int .i64 0]], .int .i64 3]], .tup [.int .i64 0, .int .i64 0], []⟩]
def tb35 : List Line := [
  ⟨[.agg [.int .i64 1, .nils, .int .i64 1, .nils, .nils, .int .i64 1]], .int .i64 0, []⟩,
  ⟨[.agg [.int .i64 1, .psl 4 [[.str [97], .str [120], .bool false, .int .i64 1]], .int .i64 1, .nils, .nils, .int .i64 1]], .int .i64 0, []⟩,
  ⟨[.agg [.int .i64 1, .psl 4 [[.str [98], .str [121], .bool false, .int .i64 2]], .int .i64 1, .psl 1 [[.psl 2 [[.int .i64 1, .psl 4 [[.str [97], .str [120], .bool false, .int .i64 1]]]]]], .nils, .int .i64 2]], .int .i64 0, []⟩,
  ⟨[.agg [.int .i64 1, .psl 4 [[.str [99], .str [122], .bool false, .int .i64 3]], .int .i64 1, .psl 1 [[.psl 2 [[.int .i64 1, .psl 4 [[.str [97], .str [120], .bool false, .int .i64 1]]], [.int .i64 2, .psl 4 [[.str [98], .str [121], .bool false, .int .i64 2]]]]]], .psl 11 [[.int .i64 0, .psl 1 [[.psl 4 [[.str [98], .str [121], .bool false, .int .i64 2]]], [.psl 4 [[.str [97], .str [120], .bool false, .int .i64 1]]]], .psl 1 [[.int .i64 0], [.int .i64 0]], .psl 2 [[.str [98], .bool false], [.str [97], .bool false]], .psl 1 [[.int .i64 0], [.int .i64 0]], .int .i64 1, .bool false, .str [], .bool true, .nils, .int .i64 0]], .int .i64 3]], .int .i64 0, []⟩]
def tb10 : List Line := [
  ⟨[.agg [.int .i64 1, .nils, .int .i64 1, .nils, .nils, .int .i64 1, .int .i64 0, .int .i64 16, .nils, .int .i64 16, .nils, .nils, .nils, .nils, .int .i64 0, .int .i64 0, .int .i64 0, .int .i64 0, .int .i64 0, .int .i64 0]], .int .i64 0, []⟩,
  ⟨[.agg [.int .i64 1, .psl 4 [[.str [97], .str [120], .bool false, .int .i64 1]], .int .i64 1, .nils, .nils, .int .i64 1, .int .i64 1, .int .i64 16, .nils, .int .i64 16, .nils, .nils, .nils, .nils, .int .i64 1, .int .i64 0, .int .i64 0, .int .i64 0, .int .i64 0, .int .i64 0]], .int .i64 0, []⟩,
  ⟨[.agg [.int .i64 1, .psl 4 [[.str [98], .str [121], .bool false, .int .i64 2]], .int .i64 1, .psl 1 [[.psl 2 [[.int .i64 1, .psl 4 [[.str [97], .str [120], .bool false, .int .i64 1]]]]]], .nils, .int .i64 2, .int .i64 2, .int .i64 16, .nils, .int .i64 16, .nils, .nils, .nils, .nils, .int .i64 2, .int .i64 0, .int .i64 1, .int .i64 0, .int .i64 0, .int .i64 0]], .int .i64 0, []⟩,
  ⟨[.agg [.int .i64 1, .psl 4 [[.str [99], .str [122], .bool false, .int .i64 3]], .int .i64 1, .psl 1 [[.psl 2 [[.int .i64 1, .psl 4 [[.str [97], .str [120], .bool false, .int .i64 1]]], [.int .i64 2, .psl 4 [[.str [98], .str [121], .bool false, .int .i64 2]]]]]], .psl 11 [[.int .i64 0, .psl 1 [[.psl 4 [[.str [98], .str [121], .bool false, .int .i64 2]]], [.psl 4 [[.str [97], .str [120], .bool false, .int .i64 1]]]], .psl 1 [[.int .i64 0], [.int .i64 0]], .psl 2 [[.str [98], .bool false], [.str [97], .bool false]], .psl 1 [[.int .i64 0], [.int .i64 0]], .int .i64 1, .bool false, .str [], .bool true, .nils, .int .i64 0]], .int .i64 3, .int .i64 3, .int .i64 16, .nils, .int .i64 16, .nils, .nils, .nils, .nils, .int .i64 3, .int .i64 0, .int .i64 2, .int .i64 0, .int .i64 0, .int .i64 3]], .int .i64 0, []⟩,
  ⟨[.agg [.int .i64 1, .psl 4 [[.str [99], .str [122], .bool false, .int .i64 3]], .int .i64 1, .psl 1 [[.psl 2 [[.int .i64 1, .psl 4 [[.str [97], .str [120], .bool false, .int .i64 1]]], [.int .i64 2, .psl 4 [[.str [98], .str [121], .bool false, .int .i64 2]]]]]], .psl 11 [[.int .i64 0, .psl 1 [[.psl 4 [[.str [98], .str [121], .bool false, .int .i64 2]]], [.psl 4 [[.str [97], .str [120], .bool false, .int .i64 1]]]], .psl 1 [[.int .i64 0], [.int .i64 0]], .psl 2 [[.str [98], .bool false], [.str [97], .bool false]], .psl 1 [[.int .i64 0], [.int .i64 0]], .int .i64 1, .bool false, .str [], .bool true, .nils, .int .i64 0]], .int .i64 3, .int .i64 3, .int .i64 16, .nils, .int .i64 16, .nils, .nils, .nils, .nils, .int .i64 3, .int .i64 1, .int .i64 2, .int .i64 0, .int .i64 0, .int .i64 3]], .int .i64 0, []⟩]
def tb116 : List Line := [
  ⟨[.agg [.int .i64 1, .nils, .int .i64 1, .nils, .nils, .int .i64 1], .psl 4 [[.str [97], .str [120], .bool false, .int .i64 1]]], .tup [.agg [.int .i64 1, .slk 0 0 4 0 1 2 true, .int .i64 1, .nils, .nils, .int .i64 1], .int .i64 1, .int .i64 0], [⟨0, true, true, 4, [[.str [97], .str [120], .bool false, .int .i64 1], [.str [], .str [], .bool false, .int .i64 0]]⟩]⟩,
  ⟨[.agg [.int .i64 1, .psl 4 [[.str [97], .str [120], .bool false, .int .i64 1]], .int .i64 1, .nils, .nils, .int .i64 1], .psl 4 [[.str [98], .str [121], .bool false, .int .i64 2]]], .tup [.agg [.int .i64 1, .slk 1 0 4 0 1 2 true, .int .i64 1, .slk 0 0 1 0 1 1 true, .nils, .int .i64 2], .int .i64 2, .int .i64 0], [⟨0, true, false, 1, [[.psl 2 [[.int .i64 1, .psl 4 [[.str [97], .str [120], .bool false, .int .i64 1]]]]]]⟩, ⟨0, true, true, 4, [[.str [98], .str [121], .bool false, .int .i64 2], [.str [], .str [], .bool false, .int .i64 0]]⟩]⟩,
  ⟨[.agg [.int .i64 1, .psl 4 [[.str [98], .str [121], .bool false, .int .i64 2]], .int .i64 1, .psl 1 [[.psl 2 [[.int .i64 1, .psl 4 [[.str [97], .str [120], .bool false, .int .i64 1]]]]]], .nils, .int .i64 2], .psl 4 [[.str [99], .str [122], .bool false, .int .i64 3]]], .tup [.agg [.int .i64 1, .slk 2 0 4 0 1 2 true, .int .i64 1, .slk 1 0 1 0 1 1 true, .sl 0 0 11 0 1, .int .i64 3], .int .i64 2, .int .i64 0], [⟨0, true, false, 11, [[.int .i64 0, .psl 1 [[.psl 4 [[.str [98], .str [121], .bool false, .int .i64 2]]], [.psl 4 [[.str [97], .str [120], .bool false, .int .i64 1]]]], .psl 1 [[.int .i64 0], [.int .i64 0]], .psl 2 [[.str [98], .bool false], [.str [97], .bool false]], .psl 1 [[.int .i64 0], [.int .i64 0]], .int .i64 1, .bool false, .str [], .bool true, .nils, .int .i64 0]]⟩, ⟨0, true, false, 1, [[.psl 2 [[.int .i64 1, .psl 4 [[.str [97], .str [120], .bool false, .int .i64 1]]], [.int .i64 2, .psl 4 [[.str [98], .str [121], .bool false, .int .i64 2]]]]]]⟩, ⟨0, true, true, 4, [[.str [99], .str [122], .bool false, .int .i64 3], [.str [], .str [], .bool false, .int .i64 0]]⟩]⟩,
  ⟨[.agg [.int .i64 1, .psl 4 [[.str [99], .str [122], .bool false, .int .i64 3]], .int .i64 1, .psl 1 [[.psl 2 [[.int .i64 1, .psl 4 [[.str [97], .str [120], .bool false, .int .i64 1]]], [.int .i64 2, .psl 4 [[.str [98], .str [121], .bool false, .int .i64 2]]]]]], .psl 11 [[.int .i64 0, .psl 1 [[.psl 4 [[.str [98], .str [121], .bool false, .int .i64 2]]], [.psl 4 [[.str [97], .str [120], .bool false, .int .i64 1]]]], .psl 1 [[.int .i64 0], [.int .i64 0]], .psl 2 [[.str [98], .bool false], [.str [97], .bool false]], .psl 1 [[.int .i64 0], [.int .i64 0]], .int .i64 1, .bool false, .str [], .bool true, .nils, .int .i64 0]], .int .i64 3], .psl 4 [[.str [97], .str [], .bool true, .int .i64 4]]], .tup [.agg [.int .i64 0, .nils, .int .i64 0, .nils, .nils, .int .i64 0], .int .i64 0, .int .i64 10], []⟩]
def tb9 : List Line := [
  ⟨[.agg [.int .i64 1, .nils, .int .i64 1, .nils, .nils, .int .i64 1, .int .i64 0, .int .i64 16, .nils, .int .i64 16, .nils, .nils, .nils, .nils, .int .i64 0, .int .i64 0, .int .i64 0, .int .i64 0, .int .i64 0, .int .i64 0], .agg [.int .i64 1, .int .i64 0, .str [97], .str [120], .str [], .str [], .bool false, .int .i64 0, .int .i64 0, .int .i64 0, .int .i64 0, .nils]], .tup [.agg [.int .i64 1, .slk 0 0 4 0 1 2 true, .int .i64 1, .nils, .nils, .int .i64 1, .int .i64 1, .int .i64 16, .nils, .int .i64 16, .nils, .nils, .nils, .nils, .int .i64 1, .int .i64 0, .int .i64 0, .int .i64 0, .int .i64 0, .int .i64 0], .agg [.int .i64 0, .str [], .str [], .int .i64 0, .int .i64 0, .int .i64 0, .nils, .int .i64 0, .int .i64 0, .int .i64 0, .int .i64 0, .int .i64 0, .int .i64 0, .int .i64 0, .int .i64 0, .int .i64 0, .int .i64 0, .int .i64 0, .int .i64 0, .int .i64 0, .int .i64 0, .int .i64 0, .int .i64 0, .int .i64 0], .int .i64 0], [⟨0, true, true, 4, [[.str [97], .str [120], .bool false, .int .i64 1], [.str [], .str [], .bool false, .int .i64 0]]⟩]⟩,
  ⟨[.agg [.int .i64 1, .psl 4 [[.str [97], .str [120], .bool false, .int .i64 1]], .int .i64 1, .nils, .nils, .int .i64 1, .int .i64 1, .int .i64 16, .nils, .int .i64 16, .nils, .nils, .nils, .nils, .int .i64 1, .int .i64 0, .int .i64 0, .int .i64 0, .int .i64 0, .int .i64 0], .agg [.int .i64 1, .int .i64 0, .str [98], .str [121], .str [], .str [], .bool false, .int .i64 0, .int .i64 0, .int .i64 0, .int .i64 0, .nils]], .tup [.agg [.int .i64 1, .slk 1 0 4 0 1 2 true, .int .i64 1, .slk 0 0 1 0 1 1 true, .nils, .int .i64 2, .int .i64 2, .int .i64 16, .nils, .int .i64 16, .nils, .nils, .nils, .nils, .int .i64 2, .int .i64 0, .int .i64 1, .int .i64 0, .int .i64 0, .int .i64 0], .agg [.int .i64 0, .str [], .str [], .int .i64 0, .int .i64 0, .int .i64 0, .nils, .int .i64 0, .int .i64 0, .int .i64 0, .int .i64 0, .int .i64 0, .int .i64 0, .int .i64 0, .int .i64 0, .int .i64 0, .int .i64 0, .int .i64 0, .int .i64 0, .int .i64 0, .int .i64 0, .int .i64 0, .int .i64 0, .int .i64 0], .int .i64 0], [⟨0, true, false, 1, [[.psl 2 [[.int .i64 1, .psl 4 [[.str [97], .str [120], .bool false, .int .i64 1]]]]]]⟩, ⟨0, true, true, 4, [[.str [98], .str [121], .bool false, .int .i64 2], [.str [], .str [], .bool false, .int .i64 0]]⟩]⟩,
  ⟨[.agg [.int .i64 1, .psl 4 [[.str [98], .str [121], .bool false, .int .i64 2]], .int .i64 1, .psl 1 [[.psl 2 [[.int .i64 1, .psl 4 [[.str [97], .str [120], .bool false, .int .i64 1]]]]]], .nils, .int .i64 2, .int .i64 2, .int .i64 16, .nils, .int .i64 16, .nils, .nils, .nils, .nils, .int .i64 2, .int .i64 0, .int .i64 1, .int .i64 0, .int .i64 0, .int .i64 0], .agg [.int .i64 1, .int .i64 3, .str [99], .str [122], .str [], .str [], .bool false, .int .i64 0, .int .i64 0, .int .i64 0, .int .i64 0, .nils]], .tup [.agg [.int .i64 1, .slk 2 0 4 0 1 2 true, .int .i64 1, .slk 1 0 1 0 1 1 true, .sl 0 0 11 0 1, .int .i64 3, .int .i64 3, .int .i64 16, .nils, .int .i64 16, .nils, .nils, .nils, .nils, .int .i64 3, .int .i64 0, .int .i64 2, .int .i64 0, .int .i64 0, .int .i64 3], .agg [.int .i64 0, .str [], .str [], .int .i64 0, .int .i64 0, .int .i64 0, .nils, .int .i64 0, .int .i64 0, .int .i64 0, .int .i64 0, .int .i64 0, .int .i64 0, .int .i64 0, .int .i64 0, .int .i64 0, .int .i64 0, .int .i64 0, .int .i64 0, .int .i64 0, .int .i64 0, .int .i64 0, .int .i64 0, .int .i64 0], .int .i64 0], [⟨0, true, false, 11, [[.int .i64 0, .psl 1 [[.psl 4 [[.str [98], .str [121], .bool false, .int .i64 2]]], [.psl 4 [[.str [97], .str [120], .bool false, .int .i64 1]]]], .psl 1 [[.int .i64 0], [.int .i64 0]], .psl 2 [[.str [98], .bool false], [.str [97], .bool false]], .psl 1 [[.int .i64 0], [.int .i64 0]], .int .i64 1, .bool false, .str [], .bool true, .nils, .int .i64 0]]⟩, ⟨0, true, false, 1, [[.psl 2 [[.int .i64 1, .psl 4 [[.str [97], .str [120], .bool false, .int .i64 1]]], [.int .i64 2, .psl 4 [[.str [98], .str [121], .bool false, .int .i64 2]]]]]]⟩, ⟨0, true, true, 4, [[.str [99], .str [122], .bool false, .int .i64 3], [.str [], .str [], .bool false, .int .i64 0]]⟩]⟩,
  ⟨[.agg [.int .i64 1, .psl 4 [[.str [99], .str [122], .bool false, .int .i64 3]], .int .i64 1, .psl 1 [[.psl 2 [[.int .i64 1, .psl 4 [[.str [97], .str [120], .bool false, .int .i64 1]]], [.int .i64 2, .psl 4 [[.str [98], .str [121], .bool false, .int .i64 2]]]]]], .psl 11 [[.int .i64 0, .psl 1 [[.psl 4 [[.str [98], .str [121], .bool false, .int .i64 2]]], [.psl 4 [[.str [97], .str [120], .bool false, .int .i64 1]]]], .psl 1 [[.int .i64 0], [.int .i64 0]], .psl 2 [[.str [98], .bool false], [.str [97], .bool false]], .psl 1 [[.int .i64 0], [.int .i64 0]], .int .i64 1, .bool false, .str [], .bool true, .nils, .int .i64 0]], .int .i64 3, .int .i64 3, .int .i64 16, .nils, .int .i64 16, .nils, .nils, .nils, .nils, .int .i64 3, .int .i64 0, .int .i64 2, .int .i64 0, .int .i64 0, .int .i64 3], .agg [.int .i64 2, .int .i64 0, .str [97], .str [], .str [], .str [], .bool false, .int .i64 0, .int .i64 0, .int .i64 0, .int .i64 0, .nils]], .tup [.agg [.int .i64 1, .psl 4 [[.str [99], .str [122], .bool false, .int .i64 3]], .int .i64 1, .psl 1 [[.psl 2 [[.int .i64 1, .psl 4 [[.str [97], .str [120], .bool false, .int .i64 1]]], [.int .i64 2, .psl 4 [[.str [98], .str [121], .bool false, .int .i64 2]]]]]], .psl 11 [[.int .i64 0, .psl 1 [[.psl 4 [[.str [98], .str [121], .bool false, .int .i64 2]]], [.psl 4 [[.str [97], .str [120], .bool false, .int .i64 1]]]], .psl 1 [[.int .i64 0], [.int .i64 0]], .psl 2 [[.str [98], .bool false], [.str [97], .bool false]], .psl 1 [[.int .i64 0], [.int .i64 0]], .int .i64 1, .bool false, .str [], .bool true, .nils, .int .i64 0]], .int .i64 3, .int .i64 3, .int .i64 16, .nils, .int .i64 16, .nils, .nils, .nils, .nils, .int .i64 3, .int .i64 1, .int .i64 2, .int .i64 0, .int .i64 0, .int .i64 3], .agg [.int .i64 10, .str [], .str [], .int .i64 0, .int .i64 0, .int .i64 0, .nils, .int .i64 0, .int .i64 0, .int .i64 0, .int .i64 0, .int .i64 0, .int .i64 0, .int .i64 0, .int .i64 0, .int .i64 0, .int .i64 0, .int .i64 0, .int .i64 0, .int .i64 0, .int .i64 0, .int .i64 0, .int .i64 0, .int .i64 0], .int .i64 0], []⟩]
def tb6 : List Line := [
  ⟨[.agg [.int .i64 1, .psl 4 [[.str [98], .str [121], .bool false, .int .i64 2]], .int .i64 1, .psl 1 [[.psl 2 [[.int .i64 1, .psl 4 [[.str [97], .str [120], .bool false, .int .i64 1]]]]]], .nils, .int .i64 2, .int .i64 2, .int .i64 16, .nils, .int .i64 16, .nils, .nils, .nils, .nils, .int .i64 2, .int .i64 0, .int .i64 1, .int .i64 0, .int .i64 0, .int .i64 0]], .tup [.agg [.int .i64 2, .int .i64 2, .int .i64 0, .int .i64 1, .int .i64 1, .int .i64 1, .int .i64 0, .int .i64 0, .int .i64 0, .int .i64 0, .int .i64 1, .int .i64 2, .int .i64 0, .int .i64 1, .int .i64 0, .int .i64 0, .int .i64 0], .int .i64 0], []⟩,
  ⟨[.agg [.int .i64 1, .psl 4 [[.str [99], .str [122], .bool false, .int .i64 3]], .int .i64 1, .psl 1 [[.psl 2 [[.int .i64 1, .psl 4 [[.str [97], .str [120], .bool false, .int .i64 1]]], [.int .i64 2, .psl 4 [[.str [98], .str [121], .bool false, .int .i64 2]]]]]], .psl 11 [[.int .i64 0, .psl 1 [[.psl 4 [[.str [98], .str [121], .bool false, .int .i64 2]]], [.psl 4 [[.str [97], .str [120], .bool false, .int .i64 1]]]], .psl 1 [[.int .i64 0], [.int .i64 0]], .psl 2 [[.str [98], .bool false], [.str [97], .bool false]], .psl 1 [[.int .i64 0], [.int .i64 0]], .int .i64 1, .bool false, .str [], .bool true, .nils, .int .i64 0]], .int .i64 3, .int .i64 3, .int .i64 16, .nils, .int .i64 16, .nils, .nils, .nils, .nils, .int .i64 3, .int .i64 0, .int .i64 2, .int .i64 0, .int .i64 0, .int .i64 3]], .tup [.agg [.int .i64 3, .int .i64 3, .int .i64 0, .int .i64 1, .int .i64 2, .int .i64 1, .int .i64 1, .int .i64 3, .int .i64 0, .int .i64 0, .int .i64 2, .int .i64 3, .int .i64 0, .int .i64 2, .int .i64 0, .int .i64 0, .int .i64 3], .int .i64 0], []⟩,
  ⟨[.agg [.int .i64 1, .psl 4 [[.str [99], .str [122], .bool false, .int .i64 3]], .int .i64 1, .psl 1 [[.psl 2 [[.int .i64 1, .psl 4 [[.str [97], .str [120], .bool false, .int .i64 1]]], [.int .i64 2, .psl 4 [[.str [98], .str [121], .bool false, .int .i64 2]]]]]], .psl 11 [[.int .i64 0, .psl 1 [[.psl 4 [[.str [98], .str [121], .bool false, .int .i64 2]]], [.psl 4 [[.str [97], .str [120], .bool false, .int .i64 1]]]], .psl 1 [[.int .i64 0], [.int .i64 0]], .psl 2 [[.str [98], .bool false], [.str [97], .bool false]], .psl 1 [[.int .i64 0], [.int .i64 0]], .int .i64 1, .bool false, .str [], .bool true, .nils, .int .i64 0]], .int .i64 3, .int .i64 3, .int .i64 16, .nils, .int .i64 16, .nils, .nils, .nils, .nils, .int .i64 3, .int .i64 1, .int .i64 2, .int .i64 0, .int .i64 0, .int .i64 3]], .tup [.agg [.int .i64 3, .int .i64 3, .int .i64 0, .int .i64 1, .int .i64 2, .int .i64 1, .int .i64 1, .int .i64 3, .int .i64 0, .int .i64 0, .int .i64 2, .int .i64 3, .int .i64 1, .int .i64 2, .int .i64 0, .int .i64 0, .int .i64 3], .int .i64 0], []⟩]
def tb23 : List Line := [
  ⟨[.agg [.int .i64 1, .psl 4 [[.str [99], .str [122], .bool false, .int .i64 3]], .int .i64 1, .psl 1 [[.psl 2 [[.int .i64 1, .psl 4 [[.str [97], .str [120], .bool false, .int .i64 1]]], [.int .i64 2, .psl 4 [[.str [98], .str [121], .bool false, .int .i64 2]]]]]], .psl 11 [[.int .i64 0, .psl 1 [[.psl 4 [[.str [98], .str [121], .bool false, .int .i64 2]]], [.psl 4 [[.str [97], .str [120], .bool false, .int .i64 1]]]], .psl 1 [[.int .i64 0], [.int .i64 0]], .psl 2 [[.str [98], .bool false], [.str [97], .bool false]], .psl 1 [[.int .i64 0], [.int .i64 0]], .int .i64 1, .bool false, .str [], .bool true, .nils, .int .i64 0]], .int .i64 3, .int .i64 3, .int .i64 16, .nils, .int .i64 16, .nils, .nils, .nils, .nils, .int .i64 3, .int .i64 1, .int .i64 2, .int .i64 0, .int .i64 0, .int .i64 3]], .tup [.sl 0 0 5 0 1, .int .i64 0], [⟨0, true, true, 5, [[.int .i64 2, .int .i64 2, .int .i64 0, .bool true, .int .i64 2]]⟩]⟩]
def tb24 : List Line := [
  ⟨[.psl 12 [[.int .i64 1, .int .i64 0, .str [97], .str [120], .str [], .str [], .bool false, .int .i64 0, .int .i64 0, .int .i64 0, .int .i64 0, .nils], [.int .i64 1, .int .i64 0, .str [98], .str [121], .str [], .str [], .bool false, .int .i64 0, .int .i64 0, .int .i64 0, .int .i64 0, .nils], [.int .i64 1, .int .i64 3, .str [99], .str [122], .str [], .str [], .bool false, .int .i64 0, .int .i64 0, .int .i64 0, .int .i64 0, .nils], [.int .i64 2, .int .i64 0, .str [97], .str [], .str [], .str [], .bool false, .int .i64 0, .int .i64 0, .int .i64 0, .int .i64 0, .nils]], .psl 24 [[.int .i64 0, .str [], .str [], .int .i64 0, .int .i64 0, .int .i64 0, .nils, .int .i64 0, .int .i64 0, .int .i64 0, .int .i64 0, .int .i64 0, .int .i64 0, .int .i64 0, .int .i64 0, .int .i64 0, .int .i64 0, .int .i64 0, .int .i64 0, .int .i64 0, .int .i64 0, .int .i64 0, .int .i64 0, .int .i64 0], [.int .i64 0, .str [], .str [], .int .i64 0, .int .i64 0, .int .i64 0, .nils, .int .i64 0, .int .i64 0, .int .i64 0, .int .i64 0, .int .i64 0, .int .i64 0, .int .i64 0, .int .i64 0, .int .i64 0, .int .i64 0, .int .i64 0, .int .i64 0, .int .i64 0, .int .i64 0, .int .i64 0, .int .i64 0, .int .i64 0], [.int .i64 0, .str [], .str [], .int .i64 0, .int .i64 0, .int .i64 0, .nils, .int .i64 0, .int .i64 0, .int .i64 0, .int .i64 0, .int .i64 0, .int .i64 0, .int .i64 0, .int .i64 0, .int .i64 0, .int .i64 0, .int .i64 0, .int .i64 0, .int .i64 0, .int .i64 0, .int .i64 0, .int .i64 0, .int .i64 0], [.int .i64 10, .str [], .str [], .int .i64 0, .int .i64 0, .int .i64 0, .nils, .int .i64 0, .int .i64 0, .int .i64 0, .int .i64 0, .int .i64 0, .int .i64 0, .int .i64 0, .int .i64 0, .int .i64 0, .int .i64 0, .int .i64 0, .int .i64 0, .int .i64 0, .int .i64 0, .int .i64 0, .int .i64 0, .int .i64 0]]], .tup [.agg [.int .i64 3, .int .i64 1, .int .i64 0, .int .i64 0], .int .i64 0, .int .i64 0], []⟩]
section
variable (ad off : Nat → Nat)
theorem ck138 : @linesB (adrOf ad off) Tryz.prog base0 138 tb138 = true := by kernel_rfl
noncomputable def cn138 : Cons := conT 138 tb138 base0
theorem ck36 : @linesB (adrOf ad off) Tryz.prog cn138 36 tb36 = true := by kernel_rfl
noncomputable def cn36 : Cons := conT 36 tb36 cn138
theorem ck145 : @linesB (adrOf ad off) Tryz.prog cn36 145 tb145 = true := by kernel_rfl
noncomputable def cn145 : Cons := conT 145 tb145 cn36
theorem ck155 : @linesB (adrOf ad off) Tryz.prog cn145 155 tb155 = true := by kernel_rfl
noncomputable def cn155 : Cons := conT 155 tb155 cn145
theorem ck96 : @linesB (adrOf ad off) Tryz.prog cn155 96 tb96 = true := by kernel_rfl
noncomputable def cn96 : Cons := conT 96 tb96 cn155
theorem ck99 : @linesB (adrOf ad off) Tryz.prog cn96 99 tb99 = true := by kernel_rfl
noncomputable def cn99 : Cons := conT 99 tb99 cn96
theorem ck15 : @linesB (adrOf ad off) Tryz.prog cn99 15 tb15 = true := by kernel_rfl
noncomputable def cn15 : Cons := conT 15 tb15 cn99
theorem ck222 : @linesB (adrOf ad off) Tryz.prog cn15 222 tb222 = true := by kernel_rfl
noncomputable def cn222 : Cons := conT 222 tb222 cn15
theorem ck167 : @linesB (adrOf ad off) Tryz.prog cn222 167 tb167 = true := by kernel_rfl
noncomputable def cn167 : Cons := conT 167 tb167 cn222
theorem ck101 : @linesB (adrOf ad off) Tryz.prog cn167 101 tb101 = true := by kernel_rfl
noncomputable def cn101 : Cons := conT 101 tb101 cn167
theorem ck35 : @linesB (adrOf ad off) Tryz.prog cn101 35 tb35 = true := by kernel_rfl
noncomputable def cn35 : Cons := conT 35 tb35 cn101
theorem ck10 : @linesB (adrOf ad off) Tryz.prog cn35 10 tb10 = true := by kernel_rfl
noncomputable def cn10 : Cons := conT 10 tb10 cn35
theorem ck116 : @linesB (adrOf ad off) Tryz.prog cn10 116 tb116 = true := by kernel_rfl
noncomputable def cn116 : Cons := conT 116 tb116 cn10
theorem ck9 : @linesB (adrOf ad off) Tryz.prog cn116 9 tb9 = true := by kernel_rfl
noncomputable def cn9 : Cons := conT 9 tb9 cn116
theorem ck6 : @linesB (adrOf ad off) Tryz.prog cn9 6 tb6 = true := by kernel_rfl
noncomputable def cn6 : Cons := conT 6 tb6 cn9
theorem ck23 : @linesB (adrOf ad off) Tryz.prog cn6 23 tb23 = true := by kernel_rfl
noncomputable def cn23 : Cons := conT 23 tb23 cn6
theorem ck24 : @linesB (adrOf ad off) Tryz.prog cn23 24 tb24 = true := by kernel_rfl
noncomputable def cn24 : Cons := conT 24 tb24 cn23
theorem ckLast : @lineB (adrOf ad off) Tryz.prog cn24 3 ⟨[], .bool true, []⟩ = true := by kernel_rfl
theorem ranAll (hP : POk Tryz.prog) (h0 : @COk (adrOf ad off) Tryz.prog base0) : @PCall (adrOf ad off) Tryz.prog 3 [] (.bool true) [] := by
  letI : Adr := adrOf ad off
  have h1 : COk Tryz.prog cn138 := conT_run hP h0 (ck138 ad off)
  have h2 : COk Tryz.prog cn36 := conT_run hP h1 (ck36 ad off)
  have h3 : COk Tryz.prog cn145 := conT_run hP h2 (ck145 ad off)
  have h4 : COk Tryz.prog cn155 := conT_run hP h3 (ck155 ad off)
  have h5 : COk Tryz.prog cn96 := conT_run hP h4 (ck96 ad off)
  have h6 : COk Tryz.prog cn99 := conT_run hP h5 (ck99 ad off)
  have h7 : COk Tryz.prog cn15 := conT_run hP h6 (ck15 ad off)
  have h8 : COk Tryz.prog cn222 := conT_run hP h7 (ck222 ad off)
  have h9 : COk Tryz.prog cn167 := conT_run hP h8 (ck167 ad off)
  have h10 : COk Tryz.prog cn101 := conT_run hP h9 (ck101 ad off)
  have h11 : COk Tryz.prog cn35 := conT_run hP h10 (ck35 ad off)
  have h12 : COk Tryz.prog cn10 := conT_run hP h11 (ck10 ad off)
  have h13 : COk Tryz.prog cn116 := conT_run hP h12 (ck116 ad off)
  have h14 : COk Tryz.prog cn9 := conT_run hP h13 (ck9 ad off)
  have h15 : COk Tryz.prog cn6 := conT_run hP h14 (ck6 ad off)
  have h16 : COk Tryz.prog cn23 := conT_run hP h15 (ck23 ad off)
  have h17 : COk Tryz.prog cn24 := conT_run hP h16 (ck24 ad off)
  exact lineB_ok hP h17 (ckLast ad off)
end
end Go.AM
