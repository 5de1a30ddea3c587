/- A text of the proof. -/
import Derived.Test.YtfbigpneliegfaaGreatDoorProg
import Derived.Test.YtfbigpneliegfaaGreatDoorKAmZv
import Derived.KernelRfl
set_option linter.unusedSimpArgs false
set_option linter.unusedVariables false
namespace Go.AM
open Go Go.Proofs
noncomputable def asG (P : Program) : List AV → Cs → Option (AV × Cs)
  | [.iface 122 (.agg [c]), .iface 129 (.ref b g i j)], s => match aStore P 122 (.ref b g i j) (.agg [c]) s.hp.get with
    | some (b', blk) => some (.bool true, { s with hp := s.hp.put b' blk })
    | none => none
  | _, _ => none
def isG : List AV → Cs → Option (AV × Cs)
  | [.iface 584 (.gp k o _), .iface 584 (.gp k' o' _)], s => match Nat.beq k k' with
    | true => match Nat.beq o o' with
      | true => some (.bool true, s)
      | false => none
    | false => none
  | _, _ => none
noncomputable def base0 : Cons := fun f => match Nat.beq f 35 with
  | true => some (.inp (asG Tryz.prog))
  | false => match Nat.beq f 37 with
    | true => some (.inp isG)
    | false => none
def glT : Nat → AV
  | 0 => .gp 0 0 [.iface 584 (.gp 1256 0 [.str [98, 117, 115, 121]])]
  | 1 => .gp 1 0 [.iface 280 (.agg [.gp 999 124 []])]
  | 2 => .gp 2 0 [.str [], .str [], .str [112, 117, 116], .str [107, 118], .str [100, 101, 108], .str [107], .str [98, 97, 116, 99, 104], .str [119], .str [103, 101, 116], .str [104, 107], .str [102, 108, 111, 111, 114], .str [104, 107], .str [99, 101, 105, 108, 105, 110, 103], .str [104, 107], .str [99, 111, 117, 110, 116], .str [104, 114], .str [112, 105, 110], .str [], .str [117, 110, 112, 105, 110], .str [104], .str [111, 112, 101, 110], .str [104, 114], .str [110, 101, 120, 116], .str [104], .str [112, 114, 101, 118], .str [104], .str [115, 104, 117, 116], .str [104], .str [100, 105, 102, 102], .str [104, 111], .str [119, 111, 114, 107], .str [], .str [99, 111, 109, 112, 97, 99, 116], .str [], .str [115, 116, 97, 116, 115], .str []]
  | 3 => .gp 3 0 [.iface 584 (.gp 1200 0 [.str [115, 101, 116, 116, 108, 101, 100]])]
  | 4 => .gp 4 0 []
  | _ => .top
@[reducible] def adrOf (ad off : Nat → Nat) : Adr := ⟨ad, off, glT⟩
def tb141 : List Line := [
  ⟨[.agg [.int .i64 1, .nils]], .tup [.int .i64 0, .int .i64 0], []⟩,
  ⟨[.agg [.int .i64 1, .psl 4 [[.str [97], .str [120], .bool false, .int .i64 1]]]], .tup [.int .i64 0, .int .i64 0], []⟩,
  ⟨[.agg [.int .i64 1, .psl 4 [[.str [98], .str [121], .bool false, .int .i64 2]]]], .tup [.int .i64 0, .int .i64 0], []⟩,
  ⟨[.agg [.int .i64 1, .psl 4 [[.str [99], .str [122], .bool false, .int .i64 3]]]], .tup [.int .i64 0, .int .i64 0], []⟩]
def tb39 : List Line := [
  ⟨[.agg [.int .i64 16, .nils, .int .i64 16, .nils, .nils, .nils]], .int .i64 0, []⟩]
def tb148 : List Line := [
  ⟨[.psl 4 [[.str [97], .str [120], .bool false, .int .i64 1]]], .tup [.int .i64 0, .int .i64 0], []⟩,
  ⟨[.psl 4 [[.str [98], .str [121], .bool false, .int .i64 2]]], .tup [.int .i64 0, .int .i64 0], []⟩,
  ⟨[.psl 4 [[.str [99], .str [122], .bool false, .int .i64 3]]], .tup [.int .i64 0, .int .i64 0], []⟩]
def tb158 : List Line := [
  ⟨[.agg [.int .i64 1, .nils]], .tup [.int .i64 0, .int .i64 0, .int .i64 0], []⟩,
  ⟨[.agg [.int .i64 1, .psl 1 [[.psl 2 [[.int .i64 1, .psl 4 [[.str [97], .str [120], .bool false, .int .i64 1]]]]]]]], .tup [.int .i64 0, .int .i64 0, .int .i64 0], []⟩,
  ⟨[.agg [.int .i64 1, .psl 1 [[.psl 2 [[.int .i64 1, .psl 4 [[.str [97], .str [120], .bool false, .int .i64 1]]], [.int .i64 2, .psl 4 [[.str [98], .str [121], .bool false, .int .i64 2]]]]]]]], .tup [.int .i64 0, .int .i64 0, .int .i64 0], []⟩]
def tb225 : List Line := [
  ⟨[.agg [.psl 1 [[.psl 4 [[.str [98], .str [121], .bool false, .int .i64 2]]], [.psl 4 [[.str [97], .str [120], .bool false, .int .i64 1]]]], .psl 1 [[.int .i64 0], [.int .i64 0]], .psl 2 [[.str [98], .bool false], [.str [97], .bool false]], .psl 1 [[.int .i64 0], [.int .i64 0]], .int .i64 1]], .tup [.int .i64 0, .int .i64 0], []⟩]
def tb170 : List Line := [
  ⟨[.agg [.psl 1 [[.psl 4 [[.str [98], .str [121], .bool false, .int .i64 2]]], [.psl 4 [[.str [97], .str [120], .bool false, .int .i64 1]]]], .psl 1 [[.int .i64 0], [.int .i64 0]], .psl 2 [[.str [98], .bool false], [.str [97], .bool false]], .psl 1 [[.int .i64 0], [.int .i64 0]], .int .i64 1, .bool false, .str [], .bool true, .nils, .int .i64 0]], .int .i64 0, []⟩]
def tb104 : List Line := [
  ⟨[.agg [.int .i64 1, .nils, .nils, .int .i64 1]], .tup [.int .i64 0, .int .i64 0], []⟩,
  ⟨[.agg [.int .i64 1, .psl 1 [[.psl 2 [[.int .i64 1, .psl 4 [[.str [97], .str [120], .bool false, .int .i64 1]]]]]], .nils, .int .i64 2]], .tup [.int .i64 0, .int .i64 0], []⟩,
  ⟨[.agg [.int .i64 1, .psl 1 [[.psl 2 [[.int .i64 1, .psl 4 [[.str [97], .str [120], .bool false, .int .i64 1]]], [.int .i64 2, .psl 4 [[.str [98], .str [121], .bool false, .int .i64 2]]]]]], .psl 11 [[.int .i64 0, .psl 1 [[.psl 4 [[.str [98], .str [121], .bool false, .int .i64 2]]], [.psl 4 [[.str [97], .str [120], .bool false, .int .i64 1]]]], .psl 1 [[.int .i64 0], [.int .i64 0]], .psl 2 [[.str [98], .bool false], [.str [97], .bool false]], .psl 1 [[.int .i64 0], [.int .i64 0]], .int .i64 1, .bool false, .str [], .bool true, .nils, .int .i64 0]], .int .i64 3]], .tup [.int .i64 0, .int .i64 0], []⟩]
def tb38 : List Line := [
  ⟨[.agg [.int .i64 1, .nils, .int .i64 1, .nils, .nils, .int .i64 1]], .int .i64 0, []⟩,
  ⟨[.agg [.int .i64 1, .psl 4 [[.str [97], .str [120], .bool false, .int .i64 1]], .int .i64 1, .nils, .nils, .int .i64 1]], .int .i64 0, []⟩,
  ⟨[.agg [.int .i64 1, .psl 4 [[.str [98], .str [121], .bool false, .int .i64 2]], .int .i64 1, .psl 1 [[.psl 2 [[.int .i64 1, .psl 4 [[.str [97], .str [120], .bool false, .int .i64 1]]]]]], .nils, .int .i64 2]], .int .i64 0, []⟩,
  ⟨[.agg [.int .i64 1, .psl 4 [[.str [99], .str [122], .bool false, .int .i64 3]], .int .i64 1, .psl 1 [[.psl 2 [[.int .i64 1, .psl 4 [[.str [97], .str [120], .bool false, .int .i64 1]]], [.int .i64 2, .psl 4 [[.str [98], .str [121], .bool false, .int .i64 2]]]]]], .psl 11 [[.int .i64 0, .psl 1 [[.psl 4 [[.str [98], .str [121], .bool false, .int .i64 2]]], [.psl 4 [[.str [97], .str [120], .bool false, .int .i64 1]]]], .psl 1 [[.int .i64 0], [.int .i64 0]], .psl 2 [[.str [98], .bool false], [.str [97], .bool false]], .psl 1 [[.int .i64 0], [.int .i64 0]], .int .i64 1, .bool false, .str [], .bool true, .nils, .int .i64 0]], .int .i64 3]], .int .i64 0, []⟩]
def tb18 : List Line := [
  ⟨[.agg [.int .i64 1, .nils, .int .i64 1, .nils, .nils, .int .i64 1, .int .i64 0, .int .i64 16, .nils, .int .i64 16, .nils, .nils, .nils, .nils, .int .i64 0, .int .i64 0, .int .i64 0, .int .i64 0, .int .i64 0, .int .i64 0]], .int .i64 0, []⟩,
  ⟨[.agg [.int .i64 1, .psl 4 [[.str [97], .str [120], .bool false, .int .i64 1]], .int .i64 1, .nils, .nils, .int .i64 1, .int .i64 1, .int .i64 16, .nils, .int .i64 16, .nils, .nils, .nils, .nils, .int .i64 1, .int .i64 0, .int .i64 0, .int .i64 0, .int .i64 0, .int .i64 0]], .int .i64 0, []⟩,
  ⟨[.agg [.int .i64 1, .psl 4 [[.str [98], .str [121], .bool false, .int .i64 2]], .int .i64 1, .psl 1 [[.psl 2 [[.int .i64 1, .psl 4 [[.str [97], .str [120], .bool false, .int .i64 1]]]]]], .nils, .int .i64 2, .int .i64 2, .int .i64 16, .nils, .int .i64 16, .nils, .nils, .nils, .nils, .int .i64 2, .int .i64 0, .int .i64 1, .int .i64 0, .int .i64 0, .int .i64 0]], .int .i64 0, []⟩,
  ⟨[.agg [.int .i64 1, .psl 4 [[.str [99], .str [122], .bool false, .int .i64 3]], .int .i64 1, .psl 1 [[.psl 2 [[.int .i64 1, .psl 4 [[.str [97], .str [120], .bool false, .int .i64 1]]], [.int .i64 2, .psl 4 [[.str [98], .str [121], .bool false, .int .i64 2]]]]]], .psl 11 [[.int .i64 0, .psl 1 [[.psl 4 [[.str [98], .str [121], .bool false, .int .i64 2]]], [.psl 4 [[.str [97], .str [120], .bool false, .int .i64 1]]]], .psl 1 [[.int .i64 0], [.int .i64 0]], .psl 2 [[.str [98], .bool false], [.str [97], .bool false]], .psl 1 [[.int .i64 0], [.int .i64 0]], .int .i64 1, .bool false, .str [], .bool true, .nils, .int .i64 0]], .int .i64 3, .int .i64 3, .int .i64 16, .nils, .int .i64 16, .nils, .nils, .nils, .nils, .int .i64 3, .int .i64 0, .int .i64 2, .int .i64 0, .int .i64 0, .int .i64 3]], .int .i64 0, []⟩,
  ⟨[.agg [.int .i64 1, .psl 4 [[.str [99], .str [122], .bool false, .int .i64 3]], .int .i64 1, .psl 1 [[.psl 2 [[.int .i64 1, .psl 4 [[.str [97], .str [120], .bool false, .int .i64 1]]], [.int .i64 2, .psl 4 [[.str [98], .str [121], .bool false, .int .i64 2]]]]]], .psl 11 [[.int .i64 0, .psl 1 [[.psl 4 [[.str [98], .str [121], .bool false, .int .i64 2]]], [.psl 4 [[.str [97], .str [120], .bool false, .int .i64 1]]]], .psl 1 [[.int .i64 0], [.int .i64 0]], .psl 2 [[.str [98], .bool false], [.str [97], .bool false]], .psl 1 [[.int .i64 0], [.int .i64 0]], .int .i64 1, .bool false, .str [], .bool true, .nils, .int .i64 0]], .int .i64 3, .int .i64 3, .int .i64 16, .nils, .int .i64 16, .nils, .nils, .nils, .nils, .int .i64 3, .int .i64 1, .int .i64 2, .int .i64 0, .int .i64 0, .int .i64 3]], .int .i64 0, []⟩]
def tb119 : List Line := [
  ⟨[.agg [.int .i64 1, .nils, .int .i64 1, .nils, .nils, .int .i64 1], .psl 4 [[.str [97], .str [120], .bool false, .int .i64 1]]], .tup [.agg [.int .i64 1, .slk 0 0 4 0 1 2 true, .int .i64 1, .nils, .nils, .int .i64 1], .int .i64 1, .int .i64 0], [⟨0, true, true, 4, [[.str [97], .str [120], .bool false, .int .i64 1], [.str [], .str [], .bool false, .int .i64 0]]⟩]⟩,
  ⟨[.agg [.int .i64 1, .psl 4 [[.str [97], .str [120], .bool false, .int .i64 1]], .int .i64 1, .nils, .nils, .int .i64 1], .psl 4 [[.str [98], .str [121], .bool false, .int .i64 2]]], .tup [.agg [.int .i64 1, .slk 1 0 4 0 1 2 true, .int .i64 1, .slk 0 0 1 0 1 1 true, .nils, .int .i64 2], .int .i64 2, .int .i64 0], [⟨0, true, false, 1, [[.psl 2 [[.int .i64 1, .psl 4 [[.str [97], .str [120], .bool false, .int .i64 1]]]]]]⟩, ⟨0, true, true, 4, [[.str [98], .str [121], .bool false, .int .i64 2], [.str [], .str [], .bool false, .int .i64 0]]⟩]⟩,
  ⟨[.agg [.int .i64 1, .psl 4 [[.str [98], .str [121], .bool false, .int .i64 2]], .int .i64 1, .psl 1 [[.psl 2 [[.int .i64 1, .psl 4 [[.str [97], .str [120], .bool false, .int .i64 1]]]]]], .nils, .int .i64 2], .psl 4 [[.str [99], .str [122], .bool false, .int .i64 3]]], .tup [.agg [.int .i64 1, .slk 2 0 4 0 1 2 true, .int .i64 1, .slk 1 0 1 0 1 1 true, .sl 0 0 11 0 1, .int .i64 3], .int .i64 2, .int .i64 0], [⟨0, true, false, 11, [[.int .i64 0, .psl 1 [[.psl 4 [[.str [98], .str [121], .bool false, .int .i64 2]]], [.psl 4 [[.str [97], .str [120], .bool false, .int .i64 1]]]], .psl 1 [[.int .i64 0], [.int .i64 0]], .psl 2 [[.str [98], .bool false], [.str [97], .bool false]], .psl 1 [[.int .i64 0], [.int .i64 0]], .int .i64 1, .bool false, .str [], .bool true, .nils, .int .i64 0]]⟩, ⟨0, true, false, 1, [[.psl 2 [[.int .i64 1, .psl 4 [[.str [97], .str [120], .bool false, .int .i64 1]]], [.int .i64 2, .psl 4 [[.str [98], .str [121], .bool false, .int .i64 2]]]]]]⟩, ⟨0, true, true, 4, [[.str [99], .str [122], .bool false, .int .i64 3], [.str [], .str [], .bool false, .int .i64 0]]⟩]⟩,
  ⟨[.agg [.int .i64 1, .psl 4 [[.str [99], .str [122], .bool false, .int .i64 3]], .int .i64 1, .psl 1 [[.psl 2 [[.int .i64 1, .psl 4 [[.str [97], .str [120], .bool false, .int .i64 1]]], [.int .i64 2, .psl 4 [[.str [98], .str [121], .bool false, .int .i64 2]]]]]], .psl 11 [[.int .i64 0, .psl 1 [[.psl 4 [[.str [98], .str [121], .bool false, .int .i64 2]]], [.psl 4 [[.str [97], .str [120], .bool false, .int .i64 1]]]], .psl 1 [[.int .i64 0], [.int .i64 0]], .psl 2 [[.str [98], .bool false], [.str [97], .bool false]], .psl 1 [[.int .i64 0], [.int .i64 0]], .int .i64 1, .bool false, .str [], .bool true, .nils, .int .i64 0]], .int .i64 3], .psl 4 [[.str [97], .str [], .bool true, .int .i64 4]]], .tup [.agg [.int .i64 0, .nils, .int .i64 0, .nils, .nils, .int .i64 0], .int .i64 0, .int .i64 10], []⟩]
def tb17 : List Line := [
  ⟨[.agg [.int .i64 1, .nils, .int .i64 1, .nils, .nils, .int .i64 1, .int .i64 0, .int .i64 16, .nils, .int .i64 16, .nils, .nils, .nils, .nils, .int .i64 0, .int .i64 0, .int .i64 0, .int .i64 0, .int .i64 0, .int .i64 0], .agg [.int .i64 1, .int .i64 0, .str [97], .str [120], .str [], .str [], .bool false, .int .i64 0, .int .i64 0, .int .i64 0, .int .i64 0, .nils]], .tup [.agg [.int .i64 1, .slk 0 0 4 0 1 2 true, .int .i64 1, .nils, .nils, .int .i64 1, .int .i64 1, .int .i64 16, .nils, .int .i64 16, .nils, .nils, .nils, .nils, .int .i64 1, .int .i64 0, .int .i64 0, .int .i64 0, .int .i64 0, .int .i64 0], .agg [.int .i64 0, .str [], .str [], .int .i64 0, .int .i64 0, .int .i64 0, .nils, .int .i64 0, .int .i64 0, .int .i64 0, .int .i64 0, .int .i64 0, .int .i64 0, .int .i64 0, .int .i64 0, .int .i64 0, .int .i64 0, .int .i64 0, .int .i64 0, .int .i64 0, .int .i64 0, .int .i64 0, .int .i64 0, .int .i64 0], .int .i64 0], [⟨0, true, true, 4, [[.str [97], .str [120], .bool false, .int .i64 1], [.str [], .str [], .bool false, .int .i64 0]]⟩]⟩,
  ⟨[.agg [.int .i64 1, .psl 4 [[.str [97], .str [120], .bool false, .int .i64 1]], .int .i64 1, .nils, .nils, .int .i64 1, .int .i64 1, .int .i64 16, .nils, .int .i64 16, .nils, .nils, .nils, .nils, .int .i64 1, .int .i64 0, .int .i64 0, .int .i64 0, .int .i64 0, .int .i64 0], .agg [.int .i64 1, .int .i64 0, .str [98], .str [121], .str [], .str [], .bool false, .int .i64 0, .int .i64 0, .int .i64 0, .int .i64 0, .nils]], .tup [.agg [.int .i64 1, .slk 1 0 4 0 1 2 true, .int .i64 1, .slk 0 0 1 0 1 1 true, .nils, .int .i64 2, .int .i64 2, .int .i64 16, .nils, .int .i64 16, .nils, .nils, .nils, .nils, .int .i64 2, .int .i64 0, .int .i64 1, .int .i64 0, .int .i64 0, .int .i64 0], .agg [.int .i64 0, .str [], .str [], .int .i64 0, .int .i64 0, .int .i64 0, .nils, .int .i64 0, .int .i64 0, .int .i64 0, .int .i64 0, .int .i64 0, .int .i64 0, .int .i64 0, .int .i64 0, .int .i64 0, .int .i64 0, .int .i64 0, .int .i64 0, .int .i64 0, .int .i64 0, .int .i64 0, .int .i64 0, .int .i64 0], .int .i64 0], [⟨0, true, false, 1, [[.psl 2 [[.int .i64 1, .psl 4 [[.str [97], .str [120], .bool false, .int .i64 1]]]]]]⟩, ⟨0, true, true, 4, [[.str [98], .str [121], .bool false, .int .i64 2], [.str [], .str [], .bool false, .int .i64 0]]⟩]⟩,
  ⟨[.agg [.int .i64 1, .psl 4 [[.str [98], .str [121], .bool false, .int .i64 2]], .int .i64 1, .psl 1 [[.psl 2 [[.int .i64 1, .psl 4 [[.str [97], .str [120], .bool false, .int .i64 1]]]]]], .nils, .int .i64 2, .int .i64 2, .int .i64 16, .nils, .int .i64 16, .nils, .nils, .nils, .nils, .int .i64 2, .int .i64 0, .int .i64 1, .int .i64 0, .int .i64 0, .int .i64 0], .agg [.int .i64 1, .int .i64 3, .str [99], .str [122], .str [], .str [], .bool false, .int .i64 0, .int .i64 0, .int .i64 0, .int .i64 0, .nils]], .tup [.agg [.int .i64 1, .slk 2 0 4 0 1 2 true, .int .i64 1, .slk 1 0 1 0 1 1 true, .sl 0 0 11 0 1, .int .i64 3, .int .i64 3, .int .i64 16, .nils, .int .i64 16, .nils, .nils, .nils, .nils, .int .i64 3, .int .i64 0, .int .i64 2, .int .i64 0, .int .i64 0, .int .i64 3], .agg [.int .i64 0, .str [], .str [], .int .i64 0, .int .i64 0, .int .i64 0, .nils, .int .i64 0, .int .i64 0, .int .i64 0, .int .i64 0, .int .i64 0, .int .i64 0, .int .i64 0, .int .i64 0, .int .i64 0, .int .i64 0, .int .i64 0, .int .i64 0, .int .i64 0, .int .i64 0, .int .i64 0, .int .i64 0, .int .i64 0], .int .i64 0], [⟨0, true, false, 11, [[.int .i64 0, .psl 1 [[.psl 4 [[.str [98], .str [121], .bool false, .int .i64 2]]], [.psl 4 [[.str [97], .str [120], .bool false, .int .i64 1]]]], .psl 1 [[.int .i64 0], [.int .i64 0]], .psl 2 [[.str [98], .bool false], [.str [97], .bool false]], .psl 1 [[.int .i64 0], [.int .i64 0]], .int .i64 1, .bool false, .str [], .bool true, .nils, .int .i64 0]]⟩, ⟨0, true, false, 1, [[.psl 2 [[.int .i64 1, .psl 4 [[.str [97], .str [120], .bool false, .int .i64 1]]], [.int .i64 2, .psl 4 [[.str [98], .str [121], .bool false, .int .i64 2]]]]]]⟩, ⟨0, true, true, 4, [[.str [99], .str [122], .bool false, .int .i64 3], [.str [], .str [], .bool false, .int .i64 0]]⟩]⟩,
  ⟨[.agg [.int .i64 1, .psl 4 [[.str [99], .str [122], .bool false, .int .i64 3]], .int .i64 1, .psl 1 [[.psl 2 [[.int .i64 1, .psl 4 [[.str [97], .str [120], .bool false, .int .i64 1]]], [.int .i64 2, .psl 4 [[.str [98], .str [121], .bool false, .int .i64 2]]]]]], .psl 11 [[.int .i64 0, .psl 1 [[.psl 4 [[.str [98], .str [121], .bool false, .int .i64 2]]], [.psl 4 [[.str [97], .str [120], .bool false, .int .i64 1]]]], .psl 1 [[.int .i64 0], [.int .i64 0]], .psl 2 [[.str [98], .bool false], [.str [97], .bool false]], .psl 1 [[.int .i64 0], [.int .i64 0]], .int .i64 1, .bool false, .str [], .bool true, .nils, .int .i64 0]], .int .i64 3, .int .i64 3, .int .i64 16, .nils, .int .i64 16, .nils, .nils, .nils, .nils, .int .i64 3, .int .i64 0, .int .i64 2, .int .i64 0, .int .i64 0, .int .i64 3], .agg [.int .i64 2, .int .i64 0, .str [97], .str [], .str [], .str [], .bool false, .int .i64 0, .int .i64 0, .int .i64 0, .int .i64 0, .nils]], .tup [.agg [.int .i64 1, .psl 4 [[.str [99], .str [122], .bool false, .int .i64 3]], .int .i64 1, .psl 1 [[.psl 2 [[.int .i64 1, .psl 4 [[.str [97], .str [120], .bool false, .int .i64 1]]], [.int .i64 2, .psl 4 [[.str [98], .str [121], .bool false, .int .i64 2]]]]]], .psl 11 [[.int .i64 0, .psl 1 [[.psl 4 [[.str [98], .str [121], .bool false, .int .i64 2]]], [.psl 4 [[.str [97], .str [120], .bool false, .int .i64 1]]]], .psl 1 [[.int .i64 0], [.int .i64 0]], .psl 2 [[.str [98], .bool false], [.str [97], .bool false]], .psl 1 [[.int .i64 0], [.int .i64 0]], .int .i64 1, .bool false, .str [], .bool true, .nils, .int .i64 0]], .int .i64 3, .int .i64 3, .int .i64 16, .nils, .int .i64 16, .nils, .nils, .nils, .nils, .int .i64 3, .int .i64 1, .int .i64 2, .int .i64 0, .int .i64 0, .int .i64 3], .agg [.int .i64 10, .str [], .str [], .int .i64 0, .int .i64 0, .int .i64 0, .nils, .int .i64 0, .int .i64 0, .int .i64 0, .int .i64 0, .int .i64 0, .int .i64 0, .int .i64 0, .int .i64 0, .int .i64 0, .int .i64 0, .int .i64 0, .int .i64 0, .int .i64 0, .int .i64 0, .int .i64 0, .int .i64 0, .int .i64 0], .int .i64 0], []⟩]
def tb99 : List Line := [
  ⟨[.agg [.psl 4 [[.str [99], .str [122], .bool false, .int .i64 3]], .psl 2 [[.int .i64 2, .psl 4 [[.str [98], .str [121], .bool false, .int .i64 2]]], [.int .i64 1, .psl 4 [[.str [97], .str [120], .bool false, .int .i64 1]]]]]], .tup [.int .i64 0, .int .i64 0], []⟩]
def tb102 : List Line := [
  ⟨[.agg [.psl 4 [[.str [99], .str [122], .bool false, .int .i64 3]], .psl 2 [[.int .i64 2, .psl 4 [[.str [98], .str [121], .bool false, .int .i64 2]]], [.int .i64 1, .psl 4 [[.str [97], .str [120], .bool false, .int .i64 1]]]]]], .sl 0 2 2 0 3, [⟨2, true, true, 2, [[.str [97], .str [120]], [.str [98], .str [121]], [.str [99], .str [122]]]⟩]⟩]
def tb23 : List Line := [
  ⟨[.agg [.psl 4 [[.str [99], .str [122], .bool false, .int .i64 3]], .psl 2 [[.int .i64 2, .psl 4 [[.str [98], .str [121], .bool false, .int .i64 2]]], [.int .i64 1, .psl 4 [[.str [97], .str [120], .bool false, .int .i64 1]]]]], .agg [.str [], .str [], .bool false]], .tup [.int .i64 3, .int .i64 0], []⟩]
def tb9 : List Line := [
  ⟨[.agg [.int .i64 1, .psl 4 [[.str [99], .str [122], .bool false, .int .i64 3]], .int .i64 1, .psl 1 [[.psl 2 [[.int .i64 1, .psl 4 [[.str [97], .str [120], .bool false, .int .i64 1]]], [.int .i64 2, .psl 4 [[.str [98], .str [121], .bool false, .int .i64 2]]]]]], .psl 11 [[.int .i64 0, .psl 1 [[.psl 4 [[.str [98], .str [121], .bool false, .int .i64 2]]], [.psl 4 [[.str [97], .str [120], .bool false, .int .i64 1]]]], .psl 1 [[.int .i64 0], [.int .i64 0]], .psl 2 [[.str [98], .bool false], [.str [97], .bool false]], .psl 1 [[.int .i64 0], [.int .i64 0]], .int .i64 1, .bool false, .str [], .bool true, .nils, .int .i64 0]], .int .i64 3, .int .i64 3, .int .i64 16, .nils, .int .i64 16, .nils, .nils, .nils, .nils, .int .i64 3, .int .i64 1, .int .i64 2, .int .i64 0, .int .i64 0, .int .i64 3]], .tup [.agg [.int .i64 3, .int .i64 3, .int .i64 0, .int .i64 1, .int .i64 2, .int .i64 1, .int .i64 1, .int .i64 3, .int .i64 0, .int .i64 0, .int .i64 2, .int .i64 3, .int .i64 1, .int .i64 2, .int .i64 0, .int .i64 0, .int .i64 3], .int .i64 0], []⟩]
def tb10 : List Line := [
  ⟨[.agg [.int .i64 1, .psl 4 [[.str [99], .str [122], .bool false, .int .i64 3]], .int .i64 1, .psl 1 [[.psl 2 [[.int .i64 1, .psl 4 [[.str [97], .str [120], .bool false, .int .i64 1]]], [.int .i64 2, .psl 4 [[.str [98], .str [121], .bool false, .int .i64 2]]]]]], .psl 11 [[.int .i64 0, .psl 1 [[.psl 4 [[.str [98], .str [121], .bool false, .int .i64 2]]], [.psl 4 [[.str [97], .str [120], .bool false, .int .i64 1]]]], .psl 1 [[.int .i64 0], [.int .i64 0]], .psl 2 [[.str [98], .bool false], [.str [97], .bool false]], .psl 1 [[.int .i64 0], [.int .i64 0]], .int .i64 1, .bool false, .str [], .bool true, .nils, .int .i64 0]], .int .i64 3, .int .i64 3, .int .i64 16, .nils, .int .i64 16, .nils, .nils, .nils, .nils, .int .i64 3, .int .i64 1, .int .i64 2, .int .i64 0, .int .i64 0, .int .i64 3]], .tup [.sl 0 0 5 0 1, .int .i64 0], [⟨0, true, true, 5, [[.int .i64 2, .int .i64 2, .int .i64 0, .bool true, .int .i64 2]]⟩]⟩]
def tb11 : List Line := [
  ⟨[.psl 12 [[.int .i64 1, .int .i64 0, .str [97], .str [120], .str [], .str [], .bool false, .int .i64 0, .int .i64 0, .int .i64 0, .int .i64 0, .nils], [.int .i64 1, .int .i64 0, .str [98], .str [121], .str [], .str [], .bool false, .int .i64 0, .int .i64 0, .int .i64 0, .int .i64 0, .nils], [.int .i64 1, .int .i64 3, .str [99], .str [122], .str [], .str [], .bool false, .int .i64 0, .int .i64 0, .int .i64 0, .int .i64 0, .nils], [.int .i64 2, .int .i64 0, .str [97], .str [], .str [], .str [], .bool false, .int .i64 0, .int .i64 0, .int .i64 0, .int .i64 0, .nils]], .psl 24 [[.int .i64 0, .str [], .str [], .int .i64 0, .int .i64 0, .int .i64 0, .nils, .int .i64 0, .int .i64 0, .int .i64 0, .int .i64 0, .int .i64 0, .int .i64 0, .int .i64 0, .int .i64 0, .int .i64 0, .int .i64 0, .int .i64 0, .int .i64 0, .int .i64 0, .int .i64 0, .int .i64 0, .int .i64 0, .int .i64 0], [.int .i64 0, .str [], .str [], .int .i64 0, .int .i64 0, .int .i64 0, .nils, .int .i64 0, .int .i64 0, .int .i64 0, .int .i64 0, .int .i64 0, .int .i64 0, .int .i64 0, .int .i64 0, .int .i64 0, .int .i64 0, .int .i64 0, .int .i64 0, .int .i64 0, .int .i64 0, .int .i64 0, .int .i64 0, .int .i64 0], [.int .i64 0, .str [], .str [], .int .i64 0, .int .i64 0, .int .i64 0, .nils, .int .i64 0, .int .i64 0, .int .i64 0, .int .i64 0, .int .i64 0, .int .i64 0, .int .i64 0, .int .i64 0, .int .i64 0, .int .i64 0, .int .i64 0, .int .i64 0, .int .i64 0, .int .i64 0, .int .i64 0, .int .i64 0, .int .i64 0], [.int .i64 10, .str [], .str [], .int .i64 0, .int .i64 0, .int .i64 0, .nils, .int .i64 0, .int .i64 0, .int .i64 0, .int .i64 0, .int .i64 0, .int .i64 0, .int .i64 0, .int .i64 0, .int .i64 0, .int .i64 0, .int .i64 0, .int .i64 0, .int .i64 0, .int .i64 0, .int .i64 0, .int .i64 0, .int .i64 0]]], .tup [.agg [.int .i64 3, .int .i64 1, .int .i64 0, .int .i64 0], .int .i64 0, .int .i64 0], []⟩]
section
variable (ad off : Nat → Nat)
theorem ck141 : @linesB (adrOf ad off) Tryz.prog base0 141 tb141 = true := by kernel_rfl
noncomputable def cn141 : Cons := conT 141 tb141 base0
theorem ck39 : @linesB (adrOf ad off) Tryz.prog cn141 39 tb39 = true := by kernel_rfl
noncomputable def cn39 : Cons := conT 39 tb39 cn141
theorem ck148 : @linesB (adrOf ad off) Tryz.prog cn39 148 tb148 = true := by kernel_rfl
noncomputable def cn148 : Cons := conT 148 tb148 cn39
theorem ck158 : @linesB (adrOf ad off) Tryz.prog cn148 158 tb158 = true := by kernel_rfl
noncomputable def cn158 : Cons := conT 158 tb158 cn148
theorem ck225 : @linesB (adrOf ad off) Tryz.prog cn158 225 tb225 = true := by kernel_rfl
noncomputable def cn225 : Cons := conT 225 tb225 cn158
theorem ck170 : @linesB (adrOf ad off) Tryz.prog cn225 170 tb170 = true := by kernel_rfl
noncomputable def cn170 : Cons := conT 170 tb170 cn225
theorem ck104 : @linesB (adrOf ad off) Tryz.prog cn170 104 tb104 = true := by kernel_rfl
noncomputable def cn104 : Cons := conT 104 tb104 cn170
theorem ck38 : @linesB (adrOf ad off) Tryz.prog cn104 38 tb38 = true := by kernel_rfl
noncomputable def cn38 : Cons := conT 38 tb38 cn104
theorem ck18 : @linesB (adrOf ad off) Tryz.prog cn38 18 tb18 = true := by kernel_rfl
noncomputable def cn18 : Cons := conT 18 tb18 cn38
theorem ck119 : @linesB (adrOf ad off) Tryz.prog cn18 119 tb119 = true := by kernel_rfl
noncomputable def cn119 : Cons := conT 119 tb119 cn18
theorem ck17 : @linesB (adrOf ad off) Tryz.prog cn119 17 tb17 = true := by kernel_rfl
noncomputable def cn17 : Cons := conT 17 tb17 cn119
theorem ck99 : @linesB (adrOf ad off) Tryz.prog cn17 99 tb99 = true := by kernel_rfl
noncomputable def cn99 : Cons := conT 99 tb99 cn17
theorem ck102 : @linesB (adrOf ad off) Tryz.prog cn99 102 tb102 = true := by kernel_rfl
noncomputable def cn102 : Cons := conT 102 tb102 cn99
theorem ck23 : @linesB (adrOf ad off) Tryz.prog cn102 23 tb23 = true := by kernel_rfl
noncomputable def cn23 : Cons := conT 23 tb23 cn102
theorem ck9 : @linesB (adrOf ad off) Tryz.prog cn23 9 tb9 = true := by kernel_rfl
noncomputable def cn9 : Cons := conT 9 tb9 cn23
theorem ck10 : @linesB (adrOf ad off) Tryz.prog cn9 10 tb10 = true := by kernel_rfl
noncomputable def cn10 : Cons := conT 10 tb10 cn9
theorem ck11 : @linesB (adrOf ad off) Tryz.prog cn10 11 tb11 = true := by kernel_rfl
noncomputable def cn11 : Cons := conT 11 tb11 cn10
theorem ckLast : @lineB (adrOf ad off) Tryz.prog cn11 4 ⟨[], .bool true, []⟩ = true := by kernel_rfl
theorem ranAll (hP : POk Tryz.prog) (h0 : @COk (adrOf ad off) Tryz.prog base0) : @PCall (adrOf ad off) Tryz.prog 4 [] (.bool true) [] := by
  letI : Adr := adrOf ad off
  have h1 : COk Tryz.prog cn141 := conT_run hP h0 (ck141 ad off)
  have h2 : COk Tryz.prog cn39 := conT_run hP h1 (ck39 ad off)
  have h3 : COk Tryz.prog cn148 := conT_run hP h2 (ck148 ad off)
  have h4 : COk Tryz.prog cn158 := conT_run hP h3 (ck158 ad off)
  have h5 : COk Tryz.prog cn225 := conT_run hP h4 (ck225 ad off)
  have h6 : COk Tryz.prog cn170 := conT_run hP h5 (ck170 ad off)
  have h7 : COk Tryz.prog cn104 := conT_run hP h6 (ck104 ad off)
  have h8 : COk Tryz.prog cn38 := conT_run hP h7 (ck38 ad off)
  have h9 : COk Tryz.prog cn18 := conT_run hP h8 (ck18 ad off)
  have h10 : COk Tryz.prog cn119 := conT_run hP h9 (ck119 ad off)
  have h11 : COk Tryz.prog cn17 := conT_run hP h10 (ck17 ad off)
  have h12 : COk Tryz.prog cn99 := conT_run hP h11 (ck99 ad off)
  have h13 : COk Tryz.prog cn102 := conT_run hP h12 (ck102 ad off)
  have h14 : COk Tryz.prog cn23 := conT_run hP h13 (ck23 ad off)
  have h15 : COk Tryz.prog cn9 := conT_run hP h14 (ck9 ad off)
  have h16 : COk Tryz.prog cn10 := conT_run hP h15 (ck10 ad off)
  have h17 : COk Tryz.prog cn11 := conT_run hP h16 (ck11 ad off)
  exact lineB_ok hP h17 (ckLast ad off)
end
end Go.AM
