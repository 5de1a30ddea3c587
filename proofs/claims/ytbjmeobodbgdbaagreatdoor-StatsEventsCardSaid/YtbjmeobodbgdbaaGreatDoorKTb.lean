/- A text of the proof. -/
import Derived.Test.YtbjmeobodbgdbaaGreatDoorProg
import Derived.Test.YtbjmeobodbgdbaaGreatDoorKAmZv
import Derived.KernelRfl
set_option linter.unusedSimpArgs false
set_option linter.unusedVariables false
namespace Go.AM
open Go Go.Proofs
noncomputable def asG (P : Program) : List AV → Cs → Option (AV × Cs)
  | [.iface 131 (.agg [c]), .iface 138 (.ref b g i j)], s => match aStore P 131 (.ref b g i j) (.agg [c]) s.hp.get with
    | some (b', blk) => some (.bool true, { s with hp := s.hp.put b' blk })
    | none => none
  | _, _ => none
def isG : List AV → Cs → Option (AV × Cs)
  | [.iface 587 (.gp k o _), .iface 587 (.gp k' o' _)], s => match Nat.beq k k' with
    | true => match Nat.beq o o' with
      | true => some (.bool true, s)
      | false => none
    | false => none
  | _, _ => none
noncomputable def base0 : Cons := fun f => match Nat.beq f 47 with
  | true => some (.inp (asG Tryz.prog))
  | false => match Nat.beq f 49 with
    | true => some (.inp isG)
    | false => none
def glT : Nat → AV
  | 0 => .gp 0 0 [.iface 587 (.gp 1256 0 [.str [98, 117, 115, 121]])]
  | 1 => .gp 1 0 [.iface 288 (.agg [.gp 999 133 []])]
  | 2 => .gp 2 0 [.str [], .str [], .str [112, 117, 116], .str [107, 118], .str [100, 101, 108], .str [107], .str [98, 97, 116, 99, 104], .str [119], .str [103, 101, 116], .str [104, 107], .str [102, 108, 111, 111, 114], .str [104, 107], .str [99, 101, 105, 108, 105, 110, 103], .str [104, 107], .str [99, 111, 117, 110, 116], .str [104, 114], .str [112, 105, 110], .str [], .str [117, 110, 112, 105, 110], .str [104], .str [111, 112, 101, 110], .str [104, 114], .str [110, 101, 120, 116], .str [104], .str [112, 114, 101, 118], .str [104], .str [115, 104, 117, 116], .str [104], .str [100, 105, 102, 102], .str [104, 111], .str [119, 111, 114, 107], .str [], .str [99, 111, 109, 112, 97, 99, 116], .str [], .str [115, 116, 97, 116, 115], .str []]
  | 3 => .gp 3 0 [.iface 587 (.gp 1200 0 [.str [115, 101, 116, 116, 108, 101, 100]])]
  | 4 => .gp 4 0 []
  | _ => .top
@[reducible] def adrOf (ad off : Nat → Nat) : Adr := ⟨ad, off, glT⟩
def tb154 : List Line := [
  ⟨[.agg [.int .i64 1, .nils]], .tup [.int .i64 0, .int .i64 0], []⟩,
  ⟨[.agg [.int .i64 1, .psl 4 [[.str [97], .str [120], .bool false, .int .i64 1]]]], .tup [.int .i64 0, .int .i64 0], []⟩,
  ⟨[.agg [.int .i64 1, .psl 4 [[.str [98], .str [121], .bool false, .int .i64 2]]]], .tup [.int .i64 0, .int .i64 0], []⟩,
  ⟨[.agg [.int .i64 1, .psl 4 [[.str [99], .str [122], .bool false, .int .i64 3]]]], .tup [.int .i64 0, .int .i64 0], []⟩]
def tb51 : List Line := [
  ⟨[.agg [.int .i64 16, .nils, .int .i64 16, .nils, .nils, .nils]], .int .i64 0, []⟩]
def tb161 : List Line := [
  ⟨[.psl 4 [[.str [97], .str [120], .bool false, .int .i64 1]]], .tup [.int .i64 0, .int .i64 0], []⟩,
  ⟨[.psl 4 [[.str [98], .str [121], .bool false, .int .i64 2]]], .tup [.int .i64 0, .int .i64 0], []⟩,
  ⟨[.psl 4 [[.str [99], .str [122], .bool false, .int .i64 3]]], .tup [.int .i64 0, .int .i64 0], []⟩]
def tb171 : List Line := [
  ⟨[.agg [.int .i64 1, .nils]], .tup [.int .i64 0, .int .i64 0, .int .i64 0], []⟩,
  ⟨[.agg [.int .i64 1, .psl 1 [[.psl 2 [[.int .i64 1, .psl 4 [[.str [97], .str [120], .bool false, .int .i64 1]]]]]]]], .tup [.int .i64 0, .int .i64 0, .int .i64 0], []⟩,
  ⟨[.agg [.int .i64 1, .psl 1 [[.psl 2 [[.int .i64 1, .psl 4 [[.str [97], .str [120], .bool false, .int .i64 1]]], [.int .i64 2, .psl 4 [[.str [98], .str [121], .bool false, .int .i64 2]]]]]]]], .tup [.int .i64 0, .int .i64 0, .int .i64 0], []⟩]
def tb238 : List Line := [
  ⟨[.agg [.psl 1 [[.psl 4 [[.str [98], .str [121], .bool false, .int .i64 2]]], [.psl 4 [[.str [97], .str [120], .bool false, .int .i64 1]]]], .psl 1 [[.int .i64 0], [.int .i64 0]], .psl 2 [[.str [98], .bool false], [.str [97], .bool false]], .psl 1 [[.int .i64 0], [.int .i64 0]], .int .i64 1]], .tup [.int .i64 0, .int .i64 0], []⟩]
def tb183 : List Line := [
  ⟨[.agg [.psl 1 [[.psl 4 [[.str [98], .str [121], .bool false, .int .i64 2]]], [.psl 4 [[.str [97], .str [120], .bool false, .int .i64 1]]]], .psl 1 [[.int .i64 0], [.int .i64 0]], .psl 2 [[.str [98], .bool false], [.str [97], .bool false]], .psl 1 [[.int .i64 0], [.int .i64 0]], .int .i64 1, .bool false, .str [], .bool true, .nils, .int .i64 0]], .int .i64 0, []⟩]
def tb118 : List Line := [
  ⟨[.agg [.int .i64 1, .nils, .nils, .int .i64 1]], .tup [.int .i64 0, .int .i64 0], []⟩,
  ⟨[.agg [.int .i64 1, .psl 1 [[.psl 2 [[.int .i64 1, .psl 4 [[.str [97], .str [120], .bool false, .int .i64 1]]]]]], .nils, .int .i64 2]], .tup [.int .i64 0, .int .i64 0], []⟩,
  ⟨[.agg [.int .i64 1, .psl 1 [[.psl 2 [[.int .i64 1, .psl 4 [[.str [97], .str [120], .bool false, .int .i64 1]]], [.int .i64 2, .psl 4 [[.str [98], .str [121], .bool false, .int .i64 2]]]]]], .psl 11 [[.int .i64 0, .psl 1 [[.psl 4 [[.str [98], .str [121], .bool false, .int .i64 2]]], [.psl 4 [[.str [97], .str [120], .bool false, .int .i64 1]]]], .psl 1 [[.int .i64 0], [.int .i64 0]], .psl 2 [[.str [98], .bool false], [.str [97], .bool false]], .psl 1 [[.int .i64 0], [.int .i64 0]], .int .i64 1, .bool false, .str [], .bool true, .nils, .int .i64 0]], .int .i64 3]], .tup [.int .i64 0, .int .i64 0], []⟩]
def tb50 : List Line := [
  ⟨[.agg [.int .i64 1, .nils, .int .i64 1, .nils, .nils, .int .i64 1]], .int .i64 0, []⟩,
  ⟨[.agg [.int .i64 1, .psl 4 [[.str [97], .str [120], .bool false, .int .i64 1]], .int .i64 1, .nils, .nils, .int .i64 1]], .int .i64 0, []⟩,
  ⟨[.agg [.int .i64 1, .psl 4 [[.str [98], .str [121], .bool false, .int .i64 2]], .int .i64 1, .psl 1 [[.psl 2 [[.int .i64 1, .psl 4 [[.str [97], .str [120], .bool false, .int .i64 1]]]]]], .nils, .int .i64 2]], .int .i64 0, []⟩,
  ⟨[.agg [.int .i64 1, .psl 4 [[.str [99], .str [122], .bool false, .int .i64 3]], .int .i64 1, .psl 1 [[.psl 2 [[.int .i64 1, .psl 4 [[.str [97], .str [120], .bool false, .int .i64 1]]], [.int .i64 2, .psl 4 [[.str [98], .str [121], .bool false, .int .i64 2]]]]]], .psl 11 [[.int .i64 0, .psl 1 [[.psl 4 [[.str [98], .str [121], .bool false, .int .i64 2]]], [.psl 4 [[.str [97], .str [120], .bool false, .int .i64 1]]]], .psl 1 [[.int .i64 0], [.int .i64 0]], .psl 2 [[.str [98], .bool false], [.str [97], .bool false]], .psl 1 [[.int .i64 0], [.int .i64 0]], .int .i64 1, .bool false, .str [], .bool true, .nils, .int .i64 0]], .int .i64 3]], .int .i64 0, []⟩]
def tb23 : List Line := [
  ⟨[.agg [.int .i64 1, .nils, .int .i64 1, .nils, .nils, .int .i64 1, .int .i64 0, .int .i64 16, .nils, .int .i64 16, .nils, .nils, .nils, .nils, .int .i64 0, .int .i64 0, .int .i64 0, .int .i64 0, .int .i64 0, .int .i64 0]], .int .i64 0, []⟩,
  ⟨[.agg [.int .i64 1, .psl 4 [[.str [97], .str [120], .bool false, .int .i64 1]], .int .i64 1, .nils, .nils, .int .i64 1, .int .i64 1, .int .i64 16, .nils, .int .i64 16, .nils, .nils, .nils, .nils, .int .i64 1, .int .i64 0, .int .i64 0, .int .i64 0, .int .i64 0, .int .i64 0]], .int .i64 0, []⟩,
  ⟨[.agg [.int .i64 1, .psl 4 [[.str [98], .str [121], .bool false, .int .i64 2]], .int .i64 1, .psl 1 [[.psl 2 [[.int .i64 1, .psl 4 [[.str [97], .str [120], .bool false, .int .i64 1]]]]]], .nils, .int .i64 2, .int .i64 2, .int .i64 16, .nils, .int .i64 16, .nils, .nils, .nils, .nils, .int .i64 2, .int .i64 0, .int .i64 1, .int .i64 0, .int .i64 0, .int .i64 0]], .int .i64 0, []⟩,
  ⟨[.agg [.int .i64 1, .psl 4 [[.str [99], .str [122], .bool false, .int .i64 3]], .int .i64 1, .psl 1 [[.psl 2 [[.int .i64 1, .psl 4 [[.str [97], .str [120], .bool false, .int .i64 1]]], [.int .i64 2, .psl 4 [[.str [98], .str [121], .bool false, .int .i64 2]]]]]], .psl 11 [[.int .i64 0, .psl 1 [[.psl 4 [[.str [98], .str [121], .bool false, .int .i64 2]]], [.psl 4 [[.str [97], .str [120], .bool false, .int .i64 1]]]], .psl 1 [[.int .i64 0], [.int .i64 0]], .psl 2 [[.str [98], .bool false], [.str [97], .bool false]], .psl 1 [[.int .i64 0], [.int .i64 0]], .int .i64 1, .bool false, .str [], .bool true, .nils, .int .i64 0]], .int .i64 3, .int .i64 3, .int .i64 16, .nils, .int .i64 16, .nils, .nils, .nils, .nils, .int .i64 3, .int .i64 0, .int .i64 2, .int .i64 0, .int .i64 0, .int .i64 3]], .int .i64 0, []⟩,
  ⟨[.agg [.int .i64 1, .psl 4 [[.str [99], .str [122], .bool false, .int .i64 3]], .int .i64 1, .psl 1 [[.psl 2 [[.int .i64 1, .psl 4 [[.str [97], .str [120], .bool false, .int .i64 1]]], [.int .i64 2, .psl 4 [[.str [98], .str [121], .bool false, .int .i64 2]]]]]], .psl 11 [[.int .i64 0, .psl 1 [[.psl 4 [[.str [98], .str [121], .bool false, .int .i64 2]]], [.psl 4 [[.str [97], .str [120], .bool false, .int .i64 1]]]], .psl 1 [[.int .i64 0], [.int .i64 0]], .psl 2 [[.str [98], .bool false], [.str [97], .bool false]], .psl 1 [[.int .i64 0], [.int .i64 0]], .int .i64 1, .bool false, .str [], .bool true, .nils, .int .i64 0]], .int .i64 3, .int .i64 3, .int .i64 16, .nils, .int .i64 16, .nils, .nils, .nils, .nils, .int .i64 3, .int .i64 1, .int .i64 2, .int .i64 0, .int .i64 0, .int .i64 3]], .int .i64 0, []⟩]
def tb132 : List Line := [
  ⟨[.agg [.int .i64 1, .nils, .int .i64 1, .nils, .nils, .int .i64 1], .psl 4 [[.str [97], .str [120], .bool false, .int .i64 1]]], .tup [.agg [.int .i64 1, .slk 0 0 4 0 1 2 true, .int .i64 1, .nils, .nils, .int .i64 1], .int .i64 1, .int .i64 0], [⟨0, true, true, 4, [[.str [97], .str [120], .bool false, .int .i64 1], [.str [], .str [], .bool false, .int .i64 0]], none⟩]⟩,
  ⟨[.agg [.int .i64 1, .psl 4 [[.str [97], .str [120], .bool false, .int .i64 1]], .int .i64 1, .nils, .nils, .int .i64 1], .psl 4 [[.str [98], .str [121], .bool false, .int .i64 2]]], .tup [.agg [.int .i64 1, .slk 1 0 4 0 1 2 true, .int .i64 1, .slk 0 0 1 0 1 1 true, .nils, .int .i64 2], .int .i64 2, .int .i64 0], [⟨0, true, false, 1, [[.psl 2 [[.int .i64 1, .psl 4 [[.str [97], .str [120], .bool false, .int .i64 1]]]]]], none⟩, ⟨0, true, true, 4, [[.str [98], .str [121], .bool false, .int .i64 2], [.str [], .str [], .bool false, .int .i64 0]], none⟩]⟩,
  ⟨[.agg [.int .i64 1, .psl 4 [[.str [98], .str [121], .bool false, .int .i64 2]], .int .i64 1, .psl 1 [[.psl 2 [[.int .i64 1, .psl 4 [[.str [97], .str [120], .bool false, .int .i64 1]]]]]], .nils, .int .i64 2], .psl 4 [[.str [99], .str [122], .bool false, .int .i64 3]]], .tup [.agg [.int .i64 1, .slk 2 0 4 0 1 2 true, .int .i64 1, .slk 1 0 1 0 1 1 true, .sl 0 0 11 0 1, .int .i64 3], .int .i64 2, .int .i64 0], [⟨0, true, false, 11, [[.int .i64 0, .psl 1 [[.psl 4 [[.str [98], .str [121], .bool false, .int .i64 2]]], [.psl 4 [[.str [97], .str [120], .bool false, .int .i64 1]]]], .psl 1 [[.int .i64 0], [.int .i64 0]], .psl 2 [[.str [98], .bool false], [.str [97], .bool false]], .psl 1 [[.int .i64 0], [.int .i64 0]], .int .i64 1, .bool false, .str [], .bool true, .nils, .int .i64 0]], none⟩, ⟨0, true, false, 1, [[.psl 2 [[.int .i64 1, .psl 4 [[.str [97], .str [120], .bool false, .int .i64 1]]], [.int .i64 2, .psl 4 [[.str [98], .str [121], .bool false, .int .i64 2]]]]]], none⟩, ⟨0, true, true, 4, [[.str [99], .str [122], .bool false, .int .i64 3], [.str [], .str [], .bool false, .int .i64 0]], none⟩]⟩,
  ⟨[.agg [.int .i64 1, .psl 4 [[.str [99], .str [122], .bool false, .int .i64 3]], .int .i64 1, .psl 1 [[.psl 2 [[.int .i64 1, .psl 4 [[.str [97], .str [120], .bool false, .int .i64 1]]], [.int .i64 2, .psl 4 [[.str [98], .str [121], .bool false, .int .i64 2]]]]]], .psl 11 [[.int .i64 0, .psl 1 [[.psl 4 [[.str [98], .str [121], .bool false, .int .i64 2]]], [.psl 4 [[.str [97], .str [120], .bool false, .int .i64 1]]]], .psl 1 [[.int .i64 0], [.int .i64 0]], .psl 2 [[.str [98], .bool false], [.str [97], .bool false]], .psl 1 [[.int .i64 0], [.int .i64 0]], .int .i64 1, .bool false, .str [], .bool true, .nils, .int .i64 0]], .int .i64 3], .psl 4 [[.str [97], .str [], .bool true, .int .i64 4]]], .tup [.agg [.int .i64 0, .nils, .int .i64 0, .nils, .nils, .int .i64 0], .int .i64 0, .int .i64 10], []⟩]
def tb22 : List Line := [
  ⟨[.agg [.int .i64 1, .nils, .int .i64 1, .nils, .nils, .int .i64 1, .int .i64 0, .int .i64 16, .nils, .int .i64 16, .nils, .nils, .nils, .nils, .int .i64 0, .int .i64 0, .int .i64 0, .int .i64 0, .int .i64 0, .int .i64 0], .agg [.int .i64 1, .int .i64 0, .str [97], .str [120], .str [], .str [], .bool false, .int .i64 0, .int .i64 0, .int .i64 0, .int .i64 0, .nils]], .tup [.agg [.int .i64 1, .slk 0 0 4 0 1 2 true, .int .i64 1, .nils, .nils, .int .i64 1, .int .i64 1, .int .i64 16, .nils, .int .i64 16, .nils, .nils, .nils, .nils, .int .i64 1, .int .i64 0, .int .i64 0, .int .i64 0, .int .i64 0, .int .i64 0], .agg [.int .i64 0, .str [], .str [], .int .i64 0, .int .i64 0, .int .i64 0, .nils, .int .i64 0, .int .i64 0, .int .i64 0, .int .i64 0, .int .i64 0, .int .i64 0, .int .i64 0, .int .i64 0, .int .i64 0, .int .i64 0, .int .i64 0, .int .i64 0, .int .i64 0, .int .i64 0, .int .i64 0, .int .i64 0, .int .i64 0], .int .i64 0], [⟨0, true, true, 4, [[.str [97], .str [120], .bool false, .int .i64 1], [.str [], .str [], .bool false, .int .i64 0]], none⟩]⟩,
  ⟨[.agg [.int .i64 1, .psl 4 [[.str [97], .str [120], .bool false, .int .i64 1]], .int .i64 1, .nils, .nils, .int .i64 1, .int .i64 1, .int .i64 16, .nils, .int .i64 16, .nils, .nils, .nils, .nils, .int .i64 1, .int .i64 0, .int .i64 0, .int .i64 0, .int .i64 0, .int .i64 0], .agg [.int .i64 1, .int .i64 0, .str [98], .str [121], .str [], .str [], .bool false, .int .i64 0, .int .i64 0, .int .i64 0, .int .i64 0, .nils]], .tup [.agg [.int .i64 1, .slk 1 0 4 0 1 2 true, .int .i64 1, .slk 0 0 1 0 1 1 true, .nils, .int .i64 2, .int .i64 2, .int .i64 16, .nils, .int .i64 16, .nils, .nils, .nils, .nils, .int .i64 2, .int .i64 0, .int .i64 1, .int .i64 0, .int .i64 0, .int .i64 0], .agg [.int .i64 0, .str [], .str [], .int .i64 0, .int .i64 0, .int .i64 0, .nils, .int .i64 0, .int .i64 0, .int .i64 0, .int .i64 0, .int .i64 0, .int .i64 0, .int .i64 0, .int .i64 0, .int .i64 0, .int .i64 0, .int .i64 0, .int .i64 0, .int .i64 0, .int .i64 0, .int .i64 0, .int .i64 0, .int .i64 0], .int .i64 0], [⟨0, true, false, 1, [[.psl 2 [[.int .i64 1, .psl 4 [[.str [97], .str [120], .bool false, .int .i64 1]]]]]], none⟩, ⟨0, true, true, 4, [[.str [98], .str [121], .bool false, .int .i64 2], [.str [], .str [], .bool false, .int .i64 0]], none⟩]⟩,
  ⟨[.agg [.int .i64 1, .psl 4 [[.str [98], .str [121], .bool false, .int .i64 2]], .int .i64 1, .psl 1 [[.psl 2 [[.int .i64 1, .psl 4 [[.str [97], .str [120], .bool false, .int .i64 1]]]]]], .nils, .int .i64 2, .int .i64 2, .int .i64 16, .nils, .int .i64 16, .nils, .nils, .nils, .nils, .int .i64 2, .int .i64 0, .int .i64 1, .int .i64 0, .int .i64 0, .int .i64 0], .agg [.int .i64 1, .int .i64 3, .str [99], .str [122], .str [], .str [], .bool false, .int .i64 0, .int .i64 0, .int .i64 0, .int .i64 0, .nils]], .tup [.agg [.int .i64 1, .slk 2 0 4 0 1 2 true, .int .i64 1, .slk 1 0 1 0 1 1 true, .sl 0 0 11 0 1, .int .i64 3, .int .i64 3, .int .i64 16, .nils, .int .i64 16, .nils, .nils, .nils, .nils, .int .i64 3, .int .i64 0, .int .i64 2, .int .i64 0, .int .i64 0, .int .i64 3], .agg [.int .i64 0, .str [], .str [], .int .i64 0, .int .i64 0, .int .i64 0, .nils, .int .i64 0, .int .i64 0, .int .i64 0, .int .i64 0, .int .i64 0, .int .i64 0, .int .i64 0, .int .i64 0, .int .i64 0, .int .i64 0, .int .i64 0, .int .i64 0, .int .i64 0, .int .i64 0, .int .i64 0, .int .i64 0, .int .i64 0], .int .i64 0], [⟨0, true, false, 11, [[.int .i64 0, .psl 1 [[.psl 4 [[.str [98], .str [121], .bool false, .int .i64 2]]], [.psl 4 [[.str [97], .str [120], .bool false, .int .i64 1]]]], .psl 1 [[.int .i64 0], [.int .i64 0]], .psl 2 [[.str [98], .bool false], [.str [97], .bool false]], .psl 1 [[.int .i64 0], [.int .i64 0]], .int .i64 1, .bool false, .str [], .bool true, .nils, .int .i64 0]], none⟩, ⟨0, true, false, 1, [[.psl 2 [[.int .i64 1, .psl 4 [[.str [97], .str [120], .bool false, .int .i64 1]]], [.int .i64 2, .psl 4 [[.str [98], .str [121], .bool false, .int .i64 2]]]]]], none⟩, ⟨0, true, true, 4, [[.str [99], .str [122], .bool false, .int .i64 3], [.str [], .str [], .bool false, .int .i64 0]], none⟩]⟩,
  ⟨[.agg [.int .i64 1, .psl 4 [[.str [99], .str [122], .bool false, .int .i64 3]], .int .i64 1, .psl 1 [[.psl 2 [[.int .i64 1, .psl 4 [[.str [97], .str [120], .bool false, .int .i64 1]]], [.int .i64 2, .psl 4 [[.str [98], .str [121], .bool false, .int .i64 2]]]]]], .psl 11 [[.int .i64 0, .psl 1 [[.psl 4 [[.str [98], .str [121], .bool false, .int .i64 2]]], [.psl 4 [[.str [97], .str [120], .bool false, .int .i64 1]]]], .psl 1 [[.int .i64 0], [.int .i64 0]], .psl 2 [[.str [98], .bool false], [.str [97], .bool false]], .psl 1 [[.int .i64 0], [.int .i64 0]], .int .i64 1, .bool false, .str [], .bool true, .nils, .int .i64 0]], .int .i64 3, .int .i64 3, .int .i64 16, .nils, .int .i64 16, .nils, .nils, .nils, .nils, .int .i64 3, .int .i64 0, .int .i64 2, .int .i64 0, .int .i64 0, .int .i64 3], .agg [.int .i64 2, .int .i64 0, .str [97], .str [], .str [], .str [], .bool false, .int .i64 0, .int .i64 0, .int .i64 0, .int .i64 0, .nils]], .tup [.agg [.int .i64 1, .psl 4 [[.str [99], .str [122], .bool false, .int .i64 3]], .int .i64 1, .psl 1 [[.psl 2 [[.int .i64 1, .psl 4 [[.str [97], .str [120], .bool false, .int .i64 1]]], [.int .i64 2, .psl 4 [[.str [98], .str [121], .bool false, .int .i64 2]]]]]], .psl 11 [[.int .i64 0, .psl 1 [[.psl 4 [[.str [98], .str [121], .bool false, .int .i64 2]]], [.psl 4 [[.str [97], .str [120], .bool false, .int .i64 1]]]], .psl 1 [[.int .i64 0], [.int .i64 0]], .psl 2 [[.str [98], .bool false], [.str [97], .bool false]], .psl 1 [[.int .i64 0], [.int .i64 0]], .int .i64 1, .bool false, .str [], .bool true, .nils, .int .i64 0]], .int .i64 3, .int .i64 3, .int .i64 16, .nils, .int .i64 16, .nils, .nils, .nils, .nils, .int .i64 3, .int .i64 1, .int .i64 2, .int .i64 0, .int .i64 0, .int .i64 3], .agg [.int .i64 10, .str [], .str [], .int .i64 0, .int .i64 0, .int .i64 0, .nils, .int .i64 0, .int .i64 0, .int .i64 0, .int .i64 0, .int .i64 0, .int .i64 0, .int .i64 0, .int .i64 0, .int .i64 0, .int .i64 0, .int .i64 0, .int .i64 0, .int .i64 0, .int .i64 0, .int .i64 0, .int .i64 0, .int .i64 0], .int .i64 0], []⟩]
def tb113 : List Line := [
  ⟨[.agg [.psl 4 [[.str [99], .str [122], .bool false, .int .i64 3]], .psl 2 [[.int .i64 2, .psl 4 [[.str [98], .str [121], .bool false, .int .i64 2]]], [.int .i64 1, .psl 4 [[.str [97], .str [120], .bool false, .int .i64 1]]]]]], .tup [.int .i64 0, .int .i64 0], []⟩]
def tb116 : List Line := [
  ⟨[.agg [.psl 4 [[.str [99], .str [122], .bool false, .int .i64 3]], .psl 2 [[.int .i64 2, .psl 4 [[.str [98], .str [121], .bool false, .int .i64 2]]], [.int .i64 1, .psl 4 [[.str [97], .str [120], .bool false, .int .i64 1]]]]]], .sl 0 2 2 0 3, [⟨2, true, true, 2, [[.str [97], .str [120]], [.str [98], .str [121]], [.str [99], .str [122]]], none⟩]⟩]
def tb28 : List Line := [
  ⟨[.agg [.psl 4 [[.str [99], .str [122], .bool false, .int .i64 3]], .psl 2 [[.int .i64 2, .psl 4 [[.str [98], .str [121], .bool false, .int .i64 2]]], [.int .i64 1, .psl 4 [[.str [97], .str [120], .bool false, .int .i64 1]]]]], .agg [.str [], .str [], .bool false]], .tup [.int .i64 3, .int .i64 0], []⟩]
def tb12 : List Line := [
  ⟨[.agg [.int .i64 1, .psl 4 [[.str [99], .str [122], .bool false, .int .i64 3]], .int .i64 1, .psl 1 [[.psl 2 [[.int .i64 1, .psl 4 [[.str [97], .str [120], .bool false, .int .i64 1]]], [.int .i64 2, .psl 4 [[.str [98], .str [121], .bool false, .int .i64 2]]]]]], .psl 11 [[.int .i64 0, .psl 1 [[.psl 4 [[.str [98], .str [121], .bool false, .int .i64 2]]], [.psl 4 [[.str [97], .str [120], .bool false, .int .i64 1]]]], .psl 1 [[.int .i64 0], [.int .i64 0]], .psl 2 [[.str [98], .bool false], [.str [97], .bool false]], .psl 1 [[.int .i64 0], [.int .i64 0]], .int .i64 1, .bool false, .str [], .bool true, .nils, .int .i64 0]], .int .i64 3, .int .i64 3, .int .i64 16, .nils, .int .i64 16, .nils, .nils, .nils, .nils, .int .i64 3, .int .i64 1, .int .i64 2, .int .i64 0, .int .i64 0, .int .i64 3]], .tup [.agg [.int .i64 3, .int .i64 3, .int .i64 0, .int .i64 1, .int .i64 2, .int .i64 1, .int .i64 1, .int .i64 3, .int .i64 0, .int .i64 0, .int .i64 2, .int .i64 3, .int .i64 1, .int .i64 2, .int .i64 0, .int .i64 0, .int .i64 3], .int .i64 0], []⟩]
def tb13 : List Line := [
  ⟨[.agg [.int .i64 1, .psl 4 [[.str [99], .str [122], .bool false, .int .i64 3]], .int .i64 1, .psl 1 [[.psl 2 [[.int .i64 1, .psl 4 [[.str [97], .str [120], .bool false, .int .i64 1]]], [.int .i64 2, .psl 4 [[.str [98], .str [121], .bool false, .int .i64 2]]]]]], .psl 11 [[.int .i64 0, .psl 1 [[.psl 4 [[.str [98], .str [121], .bool false, .int .i64 2]]], [.psl 4 [[.str [97], .str [120], .bool false, .int .i64 1]]]], .psl 1 [[.int .i64 0], [.int .i64 0]], .psl 2 [[.str [98], .bool false], [.str [97], .bool false]], .psl 1 [[.int .i64 0], [.int .i64 0]], .int .i64 1, .bool false, .str [], .bool true, .nils, .int .i64 0]], .int .i64 3, .int .i64 3, .int .i64 16, .nils, .int .i64 16, .nils, .nils, .nils, .nils, .int .i64 3, .int .i64 1, .int .i64 2, .int .i64 0, .int .i64 0, .int .i64 3]], .tup [.sl 0 0 5 0 1, .int .i64 0], [⟨0, true, true, 5, [[.int .i64 2, .int .i64 2, .int .i64 0, .bool true, .int .i64 2]], none⟩]⟩]
def tb7 : List Line := [
  ⟨[.psl 12 [[.int .i64 1, .int .i64 0, .str [97], .str [120], .str [], .str [], .bool false, .int .i64 0, .int .i64 0, .int .i64 0, .int .i64 0, .nils], [.int .i64 1, .int .i64 0, .str [98], .str [121], .str [], .str [], .bool false, .int .i64 0, .int .i64 0, .int .i64 0, .int .i64 0, .nils], [.int .i64 1, .int .i64 3, .str [99], .str [122], .str [], .str [], .bool false, .int .i64 0, .int .i64 0, .int .i64 0, .int .i64 0, .nils], [.int .i64 2, .int .i64 0, .str [97], .str [], .str [], .str [], .bool false, .int .i64 0, .int .i64 0, .int .i64 0, .int .i64 0, .nils]], .psl 24 [[.int .i64 0, .str [], .str [], .int .i64 0, .int .i64 0, .int .i64 0, .nils, .int .i64 0, .int .i64 0, .int .i64 0, .int .i64 0, .int .i64 0, .int .i64 0, .int .i64 0, .int .i64 0, .int .i64 0, .int .i64 0, .int .i64 0, .int .i64 0, .int .i64 0, .int .i64 0, .int .i64 0, .int .i64 0, .int .i64 0], [.int .i64 0, .str [], .str [], .int .i64 0, .int .i64 0, .int .i64 0, .nils, .int .i64 0, .int .i64 0, .int .i64 0, .int .i64 0, .int .i64 0, .int .i64 0, .int .i64 0, .int .i64 0, .int .i64 0, .int .i64 0, .int .i64 0, .int .i64 0, .int .i64 0, .int .i64 0, .int .i64 0, .int .i64 0, .int .i64 0], [.int .i64 0, .str [], .str [], .int .i64 0, .int .i64 0, .int .i64 0, .nils, .int .i64 0, .int .i64 0, .int .i64 0, .int .i64 0, .int .i64 0, .int .i64 0, .int .i64 0, .int .i64 0, .int .i64 0, .int .i64 0, .int .i64 0, .int .i64 0, .int .i64 0, .int .i64 0, .int .i64 0, .int .i64 0, .int .i64 0], [.int .i64 10, .str [], .str [], .int .i64 0, .int .i64 0, .int .i64 0, .nils, .int .i64 0, .int .i64 0, .int .i64 0, .int .i64 0, .int .i64 0, .int .i64 0, .int .i64 0, .int .i64 0, .int .i64 0, .int .i64 0, .int .i64 0, .int .i64 0, .int .i64 0, .int .i64 0, .int .i64 0, .int .i64 0, .int .i64 0]]], .tup [.agg [.int .i64 3, .int .i64 1, .int .i64 0, .int .i64 0], .int .i64 0, .int .i64 0], []⟩]
section
variable (ad off : Nat → Nat)
theorem ck154 : @linesB (adrOf ad off) Tryz.prog base0 154 tb154 = true := by kernel_rfl
noncomputable def cn154 : Cons := conT 154 tb154 base0
theorem ck51 : @linesB (adrOf ad off) Tryz.prog cn154 51 tb51 = true := by kernel_rfl
noncomputable def cn51 : Cons := conT 51 tb51 cn154
theorem ck161 : @linesB (adrOf ad off) Tryz.prog cn51 161 tb161 = true := by kernel_rfl
noncomputable def cn161 : Cons := conT 161 tb161 cn51
theorem ck171 : @linesB (adrOf ad off) Tryz.prog cn161 171 tb171 = true := by kernel_rfl
noncomputable def cn171 : Cons := conT 171 tb171 cn161
theorem ck238 : @linesB (adrOf ad off) Tryz.prog cn171 238 tb238 = true := by kernel_rfl
noncomputable def cn238 : Cons := conT 238 tb238 cn171
theorem ck183 : @linesB (adrOf ad off) Tryz.prog cn238 183 tb183 = true := by kernel_rfl
noncomputable def cn183 : Cons := conT 183 tb183 cn238
theorem ck118 : @linesB (adrOf ad off) Tryz.prog cn183 118 tb118 = true := by kernel_rfl
noncomputable def cn118 : Cons := conT 118 tb118 cn183
theorem ck50 : @linesB (adrOf ad off) Tryz.prog cn118 50 tb50 = true := by kernel_rfl
noncomputable def cn50 : Cons := conT 50 tb50 cn118
theorem ck23 : @linesB (adrOf ad off) Tryz.prog cn50 23 tb23 = true := by kernel_rfl
noncomputable def cn23 : Cons := conT 23 tb23 cn50
theorem ck132 : @linesB (adrOf ad off) Tryz.prog cn23 132 tb132 = true := by kernel_rfl
noncomputable def cn132 : Cons := conT 132 tb132 cn23
theorem ck22 : @linesB (adrOf ad off) Tryz.prog cn132 22 tb22 = true := by kernel_rfl
noncomputable def cn22 : Cons := conT 22 tb22 cn132
theorem ck113 : @linesB (adrOf ad off) Tryz.prog cn22 113 tb113 = true := by kernel_rfl
noncomputable def cn113 : Cons := conT 113 tb113 cn22
theorem ck116 : @linesB (adrOf ad off) Tryz.prog cn113 116 tb116 = true := by kernel_rfl
noncomputable def cn116 : Cons := conT 116 tb116 cn113
theorem ck28 : @linesB (adrOf ad off) Tryz.prog cn116 28 tb28 = true := by kernel_rfl
noncomputable def cn28 : Cons := conT 28 tb28 cn116
theorem ck12 : @linesB (adrOf ad off) Tryz.prog cn28 12 tb12 = true := by kernel_rfl
noncomputable def cn12 : Cons := conT 12 tb12 cn28
theorem ck13 : @linesB (adrOf ad off) Tryz.prog cn12 13 tb13 = true := by kernel_rfl
noncomputable def cn13 : Cons := conT 13 tb13 cn12
theorem ck7 : @linesB (adrOf ad off) Tryz.prog cn13 7 tb7 = true := by kernel_rfl
noncomputable def cn7 : Cons := conT 7 tb7 cn13
theorem ckLast : @lineB (adrOf ad off) Tryz.prog cn7 5 ⟨[], .bool true, []⟩ = true := by kernel_rfl
theorem ranAll (hP : POk Tryz.prog) (h0 : @COk (adrOf ad off) Tryz.prog base0) : @PCall (adrOf ad off) Tryz.prog 5 [] (.bool true) [] := by
  letI : Adr := adrOf ad off
  have h1 : COk Tryz.prog cn154 := conT_run hP h0 (ck154 ad off)
  have h2 : COk Tryz.prog cn51 := conT_run hP h1 (ck51 ad off)
  have h3 : COk Tryz.prog cn161 := conT_run hP h2 (ck161 ad off)
  have h4 : COk Tryz.prog cn171 := conT_run hP h3 (ck171 ad off)
  have h5 : COk Tryz.prog cn238 := conT_run hP h4 (ck238 ad off)
  have h6 : COk Tryz.prog cn183 := conT_run hP h5 (ck183 ad off)
  have h7 : COk Tryz.prog cn118 := conT_run hP h6 (ck118 ad off)
  have h8 : COk Tryz.prog cn50 := conT_run hP h7 (ck50 ad off)
  have h9 : COk Tryz.prog cn23 := conT_run hP h8 (ck23 ad off)
  have h10 : COk Tryz.prog cn132 := conT_run hP h9 (ck132 ad off)
  have h11 : COk Tryz.prog cn22 := conT_run hP h10 (ck22 ad off)
  have h12 : COk Tryz.prog cn113 := conT_run hP h11 (ck113 ad off)
  have h13 : COk Tryz.prog cn116 := conT_run hP h12 (ck116 ad off)
  have h14 : COk Tryz.prog cn28 := conT_run hP h13 (ck28 ad off)
  have h15 : COk Tryz.prog cn12 := conT_run hP h14 (ck12 ad off)
  have h16 : COk Tryz.prog cn13 := conT_run hP h15 (ck13 ad off)
  have h17 : COk Tryz.prog cn7 := conT_run hP h16 (ck7 ad off)
  exact lineB_ok hP h17 (ckLast ad off)
end
end Go.AM
