/- A text of the proof. -/
import Derived.Test.YtbjmeobodbgdbaaGreatDoorProg
import Derived.Test.YtbjmeobodbgdbaaGreatDoorKAmZc
import Derived.Test.YtbjmeobodbgdbaaGreatDoorKGp
namespace Go.T
open Go Go.AM Go.Proofs
def TApiKeRange.enc (x : TApiKeRange) : List AV := [.str x.Low, .str x.High, .bool x.Bound]
theorem TApiKeRange.eta (x : TApiKeRange) : TApiKeRange.mk x.Low x.High x.Bound = x := rfl
theorem TApiKeRange.allP (l : List TApiKeRange) : (l.map TApiKeRange.enc).all AV.isP.isPs = true := pures_map (fun _ => rfl) l
theorem TApiKeRange.allF (l : List TApiKeRange) : (l.map TApiKeRange.enc).all AV.flatR.flatRs = true := flats_map (fun _ => rfl) l
attribute [push_cast] TApiKeRange.enc TApiKeRange.eta TApiKeRange.allP TApiKeRange.allF
def TApiHandle.enc (x : TApiHandle) : List AV := [.int .i64 x.Index, .int .i64 x.Gen]
theorem TApiHandle.eta (x : TApiHandle) : TApiHandle.mk x.Index x.Gen = x := rfl
theorem TApiHandle.allP (l : List TApiHandle) : (l.map TApiHandle.enc).all AV.isP.isPs = true := pures_map (fun _ => rfl) l
theorem TApiHandle.allF (l : List TApiHandle) : (l.map TApiHandle.enc).all AV.flatR.flatRs = true := flats_map (fun _ => rfl) l
attribute [push_cast] TApiHandle.enc TApiHandle.eta TApiHandle.allP TApiHandle.allF
def TApiOpWrite.enc (x : TApiOpWrite) : List AV := [.str x.Key, .str x.Val, .bool x.Dead]
theorem TApiOpWrite.eta (x : TApiOpWrite) : TApiOpWrite.mk x.Key x.Val x.Dead = x := rfl
theorem TApiOpWrite.allP (l : List TApiOpWrite) : (l.map TApiOpWrite.enc).all AV.isP.isPs = true := pures_map (fun _ => rfl) l
theorem TApiOpWrite.allF (l : List TApiOpWrite) : (l.map TApiOpWrite.enc).all AV.flatR.flatRs = true := flats_map (fun _ => rfl) l
attribute [push_cast] TApiOpWrite.enc TApiOpWrite.eta TApiOpWrite.allP TApiOpWrite.allF
def TApiOpCall.enc (x : TApiOpCall) : List AV := [.int .i64 x.Kind, .int .i64 x.Grant, .str x.Key, .str x.Val, .str x.Range.Low, .str x.Range.High, .bool x.Range.Bound, .int .i64 x.Handle.Index, .int .i64 x.Handle.Gen, .int .i64 x.Other.Index, .int .i64 x.Other.Gen, .psl 3 (x.Writes.map TApiOpWrite.enc)]
theorem TApiOpCall.eta (x : TApiOpCall) : TApiOpCall.mk x.Kind x.Grant x.Key x.Val x.Range x.Handle x.Other x.Writes = x := rfl
theorem TApiOpCall.allP (l : List TApiOpCall) : (l.map TApiOpCall.enc).all AV.isP.isPs = true := pures_map (fun _ => rfl) l
attribute [push_cast] TApiOpCall.enc TApiOpCall.eta TApiOpCall.allP
def TApiDfItem.enc (x : TApiDfItem) : List AV := [.int .i64 x.Kind, .str x.Key, .str x.Old, .str x.New]
theorem TApiDfItem.eta (x : TApiDfItem) : TApiDfItem.mk x.Kind x.Key x.Old x.New = x := rfl
theorem TApiDfItem.allP (l : List TApiDfItem) : (l.map TApiDfItem.enc).all AV.isP.isPs = true := pures_map (fun _ => rfl) l
theorem TApiDfItem.allF (l : List TApiDfItem) : (l.map TApiDfItem.enc).all AV.flatR.flatRs = true := flats_map (fun _ => rfl) l
attribute [push_cast] TApiDfItem.enc TApiDfItem.eta TApiDfItem.allP TApiDfItem.allF
def TApiStStats.enc (x : TApiStStats) : List AV := [.int .i64 x.Live, .int .i64 x.Entries, .int .i64 x.Dead, .int .i64 x.Buffered, .int .i64 x.Runs, .int .i64 x.Height, .int .i64 x.Jobs, .int .i64 x.Debt, .int .i64 x.Pins, .int .i64 x.Cursors, .int .i64 x.Held, .int .i64 x.Writes, .int .i64 x.Busy, .int .i64 x.Seals, .int .i64 x.Installs, .int .i64 x.Steps, .int .i64 x.Lost]
theorem TApiStStats.eta (x : TApiStStats) : TApiStStats.mk x.Live x.Entries x.Dead x.Buffered x.Runs x.Height x.Jobs x.Debt x.Pins x.Cursors x.Held x.Writes x.Busy x.Seals x.Installs x.Steps x.Lost = x := rfl
theorem TApiStStats.allP (l : List TApiStStats) : (l.map TApiStStats.enc).all AV.isP.isPs = true := pures_map (fun _ => rfl) l
theorem TApiStStats.allF (l : List TApiStStats) : (l.map TApiStStats.enc).all AV.flatR.flatRs = true := flats_map (fun _ => rfl) l
attribute [push_cast] TApiStStats.enc TApiStStats.eta TApiStStats.allP TApiStStats.allF
def TApiOpAnswer.enc (x : TApiOpAnswer) : List AV := [.int .i64 x.E, .str x.Key, .str x.Val, .int .i64 x.N, .int .i64 x.Handle.Index, .int .i64 x.Handle.Gen, .psl 4 (x.Items.map TApiDfItem.enc), .int .i64 x.Stats.Live, .int .i64 x.Stats.Entries, .int .i64 x.Stats.Dead, .int .i64 x.Stats.Buffered, .int .i64 x.Stats.Runs, .int .i64 x.Stats.Height, .int .i64 x.Stats.Jobs, .int .i64 x.Stats.Debt, .int .i64 x.Stats.Pins, .int .i64 x.Stats.Cursors, .int .i64 x.Stats.Held, .int .i64 x.Stats.Writes, .int .i64 x.Stats.Busy, .int .i64 x.Stats.Seals, .int .i64 x.Stats.Installs, .int .i64 x.Stats.Steps, .int .i64 x.Stats.Lost]
theorem TApiOpAnswer.eta (x : TApiOpAnswer) : TApiOpAnswer.mk x.E x.Key x.Val x.N x.Handle x.Items x.Stats = x := rfl
theorem TApiOpAnswer.allP (l : List TApiOpAnswer) : (l.map TApiOpAnswer.enc).all AV.isP.isPs = true := pures_map (fun _ => rfl) l
attribute [push_cast] TApiOpAnswer.enc TApiOpAnswer.eta TApiOpAnswer.allP
def TApiStEvents.enc (x : TApiStEvents) : List AV := [.int .i64 x.Writes, .int .i64 x.Busy, .int .i64 x.Pins, .int .i64 x.Cursors]
theorem TApiStEvents.eta (x : TApiStEvents) : TApiStEvents.mk x.Writes x.Busy x.Pins x.Cursors = x := rfl
theorem TApiStEvents.allP (l : List TApiStEvents) : (l.map TApiStEvents.enc).all AV.isP.isPs = true := pures_map (fun _ => rfl) l
theorem TApiStEvents.allF (l : List TApiStEvents) : (l.map TApiStEvents.enc).all AV.flatR.flatRs = true := flats_map (fun _ => rfl) l
attribute [push_cast] TApiStEvents.enc TApiStEvents.eta TApiStEvents.allP TApiStEvents.allF
theorem tSize2 : tSize Tryz.prog 2 = some 1 := by kernel_rfl
theorem tBytes2 : tBytes Tryz.prog 2 = some 8 := by kernel_rfl
theorem tAgg2 : tAgg Tryz.prog 2 = some false := by kernel_rfl
theorem tUnd2 : Tryz.prog.underlying 2 = some (.int .i64) := by kernel_rfl
theorem tZero2 : tZero Tryz.prog 2 = some [.int .i64 0] := by kernel_rfl
theorem tSize3 : tSize Tryz.prog 3 = some 1 := by kernel_rfl
theorem tBytes3 : tBytes Tryz.prog 3 = some 8 := by kernel_rfl
theorem tAgg3 : tAgg Tryz.prog 3 = some false := by kernel_rfl
theorem tUnd3 : Tryz.prog.underlying 3 = some (.int .i64) := by kernel_rfl
theorem tZero3 : tZero Tryz.prog 3 = some [.int .i64 0] := by kernel_rfl
theorem tSize4 : tSize Tryz.prog 4 = some 1 := by kernel_rfl
theorem tBytes4 : tBytes Tryz.prog 4 = some 1 := by kernel_rfl
theorem tAgg4 : tAgg Tryz.prog 4 = some false := by kernel_rfl
theorem tUnd4 : Tryz.prog.underlying 4 = some .bool := by kernel_rfl
theorem eqTyB4 {a b : Bool} : aBin Tryz.prog .eql 4 (.bool a) (.bool b) = some (.bool (a == b)) := by kernel_rfl
theorem neTyB4 {a b : Bool} : aBin Tryz.prog .neq 4 (.bool a) (.bool b) = some (.bool (!(a == b))) := by kernel_rfl
theorem tZero4 : tZero Tryz.prog 4 = some [.bool false] := by kernel_rfl
theorem tSize9 : tSize Tryz.prog 9 = some 1 := by kernel_rfl
theorem tBytes9 : tBytes Tryz.prog 9 = some 16 := by kernel_rfl
theorem tAgg9 : tAgg Tryz.prog 9 = some false := by kernel_rfl
theorem tStr9 : tStr Tryz.prog 9 = some () := by kernel_rfl
theorem tUnd9 : Tryz.prog.underlying 9 = some .string := by kernel_rfl
theorem tZero9 : tZero Tryz.prog 9 = some [.str []] := by kernel_rfl
theorem tSize22 : tSize Tryz.prog 22 = some 1 := by kernel_rfl
theorem tBytes22 : tBytes Tryz.prog 22 = some 24 := by kernel_rfl
theorem tAgg22 : tAgg Tryz.prog 22 = some false := by kernel_rfl
theorem tZero22 : tZero Tryz.prog 22 = some [.nils] := by kernel_rfl
theorem tSlice22 : tSlice Tryz.prog 22 = some 45 := by kernel_rfl
theorem tUnd22 : Tryz.prog.underlying 22 = some (.slice 45) := by kernel_rfl
theorem tSize23 : tSize Tryz.prog 23 = some 1 := by kernel_rfl
theorem tBytes23 : tBytes Tryz.prog 23 = some 24 := by kernel_rfl
theorem tAgg23 : tAgg Tryz.prog 23 = some false := by kernel_rfl
theorem tZero23 : tZero Tryz.prog 23 = some [.nils] := by kernel_rfl
theorem tSlice23 : tSlice Tryz.prog 23 = some 34 := by kernel_rfl
theorem tUnd23 : Tryz.prog.underlying 23 = some (.slice 34) := by kernel_rfl
theorem tSize27 : tSize Tryz.prog 27 = some 1 := by kernel_rfl
theorem tBytes27 : tBytes Tryz.prog 27 = some 8 := by kernel_rfl
theorem tAgg27 : tAgg Tryz.prog 27 = some false := by kernel_rfl
theorem tUnd27 : Tryz.prog.underlying 27 = some (.int .i64) := by kernel_rfl
theorem tZero27 : tZero Tryz.prog 27 = some [.int .i64 0] := by kernel_rfl
theorem tSize29 : tSize Tryz.prog 29 = some 2 := by kernel_rfl
theorem tBytes29 : tBytes Tryz.prog 29 = some 16 := by kernel_rfl
theorem tAgg29 : tAgg Tryz.prog 29 = some true := by kernel_rfl
theorem tZero29 : tZero Tryz.prog 29 = some [.int .i64 0, .int .i64 0] := by kernel_rfl
theorem tPlaces29 : tPlaces Tryz.prog 29 = some [(0, 1), (1, 1)] := by kernel_rfl
theorem tField29_0 : tField Tryz.prog 29 0 = some (0, 3) := by kernel_rfl
theorem tField29_1 : tField Tryz.prog 29 1 = some (1, 3) := by kernel_rfl
theorem tSize30 : tSize Tryz.prog 30 = some 1 := by kernel_rfl
theorem tBytes30 : tBytes Tryz.prog 30 = some 24 := by kernel_rfl
theorem tAgg30 : tAgg Tryz.prog 30 = some false := by kernel_rfl
theorem tZero30 : tZero Tryz.prog 30 = some [.nils] := by kernel_rfl
theorem tSlice30 : tSlice Tryz.prog 30 = some 82 := by kernel_rfl
theorem tUnd30 : Tryz.prog.underlying 30 = some (.slice 82) := by kernel_rfl
theorem tSize32 : tSize Tryz.prog 32 = some 17 := by kernel_rfl
theorem tBytes32 : tBytes Tryz.prog 32 = some 136 := by kernel_rfl
theorem tAgg32 : tAgg Tryz.prog 32 = some true := by kernel_rfl
theorem tZero32 : tZero Tryz.prog 32 = some [.int .i64 0, .int .i64 0, .int .i64 0, .int .i64 0, .int .i64 0, .int .i64 0, .int .i64 0, .int .i64 0, .int .i64 0, .int .i64 0, .int .i64 0, .int .i64 0, .int .i64 0, .int .i64 0, .int .i64 0, .int .i64 0, .int .i64 0] := by kernel_rfl
theorem tPlaces32 : tPlaces Tryz.prog 32 = some [(0, 1), (1, 1), (2, 1), (3, 1), (4, 1), (5, 1), (6, 1), (7, 1), (8, 1), (9, 1), (10, 1), (11, 1), (12, 1), (13, 1), (14, 1), (15, 1), (16, 1)] := by kernel_rfl
theorem tField32_0 : tField Tryz.prog 32 0 = some (0, 3) := by kernel_rfl
theorem tField32_1 : tField Tryz.prog 32 1 = some (1, 3) := by kernel_rfl
theorem tField32_2 : tField Tryz.prog 32 2 = some (2, 3) := by kernel_rfl
theorem tField32_3 : tField Tryz.prog 32 3 = some (3, 3) := by kernel_rfl
theorem tField32_4 : tField Tryz.prog 32 4 = some (4, 3) := by kernel_rfl
theorem tField32_5 : tField Tryz.prog 32 5 = some (5, 3) := by kernel_rfl
theorem tField32_6 : tField Tryz.prog 32 6 = some (6, 3) := by kernel_rfl
theorem tField32_7 : tField Tryz.prog 32 7 = some (7, 3) := by kernel_rfl
theorem tField32_8 : tField Tryz.prog 32 8 = some (8, 3) := by kernel_rfl
theorem tField32_9 : tField Tryz.prog 32 9 = some (9, 3) := by kernel_rfl
theorem tField32_10 : tField Tryz.prog 32 10 = some (10, 3) := by kernel_rfl
theorem tField32_11 : tField Tryz.prog 32 11 = some (11, 2) := by kernel_rfl
theorem tField32_12 : tField Tryz.prog 32 12 = some (12, 2) := by kernel_rfl
theorem tField32_13 : tField Tryz.prog 32 13 = some (13, 2) := by kernel_rfl
theorem tField32_14 : tField Tryz.prog 32 14 = some (14, 2) := by kernel_rfl
theorem tField32_15 : tField Tryz.prog 32 15 = some (15, 2) := by kernel_rfl
theorem tField32_16 : tField Tryz.prog 32 16 = some (16, 2) := by kernel_rfl
theorem tSize34 : tSize Tryz.prog 34 = some 24 := by kernel_rfl
theorem tBytes34 : tBytes Tryz.prog 34 = some 224 := by kernel_rfl
theorem tAgg34 : tAgg Tryz.prog 34 = some true := by kernel_rfl
theorem tZero34 : tZero Tryz.prog 34 = some [.int .i64 0, .str [], .str [], .int .i64 0, .int .i64 0, .int .i64 0, .nils, .int .i64 0, .int .i64 0, .int .i64 0, .int .i64 0, .int .i64 0, .int .i64 0, .int .i64 0, .int .i64 0, .int .i64 0, .int .i64 0, .int .i64 0, .int .i64 0, .int .i64 0, .int .i64 0, .int .i64 0, .int .i64 0, .int .i64 0] := by kernel_rfl
theorem tPlaces34 : tPlaces Tryz.prog 34 = some [(0, 1), (1, 1), (2, 1), (3, 1), (4, 2), (6, 1), (7, 17)] := by kernel_rfl
theorem tField34_0 : tField Tryz.prog 34 0 = some (0, 27) := by kernel_rfl
theorem tField34_1 : tField Tryz.prog 34 1 = some (1, 9) := by kernel_rfl
theorem tField34_2 : tField Tryz.prog 34 2 = some (2, 9) := by kernel_rfl
theorem tField34_3 : tField Tryz.prog 34 3 = some (3, 3) := by kernel_rfl
theorem tField34_4 : tField Tryz.prog 34 4 = some (4, 29) := by kernel_rfl
theorem tField34_5 : tField Tryz.prog 34 5 = some (6, 30) := by kernel_rfl
theorem tField34_6 : tField Tryz.prog 34 6 = some (7, 32) := by kernel_rfl
theorem tSize36 : tSize Tryz.prog 36 = some 4 := by kernel_rfl
theorem tBytes36 : tBytes Tryz.prog 36 = some 32 := by kernel_rfl
theorem tAgg36 : tAgg Tryz.prog 36 = some true := by kernel_rfl
theorem tZero36 : tZero Tryz.prog 36 = some [.int .i64 0, .int .i64 0, .int .i64 0, .int .i64 0] := by kernel_rfl
theorem tPlaces36 : tPlaces Tryz.prog 36 = some [(0, 1), (1, 1), (2, 1), (3, 1)] := by kernel_rfl
theorem tField36_0 : tField Tryz.prog 36 0 = some (0, 2) := by kernel_rfl
theorem tField36_1 : tField Tryz.prog 36 1 = some (1, 2) := by kernel_rfl
theorem tField36_2 : tField Tryz.prog 36 2 = some (2, 3) := by kernel_rfl
theorem tField36_3 : tField Tryz.prog 36 3 = some (3, 3) := by kernel_rfl
theorem tSize42 : tSize Tryz.prog 42 = some 3 := by kernel_rfl
theorem tBytes42 : tBytes Tryz.prog 42 = some 40 := by kernel_rfl
theorem tAgg42 : tAgg Tryz.prog 42 = some true := by kernel_rfl
theorem tZero42 : tZero Tryz.prog 42 = some [.str [], .str [], .bool false] := by kernel_rfl
theorem tPlaces42 : tPlaces Tryz.prog 42 = some [(0, 1), (1, 1), (2, 1)] := by kernel_rfl
theorem tField42_0 : tField Tryz.prog 42 0 = some (0, 9) := by kernel_rfl
theorem tField42_1 : tField Tryz.prog 42 1 = some (1, 9) := by kernel_rfl
theorem tField42_2 : tField Tryz.prog 42 2 = some (2, 4) := by kernel_rfl
theorem tSize43 : tSize Tryz.prog 43 = some 1 := by kernel_rfl
theorem tBytes43 : tBytes Tryz.prog 43 = some 24 := by kernel_rfl
theorem tAgg43 : tAgg Tryz.prog 43 = some false := by kernel_rfl
theorem tZero43 : tZero Tryz.prog 43 = some [.nils] := by kernel_rfl
theorem tSlice43 : tSlice Tryz.prog 43 = some 86 := by kernel_rfl
theorem tUnd43 : Tryz.prog.underlying 43 = some (.slice 86) := by kernel_rfl
theorem tSize45 : tSize Tryz.prog 45 = some 12 := by kernel_rfl
theorem tBytes45 : tBytes Tryz.prog 45 = some 144 := by kernel_rfl
theorem tAgg45 : tAgg Tryz.prog 45 = some true := by kernel_rfl
theorem tZero45 : tZero Tryz.prog 45 = some [.int .i64 0, .int .i64 0, .str [], .str [], .str [], .str [], .bool false, .int .i64 0, .int .i64 0, .int .i64 0, .int .i64 0, .nils] := by kernel_rfl
theorem tPlaces45 : tPlaces Tryz.prog 45 = some [(0, 1), (1, 1), (2, 1), (3, 1), (4, 3), (7, 2), (9, 2), (11, 1)] := by kernel_rfl
theorem tField45_0 : tField Tryz.prog 45 0 = some (0, 3) := by kernel_rfl
theorem tField45_1 : tField Tryz.prog 45 1 = some (1, 3) := by kernel_rfl
theorem tField45_2 : tField Tryz.prog 45 2 = some (2, 9) := by kernel_rfl
theorem tField45_3 : tField Tryz.prog 45 3 = some (3, 9) := by kernel_rfl
theorem tField45_4 : tField Tryz.prog 45 4 = some (4, 42) := by kernel_rfl
theorem tField45_5 : tField Tryz.prog 45 5 = some (7, 29) := by kernel_rfl
theorem tField45_6 : tField Tryz.prog 45 6 = some (9, 29) := by kernel_rfl
theorem tField45_7 : tField Tryz.prog 45 7 = some (11, 43) := by kernel_rfl
theorem tSize82 : tSize Tryz.prog 82 = some 4 := by kernel_rfl
theorem tBytes82 : tBytes Tryz.prog 82 = some 56 := by kernel_rfl
theorem tAgg82 : tAgg Tryz.prog 82 = some true := by kernel_rfl
theorem tZero82 : tZero Tryz.prog 82 = some [.int .i64 0, .str [], .str [], .str []] := by kernel_rfl
theorem tPlaces82 : tPlaces Tryz.prog 82 = some [(0, 1), (1, 1), (2, 1), (3, 1)] := by kernel_rfl
theorem tField82_0 : tField Tryz.prog 82 0 = some (0, 3) := by kernel_rfl
theorem tField82_1 : tField Tryz.prog 82 1 = some (1, 9) := by kernel_rfl
theorem tField82_2 : tField Tryz.prog 82 2 = some (2, 9) := by kernel_rfl
theorem tField82_3 : tField Tryz.prog 82 3 = some (3, 9) := by kernel_rfl
theorem tSize86 : tSize Tryz.prog 86 = some 3 := by kernel_rfl
theorem tBytes86 : tBytes Tryz.prog 86 = some 40 := by kernel_rfl
theorem tAgg86 : tAgg Tryz.prog 86 = some true := by kernel_rfl
theorem tZero86 : tZero Tryz.prog 86 = some [.str [], .str [], .bool false] := by kernel_rfl
theorem tPlaces86 : tPlaces Tryz.prog 86 = some [(0, 1), (1, 1), (2, 1)] := by kernel_rfl
theorem tField86_0 : tField Tryz.prog 86 0 = some (0, 9) := by kernel_rfl
theorem tField86_1 : tField Tryz.prog 86 1 = some (1, 9) := by kernel_rfl
theorem tField86_2 : tField Tryz.prog 86 2 = some (2, 4) := by kernel_rfl
theorem tSize110 : tSize Tryz.prog 110 = some 1 := by kernel_rfl
theorem tBytes110 : tBytes Tryz.prog 110 = some 24 := by kernel_rfl
theorem tAgg110 : tAgg Tryz.prog 110 = some false := by kernel_rfl
theorem tZero110 : tZero Tryz.prog 110 = some [.nils] := by kernel_rfl
theorem tSlice110 : tSlice Tryz.prog 110 = some 3 := by kernel_rfl
theorem tUnd110 : Tryz.prog.underlying 110 = some (.slice 3) := by kernel_rfl
theorem tSize187 : tSize Tryz.prog 187 = some 1 := by kernel_rfl
theorem tBytes187 : tBytes Tryz.prog 187 = some 24 := by kernel_rfl
theorem tAgg187 : tAgg Tryz.prog 187 = some false := by kernel_rfl
theorem tZero187 : tZero Tryz.prog 187 = some [.nils] := by kernel_rfl
theorem tSlice187 : tSlice Tryz.prog 187 = some 9 := by kernel_rfl
theorem tUnd187 : Tryz.prog.underlying 187 = some (.slice 9) := by kernel_rfl
attribute [push_cast] tSize2 tBytes2 tAgg2 tUnd2 tZero2 tSize3 tBytes3 tAgg3 tUnd3 tZero3 tSize4 tBytes4
attribute [push_cast] tAgg4 tUnd4 eqTyB4 neTyB4 tZero4 tSize9 tBytes9 tAgg9 tStr9 tUnd9 tZero9 tSize22
attribute [push_cast] tBytes22 tAgg22 tZero22 tSlice22 tUnd22 tSize23 tBytes23 tAgg23 tZero23 tSlice23 tUnd23 tSize27
attribute [push_cast] tBytes27 tAgg27 tUnd27 tZero27 tSize29 tBytes29 tAgg29 tZero29 tPlaces29 tField29_0 tField29_1 tSize30
attribute [push_cast] tBytes30 tAgg30 tZero30 tSlice30 tUnd30 tSize32 tBytes32 tAgg32 tZero32 tPlaces32 tField32_0 tField32_1
attribute [push_cast] tField32_2 tField32_3 tField32_4 tField32_5 tField32_6 tField32_7 tField32_8 tField32_9 tField32_10 tField32_11 tField32_12 tField32_13
attribute [push_cast] tField32_14 tField32_15 tField32_16 tSize34 tBytes34 tAgg34 tZero34 tPlaces34 tField34_0 tField34_1 tField34_2 tField34_3
attribute [push_cast] tField34_4 tField34_5 tField34_6 tSize36 tBytes36 tAgg36 tZero36 tPlaces36 tField36_0 tField36_1 tField36_2 tField36_3
attribute [push_cast] tSize42 tBytes42 tAgg42 tZero42 tPlaces42 tField42_0 tField42_1 tField42_2 tSize43 tBytes43 tAgg43 tZero43
attribute [push_cast] tSlice43 tUnd43 tSize45 tBytes45 tAgg45 tZero45 tPlaces45 tField45_0 tField45_1 tField45_2 tField45_3 tField45_4
attribute [push_cast] tField45_5 tField45_6 tField45_7 tSize82 tBytes82 tAgg82 tZero82 tPlaces82 tField82_0 tField82_1 tField82_2 tField82_3
attribute [push_cast] tSize86 tBytes86 tAgg86 tZero86 tPlaces86 tField86_0 tField86_1 tField86_2 tSize110 tBytes110 tAgg110 tZero110
attribute [push_cast] tSlice110 tUnd110 tSize187 tBytes187 tAgg187 tZero187 tSlice187 tUnd187
theorem eqTy29 {a0 b0 : Int} {a1 b1 : Int} : aBin Tryz.prog .eql 29 (.agg [.int .i64 a0, .int .i64 a1]) (.agg [.int .i64 b0, .int .i64 b1]) = some (.bool (TApiHandle.eqb (TApiHandle.mk a0 a1) (TApiHandle.mk b0 b1))) := by kernel_rfl
theorem neTy29 {a0 b0 : Int} {a1 b1 : Int} : aBin Tryz.prog .neq 29 (.agg [.int .i64 a0, .int .i64 a1]) (.agg [.int .i64 b0, .int .i64 b1]) = some (.bool (!TApiHandle.eqb (TApiHandle.mk a0 a1) (TApiHandle.mk b0 b1))) := by kernel_rfl
theorem eqTy36 {a0 b0 : Int} {a1 b1 : Int} {a2 b2 : Int} {a3 b3 : Int} : aBin Tryz.prog .eql 36 (.agg [.int .i64 a0, .int .i64 a1, .int .i64 a2, .int .i64 a3]) (.agg [.int .i64 b0, .int .i64 b1, .int .i64 b2, .int .i64 b3]) = some (.bool (TApiStEvents.eqb (TApiStEvents.mk a0 a1 a2 a3) (TApiStEvents.mk b0 b1 b2 b3))) := by kernel_rfl
theorem neTy36 {a0 b0 : Int} {a1 b1 : Int} {a2 b2 : Int} {a3 b3 : Int} : aBin Tryz.prog .neq 36 (.agg [.int .i64 a0, .int .i64 a1, .int .i64 a2, .int .i64 a3]) (.agg [.int .i64 b0, .int .i64 b1, .int .i64 b2, .int .i64 b3]) = some (.bool (!TApiStEvents.eqb (TApiStEvents.mk a0 a1 a2 a3) (TApiStEvents.mk b0 b1 b2 b3))) := by kernel_rfl
theorem eqTy42 {a0 b0 : List UInt8} {a1 b1 : List UInt8} {a2 b2 : Bool} : aBin Tryz.prog .eql 42 (.agg [.str a0, .str a1, .bool a2]) (.agg [.str b0, .str b1, .bool b2]) = some (.bool (TApiKeRange.eqb (TApiKeRange.mk a0 a1 a2) (TApiKeRange.mk b0 b1 b2))) := by kernel_rfl
theorem neTy42 {a0 b0 : List UInt8} {a1 b1 : List UInt8} {a2 b2 : Bool} : aBin Tryz.prog .neq 42 (.agg [.str a0, .str a1, .bool a2]) (.agg [.str b0, .str b1, .bool b2]) = some (.bool (!TApiKeRange.eqb (TApiKeRange.mk a0 a1 a2) (TApiKeRange.mk b0 b1 b2))) := by kernel_rfl
attribute [push_cast] eqTy29 neTy29 eqTy36 neTy36 eqTy42 neTy42
attribute [push_cast] List.getElem?_map Option.map_some
theorem allPInt (k : IntKind) (l : List Int) : (l.map (encInt k)).all AV.isP.isPs = true := pures_map (fun _ => rfl) l
theorem allFInt (k : IntKind) (l : List Int) : (l.map (encInt k)).all AV.flatR.flatRs = true := flats_map (fun _ => rfl) l
theorem allPStr (l : List (List UInt8)) : (l.map encStr).all AV.isP.isPs = true := pures_map (fun _ => rfl) l
theorem allFStr (l : List (List UInt8)) : (l.map encStr).all AV.flatR.flatRs = true := flats_map (fun _ => rfl) l
theorem allPBool (l : List Bool) : (l.map encBool).all AV.isP.isPs = true := pures_map (fun _ => rfl) l
theorem allPSl {α : Type} (z : Nat) (f : α → List AV) (l : List (List α)) : (l.map (encSl z f)).all AV.isP.isPs = true := pures_map (fun _ => rfl) l
attribute [push_cast] allPInt allFInt allPStr allFStr allPBool allPSl
theorem rF {p : Prop} (h : p := by
  (repeat' (first | exact trivial | refine And.intro ?_ ?_ | exact AV.LeN.refl _ | exact AV.LeN.nils _ | exact AV.LeN.nilb rfl | refine AV.LeN.agg ?_ | refine AV.LeN.tup ?_ | exact AV.LeN.of_eq (by simp [frGet, alg, encInt, encBool, encStr, encSl, List.map_set, TApiKeRange.enc, TApiHandle.enc, TApiOpWrite.enc, TApiOpCall.enc, TApiDfItem.enc, TApiStStats.enc, TApiOpAnswer.enc, TApiStEvents.enc])))) : p := h
theorem rE {p : Prop} (h : p := by
  (repeat' (first | exact trivial | exact BLeN.refl _ | exact ⟨_, rfl, rfl⟩ | exact AV.LeN.refl _ | refine And.intro ?_ ?_ | exact rfl | exact EsLe.refl _ | exact (fun _ => rfl) | exact (fun h => h) | exact EsLe.of_eq (by simp [frGet, alg, encInt, encBool, encStr, encSl, List.map_set, TApiKeRange.enc, TApiHandle.enc, TApiOpWrite.enc, TApiOpCall.enc, TApiDfItem.enc, TApiStStats.enc, TApiOpAnswer.enc, TApiStEvents.enc]) | exact AV.LeN.nils _ | exact AV.LeN.nilb rfl | exact AV.LeN.of_eq (by simp [frGet, alg, encInt, encBool, encStr, encSl, List.map_set, TApiKeRange.enc, TApiHandle.enc, TApiOpWrite.enc, TApiOpCall.enc, TApiDfItem.enc, TApiStStats.enc, TApiOpAnswer.enc, TApiStEvents.enc])))) : p := h
theorem rH {p : Prop} (h : p := by
  (repeat' (first | exact AV.Le.refl _ | exact AV.Le.nils _ | refine AV.Le.agg ?_ | refine AV.Le.tup ?_ | exact trivial | exact rfl | omega | exact AV.Le.of_eq (by simp [frGet, alg, encInt, encBool, encStr, encSl, List.map_set, TApiKeRange.enc, TApiHandle.enc, TApiOpWrite.enc, TApiOpCall.enc, TApiDfItem.enc, TApiStStats.enc, TApiOpAnswer.enc, TApiStEvents.enc]) | refine And.intro ?_ ?_))) : p := h
theorem rG {p : Prop} (h : p := by
  simp (maxSteps := 1000000) only [↓reduceIte, reduceCtorEq, Nat.reduceEqDiff, Nat.reduceLT, Nat.reduceLeDiff, Nat.reduceAdd, Nat.reduceMul, Int.reduceToNat, push_cast, Gives]
  (repeat' (first | exact AV.Le.refl _ | exact AV.Le.nils _ | refine AV.Le.agg ?_ | refine AV.Le.tup ?_ | exact trivial | exact rfl | omega | exact AV.Le.of_eq (by simp [frGet, alg, encInt, encBool, encStr, encSl, List.map_set, TApiKeRange.enc, TApiHandle.enc, TApiOpWrite.enc, TApiOpCall.enc, TApiDfItem.enc, TApiStStats.enc, TApiOpAnswer.enc, TApiStEvents.enc]) | refine And.intro ?_ ?_))) : p := h
theorem rW {q k p : Prop} (f : q) (hK : k) (h : q → k → p := by
  intro f hK
  simp (maxSteps := 1000000) only [↓reduceIte, reduceCtorEq, Nat.reduceEqDiff, Nat.reduceLT, Nat.reduceLeDiff, Nat.reduceAdd, Nat.reduceMul, Int.reduceToNat, push_cast, ↓f]
  try simp only [↓f] at hK
  all_goals (repeat' (first | assumption | refine And.intro ?_ ?_ | exact Nat.le_refl _ | omega | (intro _) | (simp; done)))) : p := h f hK
theorem rWc {q t k p : Prop} (f : q) (c : t) (hK : k) (h : q → t → k → p := by
  intro f c hK
  simp (maxSteps := 1000000) only [↓reduceIte, reduceCtorEq, Nat.reduceEqDiff, Nat.reduceLT, Nat.reduceLeDiff, Nat.reduceAdd, Nat.reduceMul, Int.reduceToNat, push_cast, ↓f]
  try simp only [↓f] at hK
  all_goals (repeat' (first | assumption | refine And.intro ?_ ?_ | exact Nat.le_refl _ | omega | (intro _) | (simp; done)))) : p := h f c hK
theorem rWg {q r k p : Prop} (f : q) (g : r) (hK : k) (h : q → r → k → p := by
  intro f g hK
  simp (maxSteps := 1000000) only [↓reduceIte, reduceCtorEq, Nat.reduceEqDiff, Nat.reduceLT, Nat.reduceLeDiff, Nat.reduceAdd, Nat.reduceMul, Int.reduceToNat, push_cast, g, ↓f]
  try simp only [↓f] at hK
  all_goals (repeat' (first | assumption | refine And.intro ?_ ?_ | exact Nat.le_refl _ | omega | (intro _) | (simp; done)))) : p := h f g hK
theorem rWgc {q r t k p : Prop} (f : q) (g : r) (c : t) (hK : k) (h : q → r → t → k → p := by
  intro f g c hK
  simp (maxSteps := 1000000) only [↓reduceIte, reduceCtorEq, Nat.reduceEqDiff, Nat.reduceLT, Nat.reduceLeDiff, Nat.reduceAdd, Nat.reduceMul, Int.reduceToNat, push_cast, g, ↓f]
  try simp only [↓f] at hK
  all_goals (repeat' (first | assumption | refine And.intro ?_ ?_ | exact Nat.le_refl _ | omega | (intro _) | (simp; done)))) : p := h f g c hK
theorem rJ {q p : Prop} (f : q) (h : q → p := by
  intro f
  simp (maxSteps := 1000000) only [↓reduceIte, reduceCtorEq, Nat.reduceEqDiff, Nat.reduceLT, Nat.reduceLeDiff, Nat.reduceAdd, Nat.reduceMul, Int.reduceToNat, push_cast, Gives, f]
  all_goals exact rH) : p := h f
theorem xE [Adr] {P : Program} {nt : Nat} {K : Exit → St → Prop} {c : Code} {s : St} (s2 : St) (h : AWP P nt c K s2) (hn : s.nx ≤ s2.nx := by exact Nat.le_of_ble_eq_true rfl) (hl : LeN [] s s2 := by exact ⟨rF, rE, rfl, rfl, trivial, trivial⟩) : AWP P nt c K s := awp_re [] hn hl h
end Go.T
