/- Texts of the proof, joined by program. -/
import Derived.OrdersIn
import Derived.Below
section
set_option linter.unusedSimpArgs false
set_option linter.unusedVariables false
namespace Go.AM
open Go
inductive CT where|b|i(k:IntKind)|s|l(m:Nat)|w(m:Nat)deriving DecidableEq
inductive AK where|l(n:Nat)|g(n:Nat)
def AK.n:AK->Nat|.l n=>n|.g n=>n
structure TApiEntry where
 Key:List UInt8
 Val:List UInt8
 Dead:Bool
 Seq:Int deriving DecidableEq
structure TApiBfBuffer where
 Most:Int
 Entries:List TApiEntry deriving DecidableEq
structure TApiRun where
 Id:Int
 Entries:List TApiEntry deriving DecidableEq
structure TApiLvLevel where
 Runs:List TApiRun deriving DecidableEq
structure TApiLvLevels where
 B:Int
 Levels:List TApiLvLevel deriving DecidableEq
structure TApiLsKey where
 Key:List UInt8
 Done:Bool deriving DecidableEq
structure TApiLsTree where
 Keys:List TApiLsKey
 Lose:List Int
 Win:Int deriving DecidableEq
structure TApiMgState where
 Runs:List (List TApiEntry)
 At:List Int
 Tree:TApiLsTree deriving DecidableEq
structure TApiShState where
 Some:Bool
 Last:List UInt8
 Bottom:Bool deriving DecidableEq
structure TApiSlState where
 Merge:TApiMgState
 Shadow:TApiShState
 Out:List TApiEntry
 Steps:Int deriving DecidableEq
structure TApiJbJob where
 Level:Int
 Work:TApiSlState deriving DecidableEq
structure TApiJbState where
 Levels:TApiLvLevels
 Jobs:List TApiJbJob
 NextId:Int deriving DecidableEq
structure TApiPrFront where
 Buffer:TApiBfBuffer
 Jobs:TApiJbState deriving DecidableEq
structure TApiHnSlot where
 Gen:Int
 Used:Bool deriving DecidableEq
structure TApiHnTable where
 Most:Int
 Slots:List TApiHnSlot deriving DecidableEq
structure TApiVsView where
 Buffer:List TApiEntry
 Runs:List TApiRun deriving DecidableEq
structure TApiVsTable where
 Pins:TApiHnTable
 Cursors:TApiHnTable
 Pinned:List TApiVsView
 Opened:List TApiVsView deriving DecidableEq
structure TApiKeRange where
 Low:List UInt8
 High:List UInt8
 Bound:Bool deriving DecidableEq
structure TApiCuState where
 Range:TApiKeRange
 Some:Bool
 Key:List UInt8
 After:Bool deriving DecidableEq
structure TApiMpCounts where
 Writes:Int
 Busy:Int
 Seals:Int
 Installs:Int
 Steps:Int
 Lost:Int deriving DecidableEq
structure TApiMpState where
 Front:TApiPrFront
 Seq:Int
 Table:TApiVsTable
 Places:List TApiCuState
 Counts:TApiMpCounts deriving DecidableEq
structure TApiStStats where
 Live:Int
 Entries:Int
 Dead:Int
 Buffered:Int
 Runs:Int
 Height:Int
 Jobs:Int
 Debt:Int
 Pins:Int
 Cursors:Int
 Held:Int
 Writes:Int
 Busy:Int
 Seals:Int
 Installs:Int
 Steps:Int
 Lost:Int deriving DecidableEq
structure TApiStLevel where
 Runs:Int
 Entries:Int
 Dead:Int
 Job:Bool
 Left:Int deriving DecidableEq
structure TApiHandle where
 Index:Int
 Gen:Int deriving DecidableEq
structure TApiDfItem where
 Kind:Int
 Key:List UInt8
 Old:List UInt8
 New:List UInt8 deriving DecidableEq
structure TApiOpAnswer where
 E:Int
 Key:List UInt8
 Val:List UInt8
 N:Int
 Handle:TApiHandle
 Items:List TApiDfItem
 Stats:TApiStStats deriving DecidableEq
structure TStoreState where
 MpState:TApiMpState
 a:TApiOpAnswer deriving DecidableEq
structure TApiPair where
 Key:List UInt8
 Val:List UInt8 deriving DecidableEq
structure TPressureState where
 jobs:TApiJbState deriving DecidableEq
structure TPressureFront where
 BfBuffer:TApiBfBuffer
 state:TPressureState deriving DecidableEq
structure TSlicesStep where
 s:TApiSlState deriving DecidableEq
structure TMergeReader where
 MgState:TApiMgState deriving DecidableEq
structure TLookupRun where
 Id:Int
 Entries:List TApiEntry deriving DecidableEq
def alts:Nat->List (Nat×AK)|0=>[(357,.l 4),(358,.g 47)]|_=>[]
def refs:CT->List Nat|.l m=>[m]|.w m=>(alts m).map λa=>a.2.n|_=>[]
def U6:Nat->Type|0=>Sum (List TApiEntry) TLookupRun|1=>List (Sum (List TApiEntry) TLookupRun)|_=>Unit
def lay6:Nat->List CT|0=>[.w 0]|1=>[.l 48]|_=>[]
theorem lay_lt6:∀n:Nat,((lay6 n).all λc=>(refs c).all λm=>Nat.blt m (n+48))=true|0=>rfl|1=>rfl|_+2=>rfl
def U5:Nat->Type|0=>TPressureFront|1=>List (List UInt8)|2=>List (List TApiVsView)|3=>Int|4=>TSlicesStep|5=>Int|6=>TMergeReader|7=>TLookupRun|n+8=>U6 n
def lay5:Nat->List CT|0=>[.i .i64,.l 4,.i .i64,.l 8,.l 11,.i .i64]|1=>[.l 3]|2=>[.l 18]|3=>[.i .u64]|4=>[.l 5,.l 0,.l 10,.l 0,.i .i64,.b,.s,.b,.l 4,.i .i64]|5=>[.i .u32]|6=>[.l 5,.l 0,.l 10,.l 0,.i .i64]|7=>[.i .i64,.l 4]|n+8=>lay6 n
theorem lay_lt5:∀n:Nat,((lay5 n).all λc=>(refs c).all λm=>Nat.blt m (n+40))=true|0=>rfl|1=>rfl|2=>rfl|3=>rfl|4=>rfl|5=>rfl|6=>rfl|7=>rfl|n+8=>by rw[show n+8+40=n+48 by omega];exact lay_lt6 n
def U4:Nat->Type|0=>TApiLsTree|1=>TApiMgState|2=>TApiShState|3=>TApiSlState|4=>TApiDfItem|5=>TStoreState|6=>TApiPair|7=>List TApiPair|n+8=>U5 n
def lay4:Nat->List CT|0=>[.l 10,.l 0,.i .i64]|1=>[.l 5,.l 0,.l 10,.l 0,.i .i64]|2=>[.b,.s,.b]|3=>[.l 5,.l 0,.l 10,.l 0,.i .i64,.b,.s,.b,.l 4,.i .i64]|4=>[.i .i64,.s,.s,.s]|5=>[.i .i64,.l 4,.i .i64,.l 8,.l 11,.i .i64,.i .i64,.i .i64,.l 15,.i .i64,.l 15,.l 17,.l 17,.l 20,.i .i64,.i .i64,.i .i64,.i .i64,.i .i64,.i .i64,.i .i64,.s,.s,.i .i64,.i .i64,.i .i64,.l 36,.i .i64,.i .i64,.i .i64,.i .i64,.i .i64,.i .i64,.i .i64,.i .i64,.i .i64,.i .i64,.i .i64,.i .i64,.i .i64,.i .i64,.i .i64,.i .i64,.i .i64]|6=>[.s,.s]|7=>[.l 38]|n+8=>lay5 n
theorem lay_lt4:∀n:Nat,((lay4 n).all λc=>(refs c).all λm=>Nat.blt m (n+32))=true|0=>rfl|1=>rfl|2=>rfl|3=>rfl|4=>rfl|5=>rfl|6=>rfl|7=>rfl|n+8=>by rw[show n+8+32=n+40 by omega];exact lay_lt5 n
def U3:Nat->Type|0=>List TApiStLevel|1=>List TApiRun|2=>TApiHandle|3=>TApiKeRange|4=>List TApiHandle|5=>List Int|6=>List (List TApiEntry)|7=>List TApiLsKey|n+8=>U4 n
def lay3:Nat->List CT|0=>[.l 23]|1=>[.l 7]|2=>[.i .i64,.i .i64]|3=>[.s,.s,.b]|4=>[.l 26]|5=>[.l 0]|6=>[.l 5]|7=>[.l 10]|n+8=>lay4 n
theorem lay_lt3:∀n:Nat,((lay3 n).all λc=>(refs c).all λm=>Nat.blt m (n+24))=true|0=>rfl|1=>rfl|2=>rfl|3=>rfl|4=>rfl|5=>rfl|6=>rfl|7=>rfl|n+8=>by rw[show n+8+24=n+32 by omega];exact lay_lt4 n
def U2:Nat->Type|0=>TApiHnTable|1=>TApiVsView|2=>List TApiVsView|3=>TApiVsTable|4=>TApiCuState|5=>TApiMpState|6=>TApiStStats|7=>TApiStLevel|n+8=>U3 n
def lay2:Nat->List CT|0=>[.i .i64,.l 15]|1=>[.l 4,.l 7]|2=>[.l 17]|3=>[.i .i64,.l 15,.i .i64,.l 15,.l 17,.l 17]|4=>[.s,.s,.b,.b,.s,.b]|5=>[.i .i64,.l 4,.i .i64,.l 8,.l 11,.i .i64,.i .i64,.i .i64,.l 15,.i .i64,.l 15,.l 17,.l 17,.l 20,.i .i64,.i .i64,.i .i64,.i .i64,.i .i64,.i .i64]|6=>[.i .i64,.i .i64,.i .i64,.i .i64,.i .i64,.i .i64,.i .i64,.i .i64,.i .i64,.i .i64,.i .i64,.i .i64,.i .i64,.i .i64,.i .i64,.i .i64,.i .i64]|7=>[.i .i64,.i .i64,.i .i64,.b,.i .i64]|n+8=>lay3 n
theorem lay_lt2:∀n:Nat,((lay2 n).all λc=>(refs c).all λm=>Nat.blt m (n+16))=true|0=>rfl|1=>rfl|2=>rfl|3=>rfl|4=>rfl|5=>rfl|6=>rfl|7=>rfl|n+8=>by rw[show n+8+16=n+24 by omega];exact lay_lt3 n
def U1:Nat->Type|0=>TApiLvLevel|1=>TApiLvLevels|2=>TApiLsKey|3=>TApiJbJob|4=>List TApiJbJob|5=>TApiJbState|6=>TApiPrFront|7=>TApiHnSlot|n+8=>U2 n
def lay1:Nat->List CT|0=>[.l 7]|1=>[.i .i64,.l 8]|2=>[.s,.b]|3=>[.i .i64,.l 5,.l 0,.l 10,.l 0,.i .i64,.b,.s,.b,.l 4,.i .i64]|4=>[.l 11]|5=>[.i .i64,.l 8,.l 11,.i .i64]|6=>[.i .i64,.l 4,.i .i64,.l 8,.l 11,.i .i64]|7=>[.i .i64,.b]|n+8=>lay2 n
theorem lay_lt1:∀n:Nat,((lay1 n).all λc=>(refs c).all λm=>Nat.blt m (n+8))=true|0=>rfl|1=>rfl|2=>rfl|3=>rfl|4=>rfl|5=>rfl|6=>rfl|7=>rfl|n+8=>by rw[show n+8+8=n+16 by omega];exact lay_lt2 n
def U:Nat->Type|0=>Int|1=>Bool|2=>Int|3=>List UInt8|4=>TApiEntry|5=>List TApiEntry|6=>TApiBfBuffer|7=>TApiRun|n+8=>U1 n
def lay:Nat->List CT|0=>[.i .i64]|1=>[.b]|2=>[.i .u8]|3=>[.s]|4=>[.s,.s,.b,.i .i64]|5=>[.l 4]|6=>[.i .i64,.l 4]|7=>[.i .i64,.l 4]|n+8=>lay1 n
theorem lay_lt0:∀n:Nat,((lay n).all λc=>(refs c).all λm=>Nat.blt m (n+0))=true|0=>rfl|1=>rfl|2=>rfl|3=>rfl|4=>rfl|5=>rfl|6=>rfl|7=>rfl|n+8=>by rw[show n+8+0=n+8 by omega];exact lay_lt1 n
theorem lay_lt(n:Nat)(c:CT)(h:c∈lay n)(m:Nat)(hm:m∈refs c):m<n:=Nat.le_of_ble_eq_true (List.all_eq_true.1 (List.all_eq_true.1 (lay_lt0 n) c h) m hm)
abbrev CT.refs(c:CT):List Nat:=Go.AM.refs c
def CT.isW:CT->Bool|.w _=>true|_=>false
def AK.T:AK->Type|.l n=>List (U n)|.g n=>U n
def SumA:List (Nat×AK)->Type|[]=>Empty|[a]=>a.2.T|a::b::l=>Sum a.2.T (SumA (b::l))
def CT.T:CT->Type|.b=>Bool|.i _=>Int|.s=>List UInt8|.l m=>List (U m)|.w m=>SumA (alts m)
def Tup:List CT->Type|[]=>Unit|c::cs=>c.T×Tup cs
def altsB(m:Nat):Bool:=(alts m).all λa=>match a.2 with|.g n=>(lay n).all λc=>!c.isW|.l _=>true
def ofU6:(n:Nat)->U6 n->Tup (lay6 n)|0,x=>(x,())|1,x=>(x,())|_+2,_=>()
def toU6:(n:Nat)->Tup (lay6 n)->U6 n|0,t=>t.1|1,t=>t.1|_+2,_=>()
theorem ofU_toU6:∀(n:Nat)(t:Tup (lay6 n)),ofU6 n (toU6 n t)=t|0,_=>rfl|1,_=>rfl|_+2,_=>rfl
def ofU5:(n:Nat)->U5 n->Tup (lay5 n)|0,x=>(x.BfBuffer.Most,x.BfBuffer.Entries,x.state.jobs.Levels.B,x.state.jobs.Levels.Levels,x.state.jobs.Jobs,x.state.jobs.NextId,())|1,x=>(x,())|2,x=>(x,())|3,x=>(x,())|4,x=>(x.s.Merge.Runs,x.s.Merge.At,x.s.Merge.Tree.Keys,x.s.Merge.Tree.Lose,x.s.Merge.Tree.Win,x.s.Shadow.Some,x.s.Shadow.Last,x.s.Shadow.Bottom,x.s.Out,x.s.Steps,())|5,x=>(x,())|6,x=>(x.MgState.Runs,x.MgState.At,x.MgState.Tree.Keys,x.MgState.Tree.Lose,x.MgState.Tree.Win,())|7,x=>(x.Id,x.Entries,())|n+8,x=>ofU6 n x
def toU5:(n:Nat)->Tup (lay5 n)->U5 n|0,t=>⟨⟨t.1,t.2.1⟩,⟨⟨⟨t.2.2.1,t.2.2.2.1⟩,t.2.2.2.2.1,t.2.2.2.2.2.1⟩⟩⟩|1,t=>t.1|2,t=>t.1|3,t=>t.1|4,t=>⟨⟨⟨t.1,t.2.1,⟨t.2.2.1,t.2.2.2.1,t.2.2.2.2.1⟩⟩,⟨t.2.2.2.2.2.1,t.2.2.2.2.2.2.1,t.2.2.2.2.2.2.2.1⟩,t.2.2.2.2.2.2.2.2.1,t.2.2.2.2.2.2.2.2.2.1⟩⟩|5,t=>t.1|6,t=>⟨⟨t.1,t.2.1,⟨t.2.2.1,t.2.2.2.1,t.2.2.2.2.1⟩⟩⟩|7,t=>⟨t.1,t.2.1⟩|n+8,t=>toU6 n t
theorem ofU_toU5:∀(n:Nat)(t:Tup (lay5 n)),ofU5 n (toU5 n t)=t|0,_=>rfl|1,_=>rfl|2,_=>rfl|3,_=>rfl|4,_=>rfl|5,_=>rfl|6,_=>rfl|7,_=>rfl|n+8,t=>ofU_toU6 n t
def ofU4:(n:Nat)->U4 n->Tup (lay4 n)|0,x=>(x.Keys,x.Lose,x.Win,())|1,x=>(x.Runs,x.At,x.Tree.Keys,x.Tree.Lose,x.Tree.Win,())|2,x=>(x.Some,x.Last,x.Bottom,())|3,x=>(x.Merge.Runs,x.Merge.At,x.Merge.Tree.Keys,x.Merge.Tree.Lose,x.Merge.Tree.Win,x.Shadow.Some,x.Shadow.Last,x.Shadow.Bottom,x.Out,x.Steps,())|4,x=>(x.Kind,x.Key,x.Old,x.New,())|5,x=>(x.MpState.Front.Buffer.Most,x.MpState.Front.Buffer.Entries,x.MpState.Front.Jobs.Levels.B,x.MpState.Front.Jobs.Levels.Levels,x.MpState.Front.Jobs.Jobs,x.MpState.Front.Jobs.NextId,x.MpState.Seq,x.MpState.Table.Pins.Most,x.MpState.Table.Pins.Slots,x.MpState.Table.Cursors.Most,x.MpState.Table.Cursors.Slots,x.MpState.Table.Pinned,x.MpState.Table.Opened,x.MpState.Places,x.MpState.Counts.Writes,x.MpState.Counts.Busy,x.MpState.Counts.Seals,x.MpState.Counts.Installs,x.MpState.Counts.Steps,x.MpState.Counts.Lost,x.a.E,x.a.Key,x.a.Val,x.a.N,x.a.Handle.Index,x.a.Handle.Gen,x.a.Items,x.a.Stats.Live,x.a.Stats.Entries,x.a.Stats.Dead,x.a.Stats.Buffered,x.a.Stats.Runs,x.a.Stats.Height,x.a.Stats.Jobs,x.a.Stats.Debt,x.a.Stats.Pins,x.a.Stats.Cursors,x.a.Stats.Held,x.a.Stats.Writes,x.a.Stats.Busy,x.a.Stats.Seals,x.a.Stats.Installs,x.a.Stats.Steps,x.a.Stats.Lost,())|6,x=>(x.Key,x.Val,())|7,x=>(x,())|n+8,x=>ofU5 n x
def toU4:(n:Nat)->Tup (lay4 n)->U4 n|0,t=>⟨t.1,t.2.1,t.2.2.1⟩|1,t=>⟨t.1,t.2.1,⟨t.2.2.1,t.2.2.2.1,t.2.2.2.2.1⟩⟩|2,t=>⟨t.1,t.2.1,t.2.2.1⟩|3,t=>⟨⟨t.1,t.2.1,⟨t.2.2.1,t.2.2.2.1,t.2.2.2.2.1⟩⟩,⟨t.2.2.2.2.2.1,t.2.2.2.2.2.2.1,t.2.2.2.2.2.2.2.1⟩,t.2.2.2.2.2.2.2.2.1,t.2.2.2.2.2.2.2.2.2.1⟩|4,t=>⟨t.1,t.2.1,t.2.2.1,t.2.2.2.1⟩|5,t=>⟨⟨⟨⟨t.1,t.2.1⟩,⟨⟨t.2.2.1,t.2.2.2.1⟩,t.2.2.2.2.1,t.2.2.2.2.2.1⟩⟩,t.2.2.2.2.2.2.1,⟨⟨t.2.2.2.2.2.2.2.1,t.2.2.2.2.2.2.2.2.1⟩,⟨t.2.2.2.2.2.2.2.2.2.1,t.2.2.2.2.2.2.2.2.2.2.1⟩,t.2.2.2.2.2.2.2.2.2.2.2.1,t.2.2.2.2.2.2.2.2.2.2.2.2.1⟩,t.2.2.2.2.2.2.2.2.2.2.2.2.2.1,⟨t.2.2.2.2.2.2.2.2.2.2.2.2.2.2.1,t.2.2.2.2.2.2.2.2.2.2.2.2.2.2.2.1,t.2.2.2.2.2.2.2.2.2.2.2.2.2.2.2.2.1,t.2.2.2.2.2.2.2.2.2.2.2.2.2.2.2.2.2.1,t.2.2.2.2.2.2.2.2.2.2.2.2.2.2.2.2.2.2.1,t.2.2.2.2.2.2.2.2.2.2.2.2.2.2.2.2.2.2.2.1⟩⟩,⟨t.2.2.2.2.2.2.2.2.2.2.2.2.2.2.2.2.2.2.2.2.1,t.2.2.2.2.2.2.2.2.2.2.2.2.2.2.2.2.2.2.2.2.2.1,t.2.2.2.2.2.2.2.2.2.2.2.2.2.2.2.2.2.2.2.2.2.2.1,t.2.2.2.2.2.2.2.2.2.2.2.2.2.2.2.2.2.2.2.2.2.2.2.1,⟨t.2.2.2.2.2.2.2.2.2.2.2.2.2.2.2.2.2.2.2.2.2.2.2.2.1,t.2.2.2.2.2.2.2.2.2.2.2.2.2.2.2.2.2.2.2.2.2.2.2.2.2.1⟩,t.2.2.2.2.2.2.2.2.2.2.2.2.2.2.2.2.2.2.2.2.2.2.2.2.2.2.1,⟨t.2.2.2.2.2.2.2.2.2.2.2.2.2.2.2.2.2.2.2.2.2.2.2.2.2.2.2.1,t.2.2.2.2.2.2.2.2.2.2.2.2.2.2.2.2.2.2.2.2.2.2.2.2.2.2.2.2.1,t.2.2.2.2.2.2.2.2.2.2.2.2.2.2.2.2.2.2.2.2.2.2.2.2.2.2.2.2.2.1,t.2.2.2.2.2.2.2.2.2.2.2.2.2.2.2.2.2.2.2.2.2.2.2.2.2.2.2.2.2.2.1,t.2.2.2.2.2.2.2.2.2.2.2.2.2.2.2.2.2.2.2.2.2.2.2.2.2.2.2.2.2.2.2.1,t.2.2.2.2.2.2.2.2.2.2.2.2.2.2.2.2.2.2.2.2.2.2.2.2.2.2.2.2.2.2.2.2.1,t.2.2.2.2.2.2.2.2.2.2.2.2.2.2.2.2.2.2.2.2.2.2.2.2.2.2.2.2.2.2.2.2.2.1,t.2.2.2.2.2.2.2.2.2.2.2.2.2.2.2.2.2.2.2.2.2.2.2.2.2.2.2.2.2.2.2.2.2.2.1,t.2.2.2.2.2.2.2.2.2.2.2.2.2.2.2.2.2.2.2.2.2.2.2.2.2.2.2.2.2.2.2.2.2.2.2.1,t.2.2.2.2.2.2.2.2.2.2.2.2.2.2.2.2.2.2.2.2.2.2.2.2.2.2.2.2.2.2.2.2.2.2.2.2.1,t.2.2.2.2.2.2.2.2.2.2.2.2.2.2.2.2.2.2.2.2.2.2.2.2.2.2.2.2.2.2.2.2.2.2.2.2.2.1,t.2.2.2.2.2.2.2.2.2.2.2.2.2.2.2.2.2.2.2.2.2.2.2.2.2.2.2.2.2.2.2.2.2.2.2.2.2.2.1,t.2.2.2.2.2.2.2.2.2.2.2.2.2.2.2.2.2.2.2.2.2.2.2.2.2.2.2.2.2.2.2.2.2.2.2.2.2.2.2.1,t.2.2.2.2.2.2.2.2.2.2.2.2.2.2.2.2.2.2.2.2.2.2.2.2.2.2.2.2.2.2.2.2.2.2.2.2.2.2.2.2.1,t.2.2.2.2.2.2.2.2.2.2.2.2.2.2.2.2.2.2.2.2.2.2.2.2.2.2.2.2.2.2.2.2.2.2.2.2.2.2.2.2.2.1,t.2.2.2.2.2.2.2.2.2.2.2.2.2.2.2.2.2.2.2.2.2.2.2.2.2.2.2.2.2.2.2.2.2.2.2.2.2.2.2.2.2.2.1,t.2.2.2.2.2.2.2.2.2.2.2.2.2.2.2.2.2.2.2.2.2.2.2.2.2.2.2.2.2.2.2.2.2.2.2.2.2.2.2.2.2.2.2.1⟩⟩⟩|6,t=>⟨t.1,t.2.1⟩|7,t=>t.1|n+8,t=>toU5 n t
theorem ofU_toU4:∀(n:Nat)(t:Tup (lay4 n)),ofU4 n (toU4 n t)=t|0,_=>rfl|1,_=>rfl|2,_=>rfl|3,_=>rfl|4,_=>rfl|5,_=>rfl|6,_=>rfl|7,_=>rfl|n+8,t=>ofU_toU5 n t
def ofU3:(n:Nat)->U3 n->Tup (lay3 n)|0,x=>(x,())|1,x=>(x,())|2,x=>(x.Index,x.Gen,())|3,x=>(x.Low,x.High,x.Bound,())|4,x=>(x,())|5,x=>(x,())|6,x=>(x,())|7,x=>(x,())|n+8,x=>ofU4 n x
def toU3:(n:Nat)->Tup (lay3 n)->U3 n|0,t=>t.1|1,t=>t.1|2,t=>⟨t.1,t.2.1⟩|3,t=>⟨t.1,t.2.1,t.2.2.1⟩|4,t=>t.1|5,t=>t.1|6,t=>t.1|7,t=>t.1|n+8,t=>toU4 n t
theorem ofU_toU3:∀(n:Nat)(t:Tup (lay3 n)),ofU3 n (toU3 n t)=t|0,_=>rfl|1,_=>rfl|2,_=>rfl|3,_=>rfl|4,_=>rfl|5,_=>rfl|6,_=>rfl|7,_=>rfl|n+8,t=>ofU_toU4 n t
def ofU2:(n:Nat)->U2 n->Tup (lay2 n)|0,x=>(x.Most,x.Slots,())|1,x=>(x.Buffer,x.Runs,())|2,x=>(x,())|3,x=>(x.Pins.Most,x.Pins.Slots,x.Cursors.Most,x.Cursors.Slots,x.Pinned,x.Opened,())|4,x=>(x.Range.Low,x.Range.High,x.Range.Bound,x.Some,x.Key,x.After,())|5,x=>(x.Front.Buffer.Most,x.Front.Buffer.Entries,x.Front.Jobs.Levels.B,x.Front.Jobs.Levels.Levels,x.Front.Jobs.Jobs,x.Front.Jobs.NextId,x.Seq,x.Table.Pins.Most,x.Table.Pins.Slots,x.Table.Cursors.Most,x.Table.Cursors.Slots,x.Table.Pinned,x.Table.Opened,x.Places,x.Counts.Writes,x.Counts.Busy,x.Counts.Seals,x.Counts.Installs,x.Counts.Steps,x.Counts.Lost,())|6,x=>(x.Live,x.Entries,x.Dead,x.Buffered,x.Runs,x.Height,x.Jobs,x.Debt,x.Pins,x.Cursors,x.Held,x.Writes,x.Busy,x.Seals,x.Installs,x.Steps,x.Lost,())|7,x=>(x.Runs,x.Entries,x.Dead,x.Job,x.Left,())|n+8,x=>ofU3 n x
def toU2:(n:Nat)->Tup (lay2 n)->U2 n|0,t=>⟨t.1,t.2.1⟩|1,t=>⟨t.1,t.2.1⟩|2,t=>t.1|3,t=>⟨⟨t.1,t.2.1⟩,⟨t.2.2.1,t.2.2.2.1⟩,t.2.2.2.2.1,t.2.2.2.2.2.1⟩|4,t=>⟨⟨t.1,t.2.1,t.2.2.1⟩,t.2.2.2.1,t.2.2.2.2.1,t.2.2.2.2.2.1⟩|5,t=>⟨⟨⟨t.1,t.2.1⟩,⟨⟨t.2.2.1,t.2.2.2.1⟩,t.2.2.2.2.1,t.2.2.2.2.2.1⟩⟩,t.2.2.2.2.2.2.1,⟨⟨t.2.2.2.2.2.2.2.1,t.2.2.2.2.2.2.2.2.1⟩,⟨t.2.2.2.2.2.2.2.2.2.1,t.2.2.2.2.2.2.2.2.2.2.1⟩,t.2.2.2.2.2.2.2.2.2.2.2.1,t.2.2.2.2.2.2.2.2.2.2.2.2.1⟩,t.2.2.2.2.2.2.2.2.2.2.2.2.2.1,⟨t.2.2.2.2.2.2.2.2.2.2.2.2.2.2.1,t.2.2.2.2.2.2.2.2.2.2.2.2.2.2.2.1,t.2.2.2.2.2.2.2.2.2.2.2.2.2.2.2.2.1,t.2.2.2.2.2.2.2.2.2.2.2.2.2.2.2.2.2.1,t.2.2.2.2.2.2.2.2.2.2.2.2.2.2.2.2.2.2.1,t.2.2.2.2.2.2.2.2.2.2.2.2.2.2.2.2.2.2.2.1⟩⟩|6,t=>⟨t.1,t.2.1,t.2.2.1,t.2.2.2.1,t.2.2.2.2.1,t.2.2.2.2.2.1,t.2.2.2.2.2.2.1,t.2.2.2.2.2.2.2.1,t.2.2.2.2.2.2.2.2.1,t.2.2.2.2.2.2.2.2.2.1,t.2.2.2.2.2.2.2.2.2.2.1,t.2.2.2.2.2.2.2.2.2.2.2.1,t.2.2.2.2.2.2.2.2.2.2.2.2.1,t.2.2.2.2.2.2.2.2.2.2.2.2.2.1,t.2.2.2.2.2.2.2.2.2.2.2.2.2.2.1,t.2.2.2.2.2.2.2.2.2.2.2.2.2.2.2.1,t.2.2.2.2.2.2.2.2.2.2.2.2.2.2.2.2.1⟩|7,t=>⟨t.1,t.2.1,t.2.2.1,t.2.2.2.1,t.2.2.2.2.1⟩|n+8,t=>toU3 n t
theorem ofU_toU2:∀(n:Nat)(t:Tup (lay2 n)),ofU2 n (toU2 n t)=t|0,_=>rfl|1,_=>rfl|2,_=>rfl|3,_=>rfl|4,_=>rfl|5,_=>rfl|6,_=>rfl|7,_=>rfl|n+8,t=>ofU_toU3 n t
def ofU1:(n:Nat)->U1 n->Tup (lay1 n)|0,x=>(x.Runs,())|1,x=>(x.B,x.Levels,())|2,x=>(x.Key,x.Done,())|3,x=>(x.Level,x.Work.Merge.Runs,x.Work.Merge.At,x.Work.Merge.Tree.Keys,x.Work.Merge.Tree.Lose,x.Work.Merge.Tree.Win,x.Work.Shadow.Some,x.Work.Shadow.Last,x.Work.Shadow.Bottom,x.Work.Out,x.Work.Steps,())|4,x=>(x,())|5,x=>(x.Levels.B,x.Levels.Levels,x.Jobs,x.NextId,())|6,x=>(x.Buffer.Most,x.Buffer.Entries,x.Jobs.Levels.B,x.Jobs.Levels.Levels,x.Jobs.Jobs,x.Jobs.NextId,())|7,x=>(x.Gen,x.Used,())|n+8,x=>ofU2 n x
def toU1:(n:Nat)->Tup (lay1 n)->U1 n|0,t=>⟨t.1⟩|1,t=>⟨t.1,t.2.1⟩|2,t=>⟨t.1,t.2.1⟩|3,t=>⟨t.1,⟨⟨t.2.1,t.2.2.1,⟨t.2.2.2.1,t.2.2.2.2.1,t.2.2.2.2.2.1⟩⟩,⟨t.2.2.2.2.2.2.1,t.2.2.2.2.2.2.2.1,t.2.2.2.2.2.2.2.2.1⟩,t.2.2.2.2.2.2.2.2.2.1,t.2.2.2.2.2.2.2.2.2.2.1⟩⟩|4,t=>t.1|5,t=>⟨⟨t.1,t.2.1⟩,t.2.2.1,t.2.2.2.1⟩|6,t=>⟨⟨t.1,t.2.1⟩,⟨⟨t.2.2.1,t.2.2.2.1⟩,t.2.2.2.2.1,t.2.2.2.2.2.1⟩⟩|7,t=>⟨t.1,t.2.1⟩|n+8,t=>toU2 n t
theorem ofU_toU1:∀(n:Nat)(t:Tup (lay1 n)),ofU1 n (toU1 n t)=t|0,_=>rfl|1,_=>rfl|2,_=>rfl|3,_=>rfl|4,_=>rfl|5,_=>rfl|6,_=>rfl|7,_=>rfl|n+8,t=>ofU_toU2 n t
def ofU:(n:Nat)->U n->Tup (lay n)|0,x=>(x,())|1,x=>(x,())|2,x=>(x,())|3,x=>(x,())|4,x=>(x.Key,x.Val,x.Dead,x.Seq,())|5,x=>(x,())|6,x=>(x.Most,x.Entries,())|7,x=>(x.Id,x.Entries,())|n+8,x=>ofU1 n x
def toU:(n:Nat)->Tup (lay n)->U n|0,t=>t.1|1,t=>t.1|2,t=>t.1|3,t=>t.1|4,t=>⟨t.1,t.2.1,t.2.2.1,t.2.2.2.1⟩|5,t=>t.1|6,t=>⟨t.1,t.2.1⟩|7,t=>⟨t.1,t.2.1⟩|n+8,t=>toU1 n t
theorem ofU_toU:∀(n:Nat)(t:Tup (lay n)),ofU n (toU n t)=t|0,_=>rfl|1,_=>rfl|2,_=>rfl|3,_=>rfl|4,_=>rfl|5,_=>rfl|6,_=>rfl|7,_=>rfl|n+8,t=>ofU_toU1 n t
theorem altsB_ok:∀m:Nat,altsB m=true|0=>rfl|_+1=>rfl
theorem alts_ok(m:Nat):∀a∈alts m,∀n,a.2=.g n->∀c∈lay n,c.isW=false:=by intro a ha n hn c hc;have h:=altsB_ok m;unfold altsB at h;have h1:=List.all_eq_true.1 h a ha;rw[hn]at h1;have h2:=List.all_eq_true.1 h1 c hc;simpa using h2
inductive DV where|b(x:Bool)|i(k:IntKind)(n:Int)|s(x:List UInt8)|l(z:Nat)(es:List (List DV))|a(cs:List DV)|f(t:Nat)(x:DV)
def szU(n:Nat):Nat:=(lay n).length
def AK.dv(ex:(n:Nat)->U n->List DV)(t:Nat):(a:AK)->a.T->DV|.l n,ys=>.f t (.l (szU n) (ys.map (ex n)))|.g n,x=>.f t (.a (ex n x))
def SumA.dv(ex:(n:Nat)->U n->List DV):(l:List (Nat×AK))->SumA l->DV|[],x=>nomatch(show Empty from x)|[a],x=>a.2.dv ex a.1 x|a::b::l,x=>match(show Sum a.2.T (SumA (b::l))from x)with|.inl y=>a.2.dv ex a.1 y|.inr z=>SumA.dv ex (b::l) z
def CT.dv(ex:(n:Nat)->U n->List DV):(c:CT)->c.T->DV|.b,x=>.b x|.i k,n=>.i k n|.s,x=>.s x|.l m,ys=>.l (szU m) (ys.map (ex m))|.w m,x=>SumA.dv ex (alts m) x
def tupD(ex:(n:Nat)->U n->List DV):(cs:List CT)->Tup cs->List DV|[],_=>[]|c::cs,t=>c.dv ex t.1::tupD ex cs t.2
def exF:Nat->(n:Nat)->U n->List DV|0,_,_=>[]|f+1,n,x=>tupD (exF f) (lay n) (ofU n x)
def exU(n:Nat)(x:U n):List DV:=exF (n+1) n x
theorem tupD_len(ex:(n:Nat)->U n->List DV):∀(cs:List CT)(t:Tup cs),(tupD ex cs t).length=cs.length|[],_=>rfl|c::cs,t=>by simp[tupD,tupD_len ex cs t.2]
theorem exU_len(n:Nat)(x:U n):(exU n x).length=szU n:=tupD_len _ _ _
theorem AK.dv_eq{ex ex':(n:Nat)->U n->List DV}(t:Nat):∀(a:AK)(x:a.T),ex a.n=ex' a.n->a.dv ex t x=a.dv ex' t x|.l n,x,h=>by simp only[AK.dv];rw[show ex n=ex' n from h]|.g n,x,h=>by simp only[AK.dv];rw[show ex n=ex' n from h]
theorem SumA.dv_eq{ex ex':(n:Nat)->U n->List DV}:∀(l:List (Nat×AK))(x:SumA l),(∀a∈l,ex a.2.n=ex' a.2.n)->SumA.dv ex l x=SumA.dv ex' l x|[],x,_=>nomatch(show Empty from x)|[a],x,h=>AK.dv_eq a.1 a.2 x (h a (by simp))|a::b::l,x,h=>by cases(show Sum a.2.T (SumA (b::l))from x)with|inl y=>exact AK.dv_eq a.1 a.2 y (h a (by simp))|inr z=>exact SumA.dv_eq (b::l) z (λc hc=>h c (by simp[List.mem_cons.1 hc]))
theorem tupD_eq{ex ex':(n:Nat)->U n->List DV}:∀(cs:List CT)(t:Tup cs),(∀c∈cs,∀m∈c.refs,ex m=ex' m)->tupD ex cs t=tupD ex' cs t|[],_,_=>rfl|c::cs,t,h=>by simp only[tupD,tupD_eq cs t.2 λd hd=>h d (by simp[hd])];cases c with|l m=>simp only[CT.dv,h (.l m) (by simp) m (by simp[Go.AM.refs])]|w m=>simp only[CT.dv];rw[SumA.dv_eq (alts m) t.1 λa ha=>h (.w m) (by simp) _ (List.mem_map.2 ⟨a,ha,rfl⟩)]|_=>rfl
theorem exF_eq:∀(f n:Nat),n<f->exF f n=exU n|0,n,h=>by omega|f+1,n,h=>by funext x;show tupD (exF f) (lay n) (ofU n x)=tupD (exF n) (lay n) (ofU n x);refine tupD_eq _ _ λc hc m hm=>?_;have :=lay_lt n c hc m hm;rw[exF_eq f m (by omega),exF_eq n m this]
theorem exU_eq(n:Nat)(x:U n):exU n x=tupD exU (lay n) (ofU n x):=tupD_eq _ _ λc hc m hm=>exF_eq n m (lay_lt n c hc m hm)
end Go.AM
end
section
set_option linter.unusedSimpArgs false
set_option linter.unusedVariables false
namespace Go.AM
open Go
inductive AV where|top|anyb|bool(b:Bool)|int(k:IntKind)(n:Int)|str(s:List UInt8)|nilp|ref(b g i j:Nat)|pp(cells:List AV)|nils|sl(b g sz off len:Nat)|psl(sz:Nat)(es:List (List AV))|psx(sz:Nat)(es:List (List AV))|fn(f:FuncId)(first captured:List AV)|yld(l:Nat)|mp(l:Nat)|itr(l:Nat)|nilf|nili|emp|iface(t:TypeId)(v:AV)|agg(cells:List AV)|tup(vs:List AV)|gp(k o:Nat)(cs:List AV)|slk(b g sz off len lo:Nat)(ex:Bool)|nilm|strb(n:Nat)(s:List UInt8)|inty(k:IntKind)|dl(n:Nat)(xs:List (U n))
class Adr where
 ad:Nat->Nat
 of:Nat->Nat
 gl:Nat->AV
structure ABlk where
 g:Nat
 own:Bool
 pure:Bool
 sz:Nat
 es:List (List AV)
 ty:Option TypeId:=none
def AV.isP:AV->Bool|.ref .. |.sl .. |.yld _|.mp _|.itr _|.slk .. =>false|.fn _ a b=>isPs a&&isPs b|.iface _ v=>v.isP|.agg cs=>isPs cs|.tup cs=>isPs cs|_=>true where
 isPs:List AV->Bool|[]=>true|v::vs=>v.isP&&isPs vs
def AV.flat:AV->Bool|.ref .. |.sl .. |.yld _|.mp _|.itr _|.pp _|.gp .. |.slk .. =>false|.psl _ es=>es.isEmpty|.psx _ es=>es.isEmpty|.dl .. =>false|.fn _ a b=>flats a&&flats b|.iface _ v=>v.flat|.agg cs=>flats cs|.tup cs=>flats cs|_=>true where
 flats:List AV->Bool|[]=>true|v::vs=>v.flat&&flats vs
def AV.flatR:AV->Bool|.yld _|.mp _|.itr _|.pp _=>false|.gp _ _ cs=>cs.isEmpty|.psl .. =>false|.psx .. =>false|.dl .. =>false|.fn _ a b=>flatRs a&&flatRs b|.iface _ v=>v.flatR|.agg cs=>flatRs cs|.tup cs=>flatRs cs|_=>true where
 flatRs:List AV->Bool|[]=>true|v::vs=>v.flatR&&flatRs vs
def AV.shift(n:Nat):AV->AV|.ref b g i j=>.ref (n+b) g i j|.sl b g z o l=>.sl (n+b) g z o l|.slk b g z o l c e=>.slk (n+b) g z o l c e|.fn f a b=>.fn f (shifts n a) (shifts n b)|.iface t v=>.iface t (v.shift n)|.agg cs=>.agg (shifts n cs)|.tup cs=>.tup (shifts n cs)|.yld _=>.top|.mp _=>.top|.itr _=>.top|v=>v where
 shifts(n:Nat):List AV->List AV|[]=>[]|v::vs=>v.shift n::shifts n vs
def ABlk.shift(n:Nat)(b:ABlk):ABlk:=if b.pure then b else{b with es:=b.es.map (AV.shift.shifts n)}
def AV.cells:AV->Option (List AV)|.agg cs=>some cs|.top|.tup _=>none|v=>some [v]
def AV.ofCells(ag:Bool)(cs:List AV):Option AV:=if ag then some (.agg cs)else match cs with|[c]=>some c|_=>none
def avZ:Value->Option AV|.bool b=>some (.bool b)|.int k n=>some (.int k n)|.string s=>if s.size=0 then some (.str [])else none|.pointer none=>some .nilp|.slice none 0 0=>some .nils|.nilFunc=>some .nilf|.nilIface=>some .nili|.map none=>some .nilm|_=>none
def avZs:List Value->Option (List AV)|[]=>some []|v::vs=>match avZ v,avZs vs with|some a,some l=>some (a::l)|_,_=>none
def tSize(P:Program)(t:TypeId):Option Nat:=(P.info? t).map (·.size)
def tBytes(P:Program)(t:TypeId):Option Nat:=(P.info? t).map (·.bytes)
def tAgg(P:Program)(t:TypeId):Option Bool:=match P.underlying t with|some (.struct _)|some (.array ..)=>some true|some _=>some false|none=>none
def tZero(P:Program)(t:TypeId):Option (List AV):=match(P.info? t).bind (·.zero)with|some v=>avZs v.cells.toList|none=>none
def tSlice(P:Program)(t:TypeId):Option TypeId:=match P.underlying t with|some (.slice e)=>some e|_=>none
def tArr(P:Program)(t:TypeId):Option (Nat×TypeId):=match P.underlying t with|some (.array n e)=>some (n,e)|_=>none
def tField(P:Program)(t:TypeId)(f:Nat):Option (Nat×TypeId):=match P.underlying t with
 |some (.struct fs)=>match fs[f]? with
  |some fd=>match tSize P fd.type with|some (_+1)=>some (fd.offset,fd.type)|_=>none
  |none=>none
 |_=>none
def tPlaces(P:Program)(t:TypeId):Option (List (Nat×Nat)):=match P.underlying t with|some (.struct fs)=>fs.toList.mapM λf=>(tSize P f.type).map λn=>(f.offset,n)|_=>none
def tConc(P:Program)(t:TypeId):Bool:=match P.underlying t with|some (.interface _)=>false|some _=>true|none=>false
def tZeroV(P:Program)(t:TypeId):Option AV:=match(P.info? t).bind (·.zero)with|some (.agg cs)=>(avZs cs.toList).map .agg|some v=>avZ v|none=>none
def aMethod(P:Program)(t:TypeId)(name:String):Option FuncId:=match P.info? t,P.underlying t with
 |some i,some u=>match i.methods.find? (·.name==name)with|some m=>if m.path.toList.isEmpty then match m.func,u with|some (f,true),.pointer _=>some f|some (_,false),.pointer _=>none|some (_,false),.interface _=>none|some (f,false),_=>some f|_,_=>none else none|none=>none
 |_,_=>none
def recvO(P:Program)(v:AV)(name:String):Option (FuncId×AV):=match v with
 |.iface t x=>match aMethod P t name with|some f=>some (f,x)|none=>none
 |_=>none
def aPart(P:Program)(t:TypeId)(cs:List AV)(off:Nat):Option AV:=match tAgg P t,tSize P t with|some true,some n=>some (.agg ((cs.drop off).take n))|some false,some _=>cs[off]?|_,_=>none
abbrev Heap:=Nat->Option ABlk
def rdElem(η:Heap)(b g i:Nat):Option (List AV):=match η b with|some blk=>if blk.g=g then blk.es[i]? else none|none=>none
def aLoad(P:Program)(t:TypeId)(a:AV)(η:Heap):Option (AV×List Nat):=match tAgg P t,tSize P t with
 |some ag,some n=>match a with
  |.ref b g i j=>match rdElem η b g i with|some e=>if j+n<=e.length then(AV.ofCells ag ((e.drop j).take n)).map λv=>(v,[b])else none|none=>none
  |.pp cs=>if n<=cs.length then(AV.ofCells ag (cs.take n)).map λv=>(v,[])else none
  |_=>none
 |_,_=>none
def aStore(P:Program)(t:TypeId)(a v:AV)(η:Heap):Option (Nat×ABlk):=match tSize P t,a,v.cells with
 |some n,.ref b g i j,some cs=>match η b with|some blk=>if blk.g=g/\blk.own=true/\cs.length=n then match blk.es[i]? with|some e=>if j+n<=e.length then some (b,{blk with es:=blk.es.set i (e.take j++cs++e.drop (j+n)),pure:=blk.pure&&AV.isP.isPs cs})else none|none=>none else none|none=>none
 |_,_,_=>none
def aFieldAddr(P:Program)(t:TypeId)(a:AV)(f:Nat):Option AV:=match tField P t f,a with|some (off,_),.ref b g i j=>some (.ref b g i (j+off))|some (off,_),.pp cs=>if off<=cs.length then some (.pp (cs.drop off))else none|_,_=>none
def aIndexAddr(P:Program)(t:TypeId)(x ix:AV):Option AV:=match tSlice P t,ix with
 |some e,.int _ n=>match tSize P e,x with|some sz,.sl b g sz' off len=>if sz'=sz/\0<=n/\n<len then some (.ref b g (off+n.toNat) 0)else none|some sz,.psl sz' es=>if sz'=sz/\0<=n then match es[n.toNat]? with|some e=>some (.pp e)|none=>none else none|_,_=>none
 |none,.int _ n=>match tArr P t with
  |some (len,e)=>match tSize P e,x with|some sz,.ref b g i j=>if 0<=n/\n<len then some (.ref b g i (j+n.toNat*sz))else none|some sz,.pp cs=>if 0<=n/\n<len/\n.toNat*sz<=cs.length then some (.pp (cs.drop (n.toNat*sz)))else none|_,_=>none
  |none=>none
 |_,_=>none
def aFill(place:Nat->Option (Nat×Nat)):List AV->List (Nat×AV)->Option (List AV)|cs,[]=>some cs|cs,(i,v)::rest=>match place i,v.cells with|some (off,n),some vs=>if vs.length=n/\off+n<=cs.length then aFill place (cs.take off++vs++cs.drop (off+n)) rest else none|_,_=>none
def aBuild(P:Program)(t:TypeId)(parts:List (Nat×AV)):Option AV:=match tPlaces P t,tZero P t with|some pl,some z=>(aFill (λi=>pl[i]?) z parts).map .agg|_,_=>none
def setAll(es:List (List AV)):List (Nat×AV)->Nat->Option (List (List AV))|[],_=>some es|(i,v)::rest,n=>match v.cells with|some cs=>if cs.length=n/\i<es.length then setAll (es.set i cs) rest n else none|none=>none
def aBuildSlice(P:Program)(t:TypeId)(len:Nat)(parts:List (Nat×AV))(nm:Nat):Option (AV×(Nat×ABlk)):=match tSlice P t with
 |some e=>match tSize P e,tZero P e with|some sz,some z=>if len*sz<=2^24/\z.length=sz/\0<sz then(setAll (List.replicate len z) parts sz).map λes=>(.sl nm 0 sz 0 len,(nm,{g:=0,own:=true,pure:=es.all AV.isP.isPs,sz:=sz,es:=es}))else none|_,_=>none
 |none=>none
def aMakeSlice(P:Program)(t:TypeId)(len cap:AV)(nm:Nat):Option (AV×(Nat×ABlk)):=match tSlice P t,len,cap with
 |some e,.int _ l,.int _ c=>match tSize P e,tBytes P e,tZero P e with|some sz,some bs,some z=>if 0<=l/\l<=c/\c<=IntKind.i64.max/\(bs:Int)*c<=2^48/\z.length=sz/\0<sz then some (.sl nm 0 sz 0 l.toNat,(nm,{g:=0,own:=true,pure:=true,sz:=sz,es:=List.replicate l.toNat z}))else none|_,_,_=>none
 |_,_,_=>none
def sliceBd(x:Option AV)(dflt:Nat):Option Nat:=match x with|none=>some dflt|some (.int _ n)=>if 0<=n then some n.toNat else none|some _=>none
def aSlice(P:Program)(t:TypeId)(x:AV)(lo hi mx:Option AV):Option AV:=match P.underlying t,x with
 |some .string,.str s=>if mx.isSome then none else match sliceBd lo 0,sliceBd hi s.length with|some l,some h=>if l<=h/\h<=s.length then some (.str ((s.drop l).take (h-l)))else none|_,_=>none
 |some (.slice e),.sl b g z off len=>match tSize P e,sliceBd lo 0,sliceBd hi len,sliceBd mx len with|some sz,some l,some h,some m=>if z=sz/\(mx.isSome=true->hi.isSome=true)/\l<=h/\h<=m/\m<=len then(if l<h\/l=0 then some (.sl b g z (off+l) (h-l))else some (.psl sz []))else none|_,_,_,_=>none
 |some (.slice e),.psl sz es=>match tSize P e,sliceBd lo 0,sliceBd hi es.length,sliceBd mx es.length with|some sz',some l,some h,some m=>if mx.isSome=true/\hi.isSome=true/\l=0/\h=0/\m=0 then some .emp else if sz'=sz/\(mx.isSome=true->hi.isSome=true)/\l<=h/\h<=m/\m<=es.length then some (.psl sz ((es.drop l).take (h-l)))else none|_,_,_,_=>none
 |some (.slice e),.nils=>match tSize P e,sliceBd lo 0,sliceBd hi 0,sliceBd mx 0 with|some _,some l,some h,some m=>if(mx.isSome=true->hi.isSome=true)/\l<=h/\h<=m/\m<=0 then some .nils else none|_,_,_,_=>none
 |_,_=>none
def aEq(P:Program):Nat->TypeId->AV->AV->Option Bool
 |0,_,_,_=>none
 |d+1,t,x,y=>match P.underlying t,x,y with
  |some .bool,.bool a,.bool b=>some (a==b)
  |some (.int _),.int k a,.int k' b=>if k=k' then some (a==b)else none
  |some .string,.str a,.str b=>some (a==b)
  |some (.struct fs),.agg xs,.agg ys=>if P.stoodInHeld t then none else fs.toList.foldr (λf acc=>if f.name≠ "_"then match aPart P f.type xs f.offset,aPart P f.type ys f.offset with
   |some u,some v=>match aEq P d f.type u v,acc with|some p,some q=>some (p&&q)|_,_=>none
   |_,_=>none else acc) (some true)
  |_,_,_=>none
def ubool:Option Bool->AV|some b=>.bool b|none=>.anyb
def aNilCmp(P:Program)(op:BinOp)(t:TypeId)(b:Option Bool):Option AV:=match op,P.underlying t with|.eql,some (.slice _)=>some (ubool b)|.neq,some (.slice _)=>some (ubool (b.map (!·)))|_,_=>none
def aBin(P:Program)(op:BinOp)(t:TypeId)(x y:AV):Option AV:=match x,y with
 |.int k a,.int k' b=>if k=k' then match op with|.add=>some (.int k (k.wrap (a+b)))|.sub=>some (.int k (k.wrap (a-b)))|.mul=>some (.int k (k.wrap (a*b)))|.quo=>if b=0 then none else some (.int k (k.wrap (a.tdiv b)))|.rem=>if b=0 then none else some (.int k (a.tmod b))|.shl=>if b<0 then none else some (.int k (k.wrap (a*2^(min b.toNat k.bits))))|.eql=>some (.bool (a==b))|.neq=>some (.bool (a !=b))|.lss=>some (.bool (a<b))|.leq=>some (.bool (a<=b))|.gtr=>some (.bool (a>b))|.geq=>some (.bool (a>=b))|_=>none else none
 |.str a,.str b=>match op with|.add=>if((a.length+b.length:Nat):Int)<=IntKind.i64.max then some (.str (a++b))else none|.eql=>some (.bool (a==b))|.neq=>some (.bool !(a==b))|.lss=>some (.bool (Op.bytesLess a b))|.leq=>some (.bool (Op.bytesLess a b||a==b))|.gtr=>some (.bool !(Op.bytesLess a b||a==b))|.geq=>some (.bool !(Op.bytesLess a b))|_=>none
 |.inty k,.int k' _=>if k=k' then match op with|.eql=>some .anyb|.neq=>some .anyb|.lss=>some .anyb|.leq=>some .anyb|.gtr=>some .anyb|.geq=>some .anyb|_=>none else none
 |.strb n a,.strb m b=>match op with|.add=>if((n+m:Nat):Int)<=IntKind.i64.max then some (.strb (n+m) (a++b))else none|_=>none
 |.str a,.strb m b=>match op with|.add=>if((a.length+m:Nat):Int)<=IntKind.i64.max then some (.strb (a.length+m) (a++b))else none|_=>none
 |.strb n a,.str b=>match op with|.add=>if((n+b.length:Nat):Int)<=IntKind.i64.max then some (.strb (n+b.length) (a++b))else none|.eql=>some (.bool (a==b))|.neq=>some (.bool !(a==b))|_=>none
 |.bool a,.bool b=>match op,P.underlying t with|.eql,some .bool=>some (.bool (a==b))|.neq,some .bool=>some (.bool !(a==b))|_,_=>none
 |.agg xs,.agg ys=>if P.eqGuardType P.depth t then none else match op with|.eql=>(aEq P 10000 t (.agg xs) (.agg ys)).map .bool|.neq=>(aEq P 10000 t (.agg xs) (.agg ys)).map λb=>.bool !b|_=>none
 |.nils,.nils=>aNilCmp P op t (some true)
 |.psl _ es,.nils=>aNilCmp P op t (if es.isEmpty then none else some false)
 |.emp,.nils=>aNilCmp P op t none
 |.sl _ _ _ _ len,.nils=>aNilCmp P op t (if len=0 then none else some false)
 |_,_=>none
def aUn(op:UnOp)(x:AV):Option AV:=match op,x with|.neg,.int k n=>some (.int k (k.wrap (0-n)))|.not,.bool b=>some (.bool !b)|_,_=>none
def aConv(P:Program)(s d:TypeId)(x:AV):Option AV:=match P.underlying s,P.underlying d,x with|some _,some (.int k),.int _ n=>some (.int k (k.wrap n))|some .string,some .string,.str b=>some (.str b)|_,_,_=>none
def aLen(P:Program)(t:TypeId)(x:AV):Option AV:=match P.underlying t,x with|some .string,.str s=>some (.int .i64 s.length)|some (.slice _),.nils=>some (.int .i64 0)|some (.slice _),.sl _ _ _ _ n=>some (.int .i64 n)|some (.slice _),.psl _ es=>some (.int .i64 es.length)|some (.slice _),.emp=>some (.int .i64 0)|_,_=>none
def aElems(η:Heap)(sz:Nat):AV->Option (List (List AV)×List Nat)
 |.nils=>some ([],[])
 |.emp=>some ([],[])
 |.psl sz' es=>if sz'=sz\/es=[]then some (es,[])else none
 |.sl b g z off len=>match η b with|some blk=>if z=sz/\blk.g=g/\blk.sz=sz/\off+len<=blk.es.length then some ((blk.es.drop off).take len,[b])else none|none=>none
 |_=>none
def aAppend(P:Program)(t t':TypeId)(s x:AV)(η:Heap)(nm:Nat):Option (AV×(Nat×ABlk)×List Nat):=match tSlice P t,tSlice P t' with
 |some e,some e'=>match tSize P e,tBytes P e,tSize P e',tZero P e with
  |some sz,some bs,some sz',some z=>if sz=sz'/\0<sz/\0<bs/\z.length=sz then match aElems η sz x with
   |some (xs,rd)=>match s with
    |.nils=>if 2*(xs.length*bs)<=2^48 then some (.sl nm 0 sz 0 xs.length,(nm,{g:=0,own:=true,pure:=xs.all AV.isP.isPs,sz:=sz,es:=xs}),rd)else none
    |.emp=>if 2*(xs.length*bs)<=2^48 then some (.sl nm 0 sz 0 xs.length,(nm,{g:=0,own:=true,pure:=xs.all AV.isP.isPs,sz:=sz,es:=xs}),rd)else none
    |.sl b g z off len=>match η b with|some blk=>if z=sz/\blk.g=g/\blk.sz=sz/\off=0/\len=blk.es.length/\blk.own=true/\2*((len+xs.length)*bs)<=2^48 then some (.sl b (g+1) sz 0 (len+xs.length),(b,{blk with g:=g+1,es:=blk.es++xs,pure:=blk.pure&&xs.all AV.isP.isPs,ty:=none}),b::rd)else none|none=>none
    |_=>none
   |none=>none else none
  |_,_,_,_=>none
 |_,_=>none
def mapE(f:List AV->Option (List AV×List Nat)):List (List AV)->Option (List (List AV)×List Nat)|[]=>some ([],[])|e::es=>match f e,mapE f es with|some (e',r),some (es',r')=>some (e'::es',r++r')|_,_=>none
def pur(η:Heap):Nat->AV->Option (AV×List Nat)
 |0,_=>none
 |d+1,v=>match v with
  |.ref b g i j=>match rdElem η b g i,η b with
   |some e,some blk=>if e.length<j then none else if blk.pure then some (.pp (e.drop j),[b])else match purs η d (e.drop j)with|some (cs,rd)=>some (.pp cs,b::rd)|none=>none
   |_,_=>none
  |.sl b g z off len=>match η b with|some blk=>if blk.sz=z/\blk.g=g/\off+len<=blk.es.length then if blk.pure then some (.psl blk.sz ((blk.es.drop off).take len),[b])else match mapE (purs η d) ((blk.es.drop off).take len)with|some (es,rd)=>some (.psl blk.sz es,b::rd)|none=>none else none|none=>none
  |.slk b g z off len _ _=>pur η d (.sl b g z off len)
  |.fn f a c=>match purs η d a,purs η d c with|some (a',r),some (c',r')=>some (.fn f a' c',r++r')|_,_=>none
  |.iface t v=>match pur η d v with|some (v',r)=>some (.iface t v',r)|none=>none
  |.agg cs=>match purs η d cs with|some (cs',r)=>some (.agg cs',r)|none=>none
  |.tup cs=>match purs η d cs with|some (cs',r)=>some (.tup cs',r)|none=>none
  |.yld _=>none
  |.mp _=>none
  |.itr _=>none
  |.psx z es=>some (.psl z es,[])
  |v=>some (v,[])where
 purs(η:Heap):Nat->List AV->Option (List AV×List Nat)|0,_=>none|_+1,[]=>some ([],[])|d+1,v::vs=>match pur η d v,purs η d vs with|some (v',r),some (vs',r')=>some (v'::vs',r++r')|_,_=>none
end Go.AM
end
