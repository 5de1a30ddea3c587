/- Texts of the proof, joined by program. -/
import Derived.Test.YtaeifdlkolfdjaaGreatDoorRows
import Derived.Test.YtaeifdlkolfdjaaGreatDoorCards
import Derived.Test.YtaeifdlkolfdjaaGreatDoorTie
import Derived.Test.YtaeifdlkolfdjaaGreatDoorKDa
import Derived.Test.YtaeifdlkolfdjaaGreatDoorKAs
import Derived.Test.YtaeifdlkolfdjaaGreatDoorKTp0
import Derived.Test.YtaeifdlkolfdjaaGreatDoorKAmZe
import Derived.SevenTiedAt
import Derived.ChangeSame
import Derived.ChangeVars
import Derived.JoinedOf
import Derived.RowKit
import Derived.RowKitTokens
import Derived.LaidLaws
import Derived.LaidHandle
import Derived.Stop.Joined
import Derived.Carry
import Derived.ProofKit
set_option linter.unusedSimpArgs false
set_option linter.unusedVariables false
set_option maxRecDepth 100000
namespace Go.Proofs.YtaeifdlkolfdjaaGreatDoor
open Go.ChangeShapes Go.WideShapes Go.RowKit Go.AM
def W3(x:Int):Prop:=(Lit.int .i64 x).wf=true
theorem shp3[Adr]{n:Nat}{x:List AV}(h:Shp Tryz.prog (n+1) 3 x):∃e:Int,ALes x [.int .i64 e]/\W3 e:=by obtain⟨b,rfl,hb⟩:=shp_int (n:=n) Tryz.underlying3 h;exact⟨b,les_refl _,hb⟩
def W9(x:List UInt8):Prop:=x.length<=maxLen
theorem shp9[Adr]{n:Nat}{x:List AV}(h:Shp Tryz.prog (n+1) 9 x):∃e:List UInt8,ALes x [.str e]/\W9 e:=by obtain⟨b,rfl,hb⟩:=shp_string (n:=n) Tryz.underlying9 h;exact⟨b,les_refl _,hb⟩
def W4(x:Bool):Prop:=True
theorem shp4[Adr]{n:Nat}{x:List AV}(h:Shp Tryz.prog (n+1) 4 x):∃e:Bool,ALes x [.bool e]/\W4 e:=by obtain⟨b,rfl⟩:=shp_bool (n:=n) Tryz.underlying4 h;exact⟨b,les_refl _,trivial⟩
def W2(x:Int):Prop:=(Lit.int .i64 x).wf=true
theorem shp2[Adr]{n:Nat}{x:List AV}(h:Shp Tryz.prog (n+1) 2 x):∃e:Int,ALes x [.int .i64 e]/\W2 e:=by obtain⟨b,rfl,hb⟩:=shp_int (n:=n) Tryz.underlying2 h;exact⟨b,les_refl _,hb⟩
def W151(x:TApiEntry):Prop:=W9 x.Key/\W9 x.Val/\W4 x.Dead/\W2 x.Seq
theorem shp151[Adr]{n:Nat}{x:List AV}(h:Shp Tryz.prog (n+2) 151 x):∃e:TApiEntry,ALes x (encU 4 e)/\W151 e:=by obtain⟨_,_,rfl,h0,_,_,rfl,h1,_,_,rfl,h2,_,_,rfl,h3,rfl⟩:=shp_struct (n:=n+1) Tryz.underlying151 h;obtain⟨e0,l0,w0⟩:=shp9 (n:=n+0) h0;obtain⟨e1,l1,w1⟩:=shp9 (n:=n+0) h1;obtain⟨e2,l2,w2⟩:=shp4 (n:=n+0) h2;obtain⟨e3,l3,w3⟩:=shp2 (n:=n+0) h3;exact⟨⟨e0,e1,e2,e3⟩,(les_append l0 (les_append l1 (les_append l2 (les_append l3 (les_refl []))))),⟨w0,w1,w2,w3⟩⟩
def W22(x:List TApiEntry):Prop:=x.length<=maxLen/\ ∀e∈x,W151 e
theorem cellsN151:Tryz.prog.cellsOf 151=szU 4:=by kernel_rfl
theorem shp22[Adr]{n:Nat}{x:List AV}(h:Shp Tryz.prog (n+3) 22 x):∃e:List TApiEntry,ALes x [.dl 4 e]/\W22 e:=by obtain⟨es,rfl,hl,h⟩:=shp_slice (n:=n+2) Tryz.underlying22 h;obtain⟨l,hle,hw⟩:=list_ofU (m:=4) (W:=W151) λy hy=>shp151 (n:=n) (h y hy);exact⟨l,psl_dl cellsN151 hle,(by rw[<-hle.length]at hl;exact hl),hw⟩
def W24(x:TApiBfBuffer):Prop:=W3 x.Most/\W22 x.Entries
theorem shp24[Adr]{n:Nat}{x:List AV}(h:Shp Tryz.prog (n+4) 24 x):∃e:TApiBfBuffer,ALes x (encU 6 e)/\W24 e:=by obtain⟨_,_,rfl,h0,_,_,rfl,h1,rfl⟩:=shp_struct (n:=n+3) Tryz.underlying24 h;obtain⟨e0,l0,w0⟩:=shp3 (n:=n+2) h0;obtain⟨e1,l1,w1⟩:=shp22 (n:=n+0) h1;exact⟨⟨e0,e1⟩,(les_append l0 (les_append l1 (les_refl []))),⟨w0,w1⟩⟩
def W82(x:TApiRun):Prop:=W3 x.Id/\W22 x.Entries
theorem shp82[Adr]{n:Nat}{x:List AV}(h:Shp Tryz.prog (n+4) 82 x):∃e:TApiRun,ALes x (encU 7 e)/\W82 e:=by obtain⟨_,_,rfl,h0,_,_,rfl,h1,rfl⟩:=shp_struct (n:=n+3) Tryz.underlying82 h;obtain⟨e0,l0,w0⟩:=shp3 (n:=n+2) h0;obtain⟨e1,l1,w1⟩:=shp22 (n:=n+0) h1;exact⟨⟨e0,e1⟩,(les_append l0 (les_append l1 (les_refl []))),⟨w0,w1⟩⟩
def W71(x:List TApiRun):Prop:=x.length<=maxLen/\ ∀e∈x,W82 e
theorem cellsN82:Tryz.prog.cellsOf 82=szU 7:=by kernel_rfl
theorem shp71[Adr]{n:Nat}{x:List AV}(h:Shp Tryz.prog (n+5) 71 x):∃e:List TApiRun,ALes x [.dl 7 e]/\W71 e:=by obtain⟨es,rfl,hl,h⟩:=shp_slice (n:=n+4) Tryz.underlying71 h;obtain⟨l,hle,hw⟩:=list_ofU (m:=7) (W:=W82) λy hy=>shp82 (n:=n) (h y hy);exact⟨l,psl_dl cellsN82 hle,(by rw[<-hle.length]at hl;exact hl),hw⟩
def W101(x:TApiLvLevel):Prop:=W71 x.Runs
theorem shp101[Adr]{n:Nat}{x:List AV}(h:Shp Tryz.prog (n+6) 101 x):∃e:TApiLvLevel,ALes x (encU 8 e)/\W101 e:=by obtain⟨_,_,rfl,h0,rfl⟩:=shp_struct (n:=n+5) Tryz.underlying101 h;obtain⟨e0,l0,w0⟩:=shp71 (n:=n+0) h0;exact⟨⟨e0⟩,(les_append l0 (les_refl [])),w0⟩
def W25(x:List TApiLvLevel):Prop:=x.length<=maxLen/\ ∀e∈x,W101 e
theorem cellsN101:Tryz.prog.cellsOf 101=szU 8:=by kernel_rfl
theorem shp25[Adr]{n:Nat}{x:List AV}(h:Shp Tryz.prog (n+7) 25 x):∃e:List TApiLvLevel,ALes x [.dl 8 e]/\W25 e:=by obtain⟨es,rfl,hl,h⟩:=shp_slice (n:=n+6) Tryz.underlying25 h;obtain⟨l,hle,hw⟩:=list_ofU (m:=8) (W:=W101) λy hy=>shp101 (n:=n) (h y hy);exact⟨l,psl_dl cellsN101 hle,(by rw[<-hle.length]at hl;exact hl),hw⟩
def W27(x:TApiLvLevels):Prop:=W3 x.B/\W25 x.Levels
theorem shp27[Adr]{n:Nat}{x:List AV}(h:Shp Tryz.prog (n+8) 27 x):∃e:TApiLvLevels,ALes x (encU 9 e)/\W27 e:=by obtain⟨_,_,rfl,h0,_,_,rfl,h1,rfl⟩:=shp_struct (n:=n+7) Tryz.underlying27 h;obtain⟨e0,l0,w0⟩:=shp3 (n:=n+6) h0;obtain⟨e1,l1,w1⟩:=shp25 (n:=n+0) h1;exact⟨⟨e0,e1⟩,(les_append l0 (les_append l1 (les_refl []))),⟨w0,w1⟩⟩
def W102(x:List (List TApiEntry)):Prop:=x.length<=maxLen/\ ∀e∈x,W22 e
theorem cellsN22:Tryz.prog.cellsOf 22=szU 5:=by kernel_rfl
theorem shp102[Adr]{n:Nat}{x:List AV}(h:Shp Tryz.prog (n+4) 102 x):∃e:List (List TApiEntry),ALes x [.dl 5 e]/\W102 e:=by obtain⟨es,rfl,hl,h⟩:=shp_slice (n:=n+3) Tryz.underlying102 h;obtain⟨l,hle,hw⟩:=list_ofU (m:=5) (W:=W22) λy hy=>shp22 (n:=n) (h y hy);exact⟨l,psl_dl cellsN22 hle,(by rw[<-hle.length]at hl;exact hl),hw⟩
def W93(x:List Int):Prop:=x.length<=maxLen/\ ∀e∈x,W3 e
theorem cellsN3:Tryz.prog.cellsOf 3=szU 0:=by kernel_rfl
theorem shp93[Adr]{n:Nat}{x:List AV}(h:Shp Tryz.prog (n+2) 93 x):∃e:List Int,ALes x [.dl 0 e]/\W93 e:=by obtain⟨es,rfl,hl,h⟩:=shp_slice (n:=n+1) Tryz.underlying93 h;obtain⟨l,hle,hw⟩:=list_ofU (m:=0) (W:=W3) λy hy=>shp3 (n:=n) (h y hy);exact⟨l,psl_dl cellsN3 hle,(by rw[<-hle.length]at hl;exact hl),hw⟩
def W371(x:TApiLsKey):Prop:=W9 x.Key/\W4 x.Done
theorem shp371[Adr]{n:Nat}{x:List AV}(h:Shp Tryz.prog (n+2) 371 x):∃e:TApiLsKey,ALes x (encU 10 e)/\W371 e:=by obtain⟨_,_,rfl,h0,_,_,rfl,h1,rfl⟩:=shp_struct (n:=n+1) Tryz.underlying371 h;obtain⟨e0,l0,w0⟩:=shp9 (n:=n+0) h0;obtain⟨e1,l1,w1⟩:=shp4 (n:=n+0) h1;exact⟨⟨e0,e1⟩,(les_append l0 (les_append l1 (les_refl []))),⟨w0,w1⟩⟩
def W103(x:List TApiLsKey):Prop:=x.length<=maxLen/\ ∀e∈x,W371 e
theorem cellsN371:Tryz.prog.cellsOf 371=szU 10:=by kernel_rfl
theorem shp103[Adr]{n:Nat}{x:List AV}(h:Shp Tryz.prog (n+3) 103 x):∃e:List TApiLsKey,ALes x [.dl 10 e]/\W103 e:=by obtain⟨es,rfl,hl,h⟩:=shp_slice (n:=n+2) Tryz.underlying103 h;obtain⟨l,hle,hw⟩:=list_ofU (m:=10) (W:=W371) λy hy=>shp371 (n:=n) (h y hy);exact⟨l,psl_dl cellsN371 hle,(by rw[<-hle.length]at hl;exact hl),hw⟩
def W105(x:TApiLsTree):Prop:=W103 x.Keys/\W93 x.Lose/\W3 x.Win
theorem shp105[Adr]{n:Nat}{x:List AV}(h:Shp Tryz.prog (n+4) 105 x):∃e:TApiLsTree,ALes x (encU 32 e)/\W105 e:=by obtain⟨_,_,rfl,h0,_,_,rfl,h1,_,_,rfl,h2,rfl⟩:=shp_struct (n:=n+3) Tryz.underlying105 h;obtain⟨e0,l0,w0⟩:=shp103 (n:=n+0) h0;obtain⟨e1,l1,w1⟩:=shp93 (n:=n+1) h1;obtain⟨e2,l2,w2⟩:=shp3 (n:=n+2) h2;exact⟨⟨e0,e1,e2⟩,(les_append l0 (les_append l1 (les_append l2 (les_refl [])))),⟨w0,w1,w2⟩⟩
def W107(x:TApiMgState):Prop:=W102 x.Runs/\W93 x.At/\W105 x.Tree
theorem shp107[Adr]{n:Nat}{x:List AV}(h:Shp Tryz.prog (n+5) 107 x):∃e:TApiMgState,ALes x (encU 33 e)/\W107 e:=by obtain⟨_,_,rfl,h0,_,_,rfl,h1,_,_,rfl,h2,rfl⟩:=shp_struct (n:=n+4) Tryz.underlying107 h;obtain⟨e0,l0,w0⟩:=shp102 (n:=n+0) h0;obtain⟨e1,l1,w1⟩:=shp93 (n:=n+2) h1;obtain⟨e2,l2,w2⟩:=shp105 (n:=n+0) h2;exact⟨⟨e0,e1,e2⟩,(les_append l0 (les_append l1 (les_append l2 (les_refl [])))),⟨w0,w1,w2⟩⟩
def W109(x:TApiShState):Prop:=W4 x.Some/\W9 x.Last/\W4 x.Bottom
theorem shp109[Adr]{n:Nat}{x:List AV}(h:Shp Tryz.prog (n+2) 109 x):∃e:TApiShState,ALes x (encU 34 e)/\W109 e:=by obtain⟨_,_,rfl,h0,_,_,rfl,h1,_,_,rfl,h2,rfl⟩:=shp_struct (n:=n+1) Tryz.underlying109 h;obtain⟨e0,l0,w0⟩:=shp4 (n:=n+0) h0;obtain⟨e1,l1,w1⟩:=shp9 (n:=n+0) h1;obtain⟨e2,l2,w2⟩:=shp4 (n:=n+0) h2;exact⟨⟨e0,e1,e2⟩,(les_append l0 (les_append l1 (les_append l2 (les_refl [])))),⟨w0,w1,w2⟩⟩
def W111(x:TApiSlState):Prop:=W107 x.Merge/\W109 x.Shadow/\W22 x.Out/\W2 x.Steps
theorem shp111[Adr]{n:Nat}{x:List AV}(h:Shp Tryz.prog (n+6) 111 x):∃e:TApiSlState,ALes x (encU 35 e)/\W111 e:=by obtain⟨_,_,rfl,h0,_,_,rfl,h1,_,_,rfl,h2,_,_,rfl,h3,rfl⟩:=shp_struct (n:=n+5) Tryz.underlying111 h;obtain⟨e0,l0,w0⟩:=shp107 (n:=n+0) h0;obtain⟨e1,l1,w1⟩:=shp109 (n:=n+3) h1;obtain⟨e2,l2,w2⟩:=shp22 (n:=n+2) h2;obtain⟨e3,l3,w3⟩:=shp2 (n:=n+4) h3;exact⟨⟨e0,e1,e2,e3⟩,(les_append l0 (les_append l1 (les_append l2 (les_append l3 (les_refl []))))),⟨w0,w1,w2,w3⟩⟩
def W113(x:TApiJbJob):Prop:=W3 x.Level/\W111 x.Work
theorem shp113[Adr]{n:Nat}{x:List AV}(h:Shp Tryz.prog (n+7) 113 x):∃e:TApiJbJob,ALes x (encU 11 e)/\W113 e:=by obtain⟨_,_,rfl,h0,_,_,rfl,h1,rfl⟩:=shp_struct (n:=n+6) Tryz.underlying113 h;obtain⟨e0,l0,w0⟩:=shp3 (n:=n+5) h0;obtain⟨e1,l1,w1⟩:=shp111 (n:=n+0) h1;exact⟨⟨e0,e1⟩,(les_append l0 (les_append l1 (les_refl []))),⟨w0,w1⟩⟩
def W28(x:List TApiJbJob):Prop:=x.length<=maxLen/\ ∀e∈x,W113 e
theorem cellsN113:Tryz.prog.cellsOf 113=szU 11:=by kernel_rfl
theorem shp28[Adr]{n:Nat}{x:List AV}(h:Shp Tryz.prog (n+8) 28 x):∃e:List TApiJbJob,ALes x [.dl 11 e]/\W28 e:=by obtain⟨es,rfl,hl,h⟩:=shp_slice (n:=n+7) Tryz.underlying28 h;obtain⟨l,hle,hw⟩:=list_ofU (m:=11) (W:=W113) λy hy=>shp113 (n:=n) (h y hy);exact⟨l,psl_dl cellsN113 hle,(by rw[<-hle.length]at hl;exact hl),hw⟩
def W30(x:TApiJbState):Prop:=W27 x.Levels/\W28 x.Jobs/\W3 x.NextId
theorem shp30[Adr]{n:Nat}{x:List AV}(h:Shp Tryz.prog (n+9) 30 x):∃e:TApiJbState,ALes x (encU 13 e)/\W30 e:=by obtain⟨_,_,rfl,h0,_,_,rfl,h1,_,_,rfl,h2,rfl⟩:=shp_struct (n:=n+8) Tryz.underlying30 h;obtain⟨e0,l0,w0⟩:=shp27 (n:=n+0) h0;obtain⟨e1,l1,w1⟩:=shp28 (n:=n+0) h1;obtain⟨e2,l2,w2⟩:=shp3 (n:=n+7) h2;exact⟨⟨e0,e1,e2⟩,(les_append l0 (les_append l1 (les_append l2 (les_refl [])))),⟨w0,w1,w2⟩⟩
def W32(x:TApiPrFront):Prop:=W24 x.Buffer/\W30 x.Jobs
theorem shp32[Adr]{n:Nat}{x:List AV}(h:Shp Tryz.prog (n+10) 32 x):∃e:TApiPrFront,ALes x (encU 14 e)/\W32 e:=by obtain⟨_,_,rfl,h0,_,_,rfl,h1,rfl⟩:=shp_struct (n:=n+9) Tryz.underlying32 h;obtain⟨e0,l0,w0⟩:=shp24 (n:=n+5) h0;obtain⟨e1,l1,w1⟩:=shp30 (n:=n+0) h1;exact⟨⟨e0,e1⟩,(les_append l0 (les_append l1 (les_refl []))),⟨w0,w1⟩⟩
def W132(x:TApiHnSlot):Prop:=W3 x.Gen/\W4 x.Used
theorem shp132[Adr]{n:Nat}{x:List AV}(h:Shp Tryz.prog (n+2) 132 x):∃e:TApiHnSlot,ALes x (encU 15 e)/\W132 e:=by obtain⟨_,_,rfl,h0,_,_,rfl,h1,rfl⟩:=shp_struct (n:=n+1) Tryz.underlying132 h;obtain⟨e0,l0,w0⟩:=shp3 (n:=n+0) h0;obtain⟨e1,l1,w1⟩:=shp4 (n:=n+0) h1;exact⟨⟨e0,e1⟩,(les_append l0 (les_append l1 (les_refl []))),⟨w0,w1⟩⟩
def W33(x:List TApiHnSlot):Prop:=x.length<=maxLen/\ ∀e∈x,W132 e
theorem cellsN132:Tryz.prog.cellsOf 132=szU 15:=by kernel_rfl
theorem shp33[Adr]{n:Nat}{x:List AV}(h:Shp Tryz.prog (n+3) 33 x):∃e:List TApiHnSlot,ALes x [.dl 15 e]/\W33 e:=by obtain⟨es,rfl,hl,h⟩:=shp_slice (n:=n+2) Tryz.underlying33 h;obtain⟨l,hle,hw⟩:=list_ofU (m:=15) (W:=W132) λy hy=>shp132 (n:=n) (h y hy);exact⟨l,psl_dl cellsN132 hle,(by rw[<-hle.length]at hl;exact hl),hw⟩
def W35(x:TApiHnTable):Prop:=W3 x.Most/\W33 x.Slots
theorem shp35[Adr]{n:Nat}{x:List AV}(h:Shp Tryz.prog (n+4) 35 x):∃e:TApiHnTable,ALes x (encU 16 e)/\W35 e:=by obtain⟨_,_,rfl,h0,_,_,rfl,h1,rfl⟩:=shp_struct (n:=n+3) Tryz.underlying35 h;obtain⟨e0,l0,w0⟩:=shp3 (n:=n+2) h0;obtain⟨e1,l1,w1⟩:=shp33 (n:=n+0) h1;exact⟨⟨e0,e1⟩,(les_append l0 (les_append l1 (les_refl []))),⟨w0,w1⟩⟩
def W73(x:TApiVsView):Prop:=W22 x.Buffer/\W71 x.Runs
theorem shp73[Adr]{n:Nat}{x:List AV}(h:Shp Tryz.prog (n+6) 73 x):∃e:TApiVsView,ALes x (encU 17 e)/\W73 e:=by obtain⟨_,_,rfl,h0,_,_,rfl,h1,rfl⟩:=shp_struct (n:=n+5) Tryz.underlying73 h;obtain⟨e0,l0,w0⟩:=shp22 (n:=n+2) h0;obtain⟨e1,l1,w1⟩:=shp71 (n:=n+0) h1;exact⟨⟨e0,e1⟩,(les_append l0 (les_append l1 (les_refl []))),⟨w0,w1⟩⟩
def W36(x:List TApiVsView):Prop:=x.length<=maxLen/\ ∀e∈x,W73 e
theorem cellsN73:Tryz.prog.cellsOf 73=szU 17:=by kernel_rfl
theorem shp36[Adr]{n:Nat}{x:List AV}(h:Shp Tryz.prog (n+7) 36 x):∃e:List TApiVsView,ALes x [.dl 17 e]/\W36 e:=by obtain⟨es,rfl,hl,h⟩:=shp_slice (n:=n+6) Tryz.underlying36 h;obtain⟨l,hle,hw⟩:=list_ofU (m:=17) (W:=W73) λy hy=>shp73 (n:=n) (h y hy);exact⟨l,psl_dl cellsN73 hle,(by rw[<-hle.length]at hl;exact hl),hw⟩
def W38(x:TApiVsTable):Prop:=W35 x.Pins/\W35 x.Cursors/\W36 x.Pinned/\W36 x.Opened
theorem shp38[Adr]{n:Nat}{x:List AV}(h:Shp Tryz.prog (n+8) 38 x):∃e:TApiVsTable,ALes x (encU 19 e)/\W38 e:=by obtain⟨_,_,rfl,h0,_,_,rfl,h1,_,_,rfl,h2,_,_,rfl,h3,rfl⟩:=shp_struct (n:=n+7) Tryz.underlying38 h;obtain⟨e0,l0,w0⟩:=shp35 (n:=n+3) h0;obtain⟨e1,l1,w1⟩:=shp35 (n:=n+3) h1;obtain⟨e2,l2,w2⟩:=shp36 (n:=n+0) h2;obtain⟨e3,l3,w3⟩:=shp36 (n:=n+0) h3;exact⟨⟨e0,e1,e2,e3⟩,(les_append l0 (les_append l1 (les_append l2 (les_append l3 (les_refl []))))),⟨w0,w1,w2,w3⟩⟩
def W87(x:TApiKeRange):Prop:=W9 x.Low/\W9 x.High/\W4 x.Bound
theorem shp87[Adr]{n:Nat}{x:List AV}(h:Shp Tryz.prog (n+2) 87 x):∃e:TApiKeRange,ALes x (encU 27 e)/\W87 e:=by obtain⟨_,_,rfl,h0,_,_,rfl,h1,_,_,rfl,h2,rfl⟩:=shp_struct (n:=n+1) Tryz.underlying87 h;obtain⟨e0,l0,w0⟩:=shp9 (n:=n+0) h0;obtain⟨e1,l1,w1⟩:=shp9 (n:=n+0) h1;obtain⟨e2,l2,w2⟩:=shp4 (n:=n+0) h2;exact⟨⟨e0,e1,e2⟩,(les_append l0 (les_append l1 (les_append l2 (les_refl [])))),⟨w0,w1,w2⟩⟩
def W130(x:TApiCuState):Prop:=W87 x.Range/\W4 x.Some/\W9 x.Key/\W4 x.After
theorem shp130[Adr]{n:Nat}{x:List AV}(h:Shp Tryz.prog (n+3) 130 x):∃e:TApiCuState,ALes x (encU 20 e)/\W130 e:=by obtain⟨_,_,rfl,h0,_,_,rfl,h1,_,_,rfl,h2,_,_,rfl,h3,rfl⟩:=shp_struct (n:=n+2) Tryz.underlying130 h;obtain⟨e0,l0,w0⟩:=shp87 (n:=n+0) h0;obtain⟨e1,l1,w1⟩:=shp4 (n:=n+1) h1;obtain⟨e2,l2,w2⟩:=shp9 (n:=n+1) h2;obtain⟨e3,l3,w3⟩:=shp4 (n:=n+1) h3;exact⟨⟨e0,e1,e2,e3⟩,(les_append l0 (les_append l1 (les_append l2 (les_append l3 (les_refl []))))),⟨w0,w1,w2,w3⟩⟩
def W39(x:List TApiCuState):Prop:=x.length<=maxLen/\ ∀e∈x,W130 e
theorem cellsN130:Tryz.prog.cellsOf 130=szU 20:=by kernel_rfl
theorem shp39[Adr]{n:Nat}{x:List AV}(h:Shp Tryz.prog (n+4) 39 x):∃e:List TApiCuState,ALes x [.dl 20 e]/\W39 e:=by obtain⟨es,rfl,hl,h⟩:=shp_slice (n:=n+3) Tryz.underlying39 h;obtain⟨l,hle,hw⟩:=list_ofU (m:=20) (W:=W130) λy hy=>shp130 (n:=n) (h y hy);exact⟨l,psl_dl cellsN130 hle,(by rw[<-hle.length]at hl;exact hl),hw⟩
def W41(x:TApiMpCounts):Prop:=W2 x.Writes/\W2 x.Busy/\W2 x.Seals/\W2 x.Installs/\W2 x.Steps/\W2 x.Lost
theorem shp41[Adr]{n:Nat}{x:List AV}(h:Shp Tryz.prog (n+2) 41 x):∃e:TApiMpCounts,ALes x ([.int .i64 e.Writes]++([.int .i64 e.Busy]++([.int .i64 e.Seals]++([.int .i64 e.Installs]++([.int .i64 e.Steps]++([.int .i64 e.Lost]++[]))))))/\W41 e:=by obtain⟨_,_,rfl,h0,_,_,rfl,h1,_,_,rfl,h2,_,_,rfl,h3,_,_,rfl,h4,_,_,rfl,h5,rfl⟩:=shp_struct (n:=n+1) Tryz.underlying41 h;obtain⟨e0,l0,w0⟩:=shp2 (n:=n+0) h0;obtain⟨e1,l1,w1⟩:=shp2 (n:=n+0) h1;obtain⟨e2,l2,w2⟩:=shp2 (n:=n+0) h2;obtain⟨e3,l3,w3⟩:=shp2 (n:=n+0) h3;obtain⟨e4,l4,w4⟩:=shp2 (n:=n+0) h4;obtain⟨e5,l5,w5⟩:=shp2 (n:=n+0) h5;exact⟨⟨e0,e1,e2,e3,e4,e5⟩,(les_append l0 (les_append l1 (les_append l2 (les_append l3 (les_append l4 (les_append l5 (les_refl []))))))),⟨w0,w1,w2,w3,w4,w5⟩⟩
def W43(x:TApiMpState):Prop:=W32 x.Front/\W2 x.Seq/\W38 x.Table/\W39 x.Places/\W41 x.Counts
theorem shp43[Adr]{n:Nat}{x:List AV}(h:Shp Tryz.prog (n+11) 43 x):∃e:TApiMpState,ALes x (encU 21 e)/\W43 e:=by obtain⟨_,_,rfl,h0,_,_,rfl,h1,_,_,rfl,h2,_,_,rfl,h3,_,_,rfl,h4,rfl⟩:=shp_struct (n:=n+10) Tryz.underlying43 h;obtain⟨e0,l0,w0⟩:=shp32 (n:=n+0) h0;obtain⟨e1,l1,w1⟩:=shp2 (n:=n+9) h1;obtain⟨e2,l2,w2⟩:=shp38 (n:=n+2) h2;obtain⟨e3,l3,w3⟩:=shp39 (n:=n+6) h3;obtain⟨e4,l4,w4⟩:=shp41 (n:=n+8) h4;exact⟨⟨e0,e1,e2,e3,e4⟩,(les_append l0 (les_append l1 (les_append l2 (les_append l3 (les_append l4 (les_refl [])))))),⟨w0,w1,w2,w3,w4⟩⟩
set_option maxHeartbeats 40000000 in theorem Tryz.laidOut:laidOutB Tryz.prog=true:=by unfold laidOutB;rw[sizeT];exact and_tt (and_tt (all_add (a:=600) (b:=18) (all_add (a:=500) (b:=100) (all_add (a:=400) (b:=100) (all_add (a:=300) (b:=100) (all_add (a:=200) (b:=100) (all_add (a:=100) (b:=100) (by as_aux_lemma=>kernel_rfl) (by as_aux_lemma=>kernel_rfl)) (by as_aux_lemma=>kernel_rfl)) (by as_aux_lemma=>kernel_rfl)) (by as_aux_lemma=>kernel_rfl)) (by as_aux_lemma=>kernel_rfl)) (by as_aux_lemma=>kernel_rfl)) (by as_aux_lemma=>kernel_rfl)) (by as_aux_lemma=>kernel_rfl)
theorem plain43:plainB Tryz.prog 12 43=true:=by kernel_rfl
theorem statsBounds_lifted (hC : ∀ ad off : Nat → Nat, ad 999 = 5 → off 999 = 0 → ∀ (x0 : TApiMpState), W43 x0 → ∃ blks, @PCall (adrOf ad off) Tryz.prog 3 [.agg (encU 21 x0)] (.bool true) blks) (os : Os) (started : os.Started) (H : Type) (enc : TypeId × Value → H) :
    ReturnsInHanded {} Tryz.checked os 3 .any (fun w args => (Rows.statsBoundsSpec.pre enc Tryz.prog Tryz.f3 [] false w args ∧ laidMetH Tryz.prog [("errors.errorType", Rows.laid_errors_errorType), ("bookend/ops.table", Rows.laid_bookend_ops_table), ("bookend/debt.errSettled", Rows.laid_bookend_debt_errSettled), ("bookend/store.errBusy", Rows.laid_bookend_store_errBusy)] w) ∧ sizedMet enc Tryz.prog Tryz.f3 (OpenSpec.ofChange Rows.statsBoundsSpec) false w args)
      (Rows.statsBoundsSpec.post enc Tryz.prog Tryz.f3 false true false false) := by
  refine returnsInHanded_of_change_and (C := Tryz.checked) (X := fun w _ => laidMetH Tryz.prog [("errors.errorType", Rows.laid_errors_errorType), ("bookend/ops.table", Rows.laid_bookend_ops_table), ("bookend/debt.errSettled", Rows.laid_bookend_debt_errSettled), ("bookend/store.errBusy", Rows.laid_bookend_store_errBusy)] w) (fun _ _ _ hh h => h.of_heap hh) Tryz.own started (by kernel_rfl) Tryz.func3
    (ChangeSpec.witness_at (enc := enc) (C := Tryz.checked) (os := os) (X := fun w _ => laidMetH Tryz.prog [("errors.errorType", Rows.laid_errors_errorType), ("bookend/ops.table", Rows.laid_bookend_ops_table), ("bookend/debt.errSettled", Rows.laid_bookend_debt_errSettled), ("bookend/store.errBusy", Rows.laid_bookend_store_errBusy)] w) false (laidWorld os) #[.agg #[.int .i64 0, .slice none 0 0, .int .i64 0, .slice none 0 0, .slice none 0 0, .int .i64 0, .int .i64 0, .int .i64 0, .slice none 0 0, .int .i64 0, .slice none 0 0, .slice none 0 0, .slice none 0 0, .slice none 0 0, .int .i64 0, .int .i64 0, .int .i64 0, .int .i64 0, .int .i64 0, .int .i64 0]] 8 rfl (by kernel_rfl) (by kernel_rfl) (by kernel_rfl) (by kernel_rfl) (by kernel_rfl) (laidWorld_met os _)) ?_
  intro W base args ds gs before hval0 hW _ _ hL _
  have hval : ∀ (j : Nat) t v, Tryz.f3.params[j]? = some t → args[j]? = some v → Value.okWide Tryz.prog W .any base t v := hval0
  have hW' := hW
  obtain ⟨p, q, hA0, hV0, rfl, hfz, hnd⟩ := hW
  have hA : DataW.TrodAll enc Tryz.prog W 0 (fun _ => true) true Tryz.f3.params.toList args.toList ds p := hA0
  have hV : DataW.TrodVars enc Tryz.prog W (fun _ => true) [] gs q := hV0
  rw [Tryz.params3] at hA hval
  obtain ⟨v0, vs0, d0, ds0, p0, q0, hargs, rfl, rfl, h0, r0⟩ := trodAll_cons hA
  obtain ⟨rfl, rfl, rfl⟩ := trodAll_nil r0
  obtain rfl : args = #[v0] := by cases args; simp_all
  obtain ⟨rfl, rfl⟩ : gs = [] ∧ q = [] := by
    cases gs with
    | nil => exact ⟨rfl, hV⟩
    | cons g r => exact absurd hV (by intro h; cases h)
  obtain ⟨b3, o3, b0, o0, hgk⟩ := gok hL
  letI : Adr := adrOf (adF b3 o3 b0 o0) (ofF b3 o3 b0 o0)
  obtain ⟨cs0, rfl, hcs0⟩ := okWide_struct Tryz.underlying43 (hval 0 43 v0 rfl rfl)
  have k0 := h0
  have lt0 : ∀ x ∈ p0, x.block < W.heap.size := by obtain ⟨m, hm⟩ := k0; exact DataW.trod_lt m _ _ _ hm
  obtain ⟨m0, hm0⟩ := k0
  obtain ⟨as0, s0q, w0, oc0⟩ := dec_ok 12 43 _ _ _ plain43 hm0
  obtain ⟨x0, l0, y0⟩ := shp43 (n := 1) s0q
  clear hA0 hV0 hval0
  obtain ⟨blks, -, hk⟩ := hC (adF b3 o3 b0 o0) (ofF b3 o3 b0 o0) (by simp [adF]) (by simp [ofF]) x0 y0
  have u0 : VRels W (oldF W) Emb.zero [.agg (encU 21 x0)] [.agg cs0] := ⟨_, [], rfl, ⟨cs0.toList, rfl, rels_les l0 w0, oc0⟩, rfl⟩
  have u : VRels W (oldF W) Emb.zero [.agg (encU 21 x0)] [.agg cs0] := u0
  refine (hk W (oldF W) _ (oldF_ok W) hgk u).mono fun e W' he => ?_
  obtain ⟨v, φ', F', rfl, -, -, hr, hv⟩ := he
  simp only [VRel] at hv
  subst hv
  have bel := hr.below
  have z0 := Below.trod Tryz.laidOut (t := 43) (by kernel_rfl) (of_decide_eq_true (by kernel_rfl)) h0 bel lt0
  exact ⟨_, rfl, _, _, _, [], _, [], hW', trodAll_mk1 (shut_bool Tryz.underlying4 _), ⟨_, _, z0, rfl, rfl⟩, rfl, bel.frame _, fun h => by cases h⟩
theorem j_inPlace:Tryz.prog.inPlace 3=Rows.statsBoundsRow.inPlace:=by kernel_rfl
theorem j_unfollowed:Tryz.prog.unfollowed 3=true:=by kernel_rfl
theorem j_recurses:Tryz.prog.recurses 3=true:=by kernel_rfl
theorem j_named:Tryz.prog.varsNamed 3=Rows.statsBoundsRow.named:=by kernel_rfl
set_option maxHeartbeats 40000000 in theorem j_all:joinedFacts Tryz.prog 3 Tryz.f3 Rows.statsBoundsSpec Rows.statsBoundsRow=true:=by
 unfold joinedFacts;rw[j_inPlace,j_unfollowed,j_recurses,j_named];repeat'(with_reducible refine and_tt ?_ ?_)
 all_goals as_aux_lemma=>kernel_rfl
theorem j_name:Tryz.prog.funcNamed "bookend/bookendlaw31.StatsBounds" =some 3:=by kernel_rfl
theorem statsBounds_holds(hC:∀ad off:Nat->Nat,ad 999=5->off 999=0->∀(x0:TApiMpState),W43 x0->∃blks,@PCall (adrOf ad off) Tryz.prog 3 [.agg (encU 21 x0)] (.bool true) blks):Rows.StatsBoundsSaid:=OpenClaim.holds_of_wide 3 Tryz.f3 rfl rfl rfl rfl rfl rfl rfl ⟨rfl,rfl,rfl,rfl,rfl⟩ rfl rfl rfl rfl rfl j_name Tryz.func3 j_all (of_decide_eq_true (by kernel_rfl)) (by unfold Func.isWrapper;first|(rw[if_pos (by decide+kernel)];kernel_rfl)|(rw[if_neg (by decide+kernel)];exact⟨rfl,rfl⟩)) (λos started H enc _=>statsBounds_lifted hC os started H enc)
theorem goes_none{P:Program}(h:(P.funcs.toList.all λfn=>!fn.goes)=true)(f:FuncId):P.goes f=false:=by
 have key:∀(g:Nat),(P.funcs[g]?).any Func.goes=false:=by intro g;cases hg:P.funcs[g]? with|none=>rfl|some fn=>rw[List.all_eq_true]at h;have :=h fn (by rw[<-Array.getElem?_toList]at hg;exact List.mem_of_getElem? hg);simpa using this
 have hall:P.funcs.any Func.goes=false:=by rw[Bool.eq_false_iff];intro q;rw[Array.any_eq_true']at q;obtain⟨fn,hm,hq⟩:=q;rw[List.all_eq_true]at h;have :=h fn (by simpa using hm);rw[hq]at this;cases this
 unfold Program.goes;rw[hall,Bool.and_false,Bool.or_false,Bool.eq_false_iff];intro q;rw[List.any_eq_true]at q;obtain⟨g,-,hq⟩:=q;rw[key g]at hq;cases hq
theorem goesBy_none{P:Program}{c:OpenClaim}(h:(P.funcs.toList.all λfn=>!fn.goes)=true)(hs:c.start=.entering):false=c.goesBy P:=by unfold OpenClaim.goesBy Program.goesAt Program.goesFrom;rw[hs];cases P.funcNamed c.func with|none=>rfl|some f=>simp[goes_none h f]
theorem goes_no:(Tryz.prog.funcs.toList.all λfn=>!fn.goes)=true:=by kernel_rfl
theorem statsBounds_card(hC:∀ad off:Nat->Nat,ad 999=5->off 999=0->∀(x0:TApiMpState),W43 x0->∃blks,@PCall (adrOf ad off) Tryz.prog 3 [.agg (encU 21 x0)] (.bool true) blks):Rows.StatsBoundsCardSaid:=Claim7.holds_tied_plain_at .later [] [.handle,.data,.sentinel,.sentinel] true (true,"589e61d3068263f109c4f3bfbde104e924aac86fa1b61701e0c1baea54a8a6e4") true (statsBounds_holds hC) (λ_ h=>by cases h) (by kernel_rfl) (λ_ h=>by cases h) statsBounds_row_tie rfl ⟨rfl,rfl⟩ (by kernel_rfl) rfl (λf fn hf hfn=>by
 obtain rfl:f=3:=Option.some.inj (j_name.symm.trans hf)|>.symm;obtain rfl:fn=Tryz.f3:=(Option.some.inj (Tryz.func3.symm.trans hfn)).symm
 exact⟨by kernel_rfl,λj t ht=>by
  rw[Tryz.params3]at ht;rcases j with _|j;.simp at ht;subst ht;exact(show Tryz.prog.wantsStandIn 43=false by kernel_rfl)
  simp at ht⟩) (goesBy_none goes_no rfl)
end Go.Proofs.YtaeifdlkolfdjaaGreatDoor
