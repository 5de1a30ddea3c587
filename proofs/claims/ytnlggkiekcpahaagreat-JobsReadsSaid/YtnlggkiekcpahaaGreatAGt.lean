/- A text of the proof. -/
import Derived.Test.YtnlggkiekcpahaaGreatProg
import Derived.Test.YtnlggkiekcpahaaGreatAAmZj
import Derived.Test.YtnlggkiekcpahaaGreatAGp
namespace Go.T
open Go Go.AM Go.Proofs
def aA.enc (x : aA) : List AV:=[.str x.Key,.str x.Val,.bool x.Dead,.int .i64 x.Seq]
theorem aA.eta (x : aA) : aA.mk x.Key x.Val x.Dead x.Seq = x:=rfl
theorem aA.allP (l : List aA) : (l.map aA.enc).all AV.isP.isPs = true:=uG (fun _=>rfl) l
theorem aA.allF (l : List aA) : (l.map aA.enc).all AV.flatR.flatRs = true:=pQ (fun _=>rfl) l
attribute [push_cast] aA.enc aA.eta aA.allP aA.allF
def gB.enc (x : gB) : List AV:=[.int .i64 x.Id,.psl 4 (x.Entries.map aA.enc)]
theorem gB.eta (x : gB) : gB.mk x.Id x.Entries = x:=rfl
theorem gB.allP (l : List gB) : (l.map gB.enc).all AV.isP.isPs = true:=uG (fun _=>rfl) l
attribute [push_cast] gB.enc gB.eta gB.allP
def qA.enc (x : qA) : List AV:=[.psl 2 (x.Runs.map gB.enc)]
theorem qA.eta (x : qA) : qA.mk x.Runs = x:=rfl
theorem qA.allP (l : List qA) : (l.map qA.enc).all AV.isP.isPs = true:=uG (fun _=>rfl) l
attribute [push_cast] qA.enc qA.eta qA.allP
def eB.enc (x : eB) : List AV:=[.int .i64 x.B,.psl 1 (x.Levels.map qA.enc)]
theorem eB.eta (x : eB) : eB.mk x.B x.Levels = x:=rfl
theorem eB.allP (l : List eB) : (l.map eB.enc).all AV.isP.isPs = true:=uG (fun _=>rfl) l
attribute [push_cast] eB.enc eB.eta eB.allP
def eA.enc (x : eA) : List AV:=[.str x.Key,.bool x.Done]
theorem eA.eta (x : eA) : eA.mk x.Key x.Done = x:=rfl
theorem eA.allP (l : List eA) : (l.map eA.enc).all AV.isP.isPs = true:=uG (fun _=>rfl) l
theorem eA.allF (l : List eA) : (l.map eA.enc).all AV.flatR.flatRs = true:=pQ (fun _=>rfl) l
attribute [push_cast] eA.enc eA.eta eA.allP eA.allF
def fB.enc (x : fB) : List AV:=[.psl 2 (x.Keys.map eA.enc),.psl 1 (x.Lose.map (gA .i64)),.int .i64 x.Win]
theorem fB.eta (x : fB) : fB.mk x.Keys x.Lose x.Win = x:=rfl
theorem fB.allP (l : List fB) : (l.map fB.enc).all AV.isP.isPs = true:=uG (fun _=>rfl) l
attribute [push_cast] fB.enc fB.eta fB.allP
def iB.enc (x : iB) : List AV:=[.psl 1 (x.Runs.map (tA 4 aA.enc)),.psl 1 (x.At.map (gA .i64)),.psl 2 (x.Tree.Keys.map eA.enc),.psl 1 (x.Tree.Lose.map (gA .i64)),.int .i64 x.Tree.Win]
theorem iB.eta (x : iB) : iB.mk x.Runs x.At x.Tree = x:=rfl
theorem iB.allP (l : List iB) : (l.map iB.enc).all AV.isP.isPs = true:=uG (fun _=>rfl) l
attribute [push_cast] iB.enc iB.eta iB.allP
def lB.enc (x : lB) : List AV:=[.bool x.Some,.str x.Last,.bool x.Bottom]
theorem lB.eta (x : lB) : lB.mk x.Some x.Last x.Bottom = x:=rfl
theorem lB.allP (l : List lB) : (l.map lB.enc).all AV.isP.isPs = true:=uG (fun _=>rfl) l
theorem lB.allF (l : List lB) : (l.map lB.enc).all AV.flatR.flatRs = true:=pQ (fun _=>rfl) l
attribute [push_cast] lB.enc lB.eta lB.allP lB.allF
def mB.enc (x : mB) : List AV:=[.psl 1 (x.Merge.Runs.map (tA 4 aA.enc)),.psl 1 (x.Merge.At.map (gA .i64)),.psl 2 (x.Merge.Tree.Keys.map eA.enc),.psl 1 (x.Merge.Tree.Lose.map (gA .i64)),.int .i64 x.Merge.Tree.Win,.bool x.Shadow.Some,.str x.Shadow.Last,.bool x.Shadow.Bottom,.psl 4 (x.Out.map aA.enc),.int .i64 x.Steps]
theorem mB.eta (x : mB) : mB.mk x.Merge x.Shadow x.Out x.Steps = x:=rfl
theorem mB.allP (l : List mB) : (l.map mB.enc).all AV.isP.isPs = true:=uG (fun _=>rfl) l
attribute [push_cast] mB.enc mB.eta mB.allP
def bB.enc (x : bB) : List AV:=[.int .i64 x.Level,.psl 1 (x.Work.Merge.Runs.map (tA 4 aA.enc)),.psl 1 (x.Work.Merge.At.map (gA .i64)),.psl 2 (x.Work.Merge.Tree.Keys.map eA.enc),.psl 1 (x.Work.Merge.Tree.Lose.map (gA .i64)),.int .i64 x.Work.Merge.Tree.Win,.bool x.Work.Shadow.Some,.str x.Work.Shadow.Last,.bool x.Work.Shadow.Bottom,.psl 4 (x.Work.Out.map aA.enc),.int .i64 x.Work.Steps]
theorem bB.eta (x : bB) : bB.mk x.Level x.Work = x:=rfl
theorem bB.allP (l : List bB) : (l.map bB.enc).all AV.isP.isPs = true:=uG (fun _=>rfl) l
attribute [push_cast] bB.enc bB.eta bB.allP
def cB.enc (x : cB) : List AV:=[.int .i64 x.Levels.B,.psl 1 (x.Levels.Levels.map qA.enc),.psl 11 (x.Jobs.map bB.enc),.int .i64 x.NextId]
theorem cB.eta (x : cB) : cB.mk x.Levels x.Jobs x.NextId = x:=rfl
theorem cB.allP (l : List cB) : (l.map cB.enc).all AV.isP.isPs = true:=uG (fun _=>rfl) l
attribute [push_cast] cB.enc cB.eta cB.allP
def eG.enc (x : eG) : List AV:=[.str x.Key,.str x.Val,.bool x.Dead,.int .i64 x.Seq]
theorem eG.eta (x : eG) : eG.mk x.Key x.Val x.Dead x.Seq = x:=rfl
theorem eG.allP (l : List eG) : (l.map eG.enc).all AV.isP.isPs = true:=uG (fun _=>rfl) l
theorem eG.allF (l : List eG) : (l.map eG.enc).all AV.flatR.flatRs = true:=pQ (fun _=>rfl) l
attribute [push_cast] eG.enc eG.eta eG.allP eG.allF
def gG.enc (x : gG) : List AV:=[.str x.Key,.str x.Val,.bool x.Dead,.int .i64 x.Seq]
theorem gG.eta (x : gG) : gG.mk x.Key x.Val x.Dead x.Seq = x:=rfl
theorem gG.allP (l : List gG) : (l.map gG.enc).all AV.isP.isPs = true:=uG (fun _=>rfl) l
theorem gG.allF (l : List gG) : (l.map gG.enc).all AV.flatR.flatRs = true:=pQ (fun _=>rfl) l
attribute [push_cast] gG.enc gG.eta gG.allP gG.allF
def uE.enc (x : uE) : List AV:=[.str x.Key,.str x.Val,.bool x.Dead,.int .i64 x.Seq]
theorem uE.eta (x : uE) : uE.mk x.Key x.Val x.Dead x.Seq = x:=rfl
theorem uE.allP (l : List uE) : (l.map uE.enc).all AV.isP.isPs = true:=uG (fun _=>rfl) l
theorem uE.allF (l : List uE) : (l.map uE.enc).all AV.flatR.flatRs = true:=pQ (fun _=>rfl) l
attribute [push_cast] uE.enc uE.eta uE.allP uE.allF
theorem tSize2 : sB Tryz.prog 2 = some 1:=by kernel_rfl
theorem zf3 : tD Tryz.prog 2 = some 8:=by kernel_rfl
theorem tAgg2 : uD Tryz.prog 2 = some false:=by kernel_rfl
theorem tUnd2 : Tryz.prog.underlying 2 = some (.int .i64):=by kernel_rfl
theorem tZero2 : zC Tryz.prog 2 = some [.int .i64 0]:=by kernel_rfl
theorem tSize3 : sB Tryz.prog 3 = some 1:=by kernel_rfl
theorem zgY : tD Tryz.prog 3 = some 8:=by kernel_rfl
theorem tAgg3 : uD Tryz.prog 3 = some false:=by kernel_rfl
theorem tUnd3 : Tryz.prog.underlying 3 = some (.int .i64):=by kernel_rfl
theorem tZero3 : zC Tryz.prog 3 = some [.int .i64 0]:=by kernel_rfl
theorem tSize4 : sB Tryz.prog 4 = some 1:=by kernel_rfl
theorem zjK : tD Tryz.prog 4 = some 1:=by kernel_rfl
theorem tAgg4 : uD Tryz.prog 4 = some false:=by kernel_rfl
theorem tUnd4 : Tryz.prog.underlying 4 = some .bool:=by kernel_rfl
theorem eqTyB4 {a b : Bool} : eD Tryz.prog .eql 4 (.bool a) (.bool b) = some (.bool (a == b)):=by kernel_rfl
theorem neTyB4 {a b : Bool} : eD Tryz.prog .neq 4 (.bool a) (.bool b) = some (.bool (!(a == b))):=by kernel_rfl
theorem tZero4 : zC Tryz.prog 4 = some [.bool false]:=by kernel_rfl
theorem tSize5 : sB Tryz.prog 5 = some 1:=by kernel_rfl
theorem zil : tD Tryz.prog 5 = some 1:=by kernel_rfl
theorem tAgg5 : uD Tryz.prog 5 = some false:=by kernel_rfl
theorem tUnd5 : Tryz.prog.underlying 5 = some (.int .u8):=by kernel_rfl
theorem tZero5 : zC Tryz.prog 5 = some [.int .u8 0]:=by kernel_rfl
theorem tSize9 : sB Tryz.prog 9 = some 1:=by kernel_rfl
theorem zkx : tD Tryz.prog 9 = some 16:=by kernel_rfl
theorem tAgg9 : uD Tryz.prog 9 = some false:=by kernel_rfl
theorem tStr9 : tStr Tryz.prog 9 = some ():=by kernel_rfl
theorem tUnd9 : Tryz.prog.underlying 9 = some .string:=by kernel_rfl
theorem tZero9 : zC Tryz.prog 9 = some [.str []]:=by kernel_rfl
theorem zji : sB Tryz.prog 22 = some 1:=by kernel_rfl
theorem zlv : tD Tryz.prog 22 = some 24:=by kernel_rfl
theorem tAgg22 : uD Tryz.prog 22 = some false:=by kernel_rfl
theorem zfX : zC Tryz.prog 22 = some [.nils]:=by kernel_rfl
theorem zja : jD Tryz.prog 22 = some 89:=by kernel_rfl
theorem tUnd22 : Tryz.prog.underlying 22 = some (.slice 89):=by kernel_rfl
theorem zpA : sB Tryz.prog 24 = some 2:=by kernel_rfl
theorem zj8 : tD Tryz.prog 24 = some 32:=by kernel_rfl
theorem tAgg24 : uD Tryz.prog 24 = some true:=by kernel_rfl
theorem ziG : zC Tryz.prog 24 = some [.int .i64 0,.nils]:=by kernel_rfl
theorem ziD : zG Tryz.prog 24 = some [(0,1),(1,1)]:=by kernel_rfl
theorem zlU : kD Tryz.prog 24 0 = some (0,3):=by kernel_rfl
theorem zfO : kD Tryz.prog 24 1 = some (1,22):=by kernel_rfl
theorem ziW : sB Tryz.prog 25 = some 1:=by kernel_rfl
theorem zhF : tD Tryz.prog 25 = some 24:=by kernel_rfl
theorem tAgg25 : uD Tryz.prog 25 = some false:=by kernel_rfl
theorem zjw : zC Tryz.prog 25 = some [.nils]:=by kernel_rfl
theorem zl6 : jD Tryz.prog 25 = some 59:=by kernel_rfl
theorem tUnd25 : Tryz.prog.underlying 25 = some (.slice 59):=by kernel_rfl
theorem zod : sB Tryz.prog 27 = some 4:=by kernel_rfl
theorem znt : tD Tryz.prog 27 = some 64:=by kernel_rfl
theorem tAgg27 : uD Tryz.prog 27 = some true:=by kernel_rfl
theorem zmG : zC Tryz.prog 27 = some [.int .i64 0,.nils,.nils,.int .i64 0]:=by kernel_rfl
theorem zoJ : zG Tryz.prog 27 = some [(0,2),(2,1),(3,1)]:=by kernel_rfl
theorem zlq : kD Tryz.prog 27 0 = some (0,24):=by kernel_rfl
theorem znW : kD Tryz.prog 27 1 = some (2,25):=by kernel_rfl
theorem zoH : kD Tryz.prog 27 2 = some (3,3):=by kernel_rfl
theorem ziL : sB Tryz.prog 30 = some 1:=by kernel_rfl
theorem zir : tD Tryz.prog 30 = some 8:=by kernel_rfl
theorem tAgg30 : uD Tryz.prog 30 = some false:=by kernel_rfl
theorem tUnd30 : Tryz.prog.underlying 30 = some (.int .i64):=by kernel_rfl
theorem zh5 : zC Tryz.prog 30 = some [.int .i64 0]:=by kernel_rfl
theorem zmI : sB Tryz.prog 37 = some 1:=by kernel_rfl
theorem znh : tD Tryz.prog 37 = some 24:=by kernel_rfl
theorem tAgg37 : uD Tryz.prog 37 = some false:=by kernel_rfl
theorem ziN : zC Tryz.prog 37 = some [.nils]:=by kernel_rfl
theorem zgP : jD Tryz.prog 37 = some 3:=by kernel_rfl
theorem tUnd37 : Tryz.prog.underlying 37 = some (.slice 3):=by kernel_rfl
theorem zib : sB Tryz.prog 47 = some 1:=by kernel_rfl
theorem zfB : tD Tryz.prog 47 = some 24:=by kernel_rfl
theorem tAgg47 : uD Tryz.prog 47 = some false:=by kernel_rfl
theorem zjc : zC Tryz.prog 47 = some [.nils]:=by kernel_rfl
theorem zlG : jD Tryz.prog 47 = some 55:=by kernel_rfl
theorem tUnd47 : Tryz.prog.underlying 47 = some (.slice 55):=by kernel_rfl
theorem znm : sB Tryz.prog 48 = some 1:=by kernel_rfl
theorem zi2 : tD Tryz.prog 48 = some 24:=by kernel_rfl
theorem tAgg48 : uD Tryz.prog 48 = some false:=by kernel_rfl
theorem zog : zC Tryz.prog 48 = some [.nils]:=by kernel_rfl
theorem zfT : jD Tryz.prog 48 = some 119:=by kernel_rfl
theorem tUnd48 : Tryz.prog.underlying 48 = some (.slice 119):=by kernel_rfl
theorem ziV : sB Tryz.prog 50 = some 3:=by kernel_rfl
theorem zo0 : tD Tryz.prog 50 = some 56:=by kernel_rfl
theorem tAgg50 : uD Tryz.prog 50 = some true:=by kernel_rfl
theorem zjm : zC Tryz.prog 50 = some [.nils,.nils,.int .i64 0]:=by kernel_rfl
theorem zhP : zG Tryz.prog 50 = some [(0,1),(1,1),(2,1)]:=by kernel_rfl
theorem zkc : kD Tryz.prog 50 0 = some (0,48):=by kernel_rfl
theorem zhk : kD Tryz.prog 50 1 = some (1,37):=by kernel_rfl
theorem zgV : kD Tryz.prog 50 2 = some (2,3):=by kernel_rfl
theorem znc : sB Tryz.prog 52 = some 5:=by kernel_rfl
theorem zkQ : tD Tryz.prog 52 = some 104:=by kernel_rfl
theorem tAgg52 : uD Tryz.prog 52 = some true:=by kernel_rfl
theorem zg3 : zC Tryz.prog 52 = some [.nils,.nils,.nils,.nils,.int .i64 0]:=by kernel_rfl
theorem zpn : zG Tryz.prog 52 = some [(0,1),(1,1),(2,3)]:=by kernel_rfl
theorem zgN : kD Tryz.prog 52 0 = some (0,47):=by kernel_rfl
theorem zi8 : kD Tryz.prog 52 1 = some (1,37):=by kernel_rfl
theorem zfz : kD Tryz.prog 52 2 = some (2,50):=by kernel_rfl
theorem zgx : sB Tryz.prog 54 = some 3:=by kernel_rfl
theorem zkK : tD Tryz.prog 54 = some 32:=by kernel_rfl
theorem tAgg54 : uD Tryz.prog 54 = some true:=by kernel_rfl
theorem zpD : zC Tryz.prog 54 = some [.bool false,.str [],.bool false]:=by kernel_rfl
theorem zjh : zG Tryz.prog 54 = some [(0,1),(1,1),(2,1)]:=by kernel_rfl
theorem zfC : kD Tryz.prog 54 0 = some (0,4):=by kernel_rfl
theorem zlH : kD Tryz.prog 54 1 = some (1,9):=by kernel_rfl
theorem zmU : kD Tryz.prog 54 2 = some (2,4):=by kernel_rfl
theorem zpK : sB Tryz.prog 55 = some 1:=by kernel_rfl
theorem zkt : tD Tryz.prog 55 = some 24:=by kernel_rfl
theorem tAgg55 : uD Tryz.prog 55 = some false:=by kernel_rfl
theorem zpr : zC Tryz.prog 55 = some [.nils]:=by kernel_rfl
theorem znZ : jD Tryz.prog 55 = some 67:=by kernel_rfl
theorem tUnd55 : Tryz.prog.underlying 55 = some (.slice 67):=by kernel_rfl
theorem zf4 : sB Tryz.prog 57 = some 10:=by kernel_rfl
theorem zmE : tD Tryz.prog 57 = some 168:=by kernel_rfl
theorem tAgg57 : uD Tryz.prog 57 = some true:=by kernel_rfl
theorem zgq : zC Tryz.prog 57 = some [.nils,.nils,.nils,.nils,.int .i64 0,.bool false,.str [],.bool false,.nils,.int .i64 0]:=by kernel_rfl
theorem zkz : zG Tryz.prog 57 = some [(0,5),(5,3),(8,1),(9,1)]:=by kernel_rfl
theorem ziQ : kD Tryz.prog 57 0 = some (0,52):=by kernel_rfl
theorem ziT : kD Tryz.prog 57 1 = some (5,54):=by kernel_rfl
theorem zhE : kD Tryz.prog 57 2 = some (8,55):=by kernel_rfl
theorem znA : kD Tryz.prog 57 3 = some (9,2):=by kernel_rfl
theorem zj3 : sB Tryz.prog 59 = some 11:=by kernel_rfl
theorem zoo : tD Tryz.prog 59 = some 176:=by kernel_rfl
theorem tAgg59 : uD Tryz.prog 59 = some true:=by kernel_rfl
theorem zg0 : zC Tryz.prog 59 = some [.int .i64 0,.nils,.nils,.nils,.nils,.int .i64 0,.bool false,.str [],.bool false,.nils,.int .i64 0]:=by kernel_rfl
theorem zgh : zG Tryz.prog 59 = some [(0,1),(1,10)]:=by kernel_rfl
theorem zmi : kD Tryz.prog 59 0 = some (0,3):=by kernel_rfl
theorem zgW : kD Tryz.prog 59 1 = some (1,57):=by kernel_rfl
theorem zgO : sB Tryz.prog 67 = some 4:=by kernel_rfl
theorem zh2 : tD Tryz.prog 67 = some 48:=by kernel_rfl
theorem tAgg67 : uD Tryz.prog 67 = some true:=by kernel_rfl
theorem zjI : zC Tryz.prog 67 = some [.str [],.str [],.bool false,.int .i64 0]:=by kernel_rfl
theorem zkn : zG Tryz.prog 67 = some [(0,1),(1,1),(2,1),(3,1)]:=by kernel_rfl
theorem zhr : kD Tryz.prog 67 0 = some (0,9):=by kernel_rfl
theorem zl5 : kD Tryz.prog 67 1 = some (1,9):=by kernel_rfl
theorem zlF : kD Tryz.prog 67 2 = some (2,4):=by kernel_rfl
theorem zje : kD Tryz.prog 67 3 = some (3,2):=by kernel_rfl
theorem zlW : sB Tryz.prog 87 = some 1:=by kernel_rfl
theorem ziO : tD Tryz.prog 87 = some 24:=by kernel_rfl
theorem tAgg87 : uD Tryz.prog 87 = some false:=by kernel_rfl
theorem zmX : zC Tryz.prog 87 = some [.nils]:=by kernel_rfl
theorem zht : jD Tryz.prog 87 = some 94:=by kernel_rfl
theorem tUnd87 : Tryz.prog.underlying 87 = some (.slice 94):=by kernel_rfl
theorem zjM : sB Tryz.prog 89 = some 1:=by kernel_rfl
theorem zl0 : tD Tryz.prog 89 = some 24:=by kernel_rfl
theorem tAgg89 : uD Tryz.prog 89 = some true:=by kernel_rfl
theorem zgc : zC Tryz.prog 89 = some [.nils]:=by kernel_rfl
theorem znR : zG Tryz.prog 89 = some [(0,1)]:=by kernel_rfl
theorem zme : kD Tryz.prog 89 0 = some (0,87):=by kernel_rfl
theorem zhq : sB Tryz.prog 94 = some 2:=by kernel_rfl
theorem zl9 : tD Tryz.prog 94 = some 32:=by kernel_rfl
theorem tAgg94 : uD Tryz.prog 94 = some true:=by kernel_rfl
theorem zf7 : zC Tryz.prog 94 = some [.int .i64 0,.nils]:=by kernel_rfl
theorem znD : zG Tryz.prog 94 = some [(0,1),(1,1)]:=by kernel_rfl
theorem zhC : kD Tryz.prog 94 0 = some (0,3):=by kernel_rfl
theorem zmn : kD Tryz.prog 94 1 = some (1,55):=by kernel_rfl
theorem znf : sB Tryz.prog 99 = some 10:=by kernel_rfl
theorem zjB : tD Tryz.prog 99 = some 168:=by kernel_rfl
theorem tAgg99 : uD Tryz.prog 99 = some true:=by kernel_rfl
theorem zpl : zC Tryz.prog 99 = some [.nils,.nils,.nils,.nils,.int .i64 0,.bool false,.str [],.bool false,.nils,.int .i64 0]:=by kernel_rfl
theorem zkO : zG Tryz.prog 99 = some [(0,10)]:=by kernel_rfl
theorem zl8 : kD Tryz.prog 99 0 = some (0,57):=by kernel_rfl
theorem zpu : sB Tryz.prog 119 = some 2:=by kernel_rfl
theorem zkU : tD Tryz.prog 119 = some 24:=by kernel_rfl
theorem zld : uD Tryz.prog 119 = some true:=by kernel_rfl
theorem zm1 : zC Tryz.prog 119 = some [.str [],.bool false]:=by kernel_rfl
theorem zjE : zG Tryz.prog 119 = some [(0,1),(1,1)]:=by kernel_rfl
theorem zm9 : kD Tryz.prog 119 0 = some (0,9):=by kernel_rfl
theorem zgj : kD Tryz.prog 119 1 = some (1,4):=by kernel_rfl
theorem zlY : sB Tryz.prog 148 = some 1:=by kernel_rfl
theorem znr : tD Tryz.prog 148 = some 8:=by kernel_rfl
theorem znI : uD Tryz.prog 148 = some false:=by kernel_rfl
theorem zo3 : zC Tryz.prog 148 = some [.nilp]:=by kernel_rfl
theorem zpi : sB Tryz.prog 150 = some 5:=by kernel_rfl
theorem zgE : tD Tryz.prog 150 = some 104:=by kernel_rfl
theorem zoh : uD Tryz.prog 150 = some true:=by kernel_rfl
theorem zoC : zC Tryz.prog 150 = some [.nils,.nils,.nils,.nils,.int .i64 0]:=by kernel_rfl
theorem zfP : zG Tryz.prog 150 = some [(0,5)]:=by kernel_rfl
theorem zoL : kD Tryz.prog 150 0 = some (0,52):=by kernel_rfl
theorem znJ : sB Tryz.prog 157 = some 4:=by kernel_rfl
theorem zhJ : tD Tryz.prog 157 = some 48:=by kernel_rfl
theorem zic : uD Tryz.prog 157 = some true:=by kernel_rfl
theorem zkg : zC Tryz.prog 157 = some [.str [],.str [],.bool false,.int .i64 0]:=by kernel_rfl
theorem zo6 : zG Tryz.prog 157 = some [(0,1),(1,1),(2,1),(3,1)]:=by kernel_rfl
theorem zjl : kD Tryz.prog 157 0 = some (0,9):=by kernel_rfl
theorem zpE : kD Tryz.prog 157 1 = some (1,9):=by kernel_rfl
theorem znz : kD Tryz.prog 157 2 = some (2,4):=by kernel_rfl
theorem zjQ : kD Tryz.prog 157 3 = some (3,2):=by kernel_rfl
attribute [push_cast] tSize2 zf3 tAgg2 tUnd2 tZero2 tSize3 zgY tAgg3 tUnd3 tZero3 tSize4 zjK
attribute [push_cast] tAgg4 tUnd4 eqTyB4 neTyB4 tZero4 tSize5 zil tAgg5 tUnd5 tZero5 tSize9 zkx
attribute [push_cast] tAgg9 tStr9 tUnd9 tZero9 zji zlv tAgg22 zfX zja tUnd22 zpA zj8
attribute [push_cast] tAgg24 ziG ziD zlU zfO ziW zhF tAgg25 zjw zl6 tUnd25 zod
attribute [push_cast] znt tAgg27 zmG zoJ zlq znW zoH ziL zir tAgg30 tUnd30 zh5
attribute [push_cast] zmI znh tAgg37 ziN zgP tUnd37 zib zfB tAgg47 zjc zlG tUnd47
attribute [push_cast] znm zi2 tAgg48 zog zfT tUnd48 ziV zo0 tAgg50 zjm zhP zkc
attribute [push_cast] zhk zgV znc zkQ tAgg52 zg3 zpn zgN zi8 zfz zgx zkK
attribute [push_cast] tAgg54 zpD zjh zfC zlH zmU zpK zkt tAgg55 zpr znZ tUnd55
attribute [push_cast] zf4 zmE tAgg57 zgq zkz ziQ ziT zhE znA zj3 zoo tAgg59
attribute [push_cast] zg0 zgh zmi zgW zgO zh2 tAgg67 zjI zkn zhr zl5 zlF
attribute [push_cast] zje zlW ziO tAgg87 zmX zht tUnd87 zjM zl0 tAgg89 zgc znR
attribute [push_cast] zme zhq zl9 tAgg94 zf7 znD zhC zmn znf zjB tAgg99 zpl
attribute [push_cast] zkO zl8 zpu zkU zld zm1 zjE zm9 zgj zlY znr znI
attribute [push_cast] zo3 zpi zgE zoh zoC zfP zoL znJ zhJ zic zkg zo6
attribute [push_cast] zjl zpE znz zjQ
theorem zZ : Tryz.prog.underlying 110 = some (.map 3 4):=by kernel_rfl
theorem zci : bU Tryz.prog 3 (fun n : Int=>AV.int .i64 n):=zm0 (by kernel_rfl)
theorem zmR : sI Tryz.prog 4 = some (.bool false):=by kernel_rfl
theorem zhv : fP Tryz.prog 157 = true:=by kernel_rfl
theorem zos : fP Tryz.prog 181 = true:=by kernel_rfl
theorem zmk : fP Tryz.prog 182 = true:=by kernel_rfl
theorem zgM {x : AV} : vL Tryz.prog 157 (.iface 181 x) = some (.tup [.agg [.str [],.str [],.bool false,.int .i64 0],.bool false]):=by kernel_rfl
theorem zjs {x : AV} : vL Tryz.prog 157 (.iface 182 x) = some (.tup [.agg [.str [],.str [],.bool false,.int .i64 0],.bool false]):=by kernel_rfl
theorem asN157 : vL Tryz.prog 157 .nili = some (.tup [.agg [.str [],.str [],.bool false,.int .i64 0],.bool false]):=by kernel_rfl
theorem me0 : kV Tryz.prog 157 "bookend/shadow.entry" = some 169:=by kernel_rfl
attribute [push_cast] zhv zos zmk zgM zjs asN157 me0
theorem zhA {a0 b0 : List UInt8} {a1 b1 : Bool} : eD Tryz.prog .eql 119 (.agg [.str a0,.bool a1]) (.agg [.str b0,.bool b1]) = some (.bool (eA.eqb (eA.mk a0 a1) (eA.mk b0 b1))):=by kernel_rfl
theorem zlZ {a0 b0 : List UInt8} {a1 b1 : Bool} : eD Tryz.prog .neq 119 (.agg [.str a0,.bool a1]) (.agg [.str b0,.bool b1]) = some (.bool (!eA.eqb (eA.mk a0 a1) (eA.mk b0 b1))):=by kernel_rfl
theorem eqTy54 {a0 b0 : Bool} {a1 b1 : List UInt8} {a2 b2 : Bool} : eD Tryz.prog .eql 54 (.agg [.bool a0,.str a1,.bool a2]) (.agg [.bool b0,.str b1,.bool b2]) = some (.bool (lB.eqb (lB.mk a0 a1 a2) (lB.mk b0 b1 b2))):=by kernel_rfl
theorem neTy54 {a0 b0 : Bool} {a1 b1 : List UInt8} {a2 b2 : Bool} : eD Tryz.prog .neq 54 (.agg [.bool a0,.str a1,.bool a2]) (.agg [.bool b0,.str b1,.bool b2]) = some (.bool (!lB.eqb (lB.mk a0 a1 a2) (lB.mk b0 b1 b2))):=by kernel_rfl
theorem eqTy67 {a0 b0 : List UInt8} {a1 b1 : List UInt8} {a2 b2 : Bool} {a3 b3 : Int} : eD Tryz.prog .eql 67 (.agg [.str a0,.str a1,.bool a2,.int .i64 a3]) (.agg [.str b0,.str b1,.bool b2,.int .i64 b3]) = some (.bool (aA.eqb (aA.mk a0 a1 a2 a3) (aA.mk b0 b1 b2 b3))):=by kernel_rfl
theorem neTy67 {a0 b0 : List UInt8} {a1 b1 : List UInt8} {a2 b2 : Bool} {a3 b3 : Int} : eD Tryz.prog .neq 67 (.agg [.str a0,.str a1,.bool a2,.int .i64 a3]) (.agg [.str b0,.str b1,.bool b2,.int .i64 b3]) = some (.bool (!aA.eqb (aA.mk a0 a1 a2 a3) (aA.mk b0 b1 b2 b3))):=by kernel_rfl
attribute [push_cast] zhA zlZ eqTy54 neTy54 eqTy67 neTy67
attribute [push_cast] List.getElem?_map Option.map_some
theorem zlf (k : IntKind) (l : List Int) : (l.map (gA k)).all AV.isP.isPs = true:=uG (fun _=>rfl) l
theorem zlN (k : IntKind) (l : List Int) : (l.map (gA k)).all AV.flatR.flatRs = true:=pQ (fun _=>rfl) l
theorem zoP (l : List (List UInt8)) : (l.map pL).all AV.isP.isPs = true:=uG (fun _=>rfl) l
theorem zm5 (l : List (List UInt8)) : (l.map pL).all AV.flatR.flatRs = true:=pQ (fun _=>rfl) l
theorem zkj (l : List Bool) : (l.map xM).all AV.isP.isPs = true:=uG (fun _=>rfl) l
theorem allPSl {α : Type} (z : Nat) (f : α → List AV) (l : List (List α)) : (l.map (tA z f)).all AV.isP.isPs = true:=uG (fun _=>rfl) l
attribute [push_cast] zlf zlN zoP zm5 zkj allPSl
theorem rF {p : Prop} (h : p:=by
  (repeat' (first | exact trivial | refine And.intro ?_ ?_ | exact AV.LeN.refl _ | exact AV.LeN.nils _ | exact AV.LeN.nilb rfl | refine AV.LeN.agg ?_ | refine AV.LeN.tup ?_ | exact AV.LeN.of_eq (by simp [qB,wA,gA,xM,pL,tA,List.map_set,aA.enc,gB.enc,qA.enc,eB.enc,eA.enc,fB.enc,iB.enc,lB.enc,mB.enc,bB.enc,cB.enc,eG.enc,gG.enc,uE.enc])))) : p:=h
theorem rE {p : Prop} (h : p:=by
  (repeat' (first | exact trivial | exact yX.refl _ | exact ⟨_,rfl,rfl⟩ | exact AV.LeN.refl _ | refine And.intro ?_ ?_ | exact rfl | exact qE.refl _ | exact (fun _=>rfl) | exact (fun h=>h) | exact qE.of_eq (by simp [qB,wA,gA,xM,pL,tA,List.map_set,aA.enc,gB.enc,qA.enc,eB.enc,eA.enc,fB.enc,iB.enc,lB.enc,mB.enc,bB.enc,cB.enc,eG.enc,gG.enc,uE.enc]) | exact AV.LeN.nils _ | exact AV.LeN.nilb rfl | exact AV.LeN.of_eq (by simp [qB,wA,gA,xM,pL,tA,List.map_set,aA.enc,gB.enc,qA.enc,eB.enc,eA.enc,fB.enc,iB.enc,lB.enc,mB.enc,bB.enc,cB.enc,eG.enc,gG.enc,uE.enc])))) : p:=h
theorem rN {p : Prop} (h : p:=by
  (repeat' (first | exact trivial | refine And.intro ?_ ?_ | exact Nat.le_of_ble_eq_true rfl | decide))) : p:=h
theorem rR {p : Prop} (h : p:=by
  (repeat' (first | exact trivial | refine And.intro ?_ ?_ | exact AV.Le.refl _))) : p:=h
theorem rH {p : Prop} (h : p:=by
  (repeat' (first | exact AV.Le.refl _ | exact AV.Le.nils _ | refine AV.Le.agg ?_ | refine AV.Le.tup ?_ | exact trivial | exact rfl | omega | exact AV.Le.of_eq (by simp [qB,wA,gA,xM,pL,tA,List.map_set,aA.enc,gB.enc,qA.enc,eB.enc,eA.enc,fB.enc,iB.enc,lB.enc,mB.enc,bB.enc,cB.enc,eG.enc,gG.enc,uE.enc]) | refine And.intro ?_ ?_))) : p:=h
theorem rG {p : Prop} (h : p:=by
  simp (maxSteps:=1000000) only [↓reduceIte,reduceCtorEq,Nat.reduceEqDiff,Nat.reduceLT,Nat.reduceLeDiff,Nat.reduceAdd,Nat.reduceMul,Int.reduceToNat,push_cast,fS]
  (repeat' (first | exact AV.Le.refl _ | exact AV.Le.nils _ | refine AV.Le.agg ?_ | refine AV.Le.tup ?_ | exact trivial | exact rfl | omega | exact AV.Le.of_eq (by simp [qB,wA,gA,xM,pL,tA,List.map_set,aA.enc,gB.enc,qA.enc,eB.enc,eA.enc,fB.enc,iB.enc,lB.enc,mB.enc,bB.enc,cB.enc,eG.enc,gG.enc,uE.enc]) | refine And.intro ?_ ?_))) : p:=h
theorem rW {q k p : Prop} (f : q) (hK : k) (h : q → k → p:=by
  intro f hK
  simp (maxSteps:=1000000) only [↓reduceIte,reduceCtorEq,Nat.reduceEqDiff,Nat.reduceLT,Nat.reduceLeDiff,Nat.reduceAdd,Nat.reduceMul,Int.reduceToNat,push_cast,↓f]
  try simp only [↓f] at hK
  all_goals (repeat' (first | assumption | refine And.intro ?_ ?_ | exact Nat.le_refl _ | omega | (intro _) | (simp; done)))) : p:=h f hK
theorem fJ {q t k p : Prop} (f : q) (c : t) (hK : k) (h : q → t → k → p:=by
  intro f c hK
  simp (maxSteps:=1000000) only [↓reduceIte,reduceCtorEq,Nat.reduceEqDiff,Nat.reduceLT,Nat.reduceLeDiff,Nat.reduceAdd,Nat.reduceMul,Int.reduceToNat,push_cast,↓f]
  try simp only [↓f] at hK
  all_goals (repeat' (first | assumption | refine And.intro ?_ ?_ | exact Nat.le_refl _ | omega | (intro _) | (simp; done)))) : p:=h f c hK
theorem sD {q r k p : Prop} (f : q) (g : r) (hK : k) (h : q → r → k → p:=by
  intro f g hK
  simp (maxSteps:=1000000) only [↓reduceIte,reduceCtorEq,Nat.reduceEqDiff,Nat.reduceLT,Nat.reduceLeDiff,Nat.reduceAdd,Nat.reduceMul,Int.reduceToNat,push_cast,g,↓f]
  try simp only [↓f] at hK
  all_goals (repeat' (first | assumption | refine And.intro ?_ ?_ | exact Nat.le_refl _ | omega | (intro _) | (simp; done)))) : p:=h f g hK
theorem dI {q r t k p : Prop} (f : q) (g : r) (c : t) (hK : k) (h : q → r → t → k → p:=by
  intro f g c hK
  simp (maxSteps:=1000000) only [↓reduceIte,reduceCtorEq,Nat.reduceEqDiff,Nat.reduceLT,Nat.reduceLeDiff,Nat.reduceAdd,Nat.reduceMul,Int.reduceToNat,push_cast,g,↓f]
  try simp only [↓f] at hK
  all_goals (repeat' (first | assumption | refine And.intro ?_ ?_ | exact Nat.le_refl _ | omega | (intro _) | (simp; done)))) : p:=h f g c hK
theorem uO {q k p : Prop} (f : q) (hK : k) (h : q → k → p:=by
  intro f hK
  simp (maxSteps:=1000000) only [↓reduceIte,reduceCtorEq,Nat.reduceEqDiff,Nat.reduceLT,Nat.reduceLeDiff,Nat.reduceAdd,Nat.reduceMul,Int.reduceToNat,push_cast,↓f]
  try simp only [↓f] at hK
  all_goals (repeat' (first | assumption | (show mH _ _ _ = true; kernel_rfl) | refine And.intro ?_ ?_ | exact Nat.le_refl _ | omega | (intro _) | (simp; done)))) : p:=h f hK
theorem rWcd {q t k p : Prop} (f : q) (c : t) (hK : k) (h : q → t → k → p:=by
  intro f c hK
  simp (maxSteps:=1000000) only [↓reduceIte,reduceCtorEq,Nat.reduceEqDiff,Nat.reduceLT,Nat.reduceLeDiff,Nat.reduceAdd,Nat.reduceMul,Int.reduceToNat,push_cast,↓f]
  try simp only [↓f] at hK
  all_goals (repeat' (first | assumption | (show mH _ _ _ = true; kernel_rfl) | refine And.intro ?_ ?_ | exact Nat.le_refl _ | omega | (intro _) | (simp; done)))) : p:=h f c hK
theorem yG {q r k p : Prop} (f : q) (g : r) (hK : k) (h : q → r → k → p:=by
  intro f g hK
  simp (maxSteps:=1000000) only [↓reduceIte,reduceCtorEq,Nat.reduceEqDiff,Nat.reduceLT,Nat.reduceLeDiff,Nat.reduceAdd,Nat.reduceMul,Int.reduceToNat,push_cast,g,↓f]
  try simp only [↓f] at hK
  all_goals (repeat' (first | assumption | (show mH _ _ _ = true; kernel_rfl) | refine And.intro ?_ ?_ | exact Nat.le_refl _ | omega | (intro _) | (simp; done)))) : p:=h f g hK
theorem yY {q r t k p : Prop} (f : q) (g : r) (c : t) (hK : k) (h : q → r → t → k → p:=by
  intro f g c hK
  simp (maxSteps:=1000000) only [↓reduceIte,reduceCtorEq,Nat.reduceEqDiff,Nat.reduceLT,Nat.reduceLeDiff,Nat.reduceAdd,Nat.reduceMul,Int.reduceToNat,push_cast,g,↓f]
  try simp only [↓f] at hK
  all_goals (repeat' (first | assumption | (show mH _ _ _ = true; kernel_rfl) | refine And.intro ?_ ?_ | exact Nat.le_refl _ | omega | (intro _) | (simp; done)))) : p:=h f g c hK
theorem rJ {q p : Prop} (f : q) (h : q → p:=by
  intro f
  simp (maxSteps:=1000000) only [↓reduceIte,reduceCtorEq,Nat.reduceEqDiff,Nat.reduceLT,Nat.reduceLeDiff,Nat.reduceAdd,Nat.reduceMul,Int.reduceToNat,push_cast,fS,f]
  all_goals exact rH) : p:=h f
theorem rQ {p : Prop} (h : p:=by
  simp (maxSteps:=1000000) only [↓reduceIte,reduceCtorEq,Nat.reduceEqDiff,Nat.reduceLT,Nat.reduceLeDiff,Nat.reduceAdd,Nat.reduceMul,Int.reduceToNat,push_cast,Int.reduceEq,Int.reduceLT,Int.reduceLE]
  repeat' (first | assumption | refine And.intro ?_ ?_ | exact Nat.le_refl _ | omega | (intro _) | (simp; done))) : p:=h
theorem rQd {p : Prop} (h : p:=by
  simp (maxSteps:=1000000) only [↓reduceIte,reduceCtorEq,Nat.reduceEqDiff,Nat.reduceLT,Nat.reduceLeDiff,Nat.reduceAdd,Nat.reduceMul,Int.reduceToNat,push_cast,Int.reduceEq,Int.reduceLT,Int.reduceLE]
  repeat' (first | assumption | (show mH _ _ _ = true; kernel_rfl) | refine And.intro ?_ ?_ | exact Nat.le_refl _ | omega | (intro _) | (simp; done))) : p:=h
theorem xE {P : Program} {nt : Nat} {K : Exit → St → Prop} {c : Code} {s : St} (s2 : St) (h : wB P nt c K s2) (hn : s.nx ≤ s2.nx:=by exact Nat.le_of_ble_eq_true rfl) (hl : LeN [] s s2:=by exact ⟨rF,rE,rfl,rfl,trivial,trivial⟩) : wB P nt c K s:=oB [] hn hl h
theorem xF {P : Program} {nt : Nat} {K : Exit → St → Prop} {ops : Array Oper} {l : List Nat} {s : St} (s2 : St) (h : lE P nt ops l K s2) (hn : s.nx ≤ s2.nx:=by exact Nat.le_of_ble_eq_true rfl) (hl : LeN [] s s2:=by exact ⟨rF,rE,rfl,rfl,trivial,trivial⟩) : lE P nt ops l K s:=kK [] hn hl h
end Go.T
