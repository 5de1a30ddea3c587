/- A text of the proof. -/
import Derived.Test.YtbinmepkdbkffaaGreatDoorKAmZb
namespace Go.T
open Go Go.AM
set_option linter.unusedVariables false
structure TApiHandle where
 Index : Int
 Gen : Int
 deriving DecidableEq
structure TApiDfItem where
 Kind : Int
 Key : List UInt8
 Old : List UInt8
 New : List UInt8
 deriving DecidableEq
structure TApiStStats where
 Live : Int
 Entries : Int
 Dead : Int
 Buffered : Int
 Runs : Int
 Height : Int
 Jobs : Int
 Debt : Int
 Pins : Int
 Cursors : Int
 Held : Int
 Writes : Int
 Busy : Int
 Seals : Int
 Installs : Int
 Steps : Int
 Lost : Int
 deriving DecidableEq
structure TApiOpAnswer where
 E : Int
 Key : List UInt8
 Val : List UInt8
 N : Int
 Handle : TApiHandle
 Items : List TApiDfItem
 Stats : TApiStStats
 deriving DecidableEq
def TApiHandle.eqb (x y : TApiHandle) : Bool := ((x.Index == y.Index) && ((x.Gen == y.Gen) && true))
def TApiStStats.eqb (x y : TApiStStats) : Bool := ((x.Live == y.Live) && ((x.Entries == y.Entries) && ((x.Dead == y.Dead) && ((x.Buffered == y.Buffered) && ((x.Runs == y.Runs) && ((x.Height == y.Height) && ((x.Jobs == y.Jobs) && ((x.Debt == y.Debt) && ((x.Pins == y.Pins) && ((x.Cursors == y.Cursors) && ((x.Held == y.Held) && ((x.Writes == y.Writes) && ((x.Busy == y.Busy) && ((x.Seals == y.Seals) && ((x.Installs == y.Installs) && ((x.Steps == y.Steps) && ((x.Lost == y.Lost) && true)))))))))))))))))
def TApiDfItem.eqb (x y : TApiDfItem) : Bool := ((x.Kind == y.Kind) && ((x.Key == y.Key) && ((x.Old == y.Old) && ((x.New == y.New) && true))))
def bookendlaw04_FarAnswer_l1 (a1 : TApiOpAnswer) : Nat → Int → Option (Sum (Unit) (Bool))
 | 0, _ => none
 | fu + 1, i31 =>
  if (decide (i31 < (a1.Items.length : Int))) then
   (ix a1.Items i31).bind fun e33 =>
   (if (decide (900 < (IntKind.i64.wrap ((IntKind.i64.wrap ((e33.Key.length : Int) + (e33.Old.length : Int))) + (e33.New.length : Int))))) then some true else (if (decide (30 < (a1.Items.length : Int))) then some (decide (0 < (IntKind.i64.wrap ((IntKind.i64.wrap ((e33.Key.length : Int) + (e33.Old.length : Int))) + (e33.New.length : Int))))) else some false).bind fun b34 => some b34).bind fun b35 =>
   if b35 then
    some (.inr true)
   else
    bookendlaw04_FarAnswer_l1 a1 fu (IntKind.i64.wrap (i31 + 1))
  else
   some (.inl ())
def bookendlaw04_FarAnswer (fu : Nat) (a1 : TApiOpAnswer) : Option (Bool) :=
 (if (decide (300 < (a1.Key.length : Int))) then some true else some (decide (300 < (a1.Val.length : Int)))).bind fun b2 =>
 (if b2 then some true else (if (decide (30 < (a1.Items.length : Int))) then some (decide ((a1.Items.length : Int) ≤ 2000)) else some false).bind fun b3 => some b3).bind fun b4 =>
 (if b4 then some true else some (decide (2005 < (a1.Items.length : Int)))).bind fun b5 =>
 if b5 then
  some true
 else
  (bookendlaw04_FarAnswer_l1 a1 fu 0).bind fun x30 => match x30 with
  | .inl o39 =>
   some false
  | .inr y =>
   some y
def bookendlaw32_farAnswers_l1 (a1 : List TApiOpAnswer) : Nat → Int → Option (Sum (Unit) (Bool))
 | 0, _ => none
 | fu + 1, i13 =>
  if (decide (i13 < (a1.length : Int))) then
   (ix a1 i13).bind fun e15 =>
   (bookendlaw04_FarAnswer fu e15).bind fun vr16 =>
   if vr16 then
    some (.inr true)
   else
    bookendlaw32_farAnswers_l1 a1 fu (IntKind.i64.wrap (i13 + 1))
  else
   some (.inl ())
def bookendlaw32_farAnswers (fu : Nat) (a1 : List TApiOpAnswer) : Option (Bool) :=
 if (decide (205 < (a1.length : Int))) then
  some true
 else
  (bookendlaw32_farAnswers_l1 a1 fu 0).bind fun x12 => match x12 with
  | .inl o18 =>
   some false
  | .inr y =>
   some y
def bookendlaw32_shown (fu : Nat) : Option (Bool) :=
 some true
def slices_Equal_apiDfItem_l1 (s11 : List TApiDfItem) (s22 : List TApiDfItem) : Nat → Int → Option (Sum (Unit) (Bool))
 | 0, _ => none
 | fu + 1, v14 =>
  if (decide (v14 < (s11.length : Int))) then
   (ix s11 v14).bind fun e16 =>
   (ix s22 v14).bind fun e17 =>
   if (!(TApiDfItem.eqb e16 e17)) then
    some (.inr false)
   else
    slices_Equal_apiDfItem_l1 s11 s22 fu (IntKind.i64.wrap (v14 + 1))
  else
   some (.inl ())
def slices_Equal_apiDfItem (fu : Nat) (s11 : List TApiDfItem) (s22 : List TApiDfItem) : Option (Bool) :=
 if (!(decide ((s11.length : Int) = (s22.length : Int)))) then
  some false
 else
  (slices_Equal_apiDfItem_l1 s11 s22 fu 0).bind fun x13 => match x13 with
  | .inl o19 =>
   some true
  | .inr y =>
   some y
def script_same (fu : Nat) (a1 : TApiOpAnswer) (b2 : TApiOpAnswer) : Option (Bool) :=
 (if (decide (a1.E = b2.E)) then some (a1.Key == b2.Key) else some false).bind fun b3 =>
 (if b3 then some (a1.Val == b2.Val) else some false).bind fun b4 =>
 (if b4 then some (decide (a1.N = b2.N)) else some false).bind fun b5 =>
 (if b5 then some (TApiHandle.eqb a1.Handle b2.Handle) else some false).bind fun b6 =>
 (if b6 then (slices_Equal_apiDfItem fu a1.Items b2.Items).bind fun vr7 => some vr7 else some false).bind fun b8 =>
 (if b8 then some (TApiStStats.eqb a1.Stats b2.Stats) else some false).bind fun b9 =>
 some b9
def script_first_apiOpAnswer_l1 (a1 : List TApiOpAnswer) (b2 : List TApiOpAnswer) : Nat → Int → Option (Sum (Unit) (Int))
 | 0, _ => none
 | fu + 1, v15 =>
  if (decide (v15 < (a1.length : Int))) then
   (ix a1 v15).bind fun e17 =>
   (ix b2 v15).bind fun e18 =>
   (script_same fu e17 e18).bind fun vr19 =>
   if (!vr19) then
    some (.inr v15)
   else
    script_first_apiOpAnswer_l1 a1 b2 fu (IntKind.i64.wrap (v15 + 1))
  else
   some (.inl ())
def script_first_apiOpAnswer (fu : Nat) (a1 : List TApiOpAnswer) (b2 : List TApiOpAnswer) : Option (Int) :=
 (script_first_apiOpAnswer_l1 a1 b2 fu 0).bind fun x14 => match x14 with
 | .inl o21 =>
  some (-1)
 | .inr y =>
  some y
def script_Differ (fu : Nat) (a1 : List TApiOpAnswer) (b2 : List TApiOpAnswer) : Option (Int × Int) :=
 if (!(decide ((a1.length : Int) = (b2.length : Int)))) then
  some (0, 6)
 else
  (script_first_apiOpAnswer fu a1 b2).bind fun vr4 =>
  if (decide (vr4 < 0)) then
   some (0, 4)
  else
   some (vr4, 0)
def bookendref04_SameItems_l1 (a1 : List TApiDfItem) (b2 : List TApiDfItem) : Nat → Int → Option (Sum (Unit) (Bool))
 | 0, _ => none
 | fu + 1, i14 =>
  if (decide (i14 < (a1.length : Int))) then
   (ix a1 i14).bind fun e16 =>
   (ix b2 i14).bind fun e17 =>
   if (!(TApiDfItem.eqb e16 e17)) then
    some (.inr false)
   else
    bookendref04_SameItems_l1 a1 b2 fu (IntKind.i64.wrap (i14 + 1))
  else
   some (.inl ())
def bookendref04_SameItems (fu : Nat) (a1 : List TApiDfItem) (b2 : List TApiDfItem) : Option (Bool) :=
 if (!(decide ((a1.length : Int) = (b2.length : Int)))) then
  some false
 else
  (bookendref04_SameItems_l1 a1 b2 fu 0).bind fun x13 => match x13 with
  | .inl o19 =>
   some true
  | .inr y =>
   some y
def bookendref04_SameAnswer (fu : Nat) (a1 : TApiOpAnswer) (b2 : TApiOpAnswer) : Option (Bool) :=
 (if (decide (a1.E = b2.E)) then some (a1.Key == b2.Key) else some false).bind fun b3 =>
 (if b3 then some (a1.Val == b2.Val) else some false).bind fun b4 =>
 (if b4 then some (decide (a1.N = b2.N)) else some false).bind fun b5 =>
 (if b5 then some (TApiHandle.eqb a1.Handle b2.Handle) else some false).bind fun b6 =>
 (if b6 then (bookendref04_SameItems fu a1.Items b2.Items).bind fun vr7 => some vr7 else some false).bind fun b8 =>
 (if b8 then some (TApiStStats.eqb a1.Stats b2.Stats) else some false).bind fun b9 =>
 some b9
def bookendref32_Differ_l1 (a1 : List TApiOpAnswer) (b2 : List TApiOpAnswer) : Nat → Int → Option (Sum (Unit) (Int × Int))
 | 0, _ => none
 | fu + 1, i16 =>
  if (decide (i16 < (a1.length : Int))) then
   (ix a1 i16).bind fun e18 =>
   (ix b2 i16).bind fun e19 =>
   (bookendref04_SameAnswer fu e18 e19).bind fun vr20 =>
   if (!vr20) then
    some (.inr (i16, 0))
   else
    bookendref32_Differ_l1 a1 b2 fu (IntKind.i64.wrap (i16 + 1))
  else
   some (.inl ())
def bookendref32_Differ (fu : Nat) (a1 : List TApiOpAnswer) (b2 : List TApiOpAnswer) : Option (Int × Int) :=
 if (!(decide ((a1.length : Int) = (b2.length : Int)))) then
  some (0, 6)
 else
  (bookendref32_Differ_l1 a1 b2 fu 0).bind fun x15 => match x15 with
  | .inl o22 =>
   some (0, 4)
  | .inr y =>
   some y
def script_Busy_l1 (a1 : List TApiOpAnswer) : Nat → Int → Int → Option (Int)
 | 0, _, _ => none
 | fu + 1, n11, v12 =>
  if (decide (v12 < (a1.length : Int))) then
   (ix a1 v12).bind fun e14 =>
   if (decide (e14.E = 10)) then
    script_Busy_l1 a1 fu (IntKind.i64.wrap (n11 + 1)) (IntKind.i64.wrap (v12 + 1))
   else
    script_Busy_l1 a1 fu n11 (IntKind.i64.wrap (v12 + 1))
  else
   some n11
def script_Busy (fu : Nat) (a1 : List TApiOpAnswer) : Option (Int) :=
 (script_Busy_l1 a1 fu 0 0).bind fun x10 =>
 some x10
def bookendref32_Busy_l1 (a1 : List TApiOpAnswer) : Nat → Int → Int → Option (Int)
 | 0, _, _ => none
 | fu + 1, n11, i12 =>
  if (decide (i12 < (a1.length : Int))) then
   (ix a1 i12).bind fun e14 =>
   if (decide (e14.E = 10)) then
    bookendref32_Busy_l1 a1 fu (IntKind.i64.wrap (n11 + 1)) (IntKind.i64.wrap (i12 + 1))
   else
    bookendref32_Busy_l1 a1 fu n11 (IntKind.i64.wrap (i12 + 1))
  else
   some n11
def bookendref32_Busy (fu : Nat) (a1 : List TApiOpAnswer) : Option (Int) :=
 (bookendref32_Busy_l1 a1 fu 0 0).bind fun x10 =>
 some x10
def slices_Clone_apiOpAnswer_2 (fu : Nat) (vs1 : List TApiOpAnswer) : Option (List TApiOpAnswer) :=
 if vs1.isEmpty then
  some []
 else
  if 2 * ((0 + vs1.length) * 224) ≤ 281474976710656 then
   some vs1
  else none
def script_Plain_l1 (vr2 : List TApiOpAnswer) : Nat → Int → List TApiOpAnswer → Option (List TApiOpAnswer)
 | 0, _, _ => none
 | fu + 1, v11, out12 =>
  if (decide (v11 < (vr2.length : Int))) then
   (ix out12 v11).bind fun e15 =>
   script_Plain_l1 vr2 fu (IntKind.i64.wrap (v11 + 1)) (out12.set v11.toNat (TApiOpAnswer.mk e15.E e15.Key e15.Val e15.N e15.Handle e15.Items (TApiStStats.mk 0 0 0 0 0 0 0 0 0 0 0 0 0 0 0 0 0)))
  else
   some out12
def script_Plain (fu : Nat) (a1 : List TApiOpAnswer) : Option (List TApiOpAnswer) :=
 (slices_Clone_apiOpAnswer_2 fu a1).bind fun vr2 =>
 (script_Plain_l1 vr2 fu 0 vr2).bind fun x10 =>
 some x10
def bookendref32_Plain_l1 : Nat → Int → List TApiOpAnswer → Option (List TApiOpAnswer)
 | 0, _, _ => none
 | fu + 1, i11, out12 =>
  if (decide (i11 < (out12.length : Int))) then
   (ix out12 i11).bind fun e15 =>
   bookendref32_Plain_l1 fu (IntKind.i64.wrap (i11 + 1)) (out12.set i11.toNat (TApiOpAnswer.mk e15.E e15.Key e15.Val e15.N e15.Handle e15.Items (TApiStStats.mk 0 0 0 0 0 0 0 0 0 0 0 0 0 0 0 0 0)))
  else
   some out12
def bookendref32_Plain (fu : Nat) (a1 : List TApiOpAnswer) : Option (List TApiOpAnswer) :=
 if 2 * ((0 + a1.length) * 224) ≤ 281474976710656 then
  (bookendref32_Plain_l1 fu 0 a1).bind fun x10 =>
  some x10
 else none
def bookendref32_Same (fu : Nat) (a1 : List TApiOpAnswer) (b2 : List TApiOpAnswer) : Option (Bool) :=
 (bookendref32_Differ fu a1 b2).bind fun vr3 =>
 some (decide (vr3.2 = 4))
def bookendlaw32_ScriptAnswers (fu : Nat) (a1 : List TApiOpAnswer) (b2 : List TApiOpAnswer) : Option (Bool) :=
 (bookendlaw32_farAnswers fu a1).bind fun vr3 =>
 (if vr3 then some true else (bookendlaw32_farAnswers fu b2).bind fun vr4 => some vr4).bind fun b5 =>
 if b5 then
  (bookendlaw32_shown fu).bind fun vr8 =>
  some vr8
 else
  (script_Differ fu a1 b2).bind fun vr9 =>
  (bookendref32_Differ fu a1 b2).bind fun vr10 =>
  (if (decide (vr9.1 = vr10.1)) then some (decide (vr9.2 = vr10.2)) else some false).bind fun b11 =>
  (if b11 then (script_Busy fu a1).bind fun vr12 => (bookendref32_Busy fu a1).bind fun vr13 => some (decide (vr12 = vr13)) else some false).bind fun b14 =>
  (if b14 then (script_Plain fu a1).bind fun vr15 => (bookendref32_Plain fu a1).bind fun vr16 => (bookendref32_Same fu vr15 vr16).bind fun vr17 => some vr17 else some false).bind fun b18 =>
  (if b18 then (bookendlaw32_shown fu).bind fun vr19 => some vr19 else some false).bind fun b20 =>
  some b20
end Go.T
