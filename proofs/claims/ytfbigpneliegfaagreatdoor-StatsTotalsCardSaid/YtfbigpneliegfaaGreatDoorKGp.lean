/- A text of the proof. -/
import Derived.Test.YtfbigpneliegfaaGreatDoorKAmZb
namespace Go.T
open Go Go.AM
set_option linter.unusedVariables false
structure TApiStLevel where
 Runs : Int
 Entries : Int
 Dead : Int
 Job : Bool
 Left : Int
 deriving DecidableEq
def TApiStLevel.eqb (x y : TApiStLevel) : Bool := ((x.Runs == y.Runs) && ((x.Entries == y.Entries) && ((x.Dead == y.Dead) && ((x.Job == y.Job) && ((x.Left == y.Left) && true)))))
def bookendlaw31_shown (fu : Nat) : Option (Bool) :=
 some true
def stats_sum_l1 (l1 : List Int) : Nat → Int → Int → Option (Int)
 | 0, _, _ => none
 | fu + 1, n9, v10 =>
  if (decide (v10 < (l1.length : Int))) then
   (ix l1 v10).bind fun e12 =>
   stats_sum_l1 l1 fu (IntKind.i64.wrap (n9 + e12)) (IntKind.i64.wrap (v10 + 1))
  else
   some n9
def stats_sum (fu : Nat) (l1 : List Int) : Option (Int) :=
 (stats_sum_l1 l1 fu 0 0).bind fun x8 =>
 some x8
def stats_Total_l4 (e67 : TApiStLevel) : Nat → Int → Option (Sum (Unit) (TApiStLevel × Int))
 | 0, _ => none
 | fu + 1, v79 =>
  if (decide (v79 < 4)) then
   (ix [e67.Runs, e67.Entries, e67.Dead, e67.Left] v79).bind fun e81 =>
   (if (decide (e81 < 0)) then some true else some (decide (1000000 < e81))).bind fun b82 =>
   if b82 then
    some (.inr ((TApiStLevel.mk 0 0 0 false 0), 7))
   else
    stats_Total_l4 e67 fu (IntKind.i64.wrap (v79 + 1))
  else
   some (.inl ())
def stats_Total_l3 (l1 : List TApiStLevel) : Nat → Int → Int → Int → Int → Bool → Int → Option (Sum (Int × Int × Int × Bool × Int) (TApiStLevel × Int))
 | 0, _, _, _, _, _, _ => none
 | fu + 1, v60, t61, t62, t63, t64, t65 =>
  if (decide (v60 < (l1.length : Int))) then
   (ix l1 v60).bind fun e67 =>
   (stats_Total_l4 e67 fu 0).bind fun x78 => match x78 with
   | .inl o85 =>
    (stats_sum fu [t61, e67.Runs]).bind fun vr86 =>
    (stats_sum fu [t62, e67.Entries]).bind fun vr87 =>
    (stats_sum fu [t63, e67.Dead]).bind fun vr88 =>
    (stats_sum fu [t65, e67.Left]).bind fun vr89 =>
    (if t64 then some true else some e67.Job).bind fun b90 =>
    stats_Total_l3 l1 fu (IntKind.i64.wrap (v60 + 1)) vr86 vr87 vr88 b90 vr89
   | .inr y =>
    some (.inr y)
  else
   some (.inl (t61, t62, t63, t64, t65))
def stats_Total (fu : Nat) (l1 : List TApiStLevel) : Option (TApiStLevel × Int) :=
 if (decide (12 < (l1.length : Int))) then
  some ((TApiStLevel.mk 0 0 0 false 0), 3)
 else
  (stats_Total_l3 l1 fu 0 0 0 0 false 0).bind fun x59 => match x59 with
  | .inl o92 =>
   some ((TApiStLevel.mk o92.1 o92.2.1 o92.2.2.1 o92.2.2.2.1 o92.2.2.2.2), 0)
  | .inr y =>
   some y
def bookendref31_inside (fu : Nat) (n1 : Int) : Option (Bool) :=
 (if (decide (0 ≤ n1)) then some (decide (n1 ≤ 1000000)) else some false).bind fun b2 =>
 some b2
def bookendref31_Total_l1 (l1 : List TApiStLevel) : Nat → Int → Int → Int → Int → Bool → Int → Option (Sum (Int × Int × Int × Bool × Int) (TApiStLevel × Int))
 | 0, _, _, _, _, _, _ => none
 | fu + 1, i44, t45, t46, t47, t48, t49 =>
  if (decide (i44 < (l1.length : Int))) then
   (ix l1 i44).bind fun e51 =>
   (bookendref31_inside fu e51.Runs).bind fun vr52 =>
   (if (!vr52) then some true else (bookendref31_inside fu e51.Entries).bind fun vr53 => some (!vr53)).bind fun b54 =>
   (if b54 then some true else (bookendref31_inside fu e51.Dead).bind fun vr55 => some (!vr55)).bind fun b56 =>
   (if b56 then some true else (bookendref31_inside fu e51.Left).bind fun vr57 => some (!vr57)).bind fun b58 =>
   if b58 then
    some (.inr ((TApiStLevel.mk 0 0 0 false 0), 7))
   else
    (if t48 then some true else some e51.Job).bind fun b66 =>
    bookendref31_Total_l1 l1 fu (IntKind.i64.wrap (i44 + 1)) (IntKind.i64.wrap (t45 + e51.Runs)) (IntKind.i64.wrap (t46 + e51.Entries)) (IntKind.i64.wrap (t47 + e51.Dead)) b66 (IntKind.i64.wrap (t49 + e51.Left))
  else
   some (.inl (t45, t46, t47, t48, t49))
def bookendref31_Total (fu : Nat) (l1 : List TApiStLevel) : Option (TApiStLevel × Int) :=
 if (decide (12 < (l1.length : Int))) then
  some ((TApiStLevel.mk 0 0 0 false 0), 3)
 else
  (bookendref31_Total_l1 l1 fu 0 0 0 0 false 0).bind fun x43 => match x43 with
  | .inl o68 =>
   some ((TApiStLevel.mk o68.1 o68.2.1 o68.2.2.1 o68.2.2.2.1 o68.2.2.2.2), 0)
  | .inr y =>
   some y
def bookendlaw31_StatsTotals (fu : Nat) (l1 : List TApiStLevel) : Option (Bool) :=
 if (decide (20 < (l1.length : Int))) then
  (bookendlaw31_shown fu).bind fun vr3 =>
  some vr3
 else
  (stats_Total fu l1).bind fun vr4 =>
  (bookendref31_Total fu l1).bind fun vr5 =>
  (if (TApiStLevel.eqb vr4.1 vr5.1) then some (decide (vr4.2 = vr5.2)) else some false).bind fun b6 =>
  (if b6 then (bookendlaw31_shown fu).bind fun vr7 => some vr7 else some false).bind fun b8 =>
  some b8
end Go.T
