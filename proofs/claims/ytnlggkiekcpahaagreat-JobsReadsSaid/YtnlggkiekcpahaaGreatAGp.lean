/- A text of the proof. -/
import Derived.Test.YtnlggkiekcpahaaGreatAAmZj
namespace Go.T
open Go Go.AM
set_option linter.unusedVariables false
structure aA where
 Key : List UInt8
 Val : List UInt8
 Dead : Bool
 Seq : Int
 deriving DecidableEq
structure gB where
 Id : Int
 Entries : List aA
 deriving DecidableEq
structure qA where
 Runs : List gB
 deriving DecidableEq
structure eB where
 B : Int
 Levels : List qA
 deriving DecidableEq
structure eA where
 Key : List UInt8
 Done : Bool
 deriving DecidableEq
structure fB where
 Keys : List eA
 Lose : List Int
 Win : Int
 deriving DecidableEq
structure iB where
 Runs : List (List aA)
 At : List Int
 Tree : fB
 deriving DecidableEq
structure lB where
 Some : Bool
 Last : List UInt8
 Bottom : Bool
 deriving DecidableEq
structure mB where
 Merge : iB
 Shadow : lB
 Out : List aA
 Steps : Int
 deriving DecidableEq
structure bB where
 Level : Int
 Work : mB
 deriving DecidableEq
structure cB where
 Levels : eB
 Jobs : List bB
 NextId : Int
 deriving DecidableEq
structure eG where
 Key : List UInt8
 Val : List UInt8
 Dead : Bool
 Seq : Int
 deriving DecidableEq
structure gG where
 Key : List UInt8
 Val : List UInt8
 Dead : Bool
 Seq : Int
 deriving DecidableEq
structure uE where
 Key : List UInt8
 Val : List UInt8
 Dead : Bool
 Seq : Int
 deriving DecidableEq
def eA.eqb (x y : eA) : Bool:=((x.Key == y.Key) && ((x.Done == y.Done) && true))
def lB.eqb (x y : lB) : Bool:=((x.Some == y.Some) && ((x.Last == y.Last) && ((x.Bottom == y.Bottom) && true)))
def aA.eqb (x y : aA) : Bool:=((x.Key == y.Key) && ((x.Val == y.Val) && ((x.Dead == y.Dead) && ((x.Seq == y.Seq) && true))))
def vJ (l1 : List aA) : Nat → Int → Option (Sum (Unit) (Bool))
 | 0,_=>none
 | fu + 1,i18 =>
  (if (decide (i18 < (l1.length : Int))) then some (decide (i18 < 80)) else some false).bind fun b19 =>
  if b19 then
   (ix l1 i18).bind fun e22 =>
   (if (decide (100 < (e22.Key.length : Int))) then some true else some (decide (100 < (e22.Val.length : Int)))).bind fun b23 =>
   if b23 then
    some (.inr true)
   else
    vJ l1 fu (IntKind.i64.wrap (i18 + 1))
  else
   some (.inl ())
def mU (fu : Nat) (l1 : List aA) : Option (Bool) :=
 (vJ l1 fu 0).bind fun x17=>match x17 with
 | .inl o26 =>
  some (decide (70 < (l1.length : Int)))
 | .inr y =>
  some y
def nK (l1 : List aA) : Nat → Int → Option (Sum (Unit) (Bool))
 | 0,_=>none
 | fu + 1,i18 =>
  (if (decide (i18 < (l1.length : Int))) then some (decide (i18 < 40)) else some false).bind fun b19 =>
  if b19 then
   (ix l1 i18).bind fun e22 =>
   (if (decide (100 < (e22.Key.length : Int))) then some true else some (decide (100 < (e22.Val.length : Int)))).bind fun b23 =>
   if b23 then
    some (.inr true)
   else
    nK l1 fu (IntKind.i64.wrap (i18 + 1))
  else
   some (.inl ())
def nX (fu : Nat) (l1 : List aA) : Option (Bool) :=
 (nK l1 fu 0).bind fun x17=>match x17 with
 | .inl o26 =>
  some (decide (30 < (l1.length : Int)))
 | .inr y =>
  some y
def tK (l1 : List gB) : Nat → Int → Option (Sum (Unit) (Bool))
 | 0,_=>none
 | fu + 1,i16 =>
  (if (decide (i16 < (l1.length : Int))) then some (decide (i16 < 10)) else some false).bind fun b17 =>
  if b17 then
   (ix l1 i16).bind fun e20 =>
   (nX fu e20.Entries).bind fun vr21 =>
   if vr21 then
    some (.inr true)
   else
    tK l1 fu (IntKind.i64.wrap (i16 + 1))
  else
   some (.inl ())
def kX (fu : Nat) (l1 : List gB) : Option (Bool) :=
 (tK l1 fu 0).bind fun x15=>match x15 with
 | .inl o23 =>
  some (decide (6 < (l1.length : Int)))
 | .inr y =>
  some y
def zK (l1 : eB) : Nat → Int → Option (Sum (Unit) (Bool))
 | 0,_=>none
 | fu + 1,i16 =>
  (if (decide (i16 < (l1.Levels.length : Int))) then some (decide (i16 < 20)) else some false).bind fun b17 =>
  if b17 then
   (ix l1.Levels i16).bind fun e20 =>
   (kX fu e20.Runs).bind fun vr21 =>
   if vr21 then
    some (.inr true)
   else
    zK l1 fu (IntKind.i64.wrap (i16 + 1))
  else
   some (.inl ())
def cU (fu : Nat) (l1 : eB) : Option (Bool) :=
 (zK l1 fu 0).bind fun x15=>match x15 with
 | .inl o23 =>
  some (decide (14 < (l1.Levels.length : Int)))
 | .inr y =>
  some y
def mK (e104 : bB) : Nat → Int → Option (Sum (Unit) (Bool))
 | 0,_=>none
 | fu + 1,k119 =>
  (if (decide (k119 < (e104.Work.Merge.Runs.length : Int))) then some (decide (k119 < 10)) else some false).bind fun b120 =>
  if b120 then
   (ix e104.Work.Merge.Runs k119).bind fun e123 =>
   (mU fu e123).bind fun vr124 =>
   if vr124 then
    some (.inr true)
   else
    mK e104 fu (IntKind.i64.wrap (k119 + 1))
  else
   some (.inl ())
def nJ (vs1 : cB) : Nat → Int → Option (Sum (Unit) (Bool))
 | 0,_=>none
 | fu + 1,i100 =>
  (if (decide (i100 < (vs1.Jobs.length : Int))) then some (decide (i100 < 20)) else some false).bind fun b101 =>
  if b101 then
   (ix vs1.Jobs i100).bind fun e104 =>
   (mK e104 fu 0).bind fun x118=>match x118 with
   | .inl o126 =>
    (mU fu e104.Work.Out).bind fun vr127 =>
    (if vr127 then some true else some (decide (6 < (e104.Work.Merge.Runs.length : Int)))).bind fun b128 =>
    (if b128 then some true else some (decide (40 < (e104.Work.Merge.At.length : Int)))).bind fun b129 =>
    (if b129 then some true else some (decide (40 < (e104.Work.Merge.Tree.Keys.length : Int)))).bind fun b130 =>
    (if b130 then some true else some (decide (40 < (e104.Work.Merge.Tree.Lose.length : Int)))).bind fun b131 =>
    (if b131 then some true else some (decide (200 < (e104.Work.Shadow.Last.length : Int)))).bind fun b132 =>
    if b132 then
     some (.inr true)
    else
     nJ vs1 fu (IntKind.i64.wrap (i100 + 1))
   | .inr y =>
    some (.inr y)
  else
   some (.inl ())
def pW (fu : Nat) (vs1 : cB) : Option (Bool) :=
 (nJ vs1 fu 0).bind fun x99=>match x99 with
 | .inl o149 =>
  (if (decide (14 < (vs1.Jobs.length : Int))) then some true else (cU fu vs1.Levels).bind fun vr150=>some vr150).bind fun b151 =>
  some b151
 | .inr y =>
  some y
def gL (keys3 : List UInt8) (dead2 : Bool) (id1 : Int) : Nat → Int → List aA → Option (List aA)
 | 0,_,_=>none
 | fu + 1,i15,v16 =>
  if (decide (i15 < (keys3.length : Int))) then
   if 0 ≤ i15 ∧ i15 ≤ (IntKind.i64.wrap (i15 + 1)) ∧ (IntKind.i64.wrap (i15 + 1)) ≤ (keys3.length : Int) then
    if 2 * ((v16.length + 1) * 48) ≤ 281474976710656 then
     gL keys3 dead2 id1 fu (IntKind.i64.wrap (i15 + 1)) (v16++[(aA.mk ((keys3.drop i15.toNat).take ((IntKind.i64.wrap (i15 + 1)).toNat - i15.toNat)) [] dead2 (IntKind.i64.wrap ((IntKind.i64.wrap ((IntKind.i64.wrap (10 * id1)) + i15)) + 1)))])
    else none
   else none
  else
   some v16
def zS (fu : Nat) (id1 : Int) (dead2 : Bool) (keys3 : List UInt8) : Option (gB) :=
 (gL keys3 dead2 id1 fu 0 []).bind fun x14 =>
 some (gB.mk id1 x14)
def wT (fu : Nat) : Option (eB) :=
 (zS fu 1 false [97,98]).bind fun vr1 =>
 (zS fu 2 true [98]).bind fun vr2 =>
 some (eB.mk 2 [(qA.mk [vr1,vr2])])
def wM (fu : Nat) (k1 : List UInt8) : Option (Int) :=
 if (decide (32 < (k1.length : Int))) then
  some 3
 else
  some 0
def tO (fu : Nat) (vx1 : aA) : Option (Int) :=
 (wM fu vx1.Key).bind fun vr2 =>
 (if (!(decide (vr2 = 0))) then some true else some (decide (64 < (vx1.Val.length : Int)))).bind fun b3 =>
 if b3 then
  some 3
 else
  (if vx1.Dead then some (!(vx1.Val == [])) else some false).bind fun b6 =>
  if b6 then
   some 6
  else
   (if (decide (vx1.Seq < 1)) then some true else some (decide (1000000000 < vx1.Seq))).bind fun b9 =>
   if b9 then
    some 7
   else
    some 0
def oF (l1 : List aA) : Nat → Int → Option (Sum (Unit) (Int × Int))
 | 0,_=>none
 | fu + 1,v17 =>
  if (decide (v17 < (l1.length : Int))) then
   (ix l1 v17).bind fun e19 =>
   (tO fu e19).bind fun vr20 =>
   if (!(decide (vr20 = 0))) then
    some (.inr (v17,vr20))
   else
    (if (decide (0 < v17)) then (ix l1 (IntKind.i64.wrap (v17 - 1))).bind fun e22=>some (Op.bytesLess e19.Key e22.Key || e19.Key == e22.Key) else some false).bind fun b23 =>
    if b23 then
     some (.inr (v17,6))
    else
     oF l1 fu (IntKind.i64.wrap (v17 + 1))
  else
   some (.inl ())
def pJ (fu : Nat) (l1 : List aA) : Option (Int × Int) :=
 if (decide (5000 < (l1.length : Int))) then
  some ((-1),3)
 else
  (oF l1 fu 0).bind fun x16=>match x16 with
  | .inl o26 =>
   some (0,0)
  | .inr y =>
   some y
def oS (fu : Nat) (vr1 : gB) : Option (Int × Int) :=
 (if (decide (vr1.Id < 1)) then some true else some (decide (1000000 < vr1.Id))).bind fun b2 =>
 if b2 then
  some ((-1),7)
 else
  (pJ fu vr1.Entries).bind fun vr5 =>
  some (vr5.1,vr5.2)
def fR (fu : Nat) (vr1 : gB) (most2 : Int) : Option (Int) :=
 (oS fu vr1).bind fun vr3 =>
 if (!(decide (vr3.2 = 0))) then
  some vr3.2
 else
  if (decide ((vr1.Entries.length : Int) = 0)) then
   some 4
  else
   if (decide (most2 < (vr1.Entries.length : Int))) then
    some 3
   else
    some 0
def yF (e169 : qA) (v165 : Int) (l1 : eB) : Nat → Int → Int → (List (Int × Bool)) → Int → Option (Sum (Int × Int × (List (Int × Bool))) (Int × Int × (List (Int × Bool))))
 | 0,_,_,_,_=>none
 | fu + 1,e203,v204,v205,run206 =>
  if (decide (v204 < (e169.Runs.length : Int))) then
   (ix e169.Runs v204).bind fun e208 =>
   if 0 ≤ v165 then
    (fR fu e208 (IntKind.i64.wrap (l1.B * 2 ^ (min v165.toNat (IntKind.bits .i64))))).bind fun vr210 =>
    if (decide (vr210 = 0)) then
     if ((yE v205 e208.Id).getD false) then
      some (.inr (v204,8,v205))
     else
      if (!(decide (vr210 = 0))) then
       some (.inr (v204,vr210,v205))
      else
       yF e169 v165 l1 fu vr210 (IntKind.i64.wrap (v204 + 1)) (jF v205 e208.Id true) v204
    else
     if (!(decide (vr210 = 0))) then
      some (.inr (v204,vr210,v205))
     else
      yF e169 v165 l1 fu vr210 (IntKind.i64.wrap (v204 + 1)) (jF v205 e208.Id true) v204
   else none
  else
   some (.inl (run206,e203,v205))
def cG (l1 : eB) : Nat → Int → Int → Int → (List (Int × Bool)) → Int → Option (Int × Int × Int × (List (Int × Bool)))
 | 0,_,_,_,_,_=>none
 | fu + 1,run163,e164,v165,v166,level167 =>
  if (decide (v165 < (l1.Levels.length : Int))) then
   (ix l1.Levels v165).bind fun e169 =>
   if (decide (2 < (e169.Runs.length : Int))) then
    some (v165,0,3,v166)
   else
    (yF e169 v165 l1 fu e164 0 v166 0).bind fun x202=>match x202 with
    | .inl o215 =>
     cG l1 fu o215.1 o215.2.1 (IntKind.i64.wrap (v165 + 1)) o215.2.2 v165
    | .inr o216 =>
     some (v165,o216.1,o216.2.1,o216.2.2)
  else
   some (level167,run163,e164,v166)
def aK (fu : Nat) (l1 : eB) : Option (Int × Int × Int) :=
 (if (decide (l1.B < 1)) then some true else some (decide (16 < l1.B))).bind fun b2 =>
 if b2 then
  some (0,0,7)
 else
  if (decide (12 < (l1.Levels.length : Int))) then
   some (0,0,3)
  else
   (cG l1 fu 0 0 0 ([] : List (Int × Bool)) 0).bind fun x162 =>
   if (!(decide (x162.2.2.1 = 0))) then
    some (x162.1,x162.2.1,x162.2.2.1)
   else
    (if (decide (0 < (l1.Levels.length : Int))) then (ix l1.Levels (IntKind.i64.wrap ((l1.Levels.length : Int) - 1))).bind fun e218=>some (decide ((e218.Runs.length : Int) = 0)) else some false).bind fun b219 =>
    if b219 then
     some ((IntKind.i64.wrap ((l1.Levels.length : Int) - 1)),0,6)
    else
     some (0,0,0)
def mI (e34 : qA) : Nat → Int → Int → Option (Int)
 | 0,_,_=>none
 | fu + 1,best42,v43 =>
  if (decide (v43 < (e34.Runs.length : Int))) then
   (ix e34.Runs v43).bind fun e45 =>
   mI e34 fu (if best42 < e45.Id then e45.Id else best42) (IntKind.i64.wrap (v43 + 1))
  else
   some best42
def qI (l1 : eB) : Nat → Int → Int → Option (Int)
 | 0,_,_=>none
 | fu + 1,best31,v32 =>
  if (decide (v32 < (l1.Levels.length : Int))) then
   (ix l1.Levels v32).bind fun e34 =>
   (mI e34 fu best31 0).bind fun x41 =>
   qI l1 fu x41 (IntKind.i64.wrap (v32 + 1))
  else
   some best31
def fO (fu : Nat) (l1 : eB) : Option (Int) :=
 (qI l1 fu 0 0).bind fun x30 =>
 some x30
def lO (fu : Nat) (l1 : eB) : Option (Int × List qA) :=
 some (l1.B,l1.Levels)
def mL (fu : Nat) (l1 : eB) (level2 : Int) : Option (Bool) :=
 some (decide (level2 = (IntKind.i64.wrap ((l1.Levels.length : Int) - 1))))
def nF (runs1 : List (List aA)) : Nat → Int → Option (Sum (Unit) (Int × Int))
 | 0,_=>none
 | fu + 1,v14 =>
  if (decide (v14 < (runs1.length : Int))) then
   (ix runs1 v14).bind fun e16 =>
   (pJ fu e16).bind fun vr17 =>
   if (!(decide (vr17.2 = 0))) then
    some (.inr (v14,vr17.2))
   else
    nF runs1 fu (IntKind.i64.wrap (v14 + 1))
  else
   some (.inl ())
def yJ (fu : Nat) (runs1 : List (List aA)) : Option (Int × Int) :=
 if (decide ((runs1.length : Int) = 0)) then
  some ((-1),6)
 else
  if (decide (32 < (runs1.length : Int))) then
   some ((-1),3)
  else
   (nF runs1 fu 0).bind fun x13=>match x13 with
   | .inl o19 =>
    some (0,0)
   | .inr y =>
    some y
def nL (fu : Nat) (vs1 : List (List aA)) : Option (List (List aA)) :=
 if vs1.isEmpty then
  some []
 else
  if 2 * ((0 + vs1.length) * 24) ≤ 281474976710656 then
   some vs1
  else none
def lK (fu : Nat) (l1 : List aA) (vat2 : Int) : Option (eA) :=
 if (decide (vat2 = (l1.length : Int))) then
  some (eA.mk [] true)
 else
  (ix l1 vat2).bind fun e4 =>
  some (eA.mk e4.Key false)
def wS (fu : Nat) (k1 : eA) : Option (Bool) :=
 (if k1.Done then some (!(k1.Key == [])) else some false).bind fun b2 =>
 some b2
def pI (vs1 : List eA) : Nat → Int → Option (Sum (Unit) (Int))
 | 0,_=>none
 | fu + 1,v12 =>
  if (decide (v12 < (vs1.length : Int))) then
   (ix vs1 v12).bind fun e14 =>
   (wS fu e14).bind fun vr15 =>
   if vr15 then
    some (.inr v12)
   else
    pI vs1 fu (IntKind.i64.wrap (v12 + 1))
  else
   some (.inl ())
def gS (fu : Nat) (vs1 : List eA) : Option (Int) :=
 (pI vs1 fu 0).bind fun x11=>match x11 with
 | .inl o17 =>
  some (-1)
 | .inr y =>
  some y
def uS (fu : Nat) (vs1 : List eA) : Option (Bool) :=
 (gS fu vs1).bind fun vr2 =>
 some (decide (0 ≤ vr2))
def eM (fu : Nat) (keys1 : List eA) : Option (Int) :=
 if (decide ((keys1.length : Int) = 0)) then
  some 6
 else
  if (decide (32 < (keys1.length : Int))) then
   some 3
  else
   (uS fu keys1).bind fun vr4 =>
   if vr4 then
    some 2
   else
    some 0
def fN (fu : Nat) (keys1 : List eA) : Option (List eA) :=
 some keys1
def nT (fu : Nat) (vs1 : List eA) : Option (List eA) :=
 if vs1.isEmpty then
  some []
 else
  if 2 * ((0 + vs1.length) * 24) ≤ 281474976710656 then
   some vs1
  else none
def eN (fu : Nat) (p1 : Int) (q2 : Int) (p3 : List eA) : Option (Bool) :=
 (ix p3 p1).bind fun e4 =>
 (ix p3 q2).bind fun e5 =>
 if (!(e4.Done == e5.Done)) then
  some e5.Done
 else
  if (!(e4.Key == e5.Key)) then
   some (Op.bytesLess e4.Key e5.Key)
  else
   some (decide (p1 < q2))
def iH (keys1 : List eA) (vr2 : List eA) : Nat → Int → List Int → List Int → Option (List Int × List Int)
 | 0,_,_,_=>none
 | fu + 1,i34,players35,v36 =>
  if (decide (0 < i34)) then
   if (decide ((keys1.length : Int) ≤ i34)) then
    (ix players35 i34).bind fun e41 =>
    iH keys1 vr2 fu (IntKind.i64.wrap (i34 - 1)) (players35.set i34.toNat (IntKind.i64.wrap (i34 - (keys1.length : Int)))) v36
   else
    (ix players35 (IntKind.i64.wrap (2 * i34))).bind fun e42 =>
    (ix players35 (IntKind.i64.wrap ((IntKind.i64.wrap (2 * i34)) + 1))).bind fun e43 =>
    (eN fu e42 e43 vr2).bind fun vr44 =>
    if (!vr44) then
     (ix players35 i34).bind fun e46 =>
     (ix v36 i34).bind fun e47 =>
     iH keys1 vr2 fu (IntKind.i64.wrap (i34 - 1)) (players35.set i34.toNat e43) (v36.set i34.toNat e42)
    else
     (ix players35 i34).bind fun e48 =>
     (ix v36 i34).bind fun e49 =>
     iH keys1 vr2 fu (IntKind.i64.wrap (i34 - 1)) (players35.set i34.toNat e42) (v36.set i34.toNat e43)
  else
   some (players35,v36)
def wP (fu : Nat) (keys1 : List eA) : Option (fB) :=
 (fN fu keys1).bind fun vr2 =>
 if 0 ≤ (IntKind.i64.wrap (2 * (keys1.length : Int))) ∧ (IntKind.i64.wrap (2 * (keys1.length : Int))) ≤ (IntKind.i64.wrap (2 * (keys1.length : Int))) ∧ (IntKind.i64.wrap (2 * (keys1.length : Int))) ≤ 9223372036854775807 ∧ 8 * (IntKind.i64.wrap (2 * (keys1.length : Int))) ≤ 281474976710656 then
  (nT fu keys1).bind fun vr4 =>
  if 0 ≤ (keys1.length : Int) ∧ (keys1.length : Int) ≤ (keys1.length : Int) ∧ (keys1.length : Int) ≤ 9223372036854775807 ∧ 8 * (keys1.length : Int) ≤ 281474976710656 then
   (iH keys1 vr2 fu (IntKind.i64.wrap ((IntKind.i64.wrap (2 * (keys1.length : Int))) - 1)) (List.replicate (IntKind.i64.wrap (2 * (keys1.length : Int))).toNat 0 : List Int) (List.replicate keys1.length 0 : List Int)).bind fun x33 =>
   (ix x33.1 1).bind fun e52 =>
   some (fB.mk vr4 x33.2 e52)
  else none
 else none
def iQ (fu : Nat) (keys1 : List eA) : Option (fB × Int) :=
 (eM fu keys1).bind fun vr2 =>
 if (!(decide (vr2 = 0))) then
  some ((fB.mk [] [] 0),vr2)
 else
  (wP fu keys1).bind fun vr4 =>
  some (vr4,0)
def lI (runs1 : List (List aA)) (vat2 : List Int) : Nat → Int → List eA → Option (List eA)
 | 0,_,_=>none
 | fu + 1,v18,keys19 =>
  if (decide (v18 < (runs1.length : Int))) then
   (ix runs1 v18).bind fun e22 =>
   (ix vat2 v18).bind fun e23 =>
   (lK fu e22 e23).bind fun vr24 =>
   (ix keys19 v18).bind fun e25 =>
   lI runs1 vat2 fu (IntKind.i64.wrap (v18 + 1)) (keys19.set v18.toNat vr24)
  else
   some keys19
def jP (fu : Nat) (runs1 : List (List aA)) (vat2 : List Int) : Option (fB) :=
 if 0 ≤ (runs1.length : Int) ∧ (runs1.length : Int) ≤ (runs1.length : Int) ∧ (runs1.length : Int) ≤ 9223372036854775807 ∧ 24 * (runs1.length : Int) ≤ 281474976710656 then
  (lI runs1 vat2 fu 0 (List.replicate runs1.length (eA.mk [] false) : List eA)).bind fun x17 =>
  (iQ fu x17).bind fun vr27 =>
  some vr27.1
 else none
def cI (fu : Nat) (runs1 : List (List aA)) : Option (iB × Int × Int) :=
 (yJ fu runs1).bind fun vr2 =>
 if (!(decide (vr2.2 = 0))) then
  some ((iB.mk [] [] (fB.mk [] [] 0)),vr2.1,vr2.2)
 else
  if 0 ≤ (runs1.length : Int) ∧ (runs1.length : Int) ≤ (runs1.length : Int) ∧ (runs1.length : Int) ≤ 9223372036854775807 ∧ 8 * (runs1.length : Int) ≤ 281474976710656 then
   (nL fu runs1).bind fun vr5 =>
   (jP fu runs1 (List.replicate runs1.length 0 : List Int)).bind fun vr6 =>
   some ((iB.mk vr5 (List.replicate runs1.length 0 : List Int) vr6),0,0)
  else none
def sM (fu : Nat) (bottom1 : Bool) : Option (lB) :=
 some (lB.mk false [] bottom1)
def eQ (fu : Nat) (runs1 : List (List aA)) (bottom2 : Bool) : Option (mB × Int × Int) :=
 (cI fu runs1).bind fun vr3 =>
 if (!(decide (vr3.2.2 = 0))) then
  some ((mB.mk (iB.mk [] [] (fB.mk [] [] 0)) (lB.mk false [] false) [] 0),vr3.2.1,vr3.2.2)
 else
  (sM fu bottom2).bind fun vr5 =>
  some ((mB.mk vr3.1 vr5 [] 0),0,0)
def qP (fu : Nat) (l1 : eB) (level2 : Int) (bottom3 : Bool) : Option (bB) :=
 (ix l1.Levels level2).bind fun e4 =>
 (ix e4.Runs 1).bind fun e5 =>
 (ix e4.Runs 0).bind fun e6 =>
 (eQ fu [e5.Entries,e6.Entries] bottom3).bind fun vr7 =>
 some (bB.mk level2 vr7.1)
def oK (vr5 : Int × List qA) (l1 : eB) : Nat → Int → List bB → Option (List bB)
 | 0,_,_=>none
 | fu + 1,level27,v28 =>
  if (decide (level27 < (vr5.2.length : Int))) then
   (ix vr5.2 level27).bind fun e31 =>
   if (decide ((e31.Runs.length : Int) = 2)) then
    (mL fu l1 level27).bind fun vr33 =>
    (qP fu l1 level27 vr33).bind fun vr34 =>
    if 2 * ((v28.length + 1) * 176) ≤ 281474976710656 then
     oK vr5 l1 fu (IntKind.i64.wrap (level27 + 1)) (v28++[vr34])
    else none
   else
    oK vr5 l1 fu (IntKind.i64.wrap (level27 + 1)) v28
  else
   some v28
def zU (fu : Nat) (l1 : eB) : Option (cB × Int) :=
 (aK fu l1).bind fun vr2 =>
 if (!(decide (vr2.2.2 = 0))) then
  some ((cB.mk (eB.mk 0 []) [] 0),vr2.2.2)
 else
  (fO fu l1).bind fun vr4 =>
  (lO fu l1).bind fun vr5 =>
  (oK vr5 l1 fu 0 []).bind fun x26 =>
  some ((cB.mk l1 x26 (IntKind.i64.wrap (vr4 + 1))),0)
def nH (seq2 : List qA) : Nat → Int → List Int → Option (List Int)
 | 0,_,_=>none
 | fu + 1,v18,v19 =>
  if (decide (v18 < (seq2.length : Int))) then
   (ix seq2 v18).bind fun e22 =>
   if (decide ((e22.Runs.length : Int) = 2)) then
    if 2 * ((v19.length + 1) * 8) ≤ 281474976710656 then
     nH seq2 fu (IntKind.i64.wrap (v18 + 1)) (v19++[v18])
    else none
   else
    nH seq2 fu (IntKind.i64.wrap (v18 + 1)) v19
  else
   some v19
def qN (fu : Nat) (seq1 : Int) (seq2 : List qA) : Option (List Int) :=
 (nH seq2 fu 0 []).bind fun x17 =>
 some x17
def zI (s11 : List eA) (s22 : List eA) : Nat → Int → Option (Sum (Unit) (Bool))
 | 0,_=>none
 | fu + 1,v14 =>
  if (decide (v14 < (s11.length : Int))) then
   (ix s11 v14).bind fun e16 =>
   (ix s22 v14).bind fun e17 =>
   if (!(eA.eqb e16 e17)) then
    some (.inr false)
   else
    zI s11 s22 fu (IntKind.i64.wrap (v14 + 1))
  else
   some (.inl ())
def oL (fu : Nat) (s11 : List eA) (s22 : List eA) : Option (Bool) :=
 if (!(decide ((s11.length : Int) = (s22.length : Int)))) then
  some false
 else
  (zI s11 s22 fu 0).bind fun x13=>match x13 with
  | .inl o19 =>
   some true
  | .inr y =>
   some y
def aJ (s11 : List Int) (s22 : List Int) : Nat → Int → Option (Sum (Unit) (Bool))
 | 0,_=>none
 | fu + 1,v14 =>
  if (decide (v14 < (s11.length : Int))) then
   (ix s11 v14).bind fun e16 =>
   (ix s22 v14).bind fun e17 =>
   if (!(decide (e16 = e17))) then
    some (.inr false)
   else
    aJ s11 s22 fu (IntKind.i64.wrap (v14 + 1))
  else
   some (.inl ())
def qK (fu : Nat) (s11 : List Int) (s22 : List Int) : Option (Bool) :=
 if (!(decide ((s11.length : Int) = (s22.length : Int)))) then
  some false
 else
  (aJ s11 s22 fu 0).bind fun x13=>match x13 with
  | .inl o19 =>
   some true
  | .inr y =>
   some y
def wQ (fu : Nat) (a1 : fB) (b2 : fB) : Option (Bool) :=
 (if (decide (a1.Win = b2.Win)) then (oL fu a1.Keys b2.Keys).bind fun vr3=>some vr3 else some false).bind fun b4 =>
 (if b4 then (qK fu a1.Lose b2.Lose).bind fun vr5=>some vr5 else some false).bind fun b6 =>
 some b6
def iI (vr5 : fB) (t1 : fB) : Nat → Int → Option (Sum (Unit) (Int × Int))
 | 0,_=>none
 | fu + 1,v16 =>
  if (decide (v16 < (vr5.Lose.length : Int))) then
   (ix vr5.Lose v16).bind fun e18 =>
   (ix t1.Lose v16).bind fun e19 =>
   if (!(decide (e19 = e18))) then
    some (.inr (v16,6))
   else
    iI vr5 t1 fu (IntKind.i64.wrap (v16 + 1))
  else
   some (.inl ())
def sQ (fu : Nat) (t1 : fB) : Option (Int × Int) :=
 (eM fu t1.Keys).bind fun vr2 =>
 if (!(decide (vr2 = 0))) then
  some (0,vr2)
 else
  if (!(decide ((t1.Lose.length : Int) = (t1.Keys.length : Int)))) then
   some (0,6)
  else
   (wP fu t1.Keys).bind fun vr5 =>
   (iI vr5 t1 fu 0).bind fun x15=>match x15 with
   | .inl o21 =>
    if (!(decide (t1.Win = vr5.Win))) then
     some (0,6)
    else
     some (0,0)
   | .inr y =>
    some y
def aP (fu : Nat) (t1 : fB) : Option (Int) :=
 (sQ fu t1).bind fun vr2 =>
 if (!(decide (vr2.2 = 0))) then
  some vr2.2
 else
  (ix t1.Keys t1.Win).bind fun e4 =>
  if e4.Done then
   some 12
  else
   some 0
def wO (fu : Nat) (t1 : fB) : Option (Int × List UInt8 × Int) :=
 (aP fu t1).bind fun vr2 =>
 if (!(decide (vr2 = 0))) then
  some (0,[],vr2)
 else
  (ix t1.Keys t1.Win).bind fun e4 =>
  some (t1.Win,e4.Key,0)
def qQ (fu : Nat) (vx1 : List UInt8) : Option (Bool) :=
 some (!(vx1 == vx1))
def rM (fu : Nat) (vx1 : List UInt8) (y2 : List UInt8) : Option (Int) :=
 (qQ fu vx1).bind fun vr3 =>
 (qQ fu y2).bind fun vr4 =>
 if vr3 then
  if vr4 then
   some 0
  else
   some (-1)
 else
  if vr4 then
   some 1
  else
   if (Op.bytesLess vx1 y2) then
    some (-1)
   else
    if (!(Op.bytesLess vx1 y2 || vx1 == y2)) then
     some 1
    else
     some 0
def aR (fu : Nat) (vx1 : Int) : Option (Bool) :=
 some (!(decide (vx1 = vx1)))
def dN (fu : Nat) (vx1 : Int) (y2 : Int) : Option (Int) :=
 (aR fu vx1).bind fun vr3 =>
 (aR fu y2).bind fun vr4 =>
 if vr3 then
  if vr4 then
   some 0
  else
   some (-1)
 else
  if vr4 then
   some 1
  else
   if (decide (vx1 < y2)) then
    some (-1)
   else
    if (decide (y2 < vx1)) then
     some 1
    else
     some 0
def eI (vals1 : List Int) : Nat → Int → Option (Sum (Unit) (Int))
 | 0,_=>none
 | fu + 1,v10 =>
  if (decide (v10 < (vals1.length : Int))) then
   (ix vals1 v10).bind fun e12 =>
   if (!(decide (e12 = 0))) then
    some (.inr e12)
   else
    eI vals1 fu (IntKind.i64.wrap (v10 + 1))
  else
   some (.inl ())
def aO (fu : Nat) (vals1 : List Int) : Option (Int) :=
 (eI vals1 fu 0).bind fun x9=>match x9 with
 | .inl o14 =>
  some 0
 | .inr y =>
  some y
def cH (vs1 : iB) : Nat → Int → Option (Sum (Unit) (Int × Int))
 | 0,_=>none
 | fu + 1,v19 =>
  if (decide (v19 < (vs1.At.length : Int))) then
   (ix vs1.At v19).bind fun e21 =>
   (if (decide (e21 < 0)) then some true else (ix vs1.Runs v19).bind fun e22=>some (decide ((e22.length : Int) < e21))).bind fun b23 =>
   if b23 then
    some (.inr (v19,6))
   else
    cH vs1 fu (IntKind.i64.wrap (v19 + 1))
  else
   some (.inl ())
def uF (vs1 : iB) (vr30 : Int × List UInt8 × Int) : Nat → Int → Option (Sum (Unit) (Int × Int))
 | 0,_=>none
 | fu + 1,v54 =>
  if (decide (v54 < (vs1.At.length : Int))) then
   (ix vs1.At v54).bind fun e56 =>
   (if (decide (0 < e56)) then (ix vs1.Runs v54).bind fun e57=>(ix e57 (IntKind.i64.wrap (e56 - 1))).bind fun e58=>(rM fu e58.Key vr30.2.1).bind fun vr59=>(dN fu v54 vr30.1).bind fun vr60=>(aO fu [vr59,vr60]).bind fun vr61=>some (decide (0 < vr61)) else some false).bind fun b62 =>
   if b62 then
    some (.inr (vr30.1,6))
   else
    uF vs1 vr30 fu (IntKind.i64.wrap (v54 + 1))
  else
   some (.inl ())
def eH (fu : Nat) (vs1 : iB) : Option (Int × Int) :=
 (yJ fu vs1.Runs).bind fun vr2 =>
 if (!(decide (vr2.2 = 0))) then
  some (vr2.1,vr2.2)
 else
  if (!(decide ((vs1.At.length : Int) = (vs1.Runs.length : Int)))) then
   some ((-1),6)
  else
   (cH vs1 fu 0).bind fun x18=>match x18 with
   | .inl o26 =>
    (jP fu vs1.Runs vs1.At).bind fun vr27 =>
    (wQ fu vs1.Tree vr27).bind fun vr28 =>
    if (!vr28) then
     some ((-1),6)
    else
     (wO fu vs1.Tree).bind fun vr30 =>
     if (!(decide (vr30.2.2 = 0))) then
      some (0,0)
     else
      (uF vs1 vr30 fu 0).bind fun x53=>match x53 with
      | .inl o65 =>
       some (0,0)
      | .inr y =>
       some y
   | .inr y =>
    some y
def hM (fu : Nat) (vr1 : List (List aA)) (vr2 : List Int) (vr3 : List eA) (vr4 : List Int) (vr5 : Int) : Option (aA × Int × Int) :=
 (wO fu (fB.mk vr3 vr4 vr5)).bind fun vr6 =>
 if (!(decide (vr6.2.2 = 0))) then
  some ((aA.mk [] [] false 0),0,vr6.2.2)
 else
  (ix vr1 vr6.1).bind fun e8 =>
  (ix vr2 vr6.1).bind fun e9 =>
  (ix e8 e9).bind fun e10 =>
  some (e10,vr6.1,0)
def oQ (fu : Nat) (vs1 : List eA) : Option (List eA) :=
 if vs1.isEmpty then
  some []
 else
  if 2 * ((0 + vs1.length) * 24) ≤ 281474976710656 then
   some vs1
  else none
def eJ (keys1 : List eA) (vr2 : List eA) : Nat → Int → List Int → List Int → Option (List Int × List Int)
 | 0,_,_,_=>none
 | fu + 1,i34,players35,v36 =>
  if (decide (0 < i34)) then
   if (decide ((keys1.length : Int) ≤ i34)) then
    (ix players35 i34).bind fun e41 =>
    eJ keys1 vr2 fu (IntKind.i64.wrap (i34 - 1)) (players35.set i34.toNat (IntKind.i64.wrap (i34 - (keys1.length : Int)))) v36
   else
    (ix players35 (IntKind.i64.wrap (2 * i34))).bind fun e42 =>
    (ix players35 (IntKind.i64.wrap ((IntKind.i64.wrap (2 * i34)) + 1))).bind fun e43 =>
    (eN fu e42 e43 vr2).bind fun vr44 =>
    if (!vr44) then
     (ix players35 i34).bind fun e46 =>
     (ix v36 i34).bind fun e47 =>
     eJ keys1 vr2 fu (IntKind.i64.wrap (i34 - 1)) (players35.set i34.toNat e43) (v36.set i34.toNat e42)
    else
     (ix players35 i34).bind fun e48 =>
     (ix v36 i34).bind fun e49 =>
     eJ keys1 vr2 fu (IntKind.i64.wrap (i34 - 1)) (players35.set i34.toNat e42) (v36.set i34.toNat e43)
  else
   some (players35,v36)
def pU (fu : Nat) (keys1 : List eA) : Option (fB) :=
 (fN fu keys1).bind fun vr2 =>
 if 0 ≤ (IntKind.i64.wrap (2 * (keys1.length : Int))) ∧ (IntKind.i64.wrap (2 * (keys1.length : Int))) ≤ (IntKind.i64.wrap (2 * (keys1.length : Int))) ∧ (IntKind.i64.wrap (2 * (keys1.length : Int))) ≤ 9223372036854775807 ∧ 8 * (IntKind.i64.wrap (2 * (keys1.length : Int))) ≤ 281474976710656 then
  (oQ fu keys1).bind fun vr4 =>
  if 0 ≤ (keys1.length : Int) ∧ (keys1.length : Int) ≤ (keys1.length : Int) ∧ (keys1.length : Int) ≤ 9223372036854775807 ∧ 8 * (keys1.length : Int) ≤ 281474976710656 then
   (eJ keys1 vr2 fu (IntKind.i64.wrap ((IntKind.i64.wrap (2 * (keys1.length : Int))) - 1)) (List.replicate (IntKind.i64.wrap (2 * (keys1.length : Int))).toNat 0 : List Int) (List.replicate keys1.length 0 : List Int)).bind fun x33 =>
   (ix x33.1 1).bind fun e52 =>
   some (fB.mk vr4 x33.2 e52)
  else none
 else none
def gV (fu : Nat) (keys1 : List eA) : Option (fB × Int) :=
 (eM fu keys1).bind fun vr2 =>
 if (!(decide (vr2 = 0))) then
  some ((fB.mk [] [] 0),vr2)
 else
  (pU fu keys1).bind fun vr4 =>
  some (vr4,0)
def uK (runs1 : List (List aA)) (vat2 : List Int) : Nat → Int → List eA → Option (List eA)
 | 0,_,_=>none
 | fu + 1,v18,keys19 =>
  if (decide (v18 < (runs1.length : Int))) then
   (ix runs1 v18).bind fun e22 =>
   (ix vat2 v18).bind fun e23 =>
   (lK fu e22 e23).bind fun vr24 =>
   (ix keys19 v18).bind fun e25 =>
   uK runs1 vat2 fu (IntKind.i64.wrap (v18 + 1)) (keys19.set v18.toNat vr24)
  else
   some keys19
def eU (fu : Nat) (runs1 : List (List aA)) (vat2 : List Int) : Option (fB) :=
 if 0 ≤ (runs1.length : Int) ∧ (runs1.length : Int) ≤ (runs1.length : Int) ∧ (runs1.length : Int) ≤ 9223372036854775807 ∧ 24 * (runs1.length : Int) ≤ 281474976710656 then
  (uK runs1 vat2 fu 0 (List.replicate runs1.length (eA.mk [] false) : List eA)).bind fun x17 =>
  (gV fu x17).bind fun vr27 =>
  some vr27.1
 else none
def yS (fu : Nat) (runs1 : List (List aA)) : Option (iB × Int × Int) :=
 (yJ fu runs1).bind fun vr2 =>
 if (!(decide (vr2.2 = 0))) then
  some ((iB.mk [] [] (fB.mk [] [] 0)),vr2.1,vr2.2)
 else
  if 0 ≤ (runs1.length : Int) ∧ (runs1.length : Int) ≤ (runs1.length : Int) ∧ (runs1.length : Int) ≤ 9223372036854775807 ∧ 8 * (runs1.length : Int) ≤ 281474976710656 then
   (nL fu runs1).bind fun vr5 =>
   (eU fu runs1 (List.replicate runs1.length 0 : List Int)).bind fun vr6 =>
   some ((iB.mk vr5 (List.replicate runs1.length 0 : List Int) vr6),0,0)
  else none
def pO (fu : Nat) (vs1 : List Int) : Option (List Int) :=
 if vs1.isEmpty then
  some []
 else
  if 2 * ((0 + vs1.length) * 8) ≤ 281474976710656 then
   some vs1
  else none
def yH (vr14 : List eA) : Nat → Int → Int → Int → List Int → Option (Int × Int × List Int)
 | 0,_,_,_,_=>none
 | fu + 1,games29,node30,u31,v32 =>
  if (decide ((IntKind.i64.wrap (node30.tdiv 2)) = 0)) then
   some (games29,u31,v32)
  else
   (ix v32 (IntKind.i64.wrap (node30.tdiv 2))).bind fun e35 =>
   (eN fu e35 u31 vr14).bind fun vr36 =>
   if vr36 then
    yH vr14 fu (IntKind.i64.wrap (games29 + 1)) (IntKind.i64.wrap (node30.tdiv 2)) e35 (v32.set ((IntKind.i64.wrap (node30.tdiv 2)).toNat) u31)
   else
    yH vr14 fu (IntKind.i64.wrap (games29 + 1)) (IntKind.i64.wrap (node30.tdiv 2)) u31 v32
def nN (fu : Nat) (t1 : fB) (k2 : eA) : Option (fB × Int × Int) :=
 (aP fu t1).bind fun vr3 =>
 if (!(decide (vr3 = 0))) then
  some ((fB.mk [] [] 0),0,vr3)
 else
  (eM fu [k2]).bind fun vr5 =>
  if (!(decide (vr5 = 0))) then
   some ((fB.mk [] [] 0),0,vr5)
  else
   (if (!k2.Done) then (ix t1.Keys t1.Win).bind fun e7=>some (Op.bytesLess k2.Key e7.Key) else some false).bind fun b8 =>
   if b8 then
    some ((fB.mk [] [] 0),0,6)
   else
    (oQ fu t1.Keys).bind fun vr11 =>
    (pO fu t1.Lose).bind fun vr12 =>
    (ix vr11 t1.Win).bind fun e13 =>
    (fN fu (vr11.set t1.Win.toNat k2)).bind fun vr14 =>
    (yH vr14 fu 0 (IntKind.i64.wrap (((vr11.set t1.Win.toNat k2).length : Int) + t1.Win)) t1.Win vr12).bind fun x28 =>
    some ((fB.mk (vr11.set t1.Win.toNat k2) x28.2.2 x28.2.1),x28.1,0)
def jI (vr2 : iB × Int × Int) : Nat → List Int → List eA → List Int → Int → List aA → List Int → Option (List Int × List eA × List Int × Int × List aA × List Int)
 | 0,_,_,_,_,_,_=>none
 | fu + 1,v38,v39,v40,v41,v42,v43 =>
  (hM fu vr2.1.Runs v38 v39 v40 v41).bind fun vr47 =>
  if (!(decide (vr47.2.2 = 0))) then
   some (v38,v39,v40,v41,v42,v43)
  else
   if 2 * ((v42.length + 1) * 48) ≤ 281474976710656 then
    if 2 * ((v43.length + 1) * 8) ≤ 281474976710656 then
     (ix v38 vr47.2.1).bind fun e51 =>
     (ix vr2.1.Runs vr47.2.1).bind fun e52 =>
     (ix (v38.set vr47.2.1.toNat (IntKind.i64.wrap (e51 + 1))) vr47.2.1).bind fun e53 =>
     (lK fu e52 e53).bind fun vr54 =>
     (nN fu (fB.mk v39 v40 v41) vr54).bind fun vr55 =>
     jI vr2 fu (v38.set vr47.2.1.toNat (IntKind.i64.wrap (e51 + 1))) vr55.1.Keys vr55.1.Lose vr55.1.Win (v42++[vr47.1]) (v43++[vr47.2.1])
    else none
   else none
def uL (fu : Nat) (runs1 : List (List aA)) : Option (List aA × List Int × Int) :=
 (yS fu runs1).bind fun vr2 =>
 if (!(decide (vr2.2.2 = 0))) then
  some ([],[],vr2.2.2)
 else
  (jI vr2 fu vr2.1.At vr2.1.Tree.Keys vr2.1.Tree.Lose vr2.1.Tree.Win [] []).bind fun x37 =>
  some (x37.2.2.2.2.1,x37.2.2.2.2.2,0)
def zP (fu : Nat) (vs1 : lB) : Option (Int) :=
 (wM fu vs1.Last).bind fun vr2 =>
 if (!(decide (vr2 = 0))) then
  some vr2
 else
  (if (!vs1.Some) then some (!(vs1.Last == [])) else some false).bind fun b4 =>
  if b4 then
   some 6
  else
   some 0
def iS (fu : Nat) (vx1 : uE) : Option (aA) :=
 some (aA.mk vx1.Key vx1.Val vx1.Dead vx1.Seq)
def sH (l1 : List aA) (vr4 : lB) : Nat → Int → Bool → List UInt8 → List aA → Option (Sum (Bool × List UInt8 × List aA) (List aA × Int × Int))
 | 0,_,_,_,_=>none
 | fu + 1,v60,v61,v62,v63 =>
  if (decide (v60 < (l1.length : Int))) then
   (ix l1 v60).bind fun e66 =>
   (zP fu (lB.mk v61 v62 vr4.Bottom)).bind fun vr67 =>
   if (!(decide (vr67 = 0))) then
    some (.inr ([],v60,vr67))
   else
    (tO fu e66).bind fun vr69 =>
    if (!(decide (vr69 = 0))) then
     some (.inr ([],v60,vr69))
    else
     (if v61 then some (Op.bytesLess e66.Key v62) else some false).bind fun b71 =>
     if b71 then
      some (.inr ([],v60,6))
     else
      (if v61 then some (e66.Key == v62) else some false).bind fun b74 =>
      if b74 then
       sH l1 vr4 fu (IntKind.i64.wrap (v60 + 1)) true e66.Key v63
      else
       (if vr4.Bottom then some e66.Dead else some false).bind fun b77 =>
       if b77 then
        sH l1 vr4 fu (IntKind.i64.wrap (v60 + 1)) true e66.Key v63
       else
        (iS fu (uE.mk e66.Key e66.Val e66.Dead e66.Seq)).bind fun vr80 =>
        if 2 * ((v63.length + 1) * 48) ≤ 281474976710656 then
         sH l1 vr4 fu (IntKind.i64.wrap (v60 + 1)) true e66.Key (v63++[vr80])
        else none
  else
   some (.inl (v61,v62,v63))
def zR (fu : Nat) (l1 : List aA) (bottom2 : Bool) : Option (List aA × Int × Int) :=
 if (decide (20000 < (l1.length : Int))) then
  some ([],(-1),3)
 else
  (sM fu bottom2).bind fun vr4 =>
  (sH l1 vr4 fu 0 vr4.Some vr4.Last []).bind fun x59=>match x59 with
  | .inl o82 =>
   some (o82.2.2,0,0)
  | .inr y =>
   some y
def bI (a1 : List aA) (b2 : List aA) : Nat → Int → Option (Sum (Unit) (Bool))
 | 0,_=>none
 | fu + 1,v14 =>
  if (decide (v14 < (a1.length : Int))) then
   (ix a1 v14).bind fun e16 =>
   (ix b2 v14).bind fun e17 =>
   if (!(aA.eqb e16 e17)) then
    some (.inr false)
   else
    bI a1 b2 fu (IntKind.i64.wrap (v14 + 1))
  else
   some (.inl ())
def mP (fu : Nat) (a1 : List aA) (b2 : List aA) : Option (Bool) :=
 if (!(decide ((a1.length : Int) = (b2.length : Int)))) then
  some false
 else
  (bI a1 b2 fu 0).bind fun x13=>match x13 with
  | .inl o19 =>
   some true
  | .inr y =>
   some y
def uI (vs1 : mB) : Nat → Int → Int → Option (Int)
 | 0,_,_=>none
 | fu + 1,n11,v12 =>
  if (decide (v12 < (vs1.Merge.At.length : Int))) then
   (ix vs1.Merge.At v12).bind fun e14 =>
   uI vs1 fu (IntKind.i64.wrap (n11 + e14)) (IntKind.i64.wrap (v12 + 1))
  else
   some n11
def eP (fu : Nat) (vs1 : mB) : Option (Int) :=
 (eH fu vs1.Merge).bind fun vr2 =>
 if (!(decide (vr2.2 = 0))) then
  some vr2.2
 else
  (uI vs1 fu 0 0).bind fun x10 =>
  (if (decide (20000 < (vs1.Out.length : Int))) then some true else some (decide (20000 < x10))).bind fun b15 =>
  if b15 then
   some 3
  else
   if (!(decide (vs1.Steps = x10))) then
    some 7
   else
    (uL fu vs1.Merge.Runs).bind fun vr19 =>
    if (!(decide (vr19.2.2 = 0))) then
     some vr19.2.2
    else
     if 0 ≤ x10 ∧ x10 ≤ (vr19.1.length : Int) then
      (zR fu (vr19.1.take x10.toNat) vs1.Shadow.Bottom).bind fun vr22 =>
      if (!(decide (vr22.2.2 = 0))) then
       some vr22.2.2
      else
       (sM fu vs1.Shadow.Bottom).bind fun vr24 =>
       if (decide (0 < x10)) then
        (ix vr19.1 (IntKind.i64.wrap (x10 - 1))).bind fun e26 =>
        (mP fu vs1.Out vr22.1).bind fun vr27 =>
        (if (!vr27) then some true else some (!(lB.eqb vs1.Shadow (lB.mk true e26.Key vr24.Bottom)))).bind fun b28 =>
        if b28 then
         some 6
        else
         some 0
       else
        (mP fu vs1.Out vr22.1).bind fun vr31 =>
        (if (!vr31) then some true else some (!(lB.eqb vs1.Shadow vr24))).bind fun b32 =>
        if b32 then
         some 6
        else
         some 0
     else none
def nI (vs1 : iB) : Nat → Int → Int → Option (Int)
 | 0,_,_=>none
 | fu + 1,n13,v14 =>
  if (decide (v14 < (vs1.Runs.length : Int))) then
   (ix vs1.Runs v14).bind fun e16 =>
   (ix vs1.At v14).bind fun e17 =>
   nI vs1 fu (IntKind.i64.wrap (n13 + (IntKind.i64.wrap ((e16.length : Int) - e17)))) (IntKind.i64.wrap (v14 + 1))
  else
   some n13
def gQ (fu : Nat) (vs1 : iB) : Option (Int × Int) :=
 (eH fu vs1).bind fun vr2 =>
 if (!(decide (vr2.2 = 0))) then
  some (0,vr2.2)
 else
  (nI vs1 fu 0 0).bind fun x12 =>
  some (x12,0)
def kM (fu : Nat) (vs1 : mB) : Option (Int × Int) :=
 (eP fu vs1).bind fun vr2 =>
 if (!(decide (vr2 = 0))) then
  some (0,vr2)
 else
  (gQ fu vs1.Merge).bind fun vr4 =>
  some (vr4.1,vr4.2)
def dP (fu : Nat) (vs1 : iB) : Option (aA × Int × iB × Int) :=
 (eH fu vs1).bind fun vr2 =>
 if (!(decide (vr2.2 = 0))) then
  some ((aA.mk [] [] false 0),0,(iB.mk [] [] (fB.mk [] [] 0)),vr2.2)
 else
  (nL fu vs1.Runs).bind fun vr4 =>
  (pO fu vs1.At).bind fun vr5 =>
  (hM fu vr4 vr5 vs1.Tree.Keys vs1.Tree.Lose vs1.Tree.Win).bind fun vr6 =>
  if (!(decide (vr6.2.2 = 0))) then
   some ((aA.mk [] [] false 0),0,(iB.mk [] [] (fB.mk [] [] 0)),vr6.2.2)
  else
   (ix vr5 vr6.2.1).bind fun e8 =>
   (ix vr4 vr6.2.1).bind fun e9 =>
   (ix (vr5.set vr6.2.1.toNat (IntKind.i64.wrap (e8 + 1))) vr6.2.1).bind fun e10 =>
   (lK fu e9 e10).bind fun vr11 =>
   (nN fu vs1.Tree vr11).bind fun vr12 =>
   some (vr6.1,vr6.2.1,(iB.mk vr4 (vr5.set vr6.2.1.toNat (IntKind.i64.wrap (e8 + 1))) vr12.1),0)
def bN (fu : Nat) (vs1 : lB) (vx2 : aA) : Option (Bool × lB × Int) :=
 (zP fu vs1).bind fun vr3 =>
 if (!(decide (vr3 = 0))) then
  some (false,(lB.mk false [] false),vr3)
 else
  (tO fu vx2).bind fun vr5 =>
  if (!(decide (vr5 = 0))) then
   some (false,(lB.mk false [] false),vr5)
  else
   (if vs1.Some then some (Op.bytesLess vx2.Key vs1.Last) else some false).bind fun b7 =>
   if b7 then
    some (false,(lB.mk false [] false),6)
   else
    (if vs1.Some then some (vx2.Key == vs1.Last) else some false).bind fun b10 =>
    if b10 then
     some (false,(lB.mk true vx2.Key vs1.Bottom),0)
    else
     (if vs1.Bottom then some vx2.Dead else some false).bind fun b13 =>
     if b13 then
      some (false,(lB.mk true vx2.Key vs1.Bottom),0)
     else
      some (true,(lB.mk true vx2.Key vs1.Bottom),0)
def xH (vr3 : Int × Int) (n2 : Int) : Nat → Int → List (List aA) → List Int → List eA → List Int → Int → Bool → List UInt8 → Bool → Int → List aA → Option (Sum (List (List aA) × List Int × List eA × List Int × Int × Bool × List UInt8 × Bool × Int × List aA) (mB × Int × Int))
 | 0,_,_,_,_,_,_,_,_,_,_,_=>none
 | fu + 1,left43,v44,v45,v46,v47,v48,v49,v50,v51,v52,v53 =>
  if (decide (left43 < (if vr3.1 < n2 then vr3.1 else n2))) then
   (dP fu (iB.mk v44 v45 (fB.mk v46 v47 v48))).bind fun vr56 =>
   if (!(decide (vr56.2.2.2 = 0))) then
    some (.inr ((mB.mk (iB.mk [] [] (fB.mk [] [] 0)) (lB.mk false [] false) [] 0),0,vr56.2.2.2))
   else
    (bN fu (lB.mk v49 v50 v51) vr56.1).bind fun vr58 =>
    if (!(decide (vr58.2.2 = 0))) then
     some (.inr ((mB.mk (iB.mk [] [] (fB.mk [] [] 0)) (lB.mk false [] false) [] 0),0,vr58.2.2))
    else
     if vr58.1 then
      if 2 * ((v53.length + 1) * 48) ≤ 281474976710656 then
       xH vr3 n2 fu (IntKind.i64.wrap (left43 + 1)) vr56.2.2.1.Runs vr56.2.2.1.At vr56.2.2.1.Tree.Keys vr56.2.2.1.Tree.Lose vr56.2.2.1.Tree.Win vr58.2.1.Some vr58.2.1.Last vr58.2.1.Bottom (IntKind.i64.wrap (v52 + 1)) (v53++[vr56.1])
      else none
     else
      xH vr3 n2 fu (IntKind.i64.wrap (left43 + 1)) vr56.2.2.1.Runs vr56.2.2.1.At vr56.2.2.1.Tree.Keys vr56.2.2.1.Tree.Lose vr56.2.2.1.Tree.Win vr58.2.1.Some vr58.2.1.Last vr58.2.1.Bottom (IntKind.i64.wrap (v52 + 1)) v53
  else
   some (.inl (v44,v45,v46,v47,v48,v49,v50,v51,v52,v53))
def tP (fu : Nat) (vs1 : mB) (n2 : Int) : Option (mB × Int × Int) :=
 (kM fu vs1).bind fun vr3 =>
 if (!(decide (vr3.2 = 0))) then
  some ((mB.mk (iB.mk [] [] (fB.mk [] [] 0)) (lB.mk false [] false) [] 0),0,vr3.2)
 else
  if (decide (n2 < 0)) then
   some ((mB.mk (iB.mk [] [] (fB.mk [] [] 0)) (lB.mk false [] false) [] 0),0,7)
  else
   if (decide (20000 < (IntKind.i64.wrap (vs1.Steps + (if vr3.1 < n2 then vr3.1 else n2))))) then
    some ((mB.mk (iB.mk [] [] (fB.mk [] [] 0)) (lB.mk false [] false) [] 0),0,3)
   else
    if 2 * (vs1.Out.length * 48) ≤ 281474976710656 then
     if 2 * (vs1.Merge.At.length * 8) ≤ 281474976710656 then
      (xH vr3 n2 fu 0 vs1.Merge.Runs vs1.Merge.At vs1.Merge.Tree.Keys vs1.Merge.Tree.Lose vs1.Merge.Tree.Win vs1.Shadow.Some vs1.Shadow.Last vs1.Shadow.Bottom vs1.Steps vs1.Out).bind fun x42=>match x42 with
      | .inl o62 =>
       some ((mB.mk (iB.mk o62.1 o62.2.1 (fB.mk o62.2.2.1 o62.2.2.2.1 o62.2.2.2.2.1)) (lB.mk o62.2.2.2.2.2.1 o62.2.2.2.2.2.2.1 o62.2.2.2.2.2.2.2.1) o62.2.2.2.2.2.2.2.2.2 o62.2.2.2.2.2.2.2.2.1),(if vr3.1 < n2 then vr3.1 else n2),0)
      | .inr y =>
       some y
     else none
    else none
def fI (s11 : List aA) (s22 : List aA) : Nat → Int → Option (Sum (Unit) (Bool))
 | 0,_=>none
 | fu + 1,v14 =>
  if (decide (v14 < (s11.length : Int))) then
   (ix s11 v14).bind fun e16 =>
   (ix s22 v14).bind fun e17 =>
   if (!(aA.eqb e16 e17)) then
    some (.inr false)
   else
    fI s11 s22 fu (IntKind.i64.wrap (v14 + 1))
  else
   some (.inl ())
def qS (fu : Nat) (s11 : List aA) (s22 : List aA) : Option (Bool) :=
 if (!(decide ((s11.length : Int) = (s22.length : Int)))) then
  some false
 else
  (fI s11 s22 fu 0).bind fun x13=>match x13 with
  | .inl o19 =>
   some true
  | .inr y =>
   some y
def vM (fu : Nat) (a1 : List aA) (b2 : List aA) : Option (Bool) :=
 (qS fu a1 b2).bind fun vr3 =>
 some vr3
def tH (s11 : List (List aA)) (s22 : List (List aA)) : Nat → Int → Option (Sum (Unit) (Bool))
 | 0,_=>none
 | fu + 1,v16 =>
  if (decide (v16 < (s11.length : Int))) then
   (ix s11 v16).bind fun e18 =>
   (ix s22 v16).bind fun e19 =>
   (vM fu e18 e19).bind fun vr20 =>
   if (!vr20) then
    some (.inr false)
   else
    tH s11 s22 fu (IntKind.i64.wrap (v16 + 1))
  else
   some (.inl ())
def gR (fu : Nat) (s11 : List (List aA)) (s22 : List (List aA)) : Option (Bool) :=
 if (!(decide ((s11.length : Int) = (s22.length : Int)))) then
  some false
 else
  (tH s11 s22 fu 0).bind fun x15=>match x15 with
  | .inl o22 =>
   some true
  | .inr y =>
   some y
def bR (fu : Nat) (a1 : mB) (b2 : mB) : Option (Bool) :=
 (gR fu a1.Merge.Runs b2.Merge.Runs).bind fun vr3 =>
 (if vr3 then (qK fu a1.Merge.At b2.Merge.At).bind fun vr4=>some vr4 else some false).bind fun b5 =>
 (if b5 then (oL fu a1.Merge.Tree.Keys b2.Merge.Tree.Keys).bind fun vr6=>some vr6 else some false).bind fun b7 =>
 (if b7 then (qK fu a1.Merge.Tree.Lose b2.Merge.Tree.Lose).bind fun vr8=>some vr8 else some false).bind fun b9 =>
 (if b9 then some (decide (a1.Merge.Tree.Win = b2.Merge.Tree.Win)) else some false).bind fun b10 =>
 (if b10 then some (lB.eqb a1.Shadow b2.Shadow) else some false).bind fun b11 =>
 (if b11 then (vM fu a1.Out b2.Out).bind fun vr12=>some vr12 else some false).bind fun b13 =>
 (if b13 then some (decide (a1.Steps = b2.Steps)) else some false).bind fun b14 =>
 some b14
def aF (vs1 : cB) (vr10 : List Int) : Nat → Int → Option (Sum (Unit) (Int × Int))
 | 0,_=>none
 | fu + 1,v49 =>
  if (decide (v49 < (vs1.Jobs.length : Int))) then
   (ix vs1.Jobs v49).bind fun e51 =>
   (if (decide ((vr10.length : Int) ≤ v49)) then some true else (ix vr10 v49).bind fun e52=>some (!(decide (e51.Level = e52)))).bind fun b53 =>
   if b53 then
    some (.inr (v49,6))
   else
    (if e51.Work.Shadow.Bottom then (mL fu vs1.Levels e51.Level).bind fun vr56=>some (!vr56) else some false).bind fun b57 =>
    if b57 then
     some (.inr (v49,6))
    else
     (qP fu vs1.Levels e51.Level e51.Work.Shadow.Bottom).bind fun vr60 =>
     (kM fu vr60.Work).bind fun vr61 =>
     (if (decide (e51.Work.Steps < 0)) then some true else some (decide (vr61.1 < e51.Work.Steps))).bind fun b62 =>
     if b62 then
      some (.inr (v49,6))
     else
      (tP fu vr60.Work e51.Work.Steps).bind fun vr65 =>
      (bR fu vr65.1 e51.Work).bind fun vr66 =>
      if (!vr66) then
       some (.inr (v49,6))
      else
       aF vs1 vr10 fu (IntKind.i64.wrap (v49 + 1))
  else
   some (.inl ())
def bK (fu : Nat) (vs1 : cB) : Option (Int × Int) :=
 (aK fu vs1.Levels).bind fun vr2 =>
 if (!(decide (vr2.2.2 = 0))) then
  some ((-1),vr2.2.2)
 else
  (if (decide (vs1.NextId < 1)) then some true else some (decide (1000001 < vs1.NextId))).bind fun b4 =>
  if b4 then
   some ((-1),7)
  else
   (fO fu vs1.Levels).bind fun vr7 =>
   if (decide (vs1.NextId ≤ vr7)) then
    some ((-1),6)
   else
    (lO fu vs1.Levels).bind fun vr9 =>
    (qN fu vr9.1 vr9.2).bind fun vr10 =>
    (aF vs1 vr10 fu 0).bind fun x48=>match x48 with
    | .inl o68 =>
     if (decide ((vs1.Jobs.length : Int) < (vr10.length : Int))) then
      some ((-1),4)
     else
      some (0,0)
    | .inr y =>
     some y
def iN (fu : Nat) (j1 : bB) (p2 : Int) : Option (Bool) :=
 some (decide (j1.Level = p2))
def aG (vs1 : List bB) (f2 : Int) : Nat → Int → Option (Sum (Unit) (Int))
 | 0,_=>none
 | fu + 1,v13 =>
  if (decide (v13 < (vs1.length : Int))) then
   (ix vs1 v13).bind fun e15 =>
   (iN fu e15 f2).bind fun vr16 =>
   if vr16 then
    some (.inr v13)
   else
    aG vs1 f2 fu (IntKind.i64.wrap (v13 + 1))
  else
   some (.inl ())
def bO (fu : Nat) (vs1 : List bB) (f2 : Int) : Option (Int) :=
 (aG vs1 f2 fu 0).bind fun x12=>match x12 with
 | .inl o18 =>
  some (-1)
 | .inr y =>
  some y
def nP (fu : Nat) (l1 : List bB) (is2 : Int) : Option (Int × Int) :=
 (bO fu l1 is2).bind fun vr3 =>
 if (decide (vr3 < 0)) then
  some (0,4)
 else
  some (vr3,0)
def uH (fu : Nat) (vs1 : cB) (level2 : Int) : Option (Int × Int) :=
 (bK fu vs1).bind fun vr3 =>
 if (!(decide (vr3.2 = 0))) then
  some (0,vr3.2)
 else
  (nP fu vs1.Jobs level2).bind fun vr5 =>
  some (vr5.1,vr5.2)
def wL (fu : Nat) (vs1 : cB) (level2 : Int) : Option (Int × Int) :=
 (uH fu vs1 level2).bind fun vr3 =>
 if (!(decide (vr3.2 = 0))) then
  some (0,vr3.2)
 else
  (ix vs1.Jobs vr3.1).bind fun e5 =>
  (kM fu e5.Work).bind fun vr6 =>
  some (vr6.1,vr6.2)
def kS (fu : Nat) (vs1 : List bB) : Option (List bB) :=
 if vs1.isEmpty then
  some []
 else
  if 2 * ((0 + vs1.length) * 176) ≤ 281474976710656 then
   some vs1
  else none
def qG (fu : Nat) (vs1 : cB) (level2 : Int) (most3 : Int) : Option (cB × Int × Int) :=
 (bK fu vs1).bind fun vr4 =>
 if (!(decide (vr4.2 = 0))) then
  some ((cB.mk (eB.mk 0 []) [] 0),0,vr4.2)
 else
  if (decide (most3 < 0)) then
   some ((cB.mk (eB.mk 0 []) [] 0),0,7)
  else
   (uH fu vs1 level2).bind fun vr7 =>
   if (!(decide (vr7.2 = 0))) then
    some ((cB.mk (eB.mk 0 []) [] 0),0,vr7.2)
   else
    (ix vs1.Jobs vr7.1).bind fun e9 =>
    (kM fu e9.Work).bind fun vr10 =>
    if (decide (vr10.1 = 0)) then
     some ((cB.mk (eB.mk 0 []) [] 0),0,9)
    else
     (tP fu e9.Work most3).bind fun vr12 =>
     if (!(decide (vr12.2.2 = 0))) then
      some ((cB.mk (eB.mk 0 []) [] 0),0,vr12.2.2)
     else
      (kS fu vs1.Jobs).bind fun vr14 =>
      (ix vr14 vr7.1).bind fun e15 =>
      some ((cB.mk vs1.Levels (vr14.set vr7.1.toNat (bB.mk e15.Level vr12.1)) vs1.NextId),vr12.2.1,0)
def yM (fu : Nat) : Option (Bool) :=
 (wT fu).bind fun vr1 =>
 (zU fu vr1).bind fun vr2 =>
 (if (!(decide (vr2.2 = 0))) then some true else some (!(decide (vr2.1.NextId = 3)))).bind fun b3 =>
 (if b3 then some true else some (!(decide ((vr2.1.Jobs.length : Int) = 1)))).bind fun b4 =>
 (if b4 then some true else (ix vr2.1.Jobs 0).bind fun e5=>some (!(decide (e5.Level = 0)))).bind fun b6 =>
 if b6 then
  some false
 else
  (wL fu vr2.1 0).bind fun vr14 =>
  (qG fu vr2.1 0 9).bind fun vr15 =>
  (wL fu vr15.1 0).bind fun vr16 =>
  (qG fu vr15.1 0 1).bind fun vr17 =>
  (if (decide (vr14.1 = 3)) then some (decide (vr14.2 = 0)) else some false).bind fun b18 =>
  (if b18 then some (decide (vr15.2.1 = 3)) else some false).bind fun b19 =>
  (if b19 then some (decide (vr15.2.2 = 0)) else some false).bind fun b20 =>
  (if b20 then some (decide (vr16.1 = 0)) else some false).bind fun b21 =>
  (if b21 then some (decide (vr16.2 = 0)) else some false).bind fun b22 =>
  (if b22 then some (decide (vr17.2.2 = 9)) else some false).bind fun b23 =>
  (if b23 then some (decide ((vr15.1.Jobs.length : Int) = 1)) else some false).bind fun b24 =>
  (if b24 then (ix vr15.1.Jobs 0).bind fun e25=>some (decide ((e25.Work.Out.length : Int) = 1)) else some false).bind fun b26 =>
  (if b26 then (ix vr15.1.Jobs 0).bind fun e27=>(ix e27.Work.Out 0).bind fun e28=>some (e28.Key == [97]) else some false).bind fun b29 =>
  some b29
def oN (level2 : Int) : Nat → Int → Int → Option (Int)
 | 0,_,_=>none
 | fu + 1,b8,i9 =>
  if (decide (i9 < level2)) then
   oN level2 fu (IntKind.i64.wrap (2 * b8)) (IntKind.i64.wrap (i9 + 1))
  else
   some b8
def rX (fu : Nat) (b1 : Int) (level2 : Int) : Option (Int) :=
 (oN level2 fu b1 0).bind fun x7 =>
 some x7
def lV (fu : Nat) (vx1 : aA) : Option (Int) :=
 (if (decide (32 < (vx1.Key.length : Int))) then some true else some (decide (64 < (vx1.Val.length : Int)))).bind fun b2 =>
 if b2 then
  some 3
 else
  (if vx1.Dead then some (!(vx1.Val == [])) else some false).bind fun b5 =>
  if b5 then
   some 6
  else
   (if (decide (vx1.Seq < 1)) then some true else some (decide (1000000000 < vx1.Seq))).bind fun b8 =>
   if b8 then
    some 7
   else
    some 0
def xJ (a1 : List UInt8) (b2 : List UInt8) : Nat → Int → Option (Int)
 | 0,_=>none
 | fu + 1,n21 =>
  (if (decide (n21 < (a1.length : Int))) then some (decide (n21 < (b2.length : Int))) else some false).bind fun b22 =>
  (if b22 then (ix a1 n21).bind fun e23=>(ix b2 n21).bind fun e24=>some (decide ((e23.toNat : Int) = (e24.toNat : Int))) else some false).bind fun b25 =>
  if b25 then
   xJ a1 b2 fu (IntKind.i64.wrap (n21 + 1))
  else
   some n21
def uW (fu : Nat) (a1 : List UInt8) (b2 : List UInt8) : Option (Int) :=
 (xJ a1 b2 fu 0).bind fun x20 =>
 some x20
def mO (fu : Nat) (a1 : List UInt8) (b2 : List UInt8) : Option (Int) :=
 (uW fu a1 b2).bind fun vr3 =>
 (if (decide (vr3 = (a1.length : Int))) then some (decide (vr3 = (b2.length : Int))) else some false).bind fun b4 =>
 if b4 then
  some 0
 else
  (if (decide (vr3 = (a1.length : Int))) then some true else (if (decide (vr3 < (b2.length : Int))) then (ix a1 vr3).bind fun e7=>(ix b2 vr3).bind fun e8=>some (decide ((e7.toNat : Int) < (e8.toNat : Int))) else some false).bind fun b9=>some b9).bind fun b10 =>
  if b10 then
   some (-1)
  else
   some 1
def vI (l1 : List aA) : Nat → Int → Option (Sum (Unit) (Int × Int))
 | 0,_=>none
 | fu + 1,i29 =>
  if (decide (i29 < (l1.length : Int))) then
   (ix l1 i29).bind fun e31 =>
   (lV fu e31).bind fun vr32 =>
   (if (decide (vr32 = 0)) then some (decide (0 < i29)) else some false).bind fun b33 =>
   (if b33 then (ix l1 (IntKind.i64.wrap (i29 - 1))).bind fun e34=>(mO fu e34.Key e31.Key).bind fun vr35=>some (decide (0 ≤ vr35)) else some false).bind fun b36 =>
   if b36 then
    some (.inr (i29,6))
   else
    if (!(decide (vr32 = 0))) then
     some (.inr (i29,vr32))
    else
     vI l1 fu (IntKind.i64.wrap (i29 + 1))
  else
   some (.inl ())
def sT (fu : Nat) (l1 : List aA) : Option (Int × Int) :=
 if (decide (5000 < (l1.length : Int))) then
  some ((-1),3)
 else
  (vI l1 fu 0).bind fun x28=>match x28 with
  | .inl o42 =>
   some (0,0)
  | .inr y =>
   some y
def rZ (fu : Nat) (vr1 : gB) : Option (Int × Int) :=
 (if (decide (vr1.Id < 1)) then some true else some (decide (1000000 < vr1.Id))).bind fun b2 =>
 if b2 then
  some ((-1),7)
 else
  (sT fu vr1.Entries).bind fun vr5 =>
  some (vr5.1,vr5.2)
def xK (ids3 : List Int) (vr1 : gB) : Nat → Int → Option (Sum (Unit) (Int))
 | 0,_=>none
 | fu + 1,i16 =>
  if (decide (i16 < (ids3.length : Int))) then
   (ix ids3 i16).bind fun e18 =>
   if (decide (e18 = vr1.Id)) then
    some (.inr 8)
   else
    xK ids3 vr1 fu (IntKind.i64.wrap (i16 + 1))
  else
   some (.inl ())
def fX (fu : Nat) (vr1 : gB) (most2 : Int) (ids3 : List Int) : Option (Int) :=
 (rZ fu vr1).bind fun vr4 =>
 if (!(decide (vr4.2 = 0))) then
  some vr4.2
 else
  if (decide ((vr1.Entries.length : Int) = 0)) then
   some 4
  else
   if (decide (most2 < (vr1.Entries.length : Int))) then
    some 3
   else
    (xK ids3 vr1 fu 0).bind fun x15=>match x15 with
    | .inl o20 =>
     some 0
    | .inr y =>
     some y
def tI (e107 : qA) (l1 : eB) (i103 : Int) : Nat → Int → List Int → Option (Sum (List Int) (Int × Int × Int))
 | 0,_,_=>none
 | fu + 1,k125,ids126 =>
  if (decide (k125 < (e107.Runs.length : Int))) then
   (ix e107.Runs k125).bind fun e129 =>
   (rX fu l1.B i103).bind fun vr130 =>
   (fX fu e129 vr130 ids126).bind fun vr131 =>
   if (!(decide (vr131 = 0))) then
    some (.inr (i103,k125,vr131))
   else
    if 2 * ((ids126.length + 1) * 8) ≤ 281474976710656 then
     tI e107 l1 i103 fu (IntKind.i64.wrap (k125 + 1)) (ids126++[e129.Id])
    else none
  else
   some (.inl ids126)
def hI (l1 : eB) : Nat → Int → List Int → Option (Sum (List Int) (Int × Int × Int))
 | 0,_,_=>none
 | fu + 1,i103,ids104 =>
  if (decide (i103 < (l1.Levels.length : Int))) then
   (ix l1.Levels i103).bind fun e107 =>
   if (decide (2 < (e107.Runs.length : Int))) then
    some (.inr (i103,0,3))
   else
    (tI e107 l1 i103 fu 0 ids104).bind fun x124=>match x124 with
    | .inl o134 =>
     hI l1 fu (IntKind.i64.wrap (i103 + 1)) o134
    | .inr y =>
     some (.inr y)
  else
   some (.inl ids104)
def oJ (fu : Nat) (l1 : eB) : Option (Int × Int × Int) :=
 (if (decide (l1.B < 1)) then some true else some (decide (16 < l1.B))).bind fun b2 =>
 if b2 then
  some (0,0,7)
 else
  if (decide (12 < (l1.Levels.length : Int))) then
   some (0,0,3)
  else
   (hI l1 fu 0 []).bind fun x102=>match x102 with
   | .inl o136 =>
    (if (decide (0 < (l1.Levels.length : Int))) then (ix l1.Levels (IntKind.i64.wrap ((l1.Levels.length : Int) - 1))).bind fun e138=>some (decide ((e138.Runs.length : Int) = 0)) else some false).bind fun b139 =>
    if b139 then
     some ((IntKind.i64.wrap ((l1.Levels.length : Int) - 1)),0,6)
    else
     some (0,0,0)
   | .inr y =>
    some y
def eK (e69 : qA) : Nat → Int → List gB → Option (List gB)
 | 0,_,_=>none
 | fu + 1,k80,out81 =>
  if (decide (0 ≤ k80)) then
   (ix e69.Runs k80).bind fun e84 =>
   if 2 * ((out81.length + 1) * 32) ≤ 281474976710656 then
    eK e69 fu (IntKind.i64.wrap (k80 - 1)) (out81++[e84])
   else none
  else
   some out81
def gN (l1 : eB) : Nat → Int → List gB → Option (List gB)
 | 0,_,_=>none
 | fu + 1,i65,out66 =>
  if (decide (i65 < (l1.Levels.length : Int))) then
   (ix l1.Levels i65).bind fun e69 =>
   (eK e69 fu (IntKind.i64.wrap ((e69.Runs.length : Int) - 1)) out66).bind fun x79 =>
   gN l1 fu (IntKind.i64.wrap (i65 + 1)) x79
  else
   some out66
def cW (fu : Nat) (l1 : eB) : Option (List gB × Int) :=
 (oJ fu l1).bind fun vr2 =>
 if (!(decide (vr2.2.2 = 0))) then
  some ([],vr2.2.2)
 else
  (gN l1 fu 0 []).bind fun x64 =>
  some (x64,0)
def mN (vr2 : List gB × Int) : Nat → Int → Int → Option (Int)
 | 0,_,_=>none
 | fu + 1,best10,i11 =>
  if (decide (i11 < (vr2.1.length : Int))) then
   (ix vr2.1 i11).bind fun e13 =>
   mN vr2 fu (if best10 < e13.Id then e13.Id else best10) (IntKind.i64.wrap (i11 + 1))
  else
   some best10
def dU (fu : Nat) (l1 : eB) : Option (Int) :=
 (cW fu l1).bind fun vr2 =>
 (mN vr2 fu 0 0).bind fun x9 =>
 some x9
def aL (l1 : eB) : Nat → Int → List Int → Option (List Int)
 | 0,_,_=>none
 | fu + 1,i16,out17 =>
  if (decide (i16 < (l1.Levels.length : Int))) then
   (ix l1.Levels i16).bind fun e20 =>
   if (decide ((e20.Runs.length : Int) = 2)) then
    if 2 * ((out17.length + 1) * 8) ≤ 281474976710656 then
     aL l1 fu (IntKind.i64.wrap (i16 + 1)) (out17++[i16])
    else none
   else
    aL l1 fu (IntKind.i64.wrap (i16 + 1)) out17
  else
   some out17
def aV (fu : Nat) (l1 : eB) : Option (List Int) :=
 (aL l1 fu 0 []).bind fun x15 =>
 some x15
def kY (fu : Nat) (l1 : eB) (level2 : Int) : Option (Int) :=
 (oJ fu l1).bind fun vr3 =>
 (if (decide (vr3.2.2 = 0)) then (if (decide (level2 < 0)) then some true else some (decide (12 ≤ level2))).bind fun b4=>some b4 else some false).bind fun b5 =>
 if b5 then
  some 7
 else
  some vr3.2.2
def gY (fu : Nat) (l1 : eB) (level2 : Int) : Option (Bool × Int) :=
 (kY fu l1 level2).bind fun vr3 =>
 if (!(decide (vr3 = 0))) then
  some (false,vr3)
 else
  some ((decide ((IntKind.i64.wrap (level2 + 1)) < (l1.Levels.length : Int))),0)
def qT (fu : Nat) (l1 : eB) (level2 : Int) : Option (Bool) :=
 (gY fu l1 level2).bind fun vr3 =>
 some (!vr3.1)
def dZ (fu : Nat) (l1 : eB) (level2 : Int) : Option (List gB) :=
 if (decide ((l1.Levels.length : Int) ≤ level2)) then
  some []
 else
  (ix l1.Levels level2).bind fun e4 =>
  some e4.Runs
def cL (runs1 : List (List aA)) : Nat → Int → Option (Sum (Unit) (Int × Int))
 | 0,_=>none
 | fu + 1,i14 =>
  if (decide (i14 < (runs1.length : Int))) then
   (ix runs1 i14).bind fun e16 =>
   (sT fu e16).bind fun vr17 =>
   if (!(decide (vr17.2 = 0))) then
    some (.inr (i14,vr17.2))
   else
    cL runs1 fu (IntKind.i64.wrap (i14 + 1))
  else
   some (.inl ())
def jQ (fu : Nat) (runs1 : List (List aA)) : Option (Int × Int) :=
 if (decide ((runs1.length : Int) = 0)) then
  some ((-1),6)
 else
  if (decide (32 < (runs1.length : Int))) then
   some ((-1),3)
  else
   (cL runs1 fu 0).bind fun x13=>match x13 with
   | .inl o19 =>
    some (0,0)
   | .inr y =>
    some y
def sO (keys1 : List eA) : Nat → Int → Option (Sum (Unit) (Int))
 | 0,_=>none
 | fu + 1,i16 =>
  if (decide (i16 < (keys1.length : Int))) then
   (ix keys1 i16).bind fun e18 =>
   (if e18.Done then some (!(e18.Key == [])) else some false).bind fun b19 =>
   if b19 then
    some (.inr 2)
   else
    sO keys1 fu (IntKind.i64.wrap (i16 + 1))
  else
   some (.inl ())
def bX (fu : Nat) (keys1 : List eA) : Option (Int) :=
 if (decide ((keys1.length : Int) = 0)) then
  some 6
 else
  if (decide (32 < (keys1.length : Int))) then
   some 3
  else
   (sO keys1 fu 0).bind fun x15=>match x15 with
   | .inl o22 =>
    some 0
   | .inr y =>
    some y
def yV (fu : Nat) (keys1 : List eA) (p2 : Int) (q3 : Int) : Option (Bool) :=
 (ix keys1 p2).bind fun e4 =>
 (ix keys1 q3).bind fun e5 =>
 if (!(e4.Done == e5.Done)) then
  some e5.Done
 else
  (if (!e4.Done) then some (!(e4.Key == e5.Key)) else some false).bind fun b7 =>
  if b7 then
   some (Op.bytesLess e4.Key e5.Key)
  else
   some (decide (p2 < q3))
def qM : Nat → List eA → Int → Option (Int × Int)
 | 0,_,_=>none
 | fu + 1,keys1,node2 =>
  if (decide ((keys1.length : Int) ≤ node2)) then
   some ((IntKind.i64.wrap (node2 - (keys1.length : Int))),0)
  else
   (qM fu keys1 (IntKind.i64.wrap (2 * node2))).bind fun vr4 =>
   (qM fu keys1 (IntKind.i64.wrap ((IntKind.i64.wrap (2 * node2)) + 1))).bind fun vr5 =>
   (yV fu keys1 vr4.1 vr5.1).bind fun vr6 =>
   if vr6 then
    some (vr4.1,vr5.1)
   else
    some (vr5.1,vr4.1)
def wN (keys1 : List eA) : Nat → Int → List Int → Option (List Int)
 | 0,_,_=>none
 | fu + 1,i14,v15 =>
  if (decide (i14 < (keys1.length : Int))) then
   (qM fu keys1 i14).bind fun vr18 =>
   (ix v15 i14).bind fun e19 =>
   wN keys1 fu (IntKind.i64.wrap (i14 + 1)) (v15.set i14.toNat vr18.2)
  else
   some v15
def vX (fu : Nat) (keys1 : List eA) : Option (fB) :=
 if 2 * ((0 + keys1.length) * 24) ≤ 281474976710656 then
  if 0 ≤ (keys1.length : Int) ∧ (keys1.length : Int) ≤ (keys1.length : Int) ∧ (keys1.length : Int) ≤ 9223372036854775807 ∧ 8 * (keys1.length : Int) ≤ 281474976710656 then
   (wN keys1 fu 1 (List.replicate keys1.length 0 : List Int)).bind fun x13 =>
   (qM fu keys1 1).bind fun vr21 =>
   some (fB.mk keys1 x13 vr21.1)
  else none
 else none
def zW (fu : Nat) (keys1 : List eA) : Option (fB × Int) :=
 (bX fu keys1).bind fun vr2 =>
 if (!(decide (vr2 = 0))) then
  some ((fB.mk [] [] 0),vr2)
 else
  (vX fu keys1).bind fun vr4 =>
  some (vr4,0)
def gM (runs1 : List (List aA)) (vat2 : List Int) : Nat → Int → List eA → Option (List eA)
 | 0,_,_=>none
 | fu + 1,i26,keys27 =>
  if (decide (i26 < (runs1.length : Int))) then
   (ix vat2 i26).bind fun e30 =>
   (ix runs1 i26).bind fun e31 =>
   if (!(decide (e30 = (e31.length : Int)))) then
    (ix e31 e30).bind fun e33 =>
    if 2 * ((keys27.length + 1) * 24) ≤ 281474976710656 then
     gM runs1 vat2 fu (IntKind.i64.wrap (i26 + 1)) (keys27++[(eA.mk e33.Key (decide (e30 = (e31.length : Int))))])
    else none
   else
    if 2 * ((keys27.length + 1) * 24) ≤ 281474976710656 then
     gM runs1 vat2 fu (IntKind.i64.wrap (i26 + 1)) (keys27++[(eA.mk [] (decide (e30 = (e31.length : Int))))])
    else none
  else
   some keys27
def aT (fu : Nat) (runs1 : List (List aA)) (vat2 : List Int) : Option (iB) :=
 if 2 * ((0 + runs1.length) * 24) ≤ 281474976710656 then
  if 2 * ((0 + vat2.length) * 8) ≤ 281474976710656 then
   (gM runs1 vat2 fu 0 []).bind fun x25 =>
   (zW fu x25).bind fun vr37 =>
   some (iB.mk runs1 vat2 vr37.1)
  else none
 else none
def nM (fu : Nat) (runs1 : List (List aA)) : Option (iB × Int × Int) :=
 (jQ fu runs1).bind fun vr2 =>
 if (!(decide (vr2.2 = 0))) then
  some ((iB.mk [] [] (fB.mk [] [] 0)),vr2.1,vr2.2)
 else
  if 0 ≤ (runs1.length : Int) ∧ (runs1.length : Int) ≤ (runs1.length : Int) ∧ (runs1.length : Int) ≤ 9223372036854775807 ∧ 8 * (runs1.length : Int) ≤ 281474976710656 then
   (aT fu runs1 (List.replicate runs1.length 0 : List Int)).bind fun vr5 =>
   some (vr5,0,0)
  else none
def uR (fu : Nat) (bottom1 : Bool) : Option (lB) :=
 some (lB.mk false [] bottom1)
def dW (fu : Nat) (runs1 : List (List aA)) (bottom2 : Bool) : Option (mB × Int × Int) :=
 (nM fu runs1).bind fun vr3 =>
 if (!(decide (vr3.2.2 = 0))) then
  some ((mB.mk (iB.mk [] [] (fB.mk [] [] 0)) (lB.mk false [] false) [] 0),vr3.2.1,vr3.2.2)
 else
  (uR fu bottom2).bind fun vr5 =>
  some ((mB.mk vr3.1 vr5 [] 0),0,0)
def xW (fu : Nat) (l1 : eB) (level2 : Int) (bottom3 : Bool) : Option (bB) :=
 (dZ fu l1 level2).bind fun vr4 =>
 (ix vr4 1).bind fun e5 =>
 (ix vr4 0).bind fun e6 =>
 (dW fu [e5.Entries,e6.Entries] bottom3).bind fun vr7 =>
 some (bB.mk level2 vr7.1)
def rO (a1 : List Int) (b2 : List Int) : Nat → Int → Option (Sum (Unit) (Bool))
 | 0,_=>none
 | fu + 1,i14 =>
  if (decide (i14 < (a1.length : Int))) then
   (ix a1 i14).bind fun e16 =>
   (ix b2 i14).bind fun e17 =>
   if (!(decide (e16 = e17))) then
    some (.inr false)
   else
    rO a1 b2 fu (IntKind.i64.wrap (i14 + 1))
  else
   some (.inl ())
def aS (fu : Nat) (a1 : List Int) (b2 : List Int) : Option (Bool) :=
 if (!(decide ((a1.length : Int) = (b2.length : Int)))) then
  some false
 else
  (rO a1 b2 fu 0).bind fun x13=>match x13 with
  | .inl o19 =>
   some true
  | .inr y =>
   some y
def bM (a1 : fB) (b2 : fB) : Nat → Int → Option (Sum (Unit) (Bool))
 | 0,_=>none
 | fu + 1,i20 =>
  if (decide (i20 < (a1.Keys.length : Int))) then
   (ix a1.Keys i20).bind fun e22 =>
   (ix b2.Keys i20).bind fun e23 =>
   if (!(eA.eqb e22 e23)) then
    some (.inr false)
   else
    bM a1 b2 fu (IntKind.i64.wrap (i20 + 1))
  else
   some (.inl ())
def eT (fu : Nat) (a1 : fB) (b2 : fB) : Option (Bool) :=
 (if (!(decide ((a1.Keys.length : Int) = (b2.Keys.length : Int)))) then some true else some (!(decide (a1.Win = b2.Win)))).bind fun b3 =>
 (if b3 then some true else (aS fu a1.Lose b2.Lose).bind fun vr4=>some (!vr4)).bind fun b5 =>
 if b5 then
  some false
 else
  (bM a1 b2 fu 0).bind fun x19=>match x19 with
  | .inl o25 =>
   some true
  | .inr y =>
   some y
def pK (runs1 : List (List aA)) (vat2 : List Int) : Nat → Int → Int → Option (Int)
 | 0,_,_=>none
 | fu + 1,best24,i25 =>
  if (decide (i25 < (runs1.length : Int))) then
   (ix vat2 i25).bind fun e27 =>
   (ix runs1 i25).bind fun e28 =>
   (if (decide (e27 < (e28.length : Int))) then (if (decide (best24 < 0)) then some true else (ix e28 e27).bind fun e29=>(ix runs1 best24).bind fun e30=>(ix vat2 best24).bind fun e31=>(ix e30 e31).bind fun e32=>some (Op.bytesLess e29.Key e32.Key)).bind fun b33=>some b33 else some false).bind fun b34 =>
   if b34 then
    pK runs1 vat2 fu i25 (IntKind.i64.wrap (i25 + 1))
   else
    pK runs1 vat2 fu best24 (IntKind.i64.wrap (i25 + 1))
  else
   some best24
def oT (fu : Nat) (runs1 : List (List aA)) (vat2 : List Int) : Option (Int) :=
 (pK runs1 vat2 fu (-1) 0).bind fun x23 =>
 some x23
def dK (vs1 : iB) : Nat → Int → Option (Sum (Unit) (Int × Int))
 | 0,_=>none
 | fu + 1,i19 =>
  if (decide (i19 < (vs1.At.length : Int))) then
   (ix vs1.At i19).bind fun e21 =>
   (if (decide (e21 < 0)) then some true else (ix vs1.Runs i19).bind fun e22=>some (decide ((e22.length : Int) < e21))).bind fun b23 =>
   if b23 then
    some (.inr (i19,6))
   else
    dK vs1 fu (IntKind.i64.wrap (i19 + 1))
  else
   some (.inl ())
def lG (vs1 : iB) (vr30 : Int) : Nat → Int → Option (Sum (Unit) (Int × Int))
 | 0,_=>none
 | fu + 1,i63 =>
  (if (decide (i63 < (vs1.Runs.length : Int))) then some (decide (0 ≤ vr30)) else some false).bind fun b64 =>
  if b64 then
   (ix vs1.At i63).bind fun e67 =>
   if (decide (e67 = 0)) then
    lG vs1 vr30 fu (IntKind.i64.wrap (i63 + 1))
   else
    (ix vs1.Runs i63).bind fun e69 =>
    (ix e69 (IntKind.i64.wrap (e67 - 1))).bind fun e70 =>
    (ix vs1.Runs vr30).bind fun e71 =>
    (ix vs1.At vr30).bind fun e72 =>
    (ix e71 e72).bind fun e73 =>
    (if (!(Op.bytesLess e70.Key e73.Key || e70.Key == e73.Key)) then some true else (if (e70.Key == e73.Key) then some (decide (vr30 < i63)) else some false).bind fun b74=>some b74).bind fun b75 =>
    if b75 then
     some (.inr (vr30,6))
    else
     lG vs1 vr30 fu (IntKind.i64.wrap (i63 + 1))
  else
   some (.inl ())
def bL (fu : Nat) (vs1 : iB) : Option (Int × Int) :=
 (jQ fu vs1.Runs).bind fun vr2 =>
 if (!(decide (vr2.2 = 0))) then
  some (vr2.1,vr2.2)
 else
  if (!(decide ((vs1.At.length : Int) = (vs1.Runs.length : Int)))) then
   some ((-1),6)
  else
   (dK vs1 fu 0).bind fun x18=>match x18 with
   | .inl o26 =>
    (aT fu vs1.Runs vs1.At).bind fun vr27 =>
    (eT fu vs1.Tree vr27.Tree).bind fun vr28 =>
    if (!vr28) then
     some ((-1),6)
    else
     (oT fu vs1.Runs vs1.At).bind fun vr30 =>
     (lG vs1 vr30 fu 0).bind fun x62=>match x62 with
     | .inl o79 =>
      some (0,0)
     | .inr y =>
      some y
   | .inr y =>
    some y
def tJ (vs1 : mB) : Nat → Int → Int → Option (Int)
 | 0,_,_=>none
 | fu + 1,n9,i10 =>
  if (decide (i10 < (vs1.Merge.At.length : Int))) then
   (ix vs1.Merge.At i10).bind fun e12 =>
   tJ vs1 fu (IntKind.i64.wrap (n9 + e12)) (IntKind.i64.wrap (i10 + 1))
  else
   some n9
def nQ (fu : Nat) (vs1 : mB) : Option (Int) :=
 (tJ vs1 fu 0 0).bind fun x8 =>
 some x8
def lN (runs1 : List (List aA)) : Nat → List Int → List aA → List Int → Option (List aA × List Int × Int)
 | 0,_,_,_=>none
 | fu + 1,vat29,l30,vfrom31 =>
  (oT fu runs1 vat29).bind fun vr35 =>
  if (decide (vr35 < 0)) then
   some (l30,vfrom31,0)
  else
   (ix runs1 vr35).bind fun e37 =>
   (ix vat29 vr35).bind fun e38 =>
   (ix e37 e38).bind fun e39 =>
   if 2 * ((l30.length + 1) * 48) ≤ 281474976710656 then
    if 2 * ((vfrom31.length + 1) * 8) ≤ 281474976710656 then
     lN runs1 fu (vat29.set vr35.toNat (IntKind.i64.wrap (e38 + 1))) (l30++[e39]) (vfrom31++[vr35])
    else none
   else none
def kT (fu : Nat) (runs1 : List (List aA)) : Option (List aA × List Int × Int) :=
 (jQ fu runs1).bind fun vr2 =>
 if (!(decide (vr2.2 = 0))) then
  some ([],[],vr2.2)
 else
  if 0 ≤ (runs1.length : Int) ∧ (runs1.length : Int) ≤ (runs1.length : Int) ∧ (runs1.length : Int) ≤ 9223372036854775807 ∧ 8 * (runs1.length : Int) ≤ 281474976710656 then
   (lN runs1 fu (List.replicate runs1.length 0 : List Int) [] []).bind fun x28 =>
   some x28
  else none
def gX (fu : Nat) (vs1 : lB) : Option (Int) :=
 if (decide (32 < (vs1.Last.length : Int))) then
  some 3
 else
  (if (!vs1.Some) then some (!(vs1.Last == [])) else some false).bind fun b3 =>
  if b3 then
   some 6
  else
   some 0
def dX (fu : Nat) (vs1 : lB) (vx2 : aA) : Option (Bool × lB × Int) :=
 (gX fu vs1).bind fun vr3 =>
 if (decide (vr3 = 0)) then
  (lV fu vx2).bind fun vr5 =>
  (if (decide (vr5 = 0)) then some vs1.Some else some false).bind fun b6 =>
  (if b6 then some (Op.bytesLess vx2.Key vs1.Last) else some false).bind fun b7 =>
  if b7 then
   some (false,(lB.mk false [] false),6)
  else
   if (!(decide (vr5 = 0))) then
    some (false,(lB.mk false [] false),vr5)
   else
    (if (!vs1.Some) then some true else some (!(vx2.Key == vs1.Last))).bind fun b13 =>
    (if b13 then (if vs1.Bottom then some vx2.Dead else some false).bind fun b15=>some (!b15) else some false).bind fun b16 =>
    some (b16,(lB.mk true vx2.Key vs1.Bottom),0)
 else
  (if (decide (vr3 = 0)) then some vs1.Some else some false).bind fun b19 =>
  (if b19 then some (Op.bytesLess vx2.Key vs1.Last) else some false).bind fun b20 =>
  if b20 then
   some (false,(lB.mk false [] false),6)
  else
   if (!(decide (vr3 = 0))) then
    some (false,(lB.mk false [] false),vr3)
   else
    (if (!vs1.Some) then some true else some (!(vx2.Key == vs1.Last))).bind fun b26 =>
    (if b26 then (if vs1.Bottom then some vx2.Dead else some false).bind fun b28=>some (!b28) else some false).bind fun b29 =>
    some (b29,(lB.mk true vx2.Key vs1.Bottom),0)
def dM (l1 : List aA) : Nat → Int → Bool → List UInt8 → Bool → List aA → Option (Sum (Bool × List UInt8 × Bool × List aA) (List aA × Int × Int))
 | 0,_,_,_,_,_=>none
 | fu + 1,i28,vs29,vs30,vs31,out32 =>
  if (decide (i28 < (l1.length : Int))) then
   (ix l1 i28).bind fun e35 =>
   (dX fu (lB.mk vs29 vs30 vs31) e35).bind fun vr36 =>
   if (!(decide (vr36.2.2 = 0))) then
    some (.inr ([],i28,vr36.2.2))
   else
    if vr36.1 then
     if 2 * ((out32.length + 1) * 48) ≤ 281474976710656 then
      dM l1 fu (IntKind.i64.wrap (i28 + 1)) vr36.2.1.Some vr36.2.1.Last vr36.2.1.Bottom (out32++[e35])
     else none
    else
     dM l1 fu (IntKind.i64.wrap (i28 + 1)) vr36.2.1.Some vr36.2.1.Last vr36.2.1.Bottom out32
  else
   some (.inl (vs29,vs30,vs31,out32))
def qX (fu : Nat) (l1 : List aA) (bottom2 : Bool) : Option (List aA × Int × Int) :=
 if (decide (20000 < (l1.length : Int))) then
  some ([],(-1),3)
 else
  (uR fu bottom2).bind fun vr4 =>
  (dM l1 fu 0 vr4.Some vr4.Last vr4.Bottom []).bind fun x27=>match x27 with
  | .inl o40 =>
   some (o40.2.2.2,0,0)
  | .inr y =>
   some y
def uV (fu : Nat) (l1 : List aA) (bottom2 : Bool) : Option (List aA × lB) :=
 (qX fu l1 bottom2).bind fun vr3 =>
 (uR fu bottom2).bind fun vr4 =>
 if (decide (0 < (l1.length : Int))) then
  (ix l1 (IntKind.i64.wrap ((l1.length : Int) - 1))).bind fun e6 =>
  some (vr3.1,(lB.mk true e6.Key vr4.Bottom))
 else
  some (vr3.1,vr4)
def oO (a1 : List aA) (b2 : List aA) : Nat → Int → Option (Sum (Unit) (Bool))
 | 0,_=>none
 | fu + 1,i14 =>
  if (decide (i14 < (a1.length : Int))) then
   (ix a1 i14).bind fun e16 =>
   (ix b2 i14).bind fun e17 =>
   if (!(aA.eqb e16 e17)) then
    some (.inr false)
   else
    oO a1 b2 fu (IntKind.i64.wrap (i14 + 1))
  else
   some (.inl ())
def hP (fu : Nat) (a1 : List aA) (b2 : List aA) : Option (Bool) :=
 if (!(decide ((a1.length : Int) = (b2.length : Int)))) then
  some false
 else
  (oO a1 b2 fu 0).bind fun x13=>match x13 with
  | .inl o19 =>
   some true
  | .inr y =>
   some y
def tV (fu : Nat) (vs1 : mB) : Option (Int) :=
 (bL fu vs1.Merge).bind fun vr2 =>
 if (!(decide (vr2.2 = 0))) then
  some vr2.2
 else
  (nQ fu vs1).bind fun vr4 =>
  (if (decide (20000 < (vs1.Out.length : Int))) then some true else some (decide (20000 < vr4))).bind fun b5 =>
  if b5 then
   some 3
  else
   if (!(decide (vs1.Steps = vr4))) then
    some 7
   else
    (kT fu vs1.Merge.Runs).bind fun vr9 =>
    if 0 ≤ vr4 ∧ vr4 ≤ (vr9.1.length : Int) then
     (uV fu (vr9.1.take vr4.toNat) vs1.Shadow.Bottom).bind fun vr11 =>
     (hP fu vs1.Out vr11.1).bind fun vr12 =>
     (if (!vr12) then some true else some (!(lB.eqb vs1.Shadow vr11.2))).bind fun b13 =>
     if b13 then
      some 6
     else
      some 0
    else none
def qO (vs1 : iB) : Nat → Int → Int → Option (Int)
 | 0,_,_=>none
 | fu + 1,n13,i14 =>
  if (decide (i14 < (vs1.Runs.length : Int))) then
   (ix vs1.Runs i14).bind fun e16 =>
   (ix vs1.At i14).bind fun e17 =>
   qO vs1 fu (IntKind.i64.wrap ((IntKind.i64.wrap (n13 + (e16.length : Int))) - e17)) (IntKind.i64.wrap (i14 + 1))
  else
   some n13
def tX (fu : Nat) (vs1 : iB) : Option (Int × Int) :=
 (bL fu vs1).bind fun vr2 =>
 if (!(decide (vr2.2 = 0))) then
  some (0,vr2.2)
 else
  (qO vs1 fu 0 0).bind fun x12 =>
  some (x12,0)
def bT (fu : Nat) (vs1 : mB) : Option (Int × Int) :=
 (tV fu vs1).bind fun vr2 =>
 if (!(decide (vr2 = 0))) then
  some (0,vr2)
 else
  (tX fu vs1.Merge).bind fun vr4 =>
  some (vr4.1,vr4.2)
def qV (fu : Nat) (vs1 : iB) : Option (aA × Int × iB × Int) :=
 (bL fu vs1).bind fun vr2 =>
 if (!(decide (vr2.2 = 0))) then
  some ((aA.mk [] [] false 0),0,(iB.mk [] [] (fB.mk [] [] 0)),vr2.2)
 else
  (oT fu vs1.Runs vs1.At).bind fun vr4 =>
  if (decide (vr4 < 0)) then
   some ((aA.mk [] [] false 0),0,(iB.mk [] [] (fB.mk [] [] 0)),12)
  else
   if 2 * ((0 + vs1.At.length) * 8) ≤ 281474976710656 then
    (ix vs1.At vr4).bind fun e7 =>
    (ix vs1.Runs vr4).bind fun e8 =>
    (ix e8 e7).bind fun e9 =>
    (aT fu vs1.Runs (vs1.At.set vr4.toNat (IntKind.i64.wrap (e7 + 1)))).bind fun vr10 =>
    some (e9,vr4,vr10,0)
   else none
def gO (vr3 : Int × Int) (n2 : Int) : Nat → Int → List (List aA) → List Int → List eA → List Int → Int → Option (List (List aA) × List Int × List eA × List Int × Int)
 | 0,_,_,_,_,_,_=>none
 | fu + 1,i21,t22,t23,t24,t25,t26 =>
  if (decide (i21 < (if vr3.1 < n2 then vr3.1 else n2))) then
   (qV fu (iB.mk t22 t23 (fB.mk t24 t25 t26))).bind fun vr28 =>
   gO vr3 n2 fu (IntKind.i64.wrap (i21 + 1)) vr28.2.2.1.Runs vr28.2.2.1.At vr28.2.2.1.Tree.Keys vr28.2.2.1.Tree.Lose vr28.2.2.1.Tree.Win
  else
   some (t22,t23,t24,t25,t26)
def vU (fu : Nat) (vs1 : mB) (n2 : Int) : Option (mB × Int × Int) :=
 (bT fu vs1).bind fun vr3 =>
 (if (decide (vr3.2 = 0)) then some (decide (n2 < 0)) else some false).bind fun b4 =>
 if b4 then
  some ((mB.mk (iB.mk [] [] (fB.mk [] [] 0)) (lB.mk false [] false) [] 0),0,7)
 else
  if (!(decide (vr3.2 = 0))) then
   some ((mB.mk (iB.mk [] [] (fB.mk [] [] 0)) (lB.mk false [] false) [] 0),0,vr3.2)
  else
   (nQ fu vs1).bind fun vr8 =>
   if (decide (20000 < (IntKind.i64.wrap (vr8 + (if vr3.1 < n2 then vr3.1 else n2))))) then
    some ((mB.mk (iB.mk [] [] (fB.mk [] [] 0)) (lB.mk false [] false) [] 0),0,3)
   else
    (gO vr3 n2 fu 0 vs1.Merge.Runs vs1.Merge.At vs1.Merge.Tree.Keys vs1.Merge.Tree.Lose vs1.Merge.Tree.Win).bind fun x20 =>
    (kT fu vs1.Merge.Runs).bind fun vr29 =>
    if 0 ≤ (IntKind.i64.wrap (vs1.Steps + (if vr3.1 < n2 then vr3.1 else n2))) ∧ (IntKind.i64.wrap (vs1.Steps + (if vr3.1 < n2 then vr3.1 else n2))) ≤ (vr29.1.length : Int) then
     (uV fu (vr29.1.take ((IntKind.i64.wrap (vs1.Steps + (if vr3.1 < n2 then vr3.1 else n2))).toNat)) vs1.Shadow.Bottom).bind fun vr31 =>
     some ((mB.mk (iB.mk x20.1 x20.2.1 (fB.mk x20.2.2.1 x20.2.2.2.1 x20.2.2.2.2)) vr31.2 vr31.1 (IntKind.i64.wrap (vs1.Steps + (if vr3.1 < n2 then vr3.1 else n2)))),(if vr3.1 < n2 then vr3.1 else n2),0)
    else none
def zJ (a1 : iB) (b2 : iB) : Nat → Int → Option (Sum (Unit) (Bool))
 | 0,_=>none
 | fu + 1,i23 =>
  if (decide (i23 < (a1.Runs.length : Int))) then
   (ix a1.Runs i23).bind fun e25 =>
   (ix b2.Runs i23).bind fun e26 =>
   (hP fu e25 e26).bind fun vr27 =>
   if (!vr27) then
    some (.inr false)
   else
    zJ a1 b2 fu (IntKind.i64.wrap (i23 + 1))
  else
   some (.inl ())
def aX (fu : Nat) (a1 : iB) (b2 : iB) : Option (Bool) :=
 (if (!(decide ((a1.Runs.length : Int) = (b2.Runs.length : Int)))) then some true else (aS fu a1.At b2.At).bind fun vr3=>some (!vr3)).bind fun b4 =>
 (if b4 then some true else (eT fu a1.Tree b2.Tree).bind fun vr5=>some (!vr5)).bind fun b6 =>
 if b6 then
  some false
 else
  (zJ a1 b2 fu 0).bind fun x22=>match x22 with
  | .inl o29 =>
   some true
  | .inr y =>
   some y
def oR (fu : Nat) (a1 : mB) (b2 : mB) : Option (Bool) :=
 (aX fu a1.Merge b2.Merge).bind fun vr3 =>
 (if vr3 then some (lB.eqb a1.Shadow b2.Shadow) else some false).bind fun b4 =>
 (if b4 then (hP fu a1.Out b2.Out).bind fun vr5=>some vr5 else some false).bind fun b6 =>
 (if b6 then some (decide (a1.Steps = b2.Steps)) else some false).bind fun b7 =>
 some b7
def tG (vs1 : cB) (vr13 : List Int) : Nat → Int → Option (Sum (Unit) (Int × Int))
 | 0,_=>none
 | fu + 1,i52 =>
  if (decide (i52 < (vs1.Jobs.length : Int))) then
   (ix vs1.Jobs i52).bind fun e54 =>
   (if (decide ((vr13.length : Int) ≤ i52)) then some true else (ix vr13 i52).bind fun e55=>some (!(decide (e54.Level = e55)))).bind fun b56 =>
   if b56 then
    some (.inr (i52,6))
   else
    (if e54.Work.Shadow.Bottom then (qT fu vs1.Levels e54.Level).bind fun vr59=>some (!vr59) else some false).bind fun b60 =>
    if b60 then
     some (.inr (i52,6))
    else
     (xW fu vs1.Levels e54.Level e54.Work.Shadow.Bottom).bind fun vr63 =>
     (bT fu vr63.Work).bind fun vr64 =>
     (if (decide (e54.Work.Steps < 0)) then some true else some (decide (vr64.1 < e54.Work.Steps))).bind fun b65 =>
     if b65 then
      some (.inr (i52,6))
     else
      (vU fu vr63.Work e54.Work.Steps).bind fun vr68 =>
      (oR fu vr68.1 e54.Work).bind fun vr69 =>
      if (!vr69) then
       some (.inr (i52,6))
      else
       tG vs1 vr13 fu (IntKind.i64.wrap (i52 + 1))
  else
   some (.inl ())
def fL (fu : Nat) (vs1 : cB) : Option (Int × Int) :=
 (oJ fu vs1.Levels).bind fun vr2 =>
 (if (decide (vr2.2.2 = 0)) then (if (decide (vs1.NextId < 1)) then some true else some (decide (1000001 < vs1.NextId))).bind fun b3=>some b3 else some false).bind fun b4 =>
 if b4 then
  some ((-1),7)
 else
  (if (decide (vr2.2.2 = 0)) then (dU fu vs1.Levels).bind fun vr8=>some (decide (vs1.NextId ≤ vr8)) else some false).bind fun b9 =>
  if b9 then
   some ((-1),6)
  else
   if (!(decide (vr2.2.2 = 0))) then
    some ((-1),vr2.2.2)
   else
    (aV fu vs1.Levels).bind fun vr13 =>
    (tG vs1 vr13 fu 0).bind fun x51=>match x51 with
    | .inl o71 =>
     if (decide ((vs1.Jobs.length : Int) < (vr13.length : Int))) then
      some ((-1),4)
     else
      some (0,0)
    | .inr y =>
     some y
def yW (fu : Nat) (vs1 : cB) : Option (List Int × Int) :=
 (fL fu vs1).bind fun vr2 =>
 if (!(decide (vr2.2 = 0))) then
  some ([],vr2.2)
 else
  (aV fu vs1.Levels).bind fun vr4 =>
  some (vr4,0)
def xL (vr3 : List Int × Int) (level2 : Int) : Nat → Int → Option (Sum (Unit) (Int × Int))
 | 0,_=>none
 | fu + 1,i13 =>
  if (decide (i13 < (vr3.1.length : Int))) then
   (ix vr3.1 i13).bind fun e15 =>
   if (decide (e15 = level2)) then
    some (.inr (i13,0))
   else
    xL vr3 level2 fu (IntKind.i64.wrap (i13 + 1))
  else
   some (.inl ())
def zL (fu : Nat) (vs1 : cB) (level2 : Int) : Option (Int × Int) :=
 (yW fu vs1).bind fun vr3 =>
 if (!(decide (vr3.2 = 0))) then
  some (0,vr3.2)
 else
  (xL vr3 level2 fu 0).bind fun x12=>match x12 with
  | .inl o17 =>
   some (0,4)
  | .inr y =>
   some y
def hS (fu : Nat) (vs1 : cB) (level2 : Int) : Option (Int × Int) :=
 (zL fu vs1 level2).bind fun vr3 =>
 if (!(decide (vr3.2 = 0))) then
  some (0,vr3.2)
 else
  (ix vs1.Jobs vr3.1).bind fun e5 =>
  (bT fu e5.Work).bind fun vr6 =>
  some (vr6.1,vr6.2)
def bJ (fu : Nat) (vs1 : cB) (level2 : Int) (most3 : Int) : Option (cB × Int × Int) :=
 (fL fu vs1).bind fun vr4 =>
 (if (decide (vr4.2 = 0)) then some (decide (most3 < 0)) else some false).bind fun b5 =>
 if b5 then
  some ((cB.mk (eB.mk 0 []) [] 0),0,7)
 else
  if (!(decide (vr4.2 = 0))) then
   some ((cB.mk (eB.mk 0 []) [] 0),0,vr4.2)
  else
   (hS fu vs1 level2).bind fun vr9 =>
   (if (decide (vr9.2 = 0)) then some (decide (vr9.1 = 0)) else some false).bind fun b10 =>
   if b10 then
    some ((cB.mk (eB.mk 0 []) [] 0),0,9)
   else
    if (!(decide (vr9.2 = 0))) then
     some ((cB.mk (eB.mk 0 []) [] 0),0,vr9.2)
    else
     (zL fu vs1 level2).bind fun vr14 =>
     (ix vs1.Jobs vr14.1).bind fun e15 =>
     (vU fu e15.Work most3).bind fun vr16 =>
     if 2 * ((0 + vs1.Jobs.length) * 176) ≤ 281474976710656 then
      some ((cB.mk vs1.Levels (vs1.Jobs.set vr14.1.toNat (bB.mk level2 vr16.1)) vs1.NextId),vr16.2.1,0)
     else none
def iO (a1 : List aA) (b2 : List aA) : Nat → Int → Option (Sum (Unit) (Bool))
 | 0,_=>none
 | fu + 1,i17 =>
  (if (decide (i17 < (a1.length : Int))) then some (decide (i17 < (b2.length : Int))) else some false).bind fun b18 =>
  if b18 then
   (ix a1 i17).bind fun e21 =>
   (ix b2 i17).bind fun e22 =>
   if (!(aA.eqb e21 e22)) then
    some (.inr false)
   else
    iO a1 b2 fu (IntKind.i64.wrap (i17 + 1))
  else
   some (.inl ())
def qU (fu : Nat) (a1 : List aA) (b2 : List aA) : Option (Bool) :=
 (iO a1 b2 fu 0).bind fun x16=>match x16 with
 | .inl o24 =>
  some (decide ((a1.length : Int) = (b2.length : Int)))
 | .inr y =>
  some y
def zal (fu : Nat) (a1 : gB) (b2 : gB) : Option (Bool) :=
 (if (decide (a1.Id = b2.Id)) then (qU fu a1.Entries b2.Entries).bind fun vr3=>some vr3 else some false).bind fun b4 =>
 some b4
def zN (a1 : List gB) (b2 : List gB) : Nat → Int → Option (Sum (Unit) (Bool))
 | 0,_=>none
 | fu + 1,i16 =>
  if (decide (i16 < (a1.length : Int))) then
   (ix a1 i16).bind fun e18 =>
   (ix b2 i16).bind fun e19 =>
   (zal fu e18 e19).bind fun vr20 =>
   if (!vr20) then
    some (.inr false)
   else
    zN a1 b2 fu (IntKind.i64.wrap (i16 + 1))
  else
   some (.inl ())
def vW (fu : Nat) (a1 : List gB) (b2 : List gB) : Option (Bool) :=
 if (!(decide ((a1.length : Int) = (b2.length : Int)))) then
  some false
 else
  (zN a1 b2 fu 0).bind fun x15=>match x15 with
  | .inl o22 =>
   some true
  | .inr y =>
   some y
def uM (a1 : eB) (b2 : eB) : Nat → Int → Option (Sum (Unit) (Bool))
 | 0,_=>none
 | fu + 1,i18 =>
  if (decide (i18 < (a1.Levels.length : Int))) then
   (ix a1.Levels i18).bind fun e20 =>
   (ix b2.Levels i18).bind fun e21 =>
   (vW fu e20.Runs e21.Runs).bind fun vr22 =>
   if (!vr22) then
    some (.inr false)
   else
    uM a1 b2 fu (IntKind.i64.wrap (i18 + 1))
  else
   some (.inl ())
def qW (fu : Nat) (a1 : eB) (b2 : eB) : Option (Bool) :=
 (if (!(decide (a1.B = b2.B))) then some true else some (!(decide ((a1.Levels.length : Int) = (b2.Levels.length : Int))))).bind fun b3 =>
 if b3 then
  some false
 else
  (uM a1 b2 fu 0).bind fun x17=>match x17 with
  | .inl o24 =>
   some true
  | .inr y =>
   some y
def aW (fu : Nat) (a1 : bB) (b2 : bB) : Option (Bool) :=
 (if (decide (a1.Level = b2.Level)) then (oR fu a1.Work b2.Work).bind fun vr3=>some vr3 else some false).bind fun b4 =>
 some b4
def uN (a1 : cB) (b2 : cB) : Nat → Int → Option (Sum (Unit) (Bool))
 | 0,_=>none
 | fu + 1,i22 =>
  if (decide (i22 < (a1.Jobs.length : Int))) then
   (ix a1.Jobs i22).bind fun e24 =>
   (ix b2.Jobs i22).bind fun e25 =>
   (aW fu e24 e25).bind fun vr26 =>
   if (!vr26) then
    some (.inr false)
   else
    uN a1 b2 fu (IntKind.i64.wrap (i22 + 1))
  else
   some (.inl ())
def zQ (fu : Nat) (a1 : cB) (b2 : cB) : Option (Bool) :=
 (qW fu a1.Levels b2.Levels).bind fun vr3 =>
 (if (!vr3) then some true else some (!(decide ((a1.Jobs.length : Int) = (b2.Jobs.length : Int))))).bind fun b4 =>
 (if b4 then some true else some (!(decide (a1.NextId = b2.NextId)))).bind fun b5 =>
 if b5 then
  some false
 else
  (uN a1 b2 fu 0).bind fun x21=>match x21 with
  | .inl o28 =>
   some true
  | .inr y =>
   some y
def xY (fu : Nat) (vs1 : cB) (level2 : Int) (most3 : Int) : Option (Bool) :=
 (pW fu vs1).bind fun vr4 =>
 if vr4 then
  (yM fu).bind fun vr6 =>
  some vr6
 else
  (qG fu vs1 level2 most3).bind fun vr7 =>
  (bJ fu vs1 level2 most3).bind fun vr8 =>
  (zQ fu vr7.1 vr8.1).bind fun vr9 =>
  (if vr9 then some (decide (vr7.2.1 = vr8.2.1)) else some false).bind fun b10 =>
  (if b10 then some (decide (vr7.2.2 = vr8.2.2)) else some false).bind fun b11 =>
  (if b11 then (yM fu).bind fun vr12=>some vr12 else some false).bind fun b13 =>
  some b13
def zdE (fu : Nat) (vs1 : cB) : Option (List Int × Int) :=
 (bK fu vs1).bind fun vr2 =>
 if (!(decide (vr2.2 = 0))) then
  some ([],vr2.2)
 else
  (lO fu vs1.Levels).bind fun vr4 =>
  (qN fu vr4.1 vr4.2).bind fun vr5 =>
  some (vr5,0)
end Go.T
