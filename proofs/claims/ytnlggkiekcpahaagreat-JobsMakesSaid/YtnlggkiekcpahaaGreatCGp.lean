/- A text of the proof. -/
import Derived.Test.YtnlggkiekcpahaaGreatCAmZj
namespace Go.T
open Go Go.AM
set_option linter.unusedVariables false
structure aA where
  Key : List UInt8
  Val : List UInt8
  Dead : Bool
  Seq : Int
  deriving DecidableEq
structure zA where
  Id : Int
  Entries : List aA
  deriving DecidableEq
structure sA where
  Runs : List zA
  deriving DecidableEq
structure uA where
  B : Int
  Levels : List sA
  deriving DecidableEq
structure eA where
  Key : List UInt8
  Done : Bool
  deriving DecidableEq
structure eB where
  Keys : List eA
  Lose : List Int
  Win : Int
  deriving DecidableEq
structure kB where
  Runs : List (List aA)
  At : List Int
  Tree : eB
  deriving DecidableEq
structure tB where
  Some : Bool
  Last : List UInt8
  Bottom : Bool
  deriving DecidableEq
structure wB where
  Merge : kB
  Shadow : tB
  Out : List aA
  Steps : Int
  deriving DecidableEq
structure yA where
  Level : Int
  Work : wB
  deriving DecidableEq
structure oB where
  Levels : uA
  Jobs : List yA
  NextId : Int
  deriving DecidableEq
structure kF where
  Key : List UInt8
  Val : List UInt8
  Dead : Bool
  Seq : Int
  deriving DecidableEq
structure mF where
  Key : List UInt8
  Val : List UInt8
  Dead : Bool
  Seq : Int
  deriving DecidableEq
structure pE where
  Key : List UInt8
  Val : List UInt8
  Dead : Bool
  Seq : Int
  deriving DecidableEq
structure T2Uint8 where
  e0 : Int
  e1 : Int
  deriving DecidableEq
def eA.eqb (x y : eA) : Bool := ((x.Key == y.Key) && ((x.Done == y.Done) && true))
def tB.eqb (x y : tB) : Bool := ((x.Some == y.Some) && ((x.Last == y.Last) && ((x.Bottom == y.Bottom) && true)))
def aA.eqb (x y : aA) : Bool := ((x.Key == y.Key) && ((x.Val == y.Val) && ((x.Dead == y.Dead) && ((x.Seq == y.Seq) && true))))
def mI (l1 : List aA) : Nat → Int → Option (Sum (Unit) (Bool))
  | 0, _ => none
  | fu + 1, i18 =>
    (if (decide (i18 < (l1.length : Int))) then some (decide (i18 < 40)) else some false).bind fun b19 =>
    if b19 then
      (ix l1 i18).bind fun e22 =>
      (if (decide (100 < (e22.Key.length : Int))) then some true else some (decide (100 < (e22.Val.length : Int)))).bind fun b23 =>
      if b23 then
        some (.inr true)
      else
        mI l1 fu (IntKind.i64.wrap (i18 + 1))
    else
      some (.inl ())
def oT (fu : Nat) (l1 : List aA) : Option (Bool) :=
  (mI l1 fu 0).bind fun x17 => match x17 with
  | .inl o26 =>
    some (decide (30 < (l1.length : Int)))
  | .inr y =>
    some y
def cJ (l1 : List zA) : Nat → Int → Option (Sum (Unit) (Bool))
  | 0, _ => none
  | fu + 1, i16 =>
    (if (decide (i16 < (l1.length : Int))) then some (decide (i16 < 10)) else some false).bind fun b17 =>
    if b17 then
      (ix l1 i16).bind fun e20 =>
      (oT fu e20.Entries).bind fun vr21 =>
      if vr21 then
        some (.inr true)
      else
        cJ l1 fu (IntKind.i64.wrap (i16 + 1))
    else
      some (.inl ())
def aU (fu : Nat) (l1 : List zA) : Option (Bool) :=
  (cJ l1 fu 0).bind fun x15 => match x15 with
  | .inl o23 =>
    some (decide (6 < (l1.length : Int)))
  | .inr y =>
    some y
def aJ (l1 : uA) : Nat → Int → Option (Sum (Unit) (Bool))
  | 0, _ => none
  | fu + 1, i16 =>
    (if (decide (i16 < (l1.Levels.length : Int))) then some (decide (i16 < 20)) else some false).bind fun b17 =>
    if b17 then
      (ix l1.Levels i16).bind fun e20 =>
      (aU fu e20.Runs).bind fun vr21 =>
      if vr21 then
        some (.inr true)
      else
        aJ l1 fu (IntKind.i64.wrap (i16 + 1))
    else
      some (.inl ())
def sU (fu : Nat) (l1 : uA) : Option (Bool) :=
  (aJ l1 fu 0).bind fun x15 => match x15 with
  | .inl o23 =>
    some (decide (14 < (l1.Levels.length : Int)))
  | .inr y =>
    some y
def rJ (keys3 : List UInt8) (dead2 : Bool) (id1 : Int) : Nat → Int → List aA → Option (List aA)
  | 0, _, _ => none
  | fu + 1, i15, v16 =>
    if (decide (i15 < (keys3.length : Int))) then
      if 0 ≤ i15 ∧ i15 ≤ (IntKind.i64.wrap (i15 + 1)) ∧ (IntKind.i64.wrap (i15 + 1)) ≤ (keys3.length : Int) then
        if 2 * ((v16.length + 1) * 48) ≤ 281474976710656 then
          rJ keys3 dead2 id1 fu (IntKind.i64.wrap (i15 + 1)) (v16 ++ [(aA.mk ((keys3.drop i15.toNat).take ((IntKind.i64.wrap (i15 + 1)).toNat - i15.toNat)) [] dead2 (IntKind.i64.wrap ((IntKind.i64.wrap ((IntKind.i64.wrap (10 * id1)) + i15)) + 1)))])
        else none
      else none
    else
      some v16
def mP (fu : Nat) (id1 : Int) (dead2 : Bool) (keys3 : List UInt8) : Option (zA) :=
  (rJ keys3 dead2 id1 fu 0 []).bind fun x14 =>
  some (zA.mk id1 x14)
def zS (fu : Nat) : Option (uA) :=
  (mP fu 1 false [97, 98]).bind fun vr1 =>
  (mP fu 2 true [98]).bind fun vr2 =>
  some (uA.mk 2 [(sA.mk [vr1, vr2])])
def wN (fu : Nat) (k1 : List UInt8) : Option (Int) :=
  if (decide (32 < (k1.length : Int))) then
    some 3
  else
    some 0
def iL (fu : Nat) (vx1 : aA) : Option (Int) :=
  (wN fu vx1.Key).bind fun vr2 =>
  (if (!(decide (vr2 = 0))) then some true else some (decide (64 < (vx1.Val.length : Int)))).bind fun b3 =>
  if b3 then
    some 3
  else
    (if vx1.Dead then some (!(vx1.Val == [])) else some false).bind fun b6 =>
    if b6 then
      some 6
    else
      (if (decide (vx1.Seq < 1)) then some true else some (decide (1000000000 < vx1.Seq))).bind fun b9 =>
      if b9 then
        some 7
      else
        some 0
def dF (l1 : List aA) : Nat → Int → Option (Sum (Unit) (Int × Int))
  | 0, _ => none
  | fu + 1, v17 =>
    if (decide (v17 < (l1.length : Int))) then
      (ix l1 v17).bind fun e19 =>
      (iL fu e19).bind fun vr20 =>
      if (!(decide (vr20 = 0))) then
        some (.inr (v17, vr20))
      else
        (if (decide (0 < v17)) then (ix l1 (IntKind.i64.wrap (v17 - 1))).bind fun e22 => some (Op.bytesLess e19.Key e22.Key || e19.Key == e22.Key) else some false).bind fun b23 =>
        if b23 then
          some (.inr (v17, 6))
        else
          dF l1 fu (IntKind.i64.wrap (v17 + 1))
    else
      some (.inl ())
def rI (fu : Nat) (l1 : List aA) : Option (Int × Int) :=
  if (decide (5000 < (l1.length : Int))) then
    some ((-1), 3)
  else
    (dF l1 fu 0).bind fun x16 => match x16 with
    | .inl o26 =>
      some (0, 0)
    | .inr y =>
      some y
def fP (fu : Nat) (vr1 : zA) : Option (Int × Int) :=
  (if (decide (vr1.Id < 1)) then some true else some (decide (1000000 < vr1.Id))).bind fun b2 =>
  if b2 then
    some ((-1), 7)
  else
    (rI fu vr1.Entries).bind fun vr5 =>
    some (vr5.1, vr5.2)
def zN (fu : Nat) (vr1 : zA) (most2 : Int) : Option (Int) :=
  (fP fu vr1).bind fun vr3 =>
  if (!(decide (vr3.2 = 0))) then
    some vr3.2
  else
    if (decide ((vr1.Entries.length : Int) = 0)) then
      some 4
    else
      if (decide (most2 < (vr1.Entries.length : Int))) then
        some 3
      else
        some 0
def fF (e169 : sA) (v165 : Int) (l1 : uA) : Nat → Int → Int → (List (Int × Bool)) → Int → Option (Sum (Int × Int × (List (Int × Bool))) (Int × Int × (List (Int × Bool))))
  | 0, _, _, _, _ => none
  | fu + 1, e203, v204, v205, run206 =>
    if (decide (v204 < (e169.Runs.length : Int))) then
      (ix e169.Runs v204).bind fun e208 =>
      if 0 ≤ v165 then
        (zN fu e208 (IntKind.i64.wrap (l1.B * 2 ^ (min v165.toNat (IntKind.bits .i64))))).bind fun vr210 =>
        if (decide (vr210 = 0)) then
          if ((mE v205 e208.Id).getD false) then
            some (.inr (v204, 8, v205))
          else
            if (!(decide (vr210 = 0))) then
              some (.inr (v204, vr210, v205))
            else
              fF e169 v165 l1 fu vr210 (IntKind.i64.wrap (v204 + 1)) (aF v205 e208.Id true) v204
        else
          if (!(decide (vr210 = 0))) then
            some (.inr (v204, vr210, v205))
          else
            fF e169 v165 l1 fu vr210 (IntKind.i64.wrap (v204 + 1)) (aF v205 e208.Id true) v204
      else none
    else
      some (.inl (run206, e203, v205))
def pF (l1 : uA) : Nat → Int → Int → Int → (List (Int × Bool)) → Int → Option (Int × Int × Int × (List (Int × Bool)))
  | 0, _, _, _, _, _ => none
  | fu + 1, run163, e164, v165, v166, level167 =>
    if (decide (v165 < (l1.Levels.length : Int))) then
      (ix l1.Levels v165).bind fun e169 =>
      if (decide (2 < (e169.Runs.length : Int))) then
        some (v165, 0, 3, v166)
      else
        (fF e169 v165 l1 fu e164 0 v166 0).bind fun x202 => match x202 with
        | .inl o215 =>
          pF l1 fu o215.1 o215.2.1 (IntKind.i64.wrap (v165 + 1)) o215.2.2 v165
        | .inr o216 =>
          some (v165, o216.1, o216.2.1, o216.2.2)
    else
      some (level167, run163, e164, v166)
def uH (fu : Nat) (l1 : uA) : Option (Int × Int × Int) :=
  (if (decide (l1.B < 1)) then some true else some (decide (16 < l1.B))).bind fun b2 =>
  if b2 then
    some (0, 0, 7)
  else
    if (decide (12 < (l1.Levels.length : Int))) then
      some (0, 0, 3)
    else
      (pF l1 fu 0 0 0 ([] : List (Int × Bool)) 0).bind fun x162 =>
      if (!(decide (x162.2.2.1 = 0))) then
        some (x162.1, x162.2.1, x162.2.2.1)
      else
        (if (decide (0 < (l1.Levels.length : Int))) then (ix l1.Levels (IntKind.i64.wrap ((l1.Levels.length : Int) - 1))).bind fun e218 => some (decide ((e218.Runs.length : Int) = 0)) else some false).bind fun b219 =>
        if b219 then
          some ((IntKind.i64.wrap ((l1.Levels.length : Int) - 1)), 0, 6)
        else
          some (0, 0, 0)
def zG (e34 : sA) : Nat → Int → Int → Option (Int)
  | 0, _, _ => none
  | fu + 1, best42, v43 =>
    if (decide (v43 < (e34.Runs.length : Int))) then
      (ix e34.Runs v43).bind fun e45 =>
      zG e34 fu (if best42 < e45.Id then e45.Id else best42) (IntKind.i64.wrap (v43 + 1))
    else
      some best42
def mH (l1 : uA) : Nat → Int → Int → Option (Int)
  | 0, _, _ => none
  | fu + 1, best31, v32 =>
    if (decide (v32 < (l1.Levels.length : Int))) then
      (ix l1.Levels v32).bind fun e34 =>
      (zG e34 fu best31 0).bind fun x41 =>
      mH l1 fu x41 (IntKind.i64.wrap (v32 + 1))
    else
      some best31
def zM (fu : Nat) (l1 : uA) : Option (Int) :=
  (mH l1 fu 0 0).bind fun x30 =>
  some x30
def pO (fu : Nat) (l1 : uA) : Option (Int × List sA) :=
  some (l1.B, l1.Levels)
def lK (fu : Nat) (l1 : uA) (level2 : Int) : Option (Bool) :=
  some (decide (level2 = (IntKind.i64.wrap ((l1.Levels.length : Int) - 1))))
def bF (runs1 : List (List aA)) : Nat → Int → Option (Sum (Unit) (Int × Int))
  | 0, _ => none
  | fu + 1, v14 =>
    if (decide (v14 < (runs1.length : Int))) then
      (ix runs1 v14).bind fun e16 =>
      (rI fu e16).bind fun vr17 =>
      if (!(decide (vr17.2 = 0))) then
        some (.inr (v14, vr17.2))
      else
        bF runs1 fu (IntKind.i64.wrap (v14 + 1))
    else
      some (.inl ())
def wI (fu : Nat) (runs1 : List (List aA)) : Option (Int × Int) :=
  if (decide ((runs1.length : Int) = 0)) then
    some ((-1), 6)
  else
    if (decide (32 < (runs1.length : Int))) then
      some ((-1), 3)
    else
      (bF runs1 fu 0).bind fun x13 => match x13 with
      | .inl o19 =>
        some (0, 0)
      | .inr y =>
        some y
def cN (fu : Nat) (vs1 : List (List aA)) : Option (List (List aA)) :=
  if vs1.isEmpty then
    some []
  else
    if 2 * ((0 + vs1.length) * 24) ≤ 281474976710656 then
      some vs1
    else none
def jK (fu : Nat) (l1 : List aA) (vat2 : Int) : Option (eA) :=
  if (decide (vat2 = (l1.length : Int))) then
    some (eA.mk [] true)
  else
    (ix l1 vat2).bind fun e4 =>
    some (eA.mk e4.Key false)
def kQ (fu : Nat) (k1 : eA) : Option (Bool) :=
  (if k1.Done then some (!(k1.Key == [])) else some false).bind fun b2 =>
  some b2
def aH (vs1 : List eA) : Nat → Int → Option (Sum (Unit) (Int))
  | 0, _ => none
  | fu + 1, v12 =>
    if (decide (v12 < (vs1.length : Int))) then
      (ix vs1 v12).bind fun e14 =>
      (kQ fu e14).bind fun vr15 =>
      if vr15 then
        some (.inr v12)
      else
        aH vs1 fu (IntKind.i64.wrap (v12 + 1))
    else
      some (.inl ())
def wP (fu : Nat) (vs1 : List eA) : Option (Int) :=
  (aH vs1 fu 0).bind fun x11 => match x11 with
  | .inl o17 =>
    some (-1)
  | .inr y =>
    some y
def iQ (fu : Nat) (vs1 : List eA) : Option (Bool) :=
  (wP fu vs1).bind fun vr2 =>
  some (decide (0 ≤ vr2))
def tK (fu : Nat) (keys1 : List eA) : Option (Int) :=
  if (decide ((keys1.length : Int) = 0)) then
    some 6
  else
    if (decide (32 < (keys1.length : Int))) then
      some 3
    else
      (iQ fu keys1).bind fun vr4 =>
      if vr4 then
        some 2
      else
        some 0
def kM (fu : Nat) (keys1 : List eA) : Option (List eA) :=
  some keys1
def jQ (fu : Nat) (vs1 : List eA) : Option (List eA) :=
  if vs1.isEmpty then
    some []
  else
    if 2 * ((0 + vs1.length) * 24) ≤ 281474976710656 then
      some vs1
    else none
def fM (fu : Nat) (p1 : Int) (q2 : Int) (p3 : List eA) : Option (Bool) :=
  (ix p3 p1).bind fun e4 =>
  (ix p3 q2).bind fun e5 =>
  if (!(e4.Done == e5.Done)) then
    some e5.Done
  else
    if (!(e4.Key == e5.Key)) then
      some (Op.bytesLess e4.Key e5.Key)
    else
      some (decide (p1 < q2))
def oG (keys1 : List eA) (vr2 : List eA) : Nat → Int → List Int → List Int → Option (List Int × List Int)
  | 0, _, _, _ => none
  | fu + 1, i34, players35, v36 =>
    if (decide (0 < i34)) then
      if (decide ((keys1.length : Int) ≤ i34)) then
        (ix players35 i34).bind fun e41 =>
        oG keys1 vr2 fu (IntKind.i64.wrap (i34 - 1)) (players35.set i34.toNat (IntKind.i64.wrap (i34 - (keys1.length : Int)))) v36
      else
        (ix players35 (IntKind.i64.wrap (2 * i34))).bind fun e42 =>
        (ix players35 (IntKind.i64.wrap ((IntKind.i64.wrap (2 * i34)) + 1))).bind fun e43 =>
        (fM fu e42 e43 vr2).bind fun vr44 =>
        if (!vr44) then
          (ix players35 i34).bind fun e46 =>
          (ix v36 i34).bind fun e47 =>
          oG keys1 vr2 fu (IntKind.i64.wrap (i34 - 1)) (players35.set i34.toNat e43) (v36.set i34.toNat e42)
        else
          (ix players35 i34).bind fun e48 =>
          (ix v36 i34).bind fun e49 =>
          oG keys1 vr2 fu (IntKind.i64.wrap (i34 - 1)) (players35.set i34.toNat e42) (v36.set i34.toNat e43)
    else
      some (players35, v36)
def lN (fu : Nat) (keys1 : List eA) : Option (eB) :=
  (kM fu keys1).bind fun vr2 =>
  if 0 ≤ (IntKind.i64.wrap (2 * (keys1.length : Int))) ∧ (IntKind.i64.wrap (2 * (keys1.length : Int))) ≤ (IntKind.i64.wrap (2 * (keys1.length : Int))) ∧ (IntKind.i64.wrap (2 * (keys1.length : Int))) ≤ 9223372036854775807 ∧ 8 * (IntKind.i64.wrap (2 * (keys1.length : Int))) ≤ 281474976710656 then
    (jQ fu keys1).bind fun vr4 =>
    if 0 ≤ (keys1.length : Int) ∧ (keys1.length : Int) ≤ (keys1.length : Int) ∧ (keys1.length : Int) ≤ 9223372036854775807 ∧ 8 * (keys1.length : Int) ≤ 281474976710656 then
      (oG keys1 vr2 fu (IntKind.i64.wrap ((IntKind.i64.wrap (2 * (keys1.length : Int))) - 1)) (List.replicate (IntKind.i64.wrap (2 * (keys1.length : Int))).toNat 0 : List Int) (List.replicate keys1.length 0 : List Int)).bind fun x33 =>
      (ix x33.1 1).bind fun e52 =>
      some (eB.mk vr4 x33.2 e52)
    else none
  else none
def fO (fu : Nat) (keys1 : List eA) : Option (eB × Int) :=
  (tK fu keys1).bind fun vr2 =>
  if (!(decide (vr2 = 0))) then
    some ((eB.mk [] [] 0), vr2)
  else
    (lN fu keys1).bind fun vr4 =>
    some (vr4, 0)
def qH (runs1 : List (List aA)) (vat2 : List Int) : Nat → Int → List eA → Option (List eA)
  | 0, _, _ => none
  | fu + 1, v18, keys19 =>
    if (decide (v18 < (runs1.length : Int))) then
      (ix runs1 v18).bind fun e22 =>
      (ix vat2 v18).bind fun e23 =>
      (jK fu e22 e23).bind fun vr24 =>
      (ix keys19 v18).bind fun e25 =>
      qH runs1 vat2 fu (IntKind.i64.wrap (v18 + 1)) (keys19.set v18.toNat vr24)
    else
      some keys19
def xM (fu : Nat) (runs1 : List (List aA)) (vat2 : List Int) : Option (eB) :=
  if 0 ≤ (runs1.length : Int) ∧ (runs1.length : Int) ≤ (runs1.length : Int) ∧ (runs1.length : Int) ≤ 9223372036854775807 ∧ 24 * (runs1.length : Int) ≤ 281474976710656 then
    (qH runs1 vat2 fu 0 (List.replicate runs1.length (eA.mk [] false) : List eA)).bind fun x17 =>
    (fO fu x17).bind fun vr27 =>
    some vr27.1
  else none
def jL (fu : Nat) (runs1 : List (List aA)) : Option (kB × Int × Int) :=
  (wI fu runs1).bind fun vr2 =>
  if (!(decide (vr2.2 = 0))) then
    some ((kB.mk [] [] (eB.mk [] [] 0)), vr2.1, vr2.2)
  else
    if 0 ≤ (runs1.length : Int) ∧ (runs1.length : Int) ≤ (runs1.length : Int) ∧ (runs1.length : Int) ≤ 9223372036854775807 ∧ 8 * (runs1.length : Int) ≤ 281474976710656 then
      (cN fu runs1).bind fun vr5 =>
      (xM fu runs1 (List.replicate runs1.length 0 : List Int)).bind fun vr6 =>
      some ((kB.mk vr5 (List.replicate runs1.length 0 : List Int) vr6), 0, 0)
    else none
def kN (fu : Nat) (bottom1 : Bool) : Option (tB) :=
  some (tB.mk false [] bottom1)
def sN (fu : Nat) (runs1 : List (List aA)) (bottom2 : Bool) : Option (wB × Int × Int) :=
  (jL fu runs1).bind fun vr3 =>
  if (!(decide (vr3.2.2 = 0))) then
    some ((wB.mk (kB.mk [] [] (eB.mk [] [] 0)) (tB.mk false [] false) [] 0), vr3.2.1, vr3.2.2)
  else
    (kN fu bottom2).bind fun vr5 =>
    some ((wB.mk vr3.1 vr5 [] 0), 0, 0)
def zL (fu : Nat) (l1 : uA) (level2 : Int) (bottom3 : Bool) : Option (yA) :=
  (ix l1.Levels level2).bind fun e4 =>
  (ix e4.Runs 1).bind fun e5 =>
  (ix e4.Runs 0).bind fun e6 =>
  (sN fu [e5.Entries, e6.Entries] bottom3).bind fun vr7 =>
  some (yA.mk level2 vr7.1)
def dG (vr5 : Int × List sA) (l1 : uA) : Nat → Int → List yA → Option (List yA)
  | 0, _, _ => none
  | fu + 1, level27, v28 =>
    if (decide (level27 < (vr5.2.length : Int))) then
      (ix vr5.2 level27).bind fun e31 =>
      if (decide ((e31.Runs.length : Int) = 2)) then
        (lK fu l1 level27).bind fun vr33 =>
        (zL fu l1 level27 vr33).bind fun vr34 =>
        if 2 * ((v28.length + 1) * 176) ≤ 281474976710656 then
          dG vr5 l1 fu (IntKind.i64.wrap (level27 + 1)) (v28 ++ [vr34])
        else none
      else
        dG vr5 l1 fu (IntKind.i64.wrap (level27 + 1)) v28
    else
      some v28
def wJ (fu : Nat) (l1 : uA) : Option (oB × Int) :=
  (uH fu l1).bind fun vr2 =>
  if (!(decide (vr2.2.2 = 0))) then
    some ((oB.mk (uA.mk 0 []) [] 0), vr2.2.2)
  else
    (zM fu l1).bind fun vr4 =>
    (pO fu l1).bind fun vr5 =>
    (dG vr5 l1 fu 0 []).bind fun x26 =>
    some ((oB.mk l1 x26 (IntKind.i64.wrap (vr4 + 1))), 0)
def gG (seq2 : List sA) : Nat → Int → List Int → Option (List Int)
  | 0, _, _ => none
  | fu + 1, v18, v19 =>
    if (decide (v18 < (seq2.length : Int))) then
      (ix seq2 v18).bind fun e22 =>
      if (decide ((e22.Runs.length : Int) = 2)) then
        if 2 * ((v19.length + 1) * 8) ≤ 281474976710656 then
          gG seq2 fu (IntKind.i64.wrap (v18 + 1)) (v19 ++ [v18])
        else none
      else
        gG seq2 fu (IntKind.i64.wrap (v18 + 1)) v19
    else
      some v19
def uN (fu : Nat) (seq1 : Int) (seq2 : List sA) : Option (List Int) :=
  (gG seq2 fu 0 []).bind fun x17 =>
  some x17
def gH (s11 : List eA) (s22 : List eA) : Nat → Int → Option (Sum (Unit) (Bool))
  | 0, _ => none
  | fu + 1, v14 =>
    if (decide (v14 < (s11.length : Int))) then
      (ix s11 v14).bind fun e16 =>
      (ix s22 v14).bind fun e17 =>
      if (!(eA.eqb e16 e17)) then
        some (.inr false)
      else
        gH s11 s22 fu (IntKind.i64.wrap (v14 + 1))
    else
      some (.inl ())
def fK (fu : Nat) (s11 : List eA) (s22 : List eA) : Option (Bool) :=
  if (!(decide ((s11.length : Int) = (s22.length : Int)))) then
    some false
  else
    (gH s11 s22 fu 0).bind fun x13 => match x13 with
    | .inl o19 =>
      some true
    | .inr y =>
      some y
def dH (s11 : List Int) (s22 : List Int) : Nat → Int → Option (Sum (Unit) (Bool))
  | 0, _ => none
  | fu + 1, v14 =>
    if (decide (v14 < (s11.length : Int))) then
      (ix s11 v14).bind fun e16 =>
      (ix s22 v14).bind fun e17 =>
      if (!(decide (e16 = e17))) then
        some (.inr false)
      else
        dH s11 s22 fu (IntKind.i64.wrap (v14 + 1))
    else
      some (.inl ())
def yI (fu : Nat) (s11 : List Int) (s22 : List Int) : Option (Bool) :=
  if (!(decide ((s11.length : Int) = (s22.length : Int)))) then
    some false
  else
    (dH s11 s22 fu 0).bind fun x13 => match x13 with
    | .inl o19 =>
      some true
    | .inr y =>
      some y
def tO (fu : Nat) (a1 : eB) (b2 : eB) : Option (Bool) :=
  (if (decide (a1.Win = b2.Win)) then (fK fu a1.Keys b2.Keys).bind fun vr3 => some vr3 else some false).bind fun b4 =>
  (if b4 then (yI fu a1.Lose b2.Lose).bind fun vr5 => some vr5 else some false).bind fun b6 =>
  some b6
def jH (vr5 : eB) (t1 : eB) : Nat → Int → Option (Sum (Unit) (Int × Int))
  | 0, _ => none
  | fu + 1, v16 =>
    if (decide (v16 < (vr5.Lose.length : Int))) then
      (ix vr5.Lose v16).bind fun e18 =>
      (ix t1.Lose v16).bind fun e19 =>
      if (!(decide (e19 = e18))) then
        some (.inr (v16, 6))
      else
        jH vr5 t1 fu (IntKind.i64.wrap (v16 + 1))
    else
      some (.inl ())
def uO (fu : Nat) (t1 : eB) : Option (Int × Int) :=
  (tK fu t1.Keys).bind fun vr2 =>
  if (!(decide (vr2 = 0))) then
    some (0, vr2)
  else
    if (!(decide ((t1.Lose.length : Int) = (t1.Keys.length : Int)))) then
      some (0, 6)
    else
      (lN fu t1.Keys).bind fun vr5 =>
      (jH vr5 t1 fu 0).bind fun x15 => match x15 with
      | .inl o21 =>
        if (!(decide (t1.Win = vr5.Win))) then
          some (0, 6)
        else
          some (0, 0)
      | .inr y =>
        some y
def nM (fu : Nat) (t1 : eB) : Option (Int) :=
  (uO fu t1).bind fun vr2 =>
  if (!(decide (vr2.2 = 0))) then
    some vr2.2
  else
    (ix t1.Keys t1.Win).bind fun e4 =>
    if e4.Done then
      some 12
    else
      some 0
def tM (fu : Nat) (t1 : eB) : Option (Int × List UInt8 × Int) :=
  (nM fu t1).bind fun vr2 =>
  if (!(decide (vr2 = 0))) then
    some (0, [], vr2)
  else
    (ix t1.Keys t1.Win).bind fun e4 =>
    some (t1.Win, e4.Key, 0)
def jO (fu : Nat) (vx1 : List UInt8) : Option (Bool) :=
  some (!(vx1 == vx1))
def iK (fu : Nat) (vx1 : List UInt8) (y2 : List UInt8) : Option (Int) :=
  (jO fu vx1).bind fun vr3 =>
  (jO fu y2).bind fun vr4 =>
  if vr3 then
    if vr4 then
      some 0
    else
      some (-1)
  else
    if vr4 then
      some 1
    else
      if (Op.bytesLess vx1 y2) then
        some (-1)
      else
        if (!(Op.bytesLess vx1 y2 || vx1 == y2)) then
          some 1
        else
          some 0
def qN (fu : Nat) (vx1 : Int) : Option (Bool) :=
  some (!(decide (vx1 = vx1)))
def cM (fu : Nat) (vx1 : Int) (y2 : Int) : Option (Int) :=
  (qN fu vx1).bind fun vr3 =>
  (qN fu y2).bind fun vr4 =>
  if vr3 then
    if vr4 then
      some 0
    else
      some (-1)
  else
    if vr4 then
      some 1
    else
      if (decide (vx1 < y2)) then
        some (-1)
      else
        if (decide (y2 < vx1)) then
          some 1
        else
          some 0
def iH (vals1 : List Int) : Nat → Int → Option (Sum (Unit) (Int))
  | 0, _ => none
  | fu + 1, v10 =>
    if (decide (v10 < (vals1.length : Int))) then
      (ix vals1 v10).bind fun e12 =>
      if (!(decide (e12 = 0))) then
        some (.inr e12)
      else
        iH vals1 fu (IntKind.i64.wrap (v10 + 1))
    else
      some (.inl ())
def wK (fu : Nat) (vals1 : List Int) : Option (Int) :=
  (iH vals1 fu 0).bind fun x9 => match x9 with
  | .inl o14 =>
    some 0
  | .inr y =>
    some y
def vF (vs1 : kB) : Nat → Int → Option (Sum (Unit) (Int × Int))
  | 0, _ => none
  | fu + 1, v19 =>
    if (decide (v19 < (vs1.At.length : Int))) then
      (ix vs1.At v19).bind fun e21 =>
      (if (decide (e21 < 0)) then some true else (ix vs1.Runs v19).bind fun e22 => some (decide ((e22.length : Int) < e21))).bind fun b23 =>
      if b23 then
        some (.inr (v19, 6))
      else
        vF vs1 fu (IntKind.i64.wrap (v19 + 1))
    else
      some (.inl ())
def gF (vs1 : kB) (vr30 : Int × List UInt8 × Int) : Nat → Int → Option (Sum (Unit) (Int × Int))
  | 0, _ => none
  | fu + 1, v54 =>
    if (decide (v54 < (vs1.At.length : Int))) then
      (ix vs1.At v54).bind fun e56 =>
      (if (decide (0 < e56)) then (ix vs1.Runs v54).bind fun e57 => (ix e57 (IntKind.i64.wrap (e56 - 1))).bind fun e58 => (iK fu e58.Key vr30.2.1).bind fun vr59 => (cM fu v54 vr30.1).bind fun vr60 => (wK fu [vr59, vr60]).bind fun vr61 => some (decide (0 < vr61)) else some false).bind fun b62 =>
      if b62 then
        some (.inr (vr30.1, 6))
      else
        gF vs1 vr30 fu (IntKind.i64.wrap (v54 + 1))
    else
      some (.inl ())
def pH (fu : Nat) (vs1 : kB) : Option (Int × Int) :=
  (wI fu vs1.Runs).bind fun vr2 =>
  if (!(decide (vr2.2 = 0))) then
    some (vr2.1, vr2.2)
  else
    if (!(decide ((vs1.At.length : Int) = (vs1.Runs.length : Int)))) then
      some ((-1), 6)
    else
      (vF vs1 fu 0).bind fun x18 => match x18 with
      | .inl o26 =>
        (xM fu vs1.Runs vs1.At).bind fun vr27 =>
        (tO fu vs1.Tree vr27).bind fun vr28 =>
        if (!vr28) then
          some ((-1), 6)
        else
          (tM fu vs1.Tree).bind fun vr30 =>
          if (!(decide (vr30.2.2 = 0))) then
            some (0, 0)
          else
            (gF vs1 vr30 fu 0).bind fun x53 => match x53 with
            | .inl o65 =>
              some (0, 0)
            | .inr y =>
              some y
      | .inr y =>
        some y
def tP (fu : Nat) (vr1 : List (List aA)) (vr2 : List Int) (vr3 : List eA) (vr4 : List Int) (vr5 : Int) : Option (aA × Int × Int) :=
  (tM fu (eB.mk vr3 vr4 vr5)).bind fun vr6 =>
  if (!(decide (vr6.2.2 = 0))) then
    some ((aA.mk [] [] false 0), 0, vr6.2.2)
  else
    (ix vr1 vr6.1).bind fun e8 =>
    (ix vr2 vr6.1).bind fun e9 =>
    (ix e8 e9).bind fun e10 =>
    some (e10, vr6.1, 0)
def kP (fu : Nat) (vs1 : List eA) : Option (List eA) :=
  if vs1.isEmpty then
    some []
  else
    if 2 * ((0 + vs1.length) * 24) ≤ 281474976710656 then
      some vs1
    else none
def fI (keys1 : List eA) (vr2 : List eA) : Nat → Int → List Int → List Int → Option (List Int × List Int)
  | 0, _, _, _ => none
  | fu + 1, i34, players35, v36 =>
    if (decide (0 < i34)) then
      if (decide ((keys1.length : Int) ≤ i34)) then
        (ix players35 i34).bind fun e41 =>
        fI keys1 vr2 fu (IntKind.i64.wrap (i34 - 1)) (players35.set i34.toNat (IntKind.i64.wrap (i34 - (keys1.length : Int)))) v36
      else
        (ix players35 (IntKind.i64.wrap (2 * i34))).bind fun e42 =>
        (ix players35 (IntKind.i64.wrap ((IntKind.i64.wrap (2 * i34)) + 1))).bind fun e43 =>
        (fM fu e42 e43 vr2).bind fun vr44 =>
        if (!vr44) then
          (ix players35 i34).bind fun e46 =>
          (ix v36 i34).bind fun e47 =>
          fI keys1 vr2 fu (IntKind.i64.wrap (i34 - 1)) (players35.set i34.toNat e43) (v36.set i34.toNat e42)
        else
          (ix players35 i34).bind fun e48 =>
          (ix v36 i34).bind fun e49 =>
          fI keys1 vr2 fu (IntKind.i64.wrap (i34 - 1)) (players35.set i34.toNat e42) (v36.set i34.toNat e43)
    else
      some (players35, v36)
def eS (fu : Nat) (keys1 : List eA) : Option (eB) :=
  (kM fu keys1).bind fun vr2 =>
  if 0 ≤ (IntKind.i64.wrap (2 * (keys1.length : Int))) ∧ (IntKind.i64.wrap (2 * (keys1.length : Int))) ≤ (IntKind.i64.wrap (2 * (keys1.length : Int))) ∧ (IntKind.i64.wrap (2 * (keys1.length : Int))) ≤ 9223372036854775807 ∧ 8 * (IntKind.i64.wrap (2 * (keys1.length : Int))) ≤ 281474976710656 then
    (kP fu keys1).bind fun vr4 =>
    if 0 ≤ (keys1.length : Int) ∧ (keys1.length : Int) ≤ (keys1.length : Int) ∧ (keys1.length : Int) ≤ 9223372036854775807 ∧ 8 * (keys1.length : Int) ≤ 281474976710656 then
      (fI keys1 vr2 fu (IntKind.i64.wrap ((IntKind.i64.wrap (2 * (keys1.length : Int))) - 1)) (List.replicate (IntKind.i64.wrap (2 * (keys1.length : Int))).toNat 0 : List Int) (List.replicate keys1.length 0 : List Int)).bind fun x33 =>
      (ix x33.1 1).bind fun e52 =>
      some (eB.mk vr4 x33.2 e52)
    else none
  else none
def zR (fu : Nat) (keys1 : List eA) : Option (eB × Int) :=
  (tK fu keys1).bind fun vr2 =>
  if (!(decide (vr2 = 0))) then
    some ((eB.mk [] [] 0), vr2)
  else
    (eS fu keys1).bind fun vr4 =>
    some (vr4, 0)
def pJ (runs1 : List (List aA)) (vat2 : List Int) : Nat → Int → List eA → Option (List eA)
  | 0, _, _ => none
  | fu + 1, v18, keys19 =>
    if (decide (v18 < (runs1.length : Int))) then
      (ix runs1 v18).bind fun e22 =>
      (ix vat2 v18).bind fun e23 =>
      (jK fu e22 e23).bind fun vr24 =>
      (ix keys19 v18).bind fun e25 =>
      pJ runs1 vat2 fu (IntKind.i64.wrap (v18 + 1)) (keys19.set v18.toNat vr24)
    else
      some keys19
def fR (fu : Nat) (runs1 : List (List aA)) (vat2 : List Int) : Option (eB) :=
  if 0 ≤ (runs1.length : Int) ∧ (runs1.length : Int) ≤ (runs1.length : Int) ∧ (runs1.length : Int) ≤ 9223372036854775807 ∧ 24 * (runs1.length : Int) ≤ 281474976710656 then
    (pJ runs1 vat2 fu 0 (List.replicate runs1.length (eA.mk [] false) : List eA)).bind fun x17 =>
    (zR fu x17).bind fun vr27 =>
    some vr27.1
  else none
def sR (fu : Nat) (runs1 : List (List aA)) : Option (kB × Int × Int) :=
  (wI fu runs1).bind fun vr2 =>
  if (!(decide (vr2.2 = 0))) then
    some ((kB.mk [] [] (eB.mk [] [] 0)), vr2.1, vr2.2)
  else
    if 0 ≤ (runs1.length : Int) ∧ (runs1.length : Int) ≤ (runs1.length : Int) ∧ (runs1.length : Int) ≤ 9223372036854775807 ∧ 8 * (runs1.length : Int) ≤ 281474976710656 then
      (cN fu runs1).bind fun vr5 =>
      (fR fu runs1 (List.replicate runs1.length 0 : List Int)).bind fun vr6 =>
      some ((kB.mk vr5 (List.replicate runs1.length 0 : List Int) vr6), 0, 0)
    else none
def aQ (fu : Nat) (vs1 : List Int) : Option (List Int) :=
  if vs1.isEmpty then
    some []
  else
    if 2 * ((0 + vs1.length) * 8) ≤ 281474976710656 then
      some vs1
    else none
def hI (vr14 : List eA) : Nat → Int → Int → Int → List Int → Option (Int × Int × List Int)
  | 0, _, _, _, _ => none
  | fu + 1, games29, node30, u31, v32 =>
    if (decide ((IntKind.i64.wrap (node30.tdiv 2)) = 0)) then
      some (games29, u31, v32)
    else
      (ix v32 (IntKind.i64.wrap (node30.tdiv 2))).bind fun e35 =>
      (fM fu e35 u31 vr14).bind fun vr36 =>
      if vr36 then
        hI vr14 fu (IntKind.i64.wrap (games29 + 1)) (IntKind.i64.wrap (node30.tdiv 2)) e35 (v32.set ((IntKind.i64.wrap (node30.tdiv 2)).toNat) u31)
      else
        hI vr14 fu (IntKind.i64.wrap (games29 + 1)) (IntKind.i64.wrap (node30.tdiv 2)) u31 v32
def xP (fu : Nat) (t1 : eB) (k2 : eA) : Option (eB × Int × Int) :=
  (nM fu t1).bind fun vr3 =>
  if (!(decide (vr3 = 0))) then
    some ((eB.mk [] [] 0), 0, vr3)
  else
    (tK fu [k2]).bind fun vr5 =>
    if (!(decide (vr5 = 0))) then
      some ((eB.mk [] [] 0), 0, vr5)
    else
      (if (!k2.Done) then (ix t1.Keys t1.Win).bind fun e7 => some (Op.bytesLess k2.Key e7.Key) else some false).bind fun b8 =>
      if b8 then
        some ((eB.mk [] [] 0), 0, 6)
      else
        (kP fu t1.Keys).bind fun vr11 =>
        (aQ fu t1.Lose).bind fun vr12 =>
        (ix vr11 t1.Win).bind fun e13 =>
        (kM fu (vr11.set t1.Win.toNat k2)).bind fun vr14 =>
        (hI vr14 fu 0 (IntKind.i64.wrap (((vr11.set t1.Win.toNat k2).length : Int) + t1.Win)) t1.Win vr12).bind fun x28 =>
        some ((eB.mk (vr11.set t1.Win.toNat k2) x28.2.2 x28.2.1), x28.1, 0)
def dJ (vr2 : kB × Int × Int) : Nat → List Int → List eA → List Int → Int → List aA → List Int → Option (List Int × List eA × List Int × Int × List aA × List Int)
  | 0, _, _, _, _, _, _ => none
  | fu + 1, v38, v39, v40, v41, v42, v43 =>
    (tP fu vr2.1.Runs v38 v39 v40 v41).bind fun vr47 =>
    if (!(decide (vr47.2.2 = 0))) then
      some (v38, v39, v40, v41, v42, v43)
    else
      if 2 * ((v42.length + 1) * 48) ≤ 281474976710656 then
        if 2 * ((v43.length + 1) * 8) ≤ 281474976710656 then
          (ix v38 vr47.2.1).bind fun e51 =>
          (ix vr2.1.Runs vr47.2.1).bind fun e52 =>
          (ix (v38.set vr47.2.1.toNat (IntKind.i64.wrap (e51 + 1))) vr47.2.1).bind fun e53 =>
          (jK fu e52 e53).bind fun vr54 =>
          (xP fu (eB.mk v39 v40 v41) vr54).bind fun vr55 =>
          dJ vr2 fu (v38.set vr47.2.1.toNat (IntKind.i64.wrap (e51 + 1))) vr55.1.Keys vr55.1.Lose vr55.1.Win (v42 ++ [vr47.1]) (v43 ++ [vr47.2.1])
        else none
      else none
def cR (fu : Nat) (runs1 : List (List aA)) : Option (List aA × List Int × Int) :=
  (sR fu runs1).bind fun vr2 =>
  if (!(decide (vr2.2.2 = 0))) then
    some ([], [], vr2.2.2)
  else
    (dJ vr2 fu vr2.1.At vr2.1.Tree.Keys vr2.1.Tree.Lose vr2.1.Tree.Win [] []).bind fun x37 =>
    some (x37.2.2.2.2.1, x37.2.2.2.2.2, 0)
def jP (fu : Nat) (vs1 : tB) : Option (Int) :=
  (wN fu vs1.Last).bind fun vr2 =>
  if (!(decide (vr2 = 0))) then
    some vr2
  else
    (if (!vs1.Some) then some (!(vs1.Last == [])) else some false).bind fun b4 =>
    if b4 then
      some 6
    else
      some 0
def uS (fu : Nat) (vx1 : pE) : Option (aA) :=
  some (aA.mk vx1.Key vx1.Val vx1.Dead vx1.Seq)
def aI (l1 : List aA) (vr4 : tB) : Nat → Int → Bool → List UInt8 → List aA → Option (Sum (Bool × List UInt8 × List aA) (List aA × Int × Int))
  | 0, _, _, _, _ => none
  | fu + 1, v60, v61, v62, v63 =>
    if (decide (v60 < (l1.length : Int))) then
      (ix l1 v60).bind fun e66 =>
      (jP fu (tB.mk v61 v62 vr4.Bottom)).bind fun vr67 =>
      if (!(decide (vr67 = 0))) then
        some (.inr ([], v60, vr67))
      else
        (iL fu e66).bind fun vr69 =>
        if (!(decide (vr69 = 0))) then
          some (.inr ([], v60, vr69))
        else
          (if v61 then some (Op.bytesLess e66.Key v62) else some false).bind fun b71 =>
          if b71 then
            some (.inr ([], v60, 6))
          else
            (if v61 then some (e66.Key == v62) else some false).bind fun b74 =>
            if b74 then
              aI l1 vr4 fu (IntKind.i64.wrap (v60 + 1)) true e66.Key v63
            else
              (if vr4.Bottom then some e66.Dead else some false).bind fun b77 =>
              if b77 then
                aI l1 vr4 fu (IntKind.i64.wrap (v60 + 1)) true e66.Key v63
              else
                (uS fu (pE.mk e66.Key e66.Val e66.Dead e66.Seq)).bind fun vr80 =>
                if 2 * ((v63.length + 1) * 48) ≤ 281474976710656 then
                  aI l1 vr4 fu (IntKind.i64.wrap (v60 + 1)) true e66.Key (v63 ++ [vr80])
                else none
    else
      some (.inl (v61, v62, v63))
def pS (fu : Nat) (l1 : List aA) (bottom2 : Bool) : Option (List aA × Int × Int) :=
  if (decide (20000 < (l1.length : Int))) then
    some ([], (-1), 3)
  else
    (kN fu bottom2).bind fun vr4 =>
    (aI l1 vr4 fu 0 vr4.Some vr4.Last []).bind fun x59 => match x59 with
    | .inl o82 =>
      some (o82.2.2, 0, 0)
    | .inr y =>
      some y
def jJ (a1 : List aA) (b2 : List aA) : Nat → Int → Option (Sum (Unit) (Bool))
  | 0, _ => none
  | fu + 1, v14 =>
    if (decide (v14 < (a1.length : Int))) then
      (ix a1 v14).bind fun e16 =>
      (ix b2 v14).bind fun e17 =>
      if (!(aA.eqb e16 e17)) then
        some (.inr false)
      else
        jJ a1 b2 fu (IntKind.i64.wrap (v14 + 1))
    else
      some (.inl ())
def sP (fu : Nat) (a1 : List aA) (b2 : List aA) : Option (Bool) :=
  if (!(decide ((a1.length : Int) = (b2.length : Int)))) then
    some false
  else
    (jJ a1 b2 fu 0).bind fun x13 => match x13 with
    | .inl o19 =>
      some true
    | .inr y =>
      some y
def oJ (vs1 : wB) : Nat → Int → Int → Option (Int)
  | 0, _, _ => none
  | fu + 1, n11, v12 =>
    if (decide (v12 < (vs1.Merge.At.length : Int))) then
      (ix vs1.Merge.At v12).bind fun e14 =>
      oJ vs1 fu (IntKind.i64.wrap (n11 + e14)) (IntKind.i64.wrap (v12 + 1))
    else
      some n11
def hS (fu : Nat) (vs1 : wB) : Option (Int) :=
  (pH fu vs1.Merge).bind fun vr2 =>
  if (!(decide (vr2.2 = 0))) then
    some vr2.2
  else
    (oJ vs1 fu 0 0).bind fun x10 =>
    (if (decide (20000 < (vs1.Out.length : Int))) then some true else some (decide (20000 < x10))).bind fun b15 =>
    if b15 then
      some 3
    else
      if (!(decide (vs1.Steps = x10))) then
        some 7
      else
        (cR fu vs1.Merge.Runs).bind fun vr19 =>
        if (!(decide (vr19.2.2 = 0))) then
          some vr19.2.2
        else
          if 0 ≤ x10 ∧ x10 ≤ (vr19.1.length : Int) then
            (pS fu (vr19.1.take x10.toNat) vs1.Shadow.Bottom).bind fun vr22 =>
            if (!(decide (vr22.2.2 = 0))) then
              some vr22.2.2
            else
              (kN fu vs1.Shadow.Bottom).bind fun vr24 =>
              if (decide (0 < x10)) then
                (ix vr19.1 (IntKind.i64.wrap (x10 - 1))).bind fun e26 =>
                (sP fu vs1.Out vr22.1).bind fun vr27 =>
                (if (!vr27) then some true else some (!(tB.eqb vs1.Shadow (tB.mk true e26.Key vr24.Bottom)))).bind fun b28 =>
                if b28 then
                  some 6
                else
                  some 0
              else
                (sP fu vs1.Out vr22.1).bind fun vr31 =>
                (if (!vr31) then some true else some (!(tB.eqb vs1.Shadow vr24))).bind fun b32 =>
                if b32 then
                  some 6
                else
                  some 0
          else none
def eJ (vs1 : kB) : Nat → Int → Int → Option (Int)
  | 0, _, _ => none
  | fu + 1, n13, v14 =>
    if (decide (v14 < (vs1.Runs.length : Int))) then
      (ix vs1.Runs v14).bind fun e16 =>
      (ix vs1.At v14).bind fun e17 =>
      eJ vs1 fu (IntKind.i64.wrap (n13 + (IntKind.i64.wrap ((e16.length : Int) - e17)))) (IntKind.i64.wrap (v14 + 1))
    else
      some n13
def bS (fu : Nat) (vs1 : kB) : Option (Int × Int) :=
  (pH fu vs1).bind fun vr2 =>
  if (!(decide (vr2.2 = 0))) then
    some (0, vr2.2)
  else
    (eJ vs1 fu 0 0).bind fun x12 =>
    some (x12, 0)
def eN (fu : Nat) (vs1 : wB) : Option (Int × Int) :=
  (hS fu vs1).bind fun vr2 =>
  if (!(decide (vr2 = 0))) then
    some (0, vr2)
  else
    (bS fu vs1.Merge).bind fun vr4 =>
    some (vr4.1, vr4.2)
def vQ (fu : Nat) (vs1 : kB) : Option (aA × Int × kB × Int) :=
  (pH fu vs1).bind fun vr2 =>
  if (!(decide (vr2.2 = 0))) then
    some ((aA.mk [] [] false 0), 0, (kB.mk [] [] (eB.mk [] [] 0)), vr2.2)
  else
    (cN fu vs1.Runs).bind fun vr4 =>
    (aQ fu vs1.At).bind fun vr5 =>
    (tP fu vr4 vr5 vs1.Tree.Keys vs1.Tree.Lose vs1.Tree.Win).bind fun vr6 =>
    if (!(decide (vr6.2.2 = 0))) then
      some ((aA.mk [] [] false 0), 0, (kB.mk [] [] (eB.mk [] [] 0)), vr6.2.2)
    else
      (ix vr5 vr6.2.1).bind fun e8 =>
      (ix vr4 vr6.2.1).bind fun e9 =>
      (ix (vr5.set vr6.2.1.toNat (IntKind.i64.wrap (e8 + 1))) vr6.2.1).bind fun e10 =>
      (jK fu e9 e10).bind fun vr11 =>
      (xP fu vs1.Tree vr11).bind fun vr12 =>
      some (vr6.1, vr6.2.1, (kB.mk vr4 (vr5.set vr6.2.1.toNat (IntKind.i64.wrap (e8 + 1))) vr12.1), 0)
def dS (fu : Nat) (vs1 : tB) (vx2 : aA) : Option (Bool × tB × Int) :=
  (jP fu vs1).bind fun vr3 =>
  if (!(decide (vr3 = 0))) then
    some (false, (tB.mk false [] false), vr3)
  else
    (iL fu vx2).bind fun vr5 =>
    if (!(decide (vr5 = 0))) then
      some (false, (tB.mk false [] false), vr5)
    else
      (if vs1.Some then some (Op.bytesLess vx2.Key vs1.Last) else some false).bind fun b7 =>
      if b7 then
        some (false, (tB.mk false [] false), 6)
      else
        (if vs1.Some then some (vx2.Key == vs1.Last) else some false).bind fun b10 =>
        if b10 then
          some (false, (tB.mk true vx2.Key vs1.Bottom), 0)
        else
          (if vs1.Bottom then some vx2.Dead else some false).bind fun b13 =>
          if b13 then
            some (false, (tB.mk true vx2.Key vs1.Bottom), 0)
          else
            some (true, (tB.mk true vx2.Key vs1.Bottom), 0)
def uI (vr3 : Int × Int) (n2 : Int) : Nat → Int → List (List aA) → List Int → List eA → List Int → Int → Bool → List UInt8 → Bool → Int → List aA → Option (Sum (List (List aA) × List Int × List eA × List Int × Int × Bool × List UInt8 × Bool × Int × List aA) (wB × Int × Int))
  | 0, _, _, _, _, _, _, _, _, _, _, _ => none
  | fu + 1, left43, v44, v45, v46, v47, v48, v49, v50, v51, v52, v53 =>
    if (decide (left43 < (if vr3.1 < n2 then vr3.1 else n2))) then
      (vQ fu (kB.mk v44 v45 (eB.mk v46 v47 v48))).bind fun vr56 =>
      if (!(decide (vr56.2.2.2 = 0))) then
        some (.inr ((wB.mk (kB.mk [] [] (eB.mk [] [] 0)) (tB.mk false [] false) [] 0), 0, vr56.2.2.2))
      else
        (dS fu (tB.mk v49 v50 v51) vr56.1).bind fun vr58 =>
        if (!(decide (vr58.2.2 = 0))) then
          some (.inr ((wB.mk (kB.mk [] [] (eB.mk [] [] 0)) (tB.mk false [] false) [] 0), 0, vr58.2.2))
        else
          if vr58.1 then
            if 2 * ((v53.length + 1) * 48) ≤ 281474976710656 then
              uI vr3 n2 fu (IntKind.i64.wrap (left43 + 1)) vr56.2.2.1.Runs vr56.2.2.1.At vr56.2.2.1.Tree.Keys vr56.2.2.1.Tree.Lose vr56.2.2.1.Tree.Win vr58.2.1.Some vr58.2.1.Last vr58.2.1.Bottom (IntKind.i64.wrap (v52 + 1)) (v53 ++ [vr56.1])
            else none
          else
            uI vr3 n2 fu (IntKind.i64.wrap (left43 + 1)) vr56.2.2.1.Runs vr56.2.2.1.At vr56.2.2.1.Tree.Keys vr56.2.2.1.Tree.Lose vr56.2.2.1.Tree.Win vr58.2.1.Some vr58.2.1.Last vr58.2.1.Bottom (IntKind.i64.wrap (v52 + 1)) v53
    else
      some (.inl (v44, v45, v46, v47, v48, v49, v50, v51, v52, v53))
def yO (fu : Nat) (vs1 : wB) (n2 : Int) : Option (wB × Int × Int) :=
  (eN fu vs1).bind fun vr3 =>
  if (!(decide (vr3.2 = 0))) then
    some ((wB.mk (kB.mk [] [] (eB.mk [] [] 0)) (tB.mk false [] false) [] 0), 0, vr3.2)
  else
    if (decide (n2 < 0)) then
      some ((wB.mk (kB.mk [] [] (eB.mk [] [] 0)) (tB.mk false [] false) [] 0), 0, 7)
    else
      if (decide (20000 < (IntKind.i64.wrap (vs1.Steps + (if vr3.1 < n2 then vr3.1 else n2))))) then
        some ((wB.mk (kB.mk [] [] (eB.mk [] [] 0)) (tB.mk false [] false) [] 0), 0, 3)
      else
        if 2 * (vs1.Out.length * 48) ≤ 281474976710656 then
          if 2 * (vs1.Merge.At.length * 8) ≤ 281474976710656 then
            (uI vr3 n2 fu 0 vs1.Merge.Runs vs1.Merge.At vs1.Merge.Tree.Keys vs1.Merge.Tree.Lose vs1.Merge.Tree.Win vs1.Shadow.Some vs1.Shadow.Last vs1.Shadow.Bottom vs1.Steps vs1.Out).bind fun x42 => match x42 with
            | .inl o62 =>
              some ((wB.mk (kB.mk o62.1 o62.2.1 (eB.mk o62.2.2.1 o62.2.2.2.1 o62.2.2.2.2.1)) (tB.mk o62.2.2.2.2.2.1 o62.2.2.2.2.2.2.1 o62.2.2.2.2.2.2.2.1) o62.2.2.2.2.2.2.2.2.2 o62.2.2.2.2.2.2.2.2.1), (if vr3.1 < n2 then vr3.1 else n2), 0)
            | .inr y =>
              some y
          else none
        else none
def kJ (s11 : List aA) (s22 : List aA) : Nat → Int → Option (Sum (Unit) (Bool))
  | 0, _ => none
  | fu + 1, v14 =>
    if (decide (v14 < (s11.length : Int))) then
      (ix s11 v14).bind fun e16 =>
      (ix s22 v14).bind fun e17 =>
      if (!(aA.eqb e16 e17)) then
        some (.inr false)
      else
        kJ s11 s22 fu (IntKind.i64.wrap (v14 + 1))
    else
      some (.inl ())
def sS (fu : Nat) (s11 : List aA) (s22 : List aA) : Option (Bool) :=
  if (!(decide ((s11.length : Int) = (s22.length : Int)))) then
    some false
  else
    (kJ s11 s22 fu 0).bind fun x13 => match x13 with
    | .inl o19 =>
      some true
    | .inr y =>
      some y
def eO (fu : Nat) (a1 : List aA) (b2 : List aA) : Option (Bool) :=
  (sS fu a1 b2).bind fun vr3 =>
  some vr3
def vJ (s11 : List (List aA)) (s22 : List (List aA)) : Nat → Int → Option (Sum (Unit) (Bool))
  | 0, _ => none
  | fu + 1, v16 =>
    if (decide (v16 < (s11.length : Int))) then
      (ix s11 v16).bind fun e18 =>
      (ix s22 v16).bind fun e19 =>
      (eO fu e18 e19).bind fun vr20 =>
      if (!vr20) then
        some (.inr false)
      else
        vJ s11 s22 fu (IntKind.i64.wrap (v16 + 1))
    else
      some (.inl ())
def pQ (fu : Nat) (s11 : List (List aA)) (s22 : List (List aA)) : Option (Bool) :=
  if (!(decide ((s11.length : Int) = (s22.length : Int)))) then
    some false
  else
    (vJ s11 s22 fu 0).bind fun x15 => match x15 with
    | .inl o22 =>
      some true
    | .inr y =>
      some y
def jS (fu : Nat) (a1 : wB) (b2 : wB) : Option (Bool) :=
  (pQ fu a1.Merge.Runs b2.Merge.Runs).bind fun vr3 =>
  (if vr3 then (yI fu a1.Merge.At b2.Merge.At).bind fun vr4 => some vr4 else some false).bind fun b5 =>
  (if b5 then (fK fu a1.Merge.Tree.Keys b2.Merge.Tree.Keys).bind fun vr6 => some vr6 else some false).bind fun b7 =>
  (if b7 then (yI fu a1.Merge.Tree.Lose b2.Merge.Tree.Lose).bind fun vr8 => some vr8 else some false).bind fun b9 =>
  (if b9 then some (decide (a1.Merge.Tree.Win = b2.Merge.Tree.Win)) else some false).bind fun b10 =>
  (if b10 then some (tB.eqb a1.Shadow b2.Shadow) else some false).bind fun b11 =>
  (if b11 then (eO fu a1.Out b2.Out).bind fun vr12 => some vr12 else some false).bind fun b13 =>
  (if b13 then some (decide (a1.Steps = b2.Steps)) else some false).bind fun b14 =>
  some b14
def uJ (vs1 : oB) (vr10 : List Int) : Nat → Int → Option (Sum (Unit) (Int × Int))
  | 0, _ => none
  | fu + 1, v49 =>
    if (decide (v49 < (vs1.Jobs.length : Int))) then
      (ix vs1.Jobs v49).bind fun e51 =>
      (if (decide ((vr10.length : Int) ≤ v49)) then some true else (ix vr10 v49).bind fun e52 => some (!(decide (e51.Level = e52)))).bind fun b53 =>
      if b53 then
        some (.inr (v49, 6))
      else
        (if e51.Work.Shadow.Bottom then (lK fu vs1.Levels e51.Level).bind fun vr56 => some (!vr56) else some false).bind fun b57 =>
        if b57 then
          some (.inr (v49, 6))
        else
          (zL fu vs1.Levels e51.Level e51.Work.Shadow.Bottom).bind fun vr60 =>
          (eN fu vr60.Work).bind fun vr61 =>
          (if (decide (e51.Work.Steps < 0)) then some true else some (decide (vr61.1 < e51.Work.Steps))).bind fun b62 =>
          if b62 then
            some (.inr (v49, 6))
          else
            (yO fu vr60.Work e51.Work.Steps).bind fun vr65 =>
            (jS fu vr65.1 e51.Work).bind fun vr66 =>
            if (!vr66) then
              some (.inr (v49, 6))
            else
              uJ vs1 vr10 fu (IntKind.i64.wrap (v49 + 1))
    else
      some (.inl ())
def oP (fu : Nat) (vs1 : oB) : Option (Int × Int) :=
  (uH fu vs1.Levels).bind fun vr2 =>
  if (!(decide (vr2.2.2 = 0))) then
    some ((-1), vr2.2.2)
  else
    (if (decide (vs1.NextId < 1)) then some true else some (decide (1000001 < vs1.NextId))).bind fun b4 =>
    if b4 then
      some ((-1), 7)
    else
      (zM fu vs1.Levels).bind fun vr7 =>
      if (decide (vs1.NextId ≤ vr7)) then
        some ((-1), 6)
      else
        (pO fu vs1.Levels).bind fun vr9 =>
        (uN fu vr9.1 vr9.2).bind fun vr10 =>
        (uJ vs1 vr10 fu 0).bind fun x48 => match x48 with
        | .inl o68 =>
          if (decide ((vs1.Jobs.length : Int) < (vr10.length : Int))) then
            some ((-1), 4)
          else
            some (0, 0)
        | .inr y =>
          some y
def mS (fu : Nat) (j1 : yA) (p2 : Int) : Option (Bool) :=
  some (decide (j1.Level = p2))
def xJ (vs1 : List yA) (f2 : Int) : Nat → Int → Option (Sum (Unit) (Int))
  | 0, _ => none
  | fu + 1, v13 =>
    if (decide (v13 < (vs1.length : Int))) then
      (ix vs1 v13).bind fun e15 =>
      (mS fu e15 f2).bind fun vr16 =>
      if vr16 then
        some (.inr v13)
      else
        xJ vs1 f2 fu (IntKind.i64.wrap (v13 + 1))
    else
      some (.inl ())
def tS (fu : Nat) (vs1 : List yA) (f2 : Int) : Option (Int) :=
  (xJ vs1 f2 fu 0).bind fun x12 => match x12 with
  | .inl o18 =>
    some (-1)
  | .inr y =>
    some y
def iR (fu : Nat) (l1 : List yA) (is2 : Int) : Option (Int × Int) :=
  (tS fu l1 is2).bind fun vr3 =>
  if (decide (vr3 < 0)) then
    some (0, 4)
  else
    some (vr3, 0)
def lP (fu : Nat) (vs1 : oB) (level2 : Int) : Option (Int × Int) :=
  (oP fu vs1).bind fun vr3 =>
  if (!(decide (vr3.2 = 0))) then
    some (0, vr3.2)
  else
    (iR fu vs1.Jobs level2).bind fun vr5 =>
    some (vr5.1, vr5.2)
def gP (fu : Nat) (vs1 : oB) (level2 : Int) : Option (Int × Int) :=
  (lP fu vs1 level2).bind fun vr3 =>
  if (!(decide (vr3.2 = 0))) then
    some (0, vr3.2)
  else
    (ix vs1.Jobs vr3.1).bind fun e5 =>
    (eN fu e5.Work).bind fun vr6 =>
    some (vr6.1, vr6.2)
def bR (fu : Nat) (vs1 : List yA) : Option (List yA) :=
  if vs1.isEmpty then
    some []
  else
    if 2 * ((0 + vs1.length) * 176) ≤ 281474976710656 then
      some vs1
    else none
def eQ (fu : Nat) (vs1 : oB) (level2 : Int) (most3 : Int) : Option (oB × Int × Int) :=
  (oP fu vs1).bind fun vr4 =>
  if (!(decide (vr4.2 = 0))) then
    some ((oB.mk (uA.mk 0 []) [] 0), 0, vr4.2)
  else
    if (decide (most3 < 0)) then
      some ((oB.mk (uA.mk 0 []) [] 0), 0, 7)
    else
      (lP fu vs1 level2).bind fun vr7 =>
      if (!(decide (vr7.2 = 0))) then
        some ((oB.mk (uA.mk 0 []) [] 0), 0, vr7.2)
      else
        (ix vs1.Jobs vr7.1).bind fun e9 =>
        (eN fu e9.Work).bind fun vr10 =>
        if (decide (vr10.1 = 0)) then
          some ((oB.mk (uA.mk 0 []) [] 0), 0, 9)
        else
          (yO fu e9.Work most3).bind fun vr12 =>
          if (!(decide (vr12.2.2 = 0))) then
            some ((oB.mk (uA.mk 0 []) [] 0), 0, vr12.2.2)
          else
            (bR fu vs1.Jobs).bind fun vr14 =>
            (ix vr14 vr7.1).bind fun e15 =>
            some ((oB.mk vs1.Levels (vr14.set vr7.1.toNat (yA.mk e15.Level vr12.1)) vs1.NextId), vr12.2.1, 0)
def lL (fu : Nat) : Option (Bool) :=
  (zS fu).bind fun vr1 =>
  (wJ fu vr1).bind fun vr2 =>
  (if (!(decide (vr2.2 = 0))) then some true else some (!(decide (vr2.1.NextId = 3)))).bind fun b3 =>
  (if b3 then some true else some (!(decide ((vr2.1.Jobs.length : Int) = 1)))).bind fun b4 =>
  (if b4 then some true else (ix vr2.1.Jobs 0).bind fun e5 => some (!(decide (e5.Level = 0)))).bind fun b6 =>
  if b6 then
    some false
  else
    (gP fu vr2.1 0).bind fun vr14 =>
    (eQ fu vr2.1 0 9).bind fun vr15 =>
    (gP fu vr15.1 0).bind fun vr16 =>
    (eQ fu vr15.1 0 1).bind fun vr17 =>
    (if (decide (vr14.1 = 3)) then some (decide (vr14.2 = 0)) else some false).bind fun b18 =>
    (if b18 then some (decide (vr15.2.1 = 3)) else some false).bind fun b19 =>
    (if b19 then some (decide (vr15.2.2 = 0)) else some false).bind fun b20 =>
    (if b20 then some (decide (vr16.1 = 0)) else some false).bind fun b21 =>
    (if b21 then some (decide (vr16.2 = 0)) else some false).bind fun b22 =>
    (if b22 then some (decide (vr17.2.2 = 9)) else some false).bind fun b23 =>
    (if b23 then some (decide ((vr15.1.Jobs.length : Int) = 1)) else some false).bind fun b24 =>
    (if b24 then (ix vr15.1.Jobs 0).bind fun e25 => some (decide ((e25.Work.Out.length : Int) = 1)) else some false).bind fun b26 =>
    (if b26 then (ix vr15.1.Jobs 0).bind fun e27 => (ix e27.Work.Out 0).bind fun e28 => some (e28.Key == [97]) else some false).bind fun b29 =>
    some b29
def qV (fu : Nat) (b1 : Int) : Option (uA × Int) :=
  (if (decide (b1 < 1)) then some true else some (decide (16 < b1))).bind fun b2 =>
  if b2 then
    some ((uA.mk 0 []), 7)
  else
    some ((uA.mk b1 []), 0)
def eT (fu : Nat) (b1 : Int) : Option (oB × Int) :=
  (qV fu b1).bind fun vr2 =>
  if (!(decide (vr2.2 = 0))) then
    some ((oB.mk (uA.mk 0 []) [] 0), vr2.2)
  else
    some ((oB.mk vr2.1 [] 1), 0)
def iW (fu : Nat) (b1 : Int) : Option (uA × Int) :=
  (if (decide (b1 < 1)) then some true else some (decide (16 < b1))).bind fun b2 =>
  if b2 then
    some ((uA.mk 0 []), 7)
  else
    some ((uA.mk b1 []), 0)
def tU (fu : Nat) (b1 : Int) : Option (oB × Int) :=
  (iW fu b1).bind fun vr2 =>
  if (!(decide (vr2.2 = 0))) then
    some ((oB.mk (uA.mk 0 []) [] 0), vr2.2)
  else
    some ((oB.mk vr2.1 [] 1), 0)
def wL (a1 : List aA) (b2 : List aA) : Nat → Int → Option (Sum (Unit) (Bool))
  | 0, _ => none
  | fu + 1, i17 =>
    (if (decide (i17 < (a1.length : Int))) then some (decide (i17 < (b2.length : Int))) else some false).bind fun b18 =>
    if b18 then
      (ix a1 i17).bind fun e21 =>
      (ix b2 i17).bind fun e22 =>
      if (!(aA.eqb e21 e22)) then
        some (.inr false)
      else
        wL a1 b2 fu (IntKind.i64.wrap (i17 + 1))
    else
      some (.inl ())
def zQ (fu : Nat) (a1 : List aA) (b2 : List aA) : Option (Bool) :=
  (wL a1 b2 fu 0).bind fun x16 => match x16 with
  | .inl o24 =>
    some (decide ((a1.length : Int) = (b2.length : Int)))
  | .inr y =>
    some y
def pV (fu : Nat) (a1 : zA) (b2 : zA) : Option (Bool) :=
  (if (decide (a1.Id = b2.Id)) then (zQ fu a1.Entries b2.Entries).bind fun vr3 => some vr3 else some false).bind fun b4 =>
  some b4
def aL (a1 : List zA) (b2 : List zA) : Nat → Int → Option (Sum (Unit) (Bool))
  | 0, _ => none
  | fu + 1, i16 =>
    if (decide (i16 < (a1.length : Int))) then
      (ix a1 i16).bind fun e18 =>
      (ix b2 i16).bind fun e19 =>
      (pV fu e18 e19).bind fun vr20 =>
      if (!vr20) then
        some (.inr false)
      else
        aL a1 b2 fu (IntKind.i64.wrap (i16 + 1))
    else
      some (.inl ())
def uT (fu : Nat) (a1 : List zA) (b2 : List zA) : Option (Bool) :=
  if (!(decide ((a1.length : Int) = (b2.length : Int)))) then
    some false
  else
    (aL a1 b2 fu 0).bind fun x15 => match x15 with
    | .inl o22 =>
      some true
    | .inr y =>
      some y
def xL (a1 : uA) (b2 : uA) : Nat → Int → Option (Sum (Unit) (Bool))
  | 0, _ => none
  | fu + 1, i18 =>
    if (decide (i18 < (a1.Levels.length : Int))) then
      (ix a1.Levels i18).bind fun e20 =>
      (ix b2.Levels i18).bind fun e21 =>
      (uT fu e20.Runs e21.Runs).bind fun vr22 =>
      if (!vr22) then
        some (.inr false)
      else
        xL a1 b2 fu (IntKind.i64.wrap (i18 + 1))
    else
      some (.inl ())
def bV (fu : Nat) (a1 : uA) (b2 : uA) : Option (Bool) :=
  (if (!(decide (a1.B = b2.B))) then some true else some (!(decide ((a1.Levels.length : Int) = (b2.Levels.length : Int))))).bind fun b3 =>
  if b3 then
    some false
  else
    (xL a1 b2 fu 0).bind fun x17 => match x17 with
    | .inl o24 =>
      some true
    | .inr y =>
      some y
def eM (a1 : List Int) (b2 : List Int) : Nat → Int → Option (Sum (Unit) (Bool))
  | 0, _ => none
  | fu + 1, i14 =>
    if (decide (i14 < (a1.length : Int))) then
      (ix a1 i14).bind fun e16 =>
      (ix b2 i14).bind fun e17 =>
      if (!(decide (e16 = e17))) then
        some (.inr false)
      else
        eM a1 b2 fu (IntKind.i64.wrap (i14 + 1))
    else
      some (.inl ())
def mO (fu : Nat) (a1 : List Int) (b2 : List Int) : Option (Bool) :=
  if (!(decide ((a1.length : Int) = (b2.length : Int)))) then
    some false
  else
    (eM a1 b2 fu 0).bind fun x13 => match x13 with
    | .inl o19 =>
      some true
    | .inr y =>
      some y
def cK (a1 : eB) (b2 : eB) : Nat → Int → Option (Sum (Unit) (Bool))
  | 0, _ => none
  | fu + 1, i20 =>
    if (decide (i20 < (a1.Keys.length : Int))) then
      (ix a1.Keys i20).bind fun e22 =>
      (ix b2.Keys i20).bind fun e23 =>
      if (!(eA.eqb e22 e23)) then
        some (.inr false)
      else
        cK a1 b2 fu (IntKind.i64.wrap (i20 + 1))
    else
      some (.inl ())
def aP (fu : Nat) (a1 : eB) (b2 : eB) : Option (Bool) :=
  (if (!(decide ((a1.Keys.length : Int) = (b2.Keys.length : Int)))) then some true else some (!(decide (a1.Win = b2.Win)))).bind fun b3 =>
  (if b3 then some true else (mO fu a1.Lose b2.Lose).bind fun vr4 => some (!vr4)).bind fun b5 =>
  if b5 then
    some false
  else
    (cK a1 b2 fu 0).bind fun x19 => match x19 with
    | .inl o25 =>
      some true
    | .inr y =>
      some y
def sL (a1 : List aA) (b2 : List aA) : Nat → Int → Option (Sum (Unit) (Bool))
  | 0, _ => none
  | fu + 1, i14 =>
    if (decide (i14 < (a1.length : Int))) then
      (ix a1 i14).bind fun e16 =>
      (ix b2 i14).bind fun e17 =>
      if (!(aA.eqb e16 e17)) then
        some (.inr false)
      else
        sL a1 b2 fu (IntKind.i64.wrap (i14 + 1))
    else
      some (.inl ())
def oO (fu : Nat) (a1 : List aA) (b2 : List aA) : Option (Bool) :=
  if (!(decide ((a1.length : Int) = (b2.length : Int)))) then
    some false
  else
    (sL a1 b2 fu 0).bind fun x13 => match x13 with
    | .inl o19 =>
      some true
    | .inr y =>
      some y
def oI (a1 : kB) (b2 : kB) : Nat → Int → Option (Sum (Unit) (Bool))
  | 0, _ => none
  | fu + 1, i23 =>
    if (decide (i23 < (a1.Runs.length : Int))) then
      (ix a1.Runs i23).bind fun e25 =>
      (ix b2.Runs i23).bind fun e26 =>
      (oO fu e25 e26).bind fun vr27 =>
      if (!vr27) then
        some (.inr false)
      else
        oI a1 b2 fu (IntKind.i64.wrap (i23 + 1))
    else
      some (.inl ())
def iV (fu : Nat) (a1 : kB) (b2 : kB) : Option (Bool) :=
  (if (!(decide ((a1.Runs.length : Int) = (b2.Runs.length : Int)))) then some true else (mO fu a1.At b2.At).bind fun vr3 => some (!vr3)).bind fun b4 =>
  (if b4 then some true else (aP fu a1.Tree b2.Tree).bind fun vr5 => some (!vr5)).bind fun b6 =>
  if b6 then
    some false
  else
    (oI a1 b2 fu 0).bind fun x22 => match x22 with
    | .inl o29 =>
      some true
    | .inr y =>
      some y
def nP (fu : Nat) (a1 : wB) (b2 : wB) : Option (Bool) :=
  (iV fu a1.Merge b2.Merge).bind fun vr3 =>
  (if vr3 then some (tB.eqb a1.Shadow b2.Shadow) else some false).bind fun b4 =>
  (if b4 then (oO fu a1.Out b2.Out).bind fun vr5 => some vr5 else some false).bind fun b6 =>
  (if b6 then some (decide (a1.Steps = b2.Steps)) else some false).bind fun b7 =>
  some b7
def tR (fu : Nat) (a1 : yA) (b2 : yA) : Option (Bool) :=
  (if (decide (a1.Level = b2.Level)) then (nP fu a1.Work b2.Work).bind fun vr3 => some vr3 else some false).bind fun b4 =>
  some b4
def vL (a1 : oB) (b2 : oB) : Nat → Int → Option (Sum (Unit) (Bool))
  | 0, _ => none
  | fu + 1, i22 =>
    if (decide (i22 < (a1.Jobs.length : Int))) then
      (ix a1.Jobs i22).bind fun e24 =>
      (ix b2.Jobs i22).bind fun e25 =>
      (tR fu e24 e25).bind fun vr26 =>
      if (!vr26) then
        some (.inr false)
      else
        vL a1 b2 fu (IntKind.i64.wrap (i22 + 1))
    else
      some (.inl ())
def fL (fu : Nat) (a1 : oB) (b2 : oB) : Option (Bool) :=
  (bV fu a1.Levels b2.Levels).bind fun vr3 =>
  (if (!vr3) then some true else some (!(decide ((a1.Jobs.length : Int) = (b2.Jobs.length : Int))))).bind fun b4 =>
  (if b4 then some true else some (!(decide (a1.NextId = b2.NextId)))).bind fun b5 =>
  if b5 then
    some false
  else
    (vL a1 b2 fu 0).bind fun x21 => match x21 with
    | .inl o28 =>
      some true
    | .inr y =>
      some y
def bL (level2 : Int) : Nat → Int → Int → Option (Int)
  | 0, _, _ => none
  | fu + 1, b8, i9 =>
    if (decide (i9 < level2)) then
      bL level2 fu (IntKind.i64.wrap (2 * b8)) (IntKind.i64.wrap (i9 + 1))
    else
      some b8
def vT (fu : Nat) (b1 : Int) (level2 : Int) : Option (Int) :=
  (bL level2 fu b1 0).bind fun x7 =>
  some x7
def zU (fu : Nat) (vx1 : aA) : Option (Int) :=
  (if (decide (32 < (vx1.Key.length : Int))) then some true else some (decide (64 < (vx1.Val.length : Int)))).bind fun b2 =>
  if b2 then
    some 3
  else
    (if vx1.Dead then some (!(vx1.Val == [])) else some false).bind fun b5 =>
    if b5 then
      some 6
    else
      (if (decide (vx1.Seq < 1)) then some true else some (decide (1000000000 < vx1.Seq))).bind fun b8 =>
      if b8 then
        some 7
      else
        some 0
def lI (a1 : List UInt8) (b2 : List UInt8) : Nat → Int → Option (Int)
  | 0, _ => none
  | fu + 1, n21 =>
    (if (decide (n21 < (a1.length : Int))) then some (decide (n21 < (b2.length : Int))) else some false).bind fun b22 =>
    (if b22 then (ix a1 n21).bind fun e23 => (ix b2 n21).bind fun e24 => some (decide ((e23.toNat : Int) = (e24.toNat : Int))) else some false).bind fun b25 =>
    if b25 then
      lI a1 b2 fu (IntKind.i64.wrap (n21 + 1))
    else
      some n21
def mU (fu : Nat) (a1 : List UInt8) (b2 : List UInt8) : Option (Int) :=
  (lI a1 b2 fu 0).bind fun x20 =>
  some x20
def qL (fu : Nat) (a1 : List UInt8) (b2 : List UInt8) : Option (Int) :=
  (mU fu a1 b2).bind fun vr3 =>
  (if (decide (vr3 = (a1.length : Int))) then some (decide (vr3 = (b2.length : Int))) else some false).bind fun b4 =>
  if b4 then
    some 0
  else
    (if (decide (vr3 = (a1.length : Int))) then some true else (if (decide (vr3 < (b2.length : Int))) then (ix a1 vr3).bind fun e7 => (ix b2 vr3).bind fun e8 => some (decide ((e7.toNat : Int) < (e8.toNat : Int))) else some false).bind fun b9 => some b9).bind fun b10 =>
    if b10 then
      some (-1)
    else
      some 1
def oH (l1 : List aA) : Nat → Int → Option (Sum (Unit) (Int × Int))
  | 0, _ => none
  | fu + 1, i29 =>
    if (decide (i29 < (l1.length : Int))) then
      (ix l1 i29).bind fun e31 =>
      (zU fu e31).bind fun vr32 =>
      (if (decide (vr32 = 0)) then some (decide (0 < i29)) else some false).bind fun b33 =>
      (if b33 then (ix l1 (IntKind.i64.wrap (i29 - 1))).bind fun e34 => (qL fu e34.Key e31.Key).bind fun vr35 => some (decide (0 ≤ vr35)) else some false).bind fun b36 =>
      if b36 then
        some (.inr (i29, 6))
      else
        if (!(decide (vr32 = 0))) then
          some (.inr (i29, vr32))
        else
          oH l1 fu (IntKind.i64.wrap (i29 + 1))
    else
      some (.inl ())
def cP (fu : Nat) (l1 : List aA) : Option (Int × Int) :=
  if (decide (5000 < (l1.length : Int))) then
    some ((-1), 3)
  else
    (oH l1 fu 0).bind fun x28 => match x28 with
    | .inl o42 =>
      some (0, 0)
    | .inr y =>
      some y
def iX (fu : Nat) (vr1 : zA) : Option (Int × Int) :=
  (if (decide (vr1.Id < 1)) then some true else some (decide (1000000 < vr1.Id))).bind fun b2 =>
  if b2 then
    some ((-1), 7)
  else
    (cP fu vr1.Entries).bind fun vr5 =>
    some (vr5.1, vr5.2)
def iJ (ids3 : List Int) (vr1 : zA) : Nat → Int → Option (Sum (Unit) (Int))
  | 0, _ => none
  | fu + 1, i16 =>
    if (decide (i16 < (ids3.length : Int))) then
      (ix ids3 i16).bind fun e18 =>
      if (decide (e18 = vr1.Id)) then
        some (.inr 8)
      else
        iJ ids3 vr1 fu (IntKind.i64.wrap (i16 + 1))
    else
      some (.inl ())
def gV (fu : Nat) (vr1 : zA) (most2 : Int) (ids3 : List Int) : Option (Int) :=
  (iX fu vr1).bind fun vr4 =>
  if (!(decide (vr4.2 = 0))) then
    some vr4.2
  else
    if (decide ((vr1.Entries.length : Int) = 0)) then
      some 4
    else
      if (decide (most2 < (vr1.Entries.length : Int))) then
        some 3
      else
        (iJ ids3 vr1 fu 0).bind fun x15 => match x15 with
        | .inl o20 =>
          some 0
        | .inr y =>
          some y
def sH (e107 : sA) (l1 : uA) (i103 : Int) : Nat → Int → List Int → Option (Sum (List Int) (Int × Int × Int))
  | 0, _, _ => none
  | fu + 1, k125, ids126 =>
    if (decide (k125 < (e107.Runs.length : Int))) then
      (ix e107.Runs k125).bind fun e129 =>
      (vT fu l1.B i103).bind fun vr130 =>
      (gV fu e129 vr130 ids126).bind fun vr131 =>
      if (!(decide (vr131 = 0))) then
        some (.inr (i103, k125, vr131))
      else
        if 2 * ((ids126.length + 1) * 8) ≤ 281474976710656 then
          sH e107 l1 i103 fu (IntKind.i64.wrap (k125 + 1)) (ids126 ++ [e129.Id])
        else none
    else
      some (.inl ids126)
def fH (l1 : uA) : Nat → Int → List Int → Option (Sum (List Int) (Int × Int × Int))
  | 0, _, _ => none
  | fu + 1, i103, ids104 =>
    if (decide (i103 < (l1.Levels.length : Int))) then
      (ix l1.Levels i103).bind fun e107 =>
      if (decide (2 < (e107.Runs.length : Int))) then
        some (.inr (i103, 0, 3))
      else
        (sH e107 l1 i103 fu 0 ids104).bind fun x124 => match x124 with
        | .inl o134 =>
          fH l1 fu (IntKind.i64.wrap (i103 + 1)) o134
        | .inr y =>
          some (.inr y)
    else
      some (.inl ids104)
def vH (fu : Nat) (l1 : uA) : Option (Int × Int × Int) :=
  (if (decide (l1.B < 1)) then some true else some (decide (16 < l1.B))).bind fun b2 =>
  if b2 then
    some (0, 0, 7)
  else
    if (decide (12 < (l1.Levels.length : Int))) then
      some (0, 0, 3)
    else
      (fH l1 fu 0 []).bind fun x102 => match x102 with
      | .inl o136 =>
        (if (decide (0 < (l1.Levels.length : Int))) then (ix l1.Levels (IntKind.i64.wrap ((l1.Levels.length : Int) - 1))).bind fun e138 => some (decide ((e138.Runs.length : Int) = 0)) else some false).bind fun b139 =>
        if b139 then
          some ((IntKind.i64.wrap ((l1.Levels.length : Int) - 1)), 0, 6)
        else
          some (0, 0, 0)
      | .inr y =>
        some y
def gI (e69 : sA) : Nat → Int → List zA → Option (List zA)
  | 0, _, _ => none
  | fu + 1, k80, out81 =>
    if (decide (0 ≤ k80)) then
      (ix e69.Runs k80).bind fun e84 =>
      if 2 * ((out81.length + 1) * 32) ≤ 281474976710656 then
        gI e69 fu (IntKind.i64.wrap (k80 - 1)) (out81 ++ [e84])
      else none
    else
      some out81
def eL (l1 : uA) : Nat → Int → List zA → Option (List zA)
  | 0, _, _ => none
  | fu + 1, i65, out66 =>
    if (decide (i65 < (l1.Levels.length : Int))) then
      (ix l1.Levels i65).bind fun e69 =>
      (gI e69 fu (IntKind.i64.wrap ((e69.Runs.length : Int) - 1)) out66).bind fun x79 =>
      eL l1 fu (IntKind.i64.wrap (i65 + 1)) x79
    else
      some out66
def lU (fu : Nat) (l1 : uA) : Option (List zA × Int) :=
  (vH fu l1).bind fun vr2 =>
  if (!(decide (vr2.2.2 = 0))) then
    some ([], vr2.2.2)
  else
    (eL l1 fu 0 []).bind fun x64 =>
    some (x64, 0)
def vK (vr2 : List zA × Int) : Nat → Int → Int → Option (Int)
  | 0, _, _ => none
  | fu + 1, best10, i11 =>
    if (decide (i11 < (vr2.1.length : Int))) then
      (ix vr2.1 i11).bind fun e13 =>
      vK vr2 fu (if best10 < e13.Id then e13.Id else best10) (IntKind.i64.wrap (i11 + 1))
    else
      some best10
def fU (fu : Nat) (l1 : uA) : Option (Int) :=
  (lU fu l1).bind fun vr2 =>
  (vK vr2 fu 0 0).bind fun x9 =>
  some x9
def bJ (l1 : uA) : Nat → Int → List Int → Option (List Int)
  | 0, _, _ => none
  | fu + 1, i16, out17 =>
    if (decide (i16 < (l1.Levels.length : Int))) then
      (ix l1.Levels i16).bind fun e20 =>
      if (decide ((e20.Runs.length : Int) = 2)) then
        if 2 * ((out17.length + 1) * 8) ≤ 281474976710656 then
          bJ l1 fu (IntKind.i64.wrap (i16 + 1)) (out17 ++ [i16])
        else none
      else
        bJ l1 fu (IntKind.i64.wrap (i16 + 1)) out17
    else
      some out17
def nU (fu : Nat) (l1 : uA) : Option (List Int) :=
  (bJ l1 fu 0 []).bind fun x15 =>
  some x15
def nV (fu : Nat) (l1 : uA) (level2 : Int) : Option (Int) :=
  (vH fu l1).bind fun vr3 =>
  (if (decide (vr3.2.2 = 0)) then (if (decide (level2 < 0)) then some true else some (decide (12 ≤ level2))).bind fun b4 => some b4 else some false).bind fun b5 =>
  if b5 then
    some 7
  else
    some vr3.2.2
def bX (fu : Nat) (l1 : uA) (level2 : Int) : Option (Bool × Int) :=
  (nV fu l1 level2).bind fun vr3 =>
  if (!(decide (vr3 = 0))) then
    some (false, vr3)
  else
    some ((decide ((IntKind.i64.wrap (level2 + 1)) < (l1.Levels.length : Int))), 0)
def eR (fu : Nat) (l1 : uA) (level2 : Int) : Option (Bool) :=
  (bX fu l1 level2).bind fun vr3 =>
  some (!vr3.1)
def wM (fu : Nat) (l1 : uA) (level2 : Int) : Option (List zA) :=
  if (decide ((l1.Levels.length : Int) ≤ level2)) then
    some []
  else
    (ix l1.Levels level2).bind fun e4 =>
    some e4.Runs
def gJ (runs1 : List (List aA)) : Nat → Int → Option (Sum (Unit) (Int × Int))
  | 0, _ => none
  | fu + 1, i14 =>
    if (decide (i14 < (runs1.length : Int))) then
      (ix runs1 i14).bind fun e16 =>
      (cP fu e16).bind fun vr17 =>
      if (!(decide (vr17.2 = 0))) then
        some (.inr (i14, vr17.2))
      else
        gJ runs1 fu (IntKind.i64.wrap (i14 + 1))
    else
      some (.inl ())
def rP (fu : Nat) (runs1 : List (List aA)) : Option (Int × Int) :=
  if (decide ((runs1.length : Int) = 0)) then
    some ((-1), 6)
  else
    if (decide (32 < (runs1.length : Int))) then
      some ((-1), 3)
    else
      (gJ runs1 fu 0).bind fun x13 => match x13 with
      | .inl o19 =>
        some (0, 0)
      | .inr y =>
        some y
def xK (keys1 : List eA) : Nat → Int → Option (Sum (Unit) (Int))
  | 0, _ => none
  | fu + 1, i16 =>
    if (decide (i16 < (keys1.length : Int))) then
      (ix keys1 i16).bind fun e18 =>
      (if e18.Done then some (!(e18.Key == [])) else some false).bind fun b19 =>
      if b19 then
        some (.inr 2)
      else
        xK keys1 fu (IntKind.i64.wrap (i16 + 1))
    else
      some (.inl ())
def fT (fu : Nat) (keys1 : List eA) : Option (Int) :=
  if (decide ((keys1.length : Int) = 0)) then
    some 6
  else
    if (decide (32 < (keys1.length : Int))) then
      some 3
    else
      (xK keys1 fu 0).bind fun x15 => match x15 with
      | .inl o22 =>
        some 0
      | .inr y =>
        some y
def kU (fu : Nat) (keys1 : List eA) (p2 : Int) (q3 : Int) : Option (Bool) :=
  (ix keys1 p2).bind fun e4 =>
  (ix keys1 q3).bind fun e5 =>
  if (!(e4.Done == e5.Done)) then
    some e5.Done
  else
    (if (!e4.Done) then some (!(e4.Key == e5.Key)) else some false).bind fun b7 =>
    if b7 then
      some (Op.bytesLess e4.Key e5.Key)
    else
      some (decide (p2 < q3))
def aK : Nat → List eA → Int → Option (Int × Int)
  | 0, _, _ => none
  | fu + 1, keys1, node2 =>
    if (decide ((keys1.length : Int) ≤ node2)) then
      some ((IntKind.i64.wrap (node2 - (keys1.length : Int))), 0)
    else
      (aK fu keys1 (IntKind.i64.wrap (2 * node2))).bind fun vr4 =>
      (aK fu keys1 (IntKind.i64.wrap ((IntKind.i64.wrap (2 * node2)) + 1))).bind fun vr5 =>
      (kU fu keys1 vr4.1 vr5.1).bind fun vr6 =>
      if vr6 then
        some (vr4.1, vr5.1)
      else
        some (vr5.1, vr4.1)
def tL (keys1 : List eA) : Nat → Int → List Int → Option (List Int)
  | 0, _, _ => none
  | fu + 1, i14, v15 =>
    if (decide (i14 < (keys1.length : Int))) then
      (aK fu keys1 i14).bind fun vr18 =>
      (ix v15 i14).bind fun e19 =>
      tL keys1 fu (IntKind.i64.wrap (i14 + 1)) (v15.set i14.toNat vr18.2)
    else
      some v15
def qT (fu : Nat) (keys1 : List eA) : Option (eB) :=
  if 2 * ((0 + keys1.length) * 24) ≤ 281474976710656 then
    if 0 ≤ (keys1.length : Int) ∧ (keys1.length : Int) ≤ (keys1.length : Int) ∧ (keys1.length : Int) ≤ 9223372036854775807 ∧ 8 * (keys1.length : Int) ≤ 281474976710656 then
      (tL keys1 fu 1 (List.replicate keys1.length 0 : List Int)).bind fun x13 =>
      (aK fu keys1 1).bind fun vr21 =>
      some (eB.mk keys1 x13 vr21.1)
    else none
  else none
def yT (fu : Nat) (keys1 : List eA) : Option (eB × Int) :=
  (fT fu keys1).bind fun vr2 =>
  if (!(decide (vr2 = 0))) then
    some ((eB.mk [] [] 0), vr2)
  else
    (qT fu keys1).bind fun vr4 =>
    some (vr4, 0)
def nK (runs1 : List (List aA)) (vat2 : List Int) : Nat → Int → List eA → Option (List eA)
  | 0, _, _ => none
  | fu + 1, i26, keys27 =>
    if (decide (i26 < (runs1.length : Int))) then
      (ix vat2 i26).bind fun e30 =>
      (ix runs1 i26).bind fun e31 =>
      if (!(decide (e30 = (e31.length : Int)))) then
        (ix e31 e30).bind fun e33 =>
        if 2 * ((keys27.length + 1) * 24) ≤ 281474976710656 then
          nK runs1 vat2 fu (IntKind.i64.wrap (i26 + 1)) (keys27 ++ [(eA.mk e33.Key (decide (e30 = (e31.length : Int))))])
        else none
      else
        if 2 * ((keys27.length + 1) * 24) ≤ 281474976710656 then
          nK runs1 vat2 fu (IntKind.i64.wrap (i26 + 1)) (keys27 ++ [(eA.mk [] (decide (e30 = (e31.length : Int))))])
        else none
    else
      some keys27
def cS (fu : Nat) (runs1 : List (List aA)) (vat2 : List Int) : Option (kB) :=
  if 2 * ((0 + runs1.length) * 24) ≤ 281474976710656 then
    if 2 * ((0 + vat2.length) * 8) ≤ 281474976710656 then
      (nK runs1 vat2 fu 0 []).bind fun x25 =>
      (yT fu x25).bind fun vr37 =>
      some (kB.mk runs1 vat2 vr37.1)
    else none
  else none
def aN (fu : Nat) (runs1 : List (List aA)) : Option (kB × Int × Int) :=
  (rP fu runs1).bind fun vr2 =>
  if (!(decide (vr2.2 = 0))) then
    some ((kB.mk [] [] (eB.mk [] [] 0)), vr2.1, vr2.2)
  else
    if 0 ≤ (runs1.length : Int) ∧ (runs1.length : Int) ≤ (runs1.length : Int) ∧ (runs1.length : Int) ≤ 9223372036854775807 ∧ 8 * (runs1.length : Int) ≤ 281474976710656 then
      (cS fu runs1 (List.replicate runs1.length 0 : List Int)).bind fun vr5 =>
      some (vr5, 0, 0)
    else none
def kV (fu : Nat) (bottom1 : Bool) : Option (tB) :=
  some (tB.mk false [] bottom1)
def gU (fu : Nat) (runs1 : List (List aA)) (bottom2 : Bool) : Option (wB × Int × Int) :=
  (aN fu runs1).bind fun vr3 =>
  if (!(decide (vr3.2.2 = 0))) then
    some ((wB.mk (kB.mk [] [] (eB.mk [] [] 0)) (tB.mk false [] false) [] 0), vr3.2.1, vr3.2.2)
  else
    (kV fu bottom2).bind fun vr5 =>
    some ((wB.mk vr3.1 vr5 [] 0), 0, 0)
def lS (fu : Nat) (l1 : uA) (level2 : Int) (bottom3 : Bool) : Option (yA) :=
  (wM fu l1 level2).bind fun vr4 =>
  (ix vr4 1).bind fun e5 =>
  (ix vr4 0).bind fun e6 =>
  (gU fu [e5.Entries, e6.Entries] bottom3).bind fun vr7 =>
  some (yA.mk level2 vr7.1)
def yL (vr5 : List Int) (l1 : uA) : Nat → Int → List yA → Option (List yA)
  | 0, _, _ => none
  | fu + 1, i23, v24 =>
    if (decide (i23 < (vr5.length : Int))) then
      (ix vr5 i23).bind fun e27 =>
      (eR fu l1 e27).bind fun vr28 =>
      (lS fu l1 e27 vr28).bind fun vr29 =>
      if 2 * ((v24.length + 1) * 176) ≤ 281474976710656 then
        yL vr5 l1 fu (IntKind.i64.wrap (i23 + 1)) (v24 ++ [vr29])
      else none
    else
      some v24
def gQ (fu : Nat) (l1 : uA) : Option (oB × Int) :=
  (vH fu l1).bind fun vr2 =>
  if (!(decide (vr2.2.2 = 0))) then
    some ((oB.mk (uA.mk 0 []) [] 0), vr2.2.2)
  else
    (fU fu l1).bind fun vr4 =>
    (nU fu l1).bind fun vr5 =>
    (yL vr5 l1 fu 0 []).bind fun x22 =>
    some ((oB.mk l1 x22 (IntKind.i64.wrap (vr4 + 1))), 0)
def eU (fu : Nat) (l1 : uA) (level2 : Int) : Option (yA × Int) :=
  (uH fu l1).bind fun vr3 =>
  if (!(decide (vr3.2.2 = 0))) then
    some ((yA.mk 0 (wB.mk (kB.mk [] [] (eB.mk [] [] 0)) (tB.mk false [] false) [] 0)), vr3.2.2)
  else
    (if (decide (level2 < 0)) then some true else some (decide (12 ≤ level2))).bind fun b5 =>
    if b5 then
      some ((yA.mk 0 (wB.mk (kB.mk [] [] (eB.mk [] [] 0)) (tB.mk false [] false) [] 0)), 7)
    else
      (if (decide ((l1.Levels.length : Int) ≤ level2)) then some true else (ix l1.Levels level2).bind fun e8 => some (decide ((e8.Runs.length : Int) < 2))).bind fun b9 =>
      if b9 then
        some ((yA.mk 0 (wB.mk (kB.mk [] [] (eB.mk [] [] 0)) (tB.mk false [] false) [] 0)), 4)
      else
        (lK fu l1 level2).bind fun vr12 =>
        (zL fu l1 level2 vr12).bind fun vr13 =>
        some (vr13, 0)
def sT (fu : Nat) (l1 : uA) (level2 : Int) : Option (yA × Int) :=
  (vH fu l1).bind fun vr3 =>
  (if (decide (vr3.2.2 = 0)) then (if (decide (level2 < 0)) then some true else some (decide (12 ≤ level2))).bind fun b4 => some b4 else some false).bind fun b5 =>
  if b5 then
    some ((yA.mk 0 (wB.mk (kB.mk [] [] (eB.mk [] [] 0)) (tB.mk false [] false) [] 0)), 7)
  else
    (if (decide (vr3.2.2 = 0)) then (wM fu l1 level2).bind fun vr9 => some (decide ((vr9.length : Int) < 2)) else some false).bind fun b10 =>
    if b10 then
      some ((yA.mk 0 (wB.mk (kB.mk [] [] (eB.mk [] [] 0)) (tB.mk false [] false) [] 0)), 4)
    else
      if (!(decide (vr3.2.2 = 0))) then
        some ((yA.mk 0 (wB.mk (kB.mk [] [] (eB.mk [] [] 0)) (tB.mk false [] false) [] 0)), vr3.2.2)
      else
        (eR fu l1 level2).bind fun vr14 =>
        (lS fu l1 level2 vr14).bind fun vr15 =>
        some (vr15, 0)
def uV (fu : Nat) (l1 : uA) (b2 : Int) (level3 : Int) : Option (Bool) :=
  (sU fu l1).bind fun vr4 =>
  if vr4 then
    (lL fu).bind fun vr6 =>
    some vr6
  else
    (eT fu b2).bind fun vr7 =>
    (tU fu b2).bind fun vr8 =>
    (fL fu vr7.1 vr8.1).bind fun vr9 =>
    (if (!vr9) then some true else some (!(decide (vr7.2 = vr8.2)))).bind fun b10 =>
    if b10 then
      some false
    else
      (wJ fu l1).bind fun vr13 =>
      (gQ fu l1).bind fun vr14 =>
      (fL fu vr13.1 vr14.1).bind fun vr15 =>
      (if (!vr15) then some true else some (!(decide (vr13.2 = vr14.2)))).bind fun b16 =>
      if b16 then
        some false
      else
        (eU fu l1 level3).bind fun vr19 =>
        (sT fu l1 level3).bind fun vr20 =>
        (tR fu vr19.1 vr20.1).bind fun vr21 =>
        (if vr21 then some (decide (vr19.2 = vr20.2)) else some false).bind fun b22 =>
        (if b22 then (lL fu).bind fun vr23 => some vr23 else some false).bind fun b24 =>
        some b24
def lO (runs1 : List (List aA)) (vat2 : List Int) : Nat → Int → Int → Option (Int)
  | 0, _, _ => none
  | fu + 1, best24, i25 =>
    if (decide (i25 < (runs1.length : Int))) then
      (ix vat2 i25).bind fun e27 =>
      (ix runs1 i25).bind fun e28 =>
      (if (decide (e27 < (e28.length : Int))) then (if (decide (best24 < 0)) then some true else (ix e28 e27).bind fun e29 => (ix runs1 best24).bind fun e30 => (ix vat2 best24).bind fun e31 => (ix e30 e31).bind fun e32 => some (Op.bytesLess e29.Key e32.Key)).bind fun b33 => some b33 else some false).bind fun b34 =>
      if b34 then
        lO runs1 vat2 fu i25 (IntKind.i64.wrap (i25 + 1))
      else
        lO runs1 vat2 fu best24 (IntKind.i64.wrap (i25 + 1))
    else
      some best24
def iZ (fu : Nat) (runs1 : List (List aA)) (vat2 : List Int) : Option (Int) :=
  (lO runs1 vat2 fu (-1) 0).bind fun x23 =>
  some x23
def pN (vs1 : kB) : Nat → Int → Option (Sum (Unit) (Int × Int))
  | 0, _ => none
  | fu + 1, i19 =>
    if (decide (i19 < (vs1.At.length : Int))) then
      (ix vs1.At i19).bind fun e21 =>
      (if (decide (e21 < 0)) then some true else (ix vs1.Runs i19).bind fun e22 => some (decide ((e22.length : Int) < e21))).bind fun b23 =>
      if b23 then
        some (.inr (i19, 6))
      else
        pN vs1 fu (IntKind.i64.wrap (i19 + 1))
    else
      some (.inl ())
def bI (vs1 : kB) (vr30 : Int) : Nat → Int → Option (Sum (Unit) (Int × Int))
  | 0, _ => none
  | fu + 1, i63 =>
    (if (decide (i63 < (vs1.Runs.length : Int))) then some (decide (0 ≤ vr30)) else some false).bind fun b64 =>
    if b64 then
      (ix vs1.At i63).bind fun e67 =>
      if (decide (e67 = 0)) then
        bI vs1 vr30 fu (IntKind.i64.wrap (i63 + 1))
      else
        (ix vs1.Runs i63).bind fun e69 =>
        (ix e69 (IntKind.i64.wrap (e67 - 1))).bind fun e70 =>
        (ix vs1.Runs vr30).bind fun e71 =>
        (ix vs1.At vr30).bind fun e72 =>
        (ix e71 e72).bind fun e73 =>
        (if (!(Op.bytesLess e70.Key e73.Key || e70.Key == e73.Key)) then some true else (if (e70.Key == e73.Key) then some (decide (vr30 < i63)) else some false).bind fun b74 => some b74).bind fun b75 =>
        if b75 then
          some (.inr (vr30, 6))
        else
          bI vs1 vr30 fu (IntKind.i64.wrap (i63 + 1))
    else
      some (.inl ())
def cX (fu : Nat) (vs1 : kB) : Option (Int × Int) :=
  (rP fu vs1.Runs).bind fun vr2 =>
  if (!(decide (vr2.2 = 0))) then
    some (vr2.1, vr2.2)
  else
    if (!(decide ((vs1.At.length : Int) = (vs1.Runs.length : Int)))) then
      some ((-1), 6)
    else
      (pN vs1 fu 0).bind fun x18 => match x18 with
      | .inl o26 =>
        (cS fu vs1.Runs vs1.At).bind fun vr27 =>
        (aP fu vs1.Tree vr27.Tree).bind fun vr28 =>
        if (!vr28) then
          some ((-1), 6)
        else
          (iZ fu vs1.Runs vs1.At).bind fun vr30 =>
          (bI vs1 vr30 fu 0).bind fun x62 => match x62 with
          | .inl o79 =>
            some (0, 0)
          | .inr y =>
            some y
      | .inr y =>
        some y
end Go.T
