/- A text of the proof. -/
import Derived.Test.YtnlggkiekcpahaaGreatBAmZj
namespace Go.T
open Go Go.AM
set_option linter.unusedVariables false
structure aA where
 Key : List UInt8
 Val : List UInt8
 Dead : Bool
 Seq : Int
 deriving DecidableEq
structure kB where
 Id : Int
 Entries : List aA
 deriving DecidableEq
structure tA where
 Runs : List kB
 deriving DecidableEq
structure iB where
 B : Int
 Levels : List tA
 deriving DecidableEq
structure eA where
 Key : List UInt8
 Done : Bool
 deriving DecidableEq
structure bB where
 Keys : List eA
 Lose : List Int
 Win : Int
 deriving DecidableEq
structure dB where
 Runs : List (List aA)
 At : List Int
 Tree : bB
 deriving DecidableEq
structure jB where
 Some : Bool
 Last : List UInt8
 Bottom : Bool
 deriving DecidableEq
structure lB where
 Merge : dB
 Shadow : jB
 Out : List aA
 Steps : Int
 deriving DecidableEq
structure fB where
 Level : Int
 Work : lB
 deriving DecidableEq
structure mB where
 Levels : iB
 Jobs : List fB
 NextId : Int
 deriving DecidableEq
structure bG where
 Key : List UInt8
 Val : List UInt8
 Dead : Bool
 Seq : Int
 deriving DecidableEq
structure dG where
 Key : List UInt8
 Val : List UInt8
 Dead : Bool
 Seq : Int
 deriving DecidableEq
structure uE where
 Key : List UInt8
 Val : List UInt8
 Dead : Bool
 Seq : Int
 deriving DecidableEq
structure T2Uint8 where
 e0 : Int
 e1 : Int
 deriving DecidableEq
def eA.eqb (x y : eA) : Bool := ((x.Key == y.Key) && ((x.Done == y.Done) && true))
def jB.eqb (x y : jB) : Bool := ((x.Some == y.Some) && ((x.Last == y.Last) && ((x.Bottom == y.Bottom) && true)))
def aA.eqb (x y : aA) : Bool := ((x.Key == y.Key) && ((x.Val == y.Val) && ((x.Dead == y.Dead) && ((x.Seq == y.Seq) && true))))
def yJ (l1 : List aA) : Nat → Int → Option (Sum (Unit) (Bool))
 | 0, _ => none
 | fu + 1, i18 =>
  (if (decide (i18 < (l1.length : Int))) then some (decide (i18 < 40)) else some false).bind fun b19 =>
  if b19 then
   (ix l1 i18).bind fun e22 =>
   (if (decide (100 < (e22.Key.length : Int))) then some true else some (decide (100 < (e22.Val.length : Int)))).bind fun b23 =>
   if b23 then
    some (.inr true)
   else
    yJ l1 fu (IntKind.i64.wrap (i18 + 1))
  else
   some (.inl ())
def oX (fu : Nat) (l1 : List aA) : Option (Bool) :=
 (yJ l1 fu 0).bind fun x17 => match x17 with
 | .inl o26 =>
  some (decide (30 < (l1.length : Int)))
 | .inr y =>
  some y
def yK (l1 : List kB) : Nat → Int → Option (Sum (Unit) (Bool))
 | 0, _ => none
 | fu + 1, i16 =>
  (if (decide (i16 < (l1.length : Int))) then some (decide (i16 < 10)) else some false).bind fun b17 =>
  if b17 then
   (ix l1 i16).bind fun e20 =>
   (oX fu e20.Entries).bind fun vr21 =>
   if vr21 then
    some (.inr true)
   else
    yK l1 fu (IntKind.i64.wrap (i16 + 1))
  else
   some (.inl ())
def gX (fu : Nat) (l1 : List kB) : Option (Bool) :=
 (yK l1 fu 0).bind fun x15 => match x15 with
 | .inl o23 =>
  some (decide (6 < (l1.length : Int)))
 | .inr y =>
  some y
def eL (l1 : iB) : Nat → Int → Option (Sum (Unit) (Bool))
 | 0, _ => none
 | fu + 1, i16 =>
  (if (decide (i16 < (l1.Levels.length : Int))) then some (decide (i16 < 20)) else some false).bind fun b17 =>
  if b17 then
   (ix l1.Levels i16).bind fun e20 =>
   (gX fu e20.Runs).bind fun vr21 =>
   if vr21 then
    some (.inr true)
   else
    eL l1 fu (IntKind.i64.wrap (i16 + 1))
  else
   some (.inl ())
def lU (fu : Nat) (l1 : iB) : Option (Bool) :=
 (eL l1 fu 0).bind fun x15 => match x15 with
 | .inl o23 =>
  some (decide (14 < (l1.Levels.length : Int)))
 | .inr y =>
  some y
def cL (keys3 : List UInt8) (dead2 : Bool) (id1 : Int) : Nat → Int → List aA → Option (List aA)
 | 0, _, _ => none
 | fu + 1, i15, v16 =>
  if (decide (i15 < (keys3.length : Int))) then
   if 0 ≤ i15 ∧ i15 ≤ (IntKind.i64.wrap (i15 + 1)) ∧ (IntKind.i64.wrap (i15 + 1)) ≤ (keys3.length : Int) then
    if 2 * ((v16.length + 1) * 48) ≤ 281474976710656 then
     cL keys3 dead2 id1 fu (IntKind.i64.wrap (i15 + 1)) (v16 ++ [(aA.mk ((keys3.drop i15.toNat).take ((IntKind.i64.wrap (i15 + 1)).toNat - i15.toNat)) [] dead2 (IntKind.i64.wrap ((IntKind.i64.wrap ((IntKind.i64.wrap (10 * id1)) + i15)) + 1)))])
    else none
   else none
  else
   some v16
def bT (fu : Nat) (id1 : Int) (dead2 : Bool) (keys3 : List UInt8) : Option (kB) :=
 (cL keys3 dead2 id1 fu 0 []).bind fun x14 =>
 some (kB.mk id1 x14)
def fV (fu : Nat) : Option (iB) :=
 (bT fu 1 false [97, 98]).bind fun vr1 =>
 (bT fu 2 true [98]).bind fun vr2 =>
 some (iB.mk 2 [(tA.mk [vr1, vr2])])
def bO (fu : Nat) (k1 : List UInt8) : Option (Int) :=
 if (decide (32 < (k1.length : Int))) then
  some 3
 else
  some 0
def kO (fu : Nat) (vx1 : aA) : Option (Int) :=
 (bO fu vx1.Key).bind fun vr2 =>
 (if (!(decide (vr2 = 0))) then some true else some (decide (64 < (vx1.Val.length : Int)))).bind fun b3 =>
 if b3 then
  some 3
 else
  (if vx1.Dead then some (!(vx1.Val == [])) else some false).bind fun b6 =>
  if b6 then
   some 6
  else
   (if (decide (vx1.Seq < 1)) then some true else some (decide (1000000000 < vx1.Seq))).bind fun b9 =>
   if b9 then
    some 7
   else
    some 0
def oF (l1 : List aA) : Nat → Int → Option (Sum (Unit) (Int × Int))
 | 0, _ => none
 | fu + 1, v17 =>
  if (decide (v17 < (l1.length : Int))) then
   (ix l1 v17).bind fun e19 =>
   (kO fu e19).bind fun vr20 =>
   if (!(decide (vr20 = 0))) then
    some (.inr (v17, vr20))
   else
    (if (decide (0 < v17)) then (ix l1 (IntKind.i64.wrap (v17 - 1))).bind fun e22 => some (Op.bytesLess e19.Key e22.Key || e19.Key == e22.Key) else some false).bind fun b23 =>
    if b23 then
     some (.inr (v17, 6))
    else
     oF l1 fu (IntKind.i64.wrap (v17 + 1))
  else
   some (.inl ())
def mJ (fu : Nat) (l1 : List aA) : Option (Int × Int) :=
 if (decide (5000 < (l1.length : Int))) then
  some ((-1), 3)
 else
  (oF l1 fu 0).bind fun x16 => match x16 with
  | .inl o26 =>
   some (0, 0)
  | .inr y =>
   some y
def iS (fu : Nat) (vr1 : kB) : Option (Int × Int) :=
 (if (decide (vr1.Id < 1)) then some true else some (decide (1000000 < vr1.Id))).bind fun b2 =>
 if b2 then
  some ((-1), 7)
 else
  (mJ fu vr1.Entries).bind fun vr5 =>
  some (vr5.1, vr5.2)
def iR (fu : Nat) (vr1 : kB) (most2 : Int) : Option (Int) :=
 (iS fu vr1).bind fun vr3 =>
 if (!(decide (vr3.2 = 0))) then
  some vr3.2
 else
  if (decide ((vr1.Entries.length : Int) = 0)) then
   some 4
  else
   if (decide (most2 < (vr1.Entries.length : Int))) then
    some 3
   else
    some 0
def zF (e169 : tA) (v165 : Int) (l1 : iB) : Nat → Int → Int → (List (Int × Bool)) → Int → Option (Sum (Int × Int × (List (Int × Bool))) (Int × Int × (List (Int × Bool))))
 | 0, _, _, _, _ => none
 | fu + 1, e203, v204, v205, run206 =>
  if (decide (v204 < (e169.Runs.length : Int))) then
   (ix e169.Runs v204).bind fun e208 =>
   if 0 ≤ v165 then
    (iR fu e208 (IntKind.i64.wrap (l1.B * 2 ^ (min v165.toNat (IntKind.bits .i64))))).bind fun vr210 =>
    if (decide (vr210 = 0)) then
     if ((zE v205 e208.Id).getD false) then
      some (.inr (v204, 8, v205))
     else
      if (!(decide (vr210 = 0))) then
       some (.inr (v204, vr210, v205))
      else
       zF e169 v165 l1 fu vr210 (IntKind.i64.wrap (v204 + 1)) (mF v205 e208.Id true) v204
    else
     if (!(decide (vr210 = 0))) then
      some (.inr (v204, vr210, v205))
     else
      zF e169 v165 l1 fu vr210 (IntKind.i64.wrap (v204 + 1)) (mF v205 e208.Id true) v204
   else none
  else
   some (.inl (run206, e203, v205))
def fG (l1 : iB) : Nat → Int → Int → Int → (List (Int × Bool)) → Int → Option (Int × Int × Int × (List (Int × Bool)))
 | 0, _, _, _, _, _ => none
 | fu + 1, run163, e164, v165, v166, level167 =>
  if (decide (v165 < (l1.Levels.length : Int))) then
   (ix l1.Levels v165).bind fun e169 =>
   if (decide (2 < (e169.Runs.length : Int))) then
    some (v165, 0, 3, v166)
   else
    (zF e169 v165 l1 fu e164 0 v166 0).bind fun x202 => match x202 with
    | .inl o215 =>
     fG l1 fu o215.1 o215.2.1 (IntKind.i64.wrap (v165 + 1)) o215.2.2 v165
    | .inr o216 =>
     some (v165, o216.1, o216.2.1, o216.2.2)
  else
   some (level167, run163, e164, v166)
def oJ (fu : Nat) (l1 : iB) : Option (Int × Int × Int) :=
 (if (decide (l1.B < 1)) then some true else some (decide (16 < l1.B))).bind fun b2 =>
 if b2 then
  some (0, 0, 7)
 else
  if (decide (12 < (l1.Levels.length : Int))) then
   some (0, 0, 3)
  else
   (fG l1 fu 0 0 0 ([] : List (Int × Bool)) 0).bind fun x162 =>
   if (!(decide (x162.2.2.1 = 0))) then
    some (x162.1, x162.2.1, x162.2.2.1)
   else
    (if (decide (0 < (l1.Levels.length : Int))) then (ix l1.Levels (IntKind.i64.wrap ((l1.Levels.length : Int) - 1))).bind fun e218 => some (decide ((e218.Runs.length : Int) = 0)) else some false).bind fun b219 =>
    if b219 then
     some ((IntKind.i64.wrap ((l1.Levels.length : Int) - 1)), 0, 6)
    else
     some (0, 0, 0)
def lI (e34 : tA) : Nat → Int → Int → Option (Int)
 | 0, _, _ => none
 | fu + 1, best42, v43 =>
  if (decide (v43 < (e34.Runs.length : Int))) then
   (ix e34.Runs v43).bind fun e45 =>
   lI e34 fu (if best42 < e45.Id then e45.Id else best42) (IntKind.i64.wrap (v43 + 1))
  else
   some best42
def fI (l1 : iB) : Nat → Int → Int → Option (Int)
 | 0, _, _ => none
 | fu + 1, best31, v32 =>
  if (decide (v32 < (l1.Levels.length : Int))) then
   (ix l1.Levels v32).bind fun e34 =>
   (lI e34 fu best31 0).bind fun x41 =>
   fI l1 fu x41 (IntKind.i64.wrap (v32 + 1))
  else
   some best31
def vN (fu : Nat) (l1 : iB) : Option (Int) :=
 (fI l1 fu 0 0).bind fun x30 =>
 some x30
def fO (fu : Nat) (l1 : iB) : Option (Int × List tA) :=
 some (l1.B, l1.Levels)
def iL (fu : Nat) (l1 : iB) (level2 : Int) : Option (Bool) :=
 some (decide (level2 = (IntKind.i64.wrap ((l1.Levels.length : Int) - 1))))
def pF (runs1 : List (List aA)) : Nat → Int → Option (Sum (Unit) (Int × Int))
 | 0, _ => none
 | fu + 1, v14 =>
  if (decide (v14 < (runs1.length : Int))) then
   (ix runs1 v14).bind fun e16 =>
   (mJ fu e16).bind fun vr17 =>
   if (!(decide (vr17.2 = 0))) then
    some (.inr (v14, vr17.2))
   else
    pF runs1 fu (IntKind.i64.wrap (v14 + 1))
  else
   some (.inl ())
def zJ (fu : Nat) (runs1 : List (List aA)) : Option (Int × Int) :=
 if (decide ((runs1.length : Int) = 0)) then
  some ((-1), 6)
 else
  if (decide (32 < (runs1.length : Int))) then
   some ((-1), 3)
  else
   (pF runs1 fu 0).bind fun x13 => match x13 with
   | .inl o19 =>
    some (0, 0)
   | .inr y =>
    some y
def dM (fu : Nat) (vs1 : List (List aA)) : Option (List (List aA)) :=
 if vs1.isEmpty then
  some []
 else
  if 2 * ((0 + vs1.length) * 24) ≤ 281474976710656 then
   some vs1
  else none
def wJ (fu : Nat) (l1 : List aA) (vat2 : Int) : Option (eA) :=
 if (decide (vat2 = (l1.length : Int))) then
  some (eA.mk [] true)
 else
  (ix l1 vat2).bind fun e4 =>
  some (eA.mk e4.Key false)
def yS (fu : Nat) (k1 : eA) : Option (Bool) :=
 (if k1.Done then some (!(k1.Key == [])) else some false).bind fun b2 =>
 some b2
def yH (vs1 : List eA) : Nat → Int → Option (Sum (Unit) (Int))
 | 0, _ => none
 | fu + 1, v12 =>
  if (decide (v12 < (vs1.length : Int))) then
   (ix vs1 v12).bind fun e14 =>
   (yS fu e14).bind fun vr15 =>
   if vr15 then
    some (.inr v12)
   else
    yH vs1 fu (IntKind.i64.wrap (v12 + 1))
  else
   some (.inl ())
def kS (fu : Nat) (vs1 : List eA) : Option (Int) :=
 (yH vs1 fu 0).bind fun x11 => match x11 with
 | .inl o17 =>
  some (-1)
 | .inr y =>
  some y
def qS (fu : Nat) (vs1 : List eA) : Option (Bool) :=
 (kS fu vs1).bind fun vr2 =>
 some (decide (0 ≤ vr2))
def pL (fu : Nat) (keys1 : List eA) : Option (Int) :=
 if (decide ((keys1.length : Int) = 0)) then
  some 6
 else
  if (decide (32 < (keys1.length : Int))) then
   some 3
  else
   (qS fu keys1).bind fun vr4 =>
   if vr4 then
    some 2
   else
    some 0
def dO (fu : Nat) (keys1 : List eA) : Option (List eA) :=
 some keys1
def oS (fu : Nat) (vs1 : List eA) : Option (List eA) :=
 if vs1.isEmpty then
  some []
 else
  if 2 * ((0 + vs1.length) * 24) ≤ 281474976710656 then
   some vs1
  else none
def bN (fu : Nat) (p1 : Int) (q2 : Int) (p3 : List eA) : Option (Bool) :=
 (ix p3 p1).bind fun e4 =>
 (ix p3 q2).bind fun e5 =>
 if (!(e4.Done == e5.Done)) then
  some e5.Done
 else
  if (!(e4.Key == e5.Key)) then
   some (Op.bytesLess e4.Key e5.Key)
  else
   some (decide (p1 < q2))
def lH (keys1 : List eA) (vr2 : List eA) : Nat → Int → List Int → List Int → Option (List Int × List Int)
 | 0, _, _, _ => none
 | fu + 1, i34, players35, v36 =>
  if (decide (0 < i34)) then
   if (decide ((keys1.length : Int) ≤ i34)) then
    (ix players35 i34).bind fun e41 =>
    lH keys1 vr2 fu (IntKind.i64.wrap (i34 - 1)) (players35.set i34.toNat (IntKind.i64.wrap (i34 - (keys1.length : Int)))) v36
   else
    (ix players35 (IntKind.i64.wrap (2 * i34))).bind fun e42 =>
    (ix players35 (IntKind.i64.wrap ((IntKind.i64.wrap (2 * i34)) + 1))).bind fun e43 =>
    (bN fu e42 e43 vr2).bind fun vr44 =>
    if (!vr44) then
     (ix players35 i34).bind fun e46 =>
     (ix v36 i34).bind fun e47 =>
     lH keys1 vr2 fu (IntKind.i64.wrap (i34 - 1)) (players35.set i34.toNat e43) (v36.set i34.toNat e42)
    else
     (ix players35 i34).bind fun e48 =>
     (ix v36 i34).bind fun e49 =>
     lH keys1 vr2 fu (IntKind.i64.wrap (i34 - 1)) (players35.set i34.toNat e42) (v36.set i34.toNat e43)
  else
   some (players35, v36)
def aP (fu : Nat) (keys1 : List eA) : Option (bB) :=
 (dO fu keys1).bind fun vr2 =>
 if 0 ≤ (IntKind.i64.wrap (2 * (keys1.length : Int))) ∧ (IntKind.i64.wrap (2 * (keys1.length : Int))) ≤ (IntKind.i64.wrap (2 * (keys1.length : Int))) ∧ (IntKind.i64.wrap (2 * (keys1.length : Int))) ≤ 9223372036854775807 ∧ 8 * (IntKind.i64.wrap (2 * (keys1.length : Int))) ≤ 281474976710656 then
  (oS fu keys1).bind fun vr4 =>
  if 0 ≤ (keys1.length : Int) ∧ (keys1.length : Int) ≤ (keys1.length : Int) ∧ (keys1.length : Int) ≤ 9223372036854775807 ∧ 8 * (keys1.length : Int) ≤ 281474976710656 then
   (lH keys1 vr2 fu (IntKind.i64.wrap ((IntKind.i64.wrap (2 * (keys1.length : Int))) - 1)) (List.replicate (IntKind.i64.wrap (2 * (keys1.length : Int))).toNat 0 : List Int) (List.replicate keys1.length 0 : List Int)).bind fun x33 =>
   (ix x33.1 1).bind fun e52 =>
   some (bB.mk vr4 x33.2 e52)
  else none
 else none
def sQ (fu : Nat) (keys1 : List eA) : Option (bB × Int) :=
 (pL fu keys1).bind fun vr2 =>
 if (!(decide (vr2 = 0))) then
  some ((bB.mk [] [] 0), vr2)
 else
  (aP fu keys1).bind fun vr4 =>
  some (vr4, 0)
def zH (runs1 : List (List aA)) (vat2 : List Int) : Nat → Int → List eA → Option (List eA)
 | 0, _, _ => none
 | fu + 1, v18, keys19 =>
  if (decide (v18 < (runs1.length : Int))) then
   (ix runs1 v18).bind fun e22 =>
   (ix vat2 v18).bind fun e23 =>
   (wJ fu e22 e23).bind fun vr24 =>
   (ix keys19 v18).bind fun e25 =>
   zH runs1 vat2 fu (IntKind.i64.wrap (v18 + 1)) (keys19.set v18.toNat vr24)
  else
   some keys19
def oO (fu : Nat) (runs1 : List (List aA)) (vat2 : List Int) : Option (bB) :=
 if 0 ≤ (runs1.length : Int) ∧ (runs1.length : Int) ≤ (runs1.length : Int) ∧ (runs1.length : Int) ≤ 9223372036854775807 ∧ 24 * (runs1.length : Int) ≤ 281474976710656 then
  (zH runs1 vat2 fu 0 (List.replicate runs1.length (eA.mk [] false) : List eA)).bind fun x17 =>
  (sQ fu x17).bind fun vr27 =>
  some vr27.1
 else none
def sI (fu : Nat) (runs1 : List (List aA)) : Option (dB × Int × Int) :=
 (zJ fu runs1).bind fun vr2 =>
 if (!(decide (vr2.2 = 0))) then
  some ((dB.mk [] [] (bB.mk [] [] 0)), vr2.1, vr2.2)
 else
  if 0 ≤ (runs1.length : Int) ∧ (runs1.length : Int) ≤ (runs1.length : Int) ∧ (runs1.length : Int) ≤ 9223372036854775807 ∧ 8 * (runs1.length : Int) ≤ 281474976710656 then
   (dM fu runs1).bind fun vr5 =>
   (oO fu runs1 (List.replicate runs1.length 0 : List Int)).bind fun vr6 =>
   some ((dB.mk vr5 (List.replicate runs1.length 0 : List Int) vr6), 0, 0)
  else none
def tL (fu : Nat) (bottom1 : Bool) : Option (jB) :=
 some (jB.mk false [] bottom1)
def kR (fu : Nat) (runs1 : List (List aA)) (bottom2 : Bool) : Option (lB × Int × Int) :=
 (sI fu runs1).bind fun vr3 =>
 if (!(decide (vr3.2.2 = 0))) then
  some ((lB.mk (dB.mk [] [] (bB.mk [] [] 0)) (jB.mk false [] false) [] 0), vr3.2.1, vr3.2.2)
 else
  (tL fu bottom2).bind fun vr5 =>
  some ((lB.mk vr3.1 vr5 [] 0), 0, 0)
def eP (fu : Nat) (l1 : iB) (level2 : Int) (bottom3 : Bool) : Option (fB) :=
 (ix l1.Levels level2).bind fun e4 =>
 (ix e4.Runs 1).bind fun e5 =>
 (ix e4.Runs 0).bind fun e6 =>
 (kR fu [e5.Entries, e6.Entries] bottom3).bind fun vr7 =>
 some (fB.mk level2 vr7.1)
def lK (vr5 : Int × List tA) (l1 : iB) : Nat → Int → List fB → Option (List fB)
 | 0, _, _ => none
 | fu + 1, level27, v28 =>
  if (decide (level27 < (vr5.2.length : Int))) then
   (ix vr5.2 level27).bind fun e31 =>
   if (decide ((e31.Runs.length : Int) = 2)) then
    (iL fu l1 level27).bind fun vr33 =>
    (eP fu l1 level27 vr33).bind fun vr34 =>
    if 2 * ((v28.length + 1) * 176) ≤ 281474976710656 then
     lK vr5 l1 fu (IntKind.i64.wrap (level27 + 1)) (v28 ++ [vr34])
    else none
   else
    lK vr5 l1 fu (IntKind.i64.wrap (level27 + 1)) v28
  else
   some v28
def aV (fu : Nat) (l1 : iB) : Option (mB × Int) :=
 (oJ fu l1).bind fun vr2 =>
 if (!(decide (vr2.2.2 = 0))) then
  some ((mB.mk (iB.mk 0 []) [] 0), vr2.2.2)
 else
  (vN fu l1).bind fun vr4 =>
  (fO fu l1).bind fun vr5 =>
  (lK vr5 l1 fu 0 []).bind fun x26 =>
  some ((mB.mk l1 x26 (IntKind.i64.wrap (vr4 + 1))), 0)
def jH (seq2 : List tA) : Nat → Int → List Int → Option (List Int)
 | 0, _, _ => none
 | fu + 1, v18, v19 =>
  if (decide (v18 < (seq2.length : Int))) then
   (ix seq2 v18).bind fun e22 =>
   if (decide ((e22.Runs.length : Int) = 2)) then
    if 2 * ((v19.length + 1) * 8) ≤ 281474976710656 then
     jH seq2 fu (IntKind.i64.wrap (v18 + 1)) (v19 ++ [v18])
    else none
   else
    jH seq2 fu (IntKind.i64.wrap (v18 + 1)) v19
  else
   some v19
def nN (fu : Nat) (seq1 : Int) (seq2 : List tA) : Option (List Int) :=
 (jH seq2 fu 0 []).bind fun x17 =>
 some x17
def rI (s11 : List eA) (s22 : List eA) : Nat → Int → Option (Sum (Unit) (Bool))
 | 0, _ => none
 | fu + 1, v14 =>
  if (decide (v14 < (s11.length : Int))) then
   (ix s11 v14).bind fun e16 =>
   (ix s22 v14).bind fun e17 =>
   if (!(eA.eqb e16 e17)) then
    some (.inr false)
   else
    rI s11 s22 fu (IntKind.i64.wrap (v14 + 1))
  else
   some (.inl ())
def cM (fu : Nat) (s11 : List eA) (s22 : List eA) : Option (Bool) :=
 if (!(decide ((s11.length : Int) = (s22.length : Int)))) then
  some false
 else
  (rI s11 s22 fu 0).bind fun x13 => match x13 with
  | .inl o19 =>
   some true
  | .inr y =>
   some y
def eI (s11 : List Int) (s22 : List Int) : Nat → Int → Option (Sum (Unit) (Bool))
 | 0, _ => none
 | fu + 1, v14 =>
  if (decide (v14 < (s11.length : Int))) then
   (ix s11 v14).bind fun e16 =>
   (ix s22 v14).bind fun e17 =>
   if (!(decide (e16 = e17))) then
    some (.inr false)
   else
    eI s11 s22 fu (IntKind.i64.wrap (v14 + 1))
  else
   some (.inl ())
def nJ (fu : Nat) (s11 : List Int) (s22 : List Int) : Option (Bool) :=
 if (!(decide ((s11.length : Int) = (s22.length : Int)))) then
  some false
 else
  (eI s11 s22 fu 0).bind fun x13 => match x13 with
  | .inl o19 =>
   some true
  | .inr y =>
   some y
def yP (fu : Nat) (a1 : bB) (b2 : bB) : Option (Bool) :=
 (if (decide (a1.Win = b2.Win)) then (cM fu a1.Keys b2.Keys).bind fun vr3 => some vr3 else some false).bind fun b4 =>
 (if b4 then (nJ fu a1.Lose b2.Lose).bind fun vr5 => some vr5 else some false).bind fun b6 =>
 some b6
def vI (vr5 : bB) (t1 : bB) : Nat → Int → Option (Sum (Unit) (Int × Int))
 | 0, _ => none
 | fu + 1, v16 =>
  if (decide (v16 < (vr5.Lose.length : Int))) then
   (ix vr5.Lose v16).bind fun e18 =>
   (ix t1.Lose v16).bind fun e19 =>
   if (!(decide (e19 = e18))) then
    some (.inr (v16, 6))
   else
    vI vr5 t1 fu (IntKind.i64.wrap (v16 + 1))
  else
   some (.inl ())
def jR (fu : Nat) (t1 : bB) : Option (Int × Int) :=
 (pL fu t1.Keys).bind fun vr2 =>
 if (!(decide (vr2 = 0))) then
  some (0, vr2)
 else
  if (!(decide ((t1.Lose.length : Int) = (t1.Keys.length : Int)))) then
   some (0, 6)
  else
   (aP fu t1.Keys).bind fun vr5 =>
   (vI vr5 t1 fu 0).bind fun x15 => match x15 with
   | .inl o21 =>
    if (!(decide (t1.Win = vr5.Win))) then
     some (0, 6)
    else
     some (0, 0)
   | .inr y =>
    some y
def vO (fu : Nat) (t1 : bB) : Option (Int) :=
 (jR fu t1).bind fun vr2 =>
 if (!(decide (vr2.2 = 0))) then
  some vr2.2
 else
  (ix t1.Keys t1.Win).bind fun e4 =>
  if e4.Done then
   some 12
  else
   some 0
def rP (fu : Nat) (t1 : bB) : Option (Int × List UInt8 × Int) :=
 (vO fu t1).bind fun vr2 =>
 if (!(decide (vr2 = 0))) then
  some (0, [], vr2)
 else
  (ix t1.Keys t1.Win).bind fun e4 =>
  some (t1.Win, e4.Key, 0)
def eQ (fu : Nat) (vx1 : List UInt8) : Option (Bool) :=
 some (!(vx1 == vx1))
def hM (fu : Nat) (vx1 : List UInt8) (y2 : List UInt8) : Option (Int) :=
 (eQ fu vx1).bind fun vr3 =>
 (eQ fu y2).bind fun vr4 =>
 if vr3 then
  if vr4 then
   some 0
  else
   some (-1)
 else
  if vr4 then
   some 1
  else
   if (Op.bytesLess vx1 y2) then
    some (-1)
   else
    if (!(Op.bytesLess vx1 y2 || vx1 == y2)) then
     some 1
    else
     some 0
def uQ (fu : Nat) (vx1 : Int) : Option (Bool) :=
 some (!(decide (vx1 = vx1)))
def oM (fu : Nat) (vx1 : Int) (y2 : Int) : Option (Int) :=
 (uQ fu vx1).bind fun vr3 =>
 (uQ fu y2).bind fun vr4 =>
 if vr3 then
  if vr4 then
   some 0
  else
   some (-1)
 else
  if vr4 then
   some 1
  else
   if (decide (vx1 < y2)) then
    some (-1)
   else
    if (decide (y2 < vx1)) then
     some 1
    else
     some 0
def kI (vals1 : List Int) : Nat → Int → Option (Sum (Unit) (Int))
 | 0, _ => none
 | fu + 1, v10 =>
  if (decide (v10 < (vals1.length : Int))) then
   (ix vals1 v10).bind fun e12 =>
   if (!(decide (e12 = 0))) then
    some (.inr e12)
   else
    kI vals1 fu (IntKind.i64.wrap (v10 + 1))
  else
   some (.inl ())
def eO (fu : Nat) (vals1 : List Int) : Option (Int) :=
 (kI vals1 fu 0).bind fun x9 => match x9 with
 | .inl o14 =>
  some 0
 | .inr y =>
  some y
def uG (vs1 : dB) : Nat → Int → Option (Sum (Unit) (Int × Int))
 | 0, _ => none
 | fu + 1, v19 =>
  if (decide (v19 < (vs1.At.length : Int))) then
   (ix vs1.At v19).bind fun e21 =>
   (if (decide (e21 < 0)) then some true else (ix vs1.Runs v19).bind fun e22 => some (decide ((e22.length : Int) < e21))).bind fun b23 =>
   if b23 then
    some (.inr (v19, 6))
   else
    uG vs1 fu (IntKind.i64.wrap (v19 + 1))
  else
   some (.inl ())
def yF (vs1 : dB) (vr30 : Int × List UInt8 × Int) : Nat → Int → Option (Sum (Unit) (Int × Int))
 | 0, _ => none
 | fu + 1, v54 =>
  if (decide (v54 < (vs1.At.length : Int))) then
   (ix vs1.At v54).bind fun e56 =>
   (if (decide (0 < e56)) then (ix vs1.Runs v54).bind fun e57 => (ix e57 (IntKind.i64.wrap (e56 - 1))).bind fun e58 => (hM fu e58.Key vr30.2.1).bind fun vr59 => (oM fu v54 vr30.1).bind fun vr60 => (eO fu [vr59, vr60]).bind fun vr61 => some (decide (0 < vr61)) else some false).bind fun b62 =>
   if b62 then
    some (.inr (vr30.1, 6))
   else
    yF vs1 vr30 fu (IntKind.i64.wrap (v54 + 1))
  else
   some (.inl ())
def bH (fu : Nat) (vs1 : dB) : Option (Int × Int) :=
 (zJ fu vs1.Runs).bind fun vr2 =>
 if (!(decide (vr2.2 = 0))) then
  some (vr2.1, vr2.2)
 else
  if (!(decide ((vs1.At.length : Int) = (vs1.Runs.length : Int)))) then
   some ((-1), 6)
  else
   (uG vs1 fu 0).bind fun x18 => match x18 with
   | .inl o26 =>
    (oO fu vs1.Runs vs1.At).bind fun vr27 =>
    (yP fu vs1.Tree vr27).bind fun vr28 =>
    if (!vr28) then
     some ((-1), 6)
    else
     (rP fu vs1.Tree).bind fun vr30 =>
     if (!(decide (vr30.2.2 = 0))) then
      some (0, 0)
     else
      (yF vs1 vr30 fu 0).bind fun x53 => match x53 with
      | .inl o65 =>
       some (0, 0)
      | .inr y =>
       some y
   | .inr y =>
    some y
def kM (fu : Nat) (vr1 : List (List aA)) (vr2 : List Int) (vr3 : List eA) (vr4 : List Int) (vr5 : Int) : Option (aA × Int × Int) :=
 (rP fu (bB.mk vr3 vr4 vr5)).bind fun vr6 =>
 if (!(decide (vr6.2.2 = 0))) then
  some ((aA.mk [] [] false 0), 0, vr6.2.2)
 else
  (ix vr1 vr6.1).bind fun e8 =>
  (ix vr2 vr6.1).bind fun e9 =>
  (ix e8 e9).bind fun e10 =>
  some (e10, vr6.1, 0)
def vQ (fu : Nat) (vs1 : List eA) : Option (List eA) :=
 if vs1.isEmpty then
  some []
 else
  if 2 * ((0 + vs1.length) * 24) ≤ 281474976710656 then
   some vs1
  else none
def bJ (keys1 : List eA) (vr2 : List eA) : Nat → Int → List Int → List Int → Option (List Int × List Int)
 | 0, _, _, _ => none
 | fu + 1, i34, players35, v36 =>
  if (decide (0 < i34)) then
   if (decide ((keys1.length : Int) ≤ i34)) then
    (ix players35 i34).bind fun e41 =>
    bJ keys1 vr2 fu (IntKind.i64.wrap (i34 - 1)) (players35.set i34.toNat (IntKind.i64.wrap (i34 - (keys1.length : Int)))) v36
   else
    (ix players35 (IntKind.i64.wrap (2 * i34))).bind fun e42 =>
    (ix players35 (IntKind.i64.wrap ((IntKind.i64.wrap (2 * i34)) + 1))).bind fun e43 =>
    (bN fu e42 e43 vr2).bind fun vr44 =>
    if (!vr44) then
     (ix players35 i34).bind fun e46 =>
     (ix v36 i34).bind fun e47 =>
     bJ keys1 vr2 fu (IntKind.i64.wrap (i34 - 1)) (players35.set i34.toNat e43) (v36.set i34.toNat e42)
    else
     (ix players35 i34).bind fun e48 =>
     (ix v36 i34).bind fun e49 =>
     bJ keys1 vr2 fu (IntKind.i64.wrap (i34 - 1)) (players35.set i34.toNat e42) (v36.set i34.toNat e43)
  else
   some (players35, v36)
def sT (fu : Nat) (keys1 : List eA) : Option (bB) :=
 (dO fu keys1).bind fun vr2 =>
 if 0 ≤ (IntKind.i64.wrap (2 * (keys1.length : Int))) ∧ (IntKind.i64.wrap (2 * (keys1.length : Int))) ≤ (IntKind.i64.wrap (2 * (keys1.length : Int))) ∧ (IntKind.i64.wrap (2 * (keys1.length : Int))) ≤ 9223372036854775807 ∧ 8 * (IntKind.i64.wrap (2 * (keys1.length : Int))) ≤ 281474976710656 then
  (vQ fu keys1).bind fun vr4 =>
  if 0 ≤ (keys1.length : Int) ∧ (keys1.length : Int) ≤ (keys1.length : Int) ∧ (keys1.length : Int) ≤ 9223372036854775807 ∧ 8 * (keys1.length : Int) ≤ 281474976710656 then
   (bJ keys1 vr2 fu (IntKind.i64.wrap ((IntKind.i64.wrap (2 * (keys1.length : Int))) - 1)) (List.replicate (IntKind.i64.wrap (2 * (keys1.length : Int))).toNat 0 : List Int) (List.replicate keys1.length 0 : List Int)).bind fun x33 =>
   (ix x33.1 1).bind fun e52 =>
   some (bB.mk vr4 x33.2 e52)
  else none
 else none
def dU (fu : Nat) (keys1 : List eA) : Option (bB × Int) :=
 (pL fu keys1).bind fun vr2 =>
 if (!(decide (vr2 = 0))) then
  some ((bB.mk [] [] 0), vr2)
 else
  (sT fu keys1).bind fun vr4 =>
  some (vr4, 0)
def xK (runs1 : List (List aA)) (vat2 : List Int) : Nat → Int → List eA → Option (List eA)
 | 0, _, _ => none
 | fu + 1, v18, keys19 =>
  if (decide (v18 < (runs1.length : Int))) then
   (ix runs1 v18).bind fun e22 =>
   (ix vat2 v18).bind fun e23 =>
   (wJ fu e22 e23).bind fun vr24 =>
   (ix keys19 v18).bind fun e25 =>
   xK runs1 vat2 fu (IntKind.i64.wrap (v18 + 1)) (keys19.set v18.toNat vr24)
  else
   some keys19
def zT (fu : Nat) (runs1 : List (List aA)) (vat2 : List Int) : Option (bB) :=
 if 0 ≤ (runs1.length : Int) ∧ (runs1.length : Int) ≤ (runs1.length : Int) ∧ (runs1.length : Int) ≤ 9223372036854775807 ∧ 24 * (runs1.length : Int) ≤ 281474976710656 then
  (xK runs1 vat2 fu 0 (List.replicate runs1.length (eA.mk [] false) : List eA)).bind fun x17 =>
  (dU fu x17).bind fun vr27 =>
  some vr27.1
 else none
def fT (fu : Nat) (runs1 : List (List aA)) : Option (dB × Int × Int) :=
 (zJ fu runs1).bind fun vr2 =>
 if (!(decide (vr2.2 = 0))) then
  some ((dB.mk [] [] (bB.mk [] [] 0)), vr2.1, vr2.2)
 else
  if 0 ≤ (runs1.length : Int) ∧ (runs1.length : Int) ≤ (runs1.length : Int) ∧ (runs1.length : Int) ≤ 9223372036854775807 ∧ 8 * (runs1.length : Int) ≤ 281474976710656 then
   (dM fu runs1).bind fun vr5 =>
   (zT fu runs1 (List.replicate runs1.length 0 : List Int)).bind fun vr6 =>
   some ((dB.mk vr5 (List.replicate runs1.length 0 : List Int) vr6), 0, 0)
  else none
def aN (fu : Nat) (vs1 : List Int) : Option (List Int) :=
 if vs1.isEmpty then
  some []
 else
  if 2 * ((0 + vs1.length) * 8) ≤ 281474976710656 then
   some vs1
  else none
def vH (vr14 : List eA) : Nat → Int → Int → Int → List Int → Option (Int × Int × List Int)
 | 0, _, _, _, _ => none
 | fu + 1, games29, node30, u31, v32 =>
  if (decide ((IntKind.i64.wrap (node30.tdiv 2)) = 0)) then
   some (games29, u31, v32)
  else
   (ix v32 (IntKind.i64.wrap (node30.tdiv 2))).bind fun e35 =>
   (bN fu e35 u31 vr14).bind fun vr36 =>
   if vr36 then
    vH vr14 fu (IntKind.i64.wrap (games29 + 1)) (IntKind.i64.wrap (node30.tdiv 2)) e35 (v32.set ((IntKind.i64.wrap (node30.tdiv 2)).toNat) u31)
   else
    vH vr14 fu (IntKind.i64.wrap (games29 + 1)) (IntKind.i64.wrap (node30.tdiv 2)) u31 v32
def oN (fu : Nat) (t1 : bB) (k2 : eA) : Option (bB × Int × Int) :=
 (vO fu t1).bind fun vr3 =>
 if (!(decide (vr3 = 0))) then
  some ((bB.mk [] [] 0), 0, vr3)
 else
  (pL fu [k2]).bind fun vr5 =>
  if (!(decide (vr5 = 0))) then
   some ((bB.mk [] [] 0), 0, vr5)
  else
   (if (!k2.Done) then (ix t1.Keys t1.Win).bind fun e7 => some (Op.bytesLess k2.Key e7.Key) else some false).bind fun b8 =>
   if b8 then
    some ((bB.mk [] [] 0), 0, 6)
   else
    (vQ fu t1.Keys).bind fun vr11 =>
    (aN fu t1.Lose).bind fun vr12 =>
    (ix vr11 t1.Win).bind fun e13 =>
    (dO fu (vr11.set t1.Win.toNat k2)).bind fun vr14 =>
    (vH vr14 fu 0 (IntKind.i64.wrap (((vr11.set t1.Win.toNat k2).length : Int) + t1.Win)) t1.Win vr12).bind fun x28 =>
    some ((bB.mk (vr11.set t1.Win.toNat k2) x28.2.2 x28.2.1), x28.1, 0)
def wH (vr2 : dB × Int × Int) : Nat → List Int → List eA → List Int → Int → List aA → List Int → Option (List Int × List eA × List Int × Int × List aA × List Int)
 | 0, _, _, _, _, _, _ => none
 | fu + 1, v38, v39, v40, v41, v42, v43 =>
  (kM fu vr2.1.Runs v38 v39 v40 v41).bind fun vr47 =>
  if (!(decide (vr47.2.2 = 0))) then
   some (v38, v39, v40, v41, v42, v43)
  else
   if 2 * ((v42.length + 1) * 48) ≤ 281474976710656 then
    if 2 * ((v43.length + 1) * 8) ≤ 281474976710656 then
     (ix v38 vr47.2.1).bind fun e51 =>
     (ix vr2.1.Runs vr47.2.1).bind fun e52 =>
     (ix (v38.set vr47.2.1.toNat (IntKind.i64.wrap (e51 + 1))) vr47.2.1).bind fun e53 =>
     (wJ fu e52 e53).bind fun vr54 =>
     (oN fu (bB.mk v39 v40 v41) vr54).bind fun vr55 =>
     wH vr2 fu (v38.set vr47.2.1.toNat (IntKind.i64.wrap (e51 + 1))) vr55.1.Keys vr55.1.Lose vr55.1.Win (v42 ++ [vr47.1]) (v43 ++ [vr47.2.1])
    else none
   else none
def uL (fu : Nat) (runs1 : List (List aA)) : Option (List aA × List Int × Int) :=
 (fT fu runs1).bind fun vr2 =>
 if (!(decide (vr2.2.2 = 0))) then
  some ([], [], vr2.2.2)
 else
  (wH vr2 fu vr2.1.At vr2.1.Tree.Keys vr2.1.Tree.Lose vr2.1.Tree.Win [] []).bind fun x37 =>
  some (x37.2.2.2.2.1, x37.2.2.2.2.2, 0)
def gP (fu : Nat) (vs1 : jB) : Option (Int) :=
 (bO fu vs1.Last).bind fun vr2 =>
 if (!(decide (vr2 = 0))) then
  some vr2
 else
  (if (!vs1.Some) then some (!(vs1.Last == [])) else some false).bind fun b4 =>
  if b4 then
   some 6
  else
   some 0
def cT (fu : Nat) (vx1 : uE) : Option (aA) :=
 some (aA.mk vx1.Key vx1.Val vx1.Dead vx1.Seq)
def iH (l1 : List aA) (vr4 : jB) : Nat → Int → Bool → List UInt8 → List aA → Option (Sum (Bool × List UInt8 × List aA) (List aA × Int × Int))
 | 0, _, _, _, _ => none
 | fu + 1, v60, v61, v62, v63 =>
  if (decide (v60 < (l1.length : Int))) then
   (ix l1 v60).bind fun e66 =>
   (gP fu (jB.mk v61 v62 vr4.Bottom)).bind fun vr67 =>
   if (!(decide (vr67 = 0))) then
    some (.inr ([], v60, vr67))
   else
    (kO fu e66).bind fun vr69 =>
    if (!(decide (vr69 = 0))) then
     some (.inr ([], v60, vr69))
    else
     (if v61 then some (Op.bytesLess e66.Key v62) else some false).bind fun b71 =>
     if b71 then
      some (.inr ([], v60, 6))
     else
      (if v61 then some (e66.Key == v62) else some false).bind fun b74 =>
      if b74 then
       iH l1 vr4 fu (IntKind.i64.wrap (v60 + 1)) true e66.Key v63
      else
       (if vr4.Bottom then some e66.Dead else some false).bind fun b77 =>
       if b77 then
        iH l1 vr4 fu (IntKind.i64.wrap (v60 + 1)) true e66.Key v63
       else
        (cT fu (uE.mk e66.Key e66.Val e66.Dead e66.Seq)).bind fun vr80 =>
        if 2 * ((v63.length + 1) * 48) ≤ 281474976710656 then
         iH l1 vr4 fu (IntKind.i64.wrap (v60 + 1)) true e66.Key (v63 ++ [vr80])
        else none
  else
   some (.inl (v61, v62, v63))
def yQ (fu : Nat) (l1 : List aA) (bottom2 : Bool) : Option (List aA × Int × Int) :=
 if (decide (20000 < (l1.length : Int))) then
  some ([], (-1), 3)
 else
  (tL fu bottom2).bind fun vr4 =>
  (iH l1 vr4 fu 0 vr4.Some vr4.Last []).bind fun x59 => match x59 with
  | .inl o82 =>
   some (o82.2.2, 0, 0)
  | .inr y =>
   some y
def mI (a1 : List aA) (b2 : List aA) : Nat → Int → Option (Sum (Unit) (Bool))
 | 0, _ => none
 | fu + 1, v14 =>
  if (decide (v14 < (a1.length : Int))) then
   (ix a1 v14).bind fun e16 =>
   (ix b2 v14).bind fun e17 =>
   if (!(aA.eqb e16 e17)) then
    some (.inr false)
   else
    mI a1 b2 fu (IntKind.i64.wrap (v14 + 1))
  else
   some (.inl ())
def kP (fu : Nat) (a1 : List aA) (b2 : List aA) : Option (Bool) :=
 if (!(decide ((a1.length : Int) = (b2.length : Int)))) then
  some false
 else
  (mI a1 b2 fu 0).bind fun x13 => match x13 with
  | .inl o19 =>
   some true
  | .inr y =>
   some y
def aI (vs1 : lB) : Nat → Int → Int → Option (Int)
 | 0, _, _ => none
 | fu + 1, n11, v12 =>
  if (decide (v12 < (vs1.Merge.At.length : Int))) then
   (ix vs1.Merge.At v12).bind fun e14 =>
   aI vs1 fu (IntKind.i64.wrap (n11 + e14)) (IntKind.i64.wrap (v12 + 1))
  else
   some n11
def oP (fu : Nat) (vs1 : lB) : Option (Int) :=
 (bH fu vs1.Merge).bind fun vr2 =>
 if (!(decide (vr2.2 = 0))) then
  some vr2.2
 else
  (aI vs1 fu 0 0).bind fun x10 =>
  (if (decide (20000 < (vs1.Out.length : Int))) then some true else some (decide (20000 < x10))).bind fun b15 =>
  if b15 then
   some 3
  else
   if (!(decide (vs1.Steps = x10))) then
    some 7
   else
    (uL fu vs1.Merge.Runs).bind fun vr19 =>
    if (!(decide (vr19.2.2 = 0))) then
     some vr19.2.2
    else
     if 0 ≤ x10 ∧ x10 ≤ (vr19.1.length : Int) then
      (yQ fu (vr19.1.take x10.toNat) vs1.Shadow.Bottom).bind fun vr22 =>
      if (!(decide (vr22.2.2 = 0))) then
       some vr22.2.2
      else
       (tL fu vs1.Shadow.Bottom).bind fun vr24 =>
       if (decide (0 < x10)) then
        (ix vr19.1 (IntKind.i64.wrap (x10 - 1))).bind fun e26 =>
        (kP fu vs1.Out vr22.1).bind fun vr27 =>
        (if (!vr27) then some true else some (!(jB.eqb vs1.Shadow (jB.mk true e26.Key vr24.Bottom)))).bind fun b28 =>
        if b28 then
         some 6
        else
         some 0
       else
        (kP fu vs1.Out vr22.1).bind fun vr31 =>
        (if (!vr31) then some true else some (!(jB.eqb vs1.Shadow vr24))).bind fun b32 =>
        if b32 then
         some 6
        else
         some 0
     else none
def tI (vs1 : dB) : Nat → Int → Int → Option (Int)
 | 0, _, _ => none
 | fu + 1, n13, v14 =>
  if (decide (v14 < (vs1.Runs.length : Int))) then
   (ix vs1.Runs v14).bind fun e16 =>
   (ix vs1.At v14).bind fun e17 =>
   tI vs1 fu (IntKind.i64.wrap (n13 + (IntKind.i64.wrap ((e16.length : Int) - e17)))) (IntKind.i64.wrap (v14 + 1))
  else
   some n13
def mQ (fu : Nat) (vs1 : dB) : Option (Int × Int) :=
 (bH fu vs1).bind fun vr2 =>
 if (!(decide (vr2.2 = 0))) then
  some (0, vr2.2)
 else
  (tI vs1 fu 0 0).bind fun x12 =>
  some (x12, 0)
def fM (fu : Nat) (vs1 : lB) : Option (Int × Int) :=
 (oP fu vs1).bind fun vr2 =>
 if (!(decide (vr2 = 0))) then
  some (0, vr2)
 else
  (mQ fu vs1.Merge).bind fun vr4 =>
  some (vr4.1, vr4.2)
def vP (fu : Nat) (vs1 : dB) : Option (aA × Int × dB × Int) :=
 (bH fu vs1).bind fun vr2 =>
 if (!(decide (vr2.2 = 0))) then
  some ((aA.mk [] [] false 0), 0, (dB.mk [] [] (bB.mk [] [] 0)), vr2.2)
 else
  (dM fu vs1.Runs).bind fun vr4 =>
  (aN fu vs1.At).bind fun vr5 =>
  (kM fu vr4 vr5 vs1.Tree.Keys vs1.Tree.Lose vs1.Tree.Win).bind fun vr6 =>
  if (!(decide (vr6.2.2 = 0))) then
   some ((aA.mk [] [] false 0), 0, (dB.mk [] [] (bB.mk [] [] 0)), vr6.2.2)
  else
   (ix vr5 vr6.2.1).bind fun e8 =>
   (ix vr4 vr6.2.1).bind fun e9 =>
   (ix (vr5.set vr6.2.1.toNat (IntKind.i64.wrap (e8 + 1))) vr6.2.1).bind fun e10 =>
   (wJ fu e9 e10).bind fun vr11 =>
   (oN fu vs1.Tree vr11).bind fun vr12 =>
   some (vr6.1, vr6.2.1, (dB.mk vr4 (vr5.set vr6.2.1.toNat (IntKind.i64.wrap (e8 + 1))) vr12.1), 0)
def fN (fu : Nat) (vs1 : jB) (vx2 : aA) : Option (Bool × jB × Int) :=
 (gP fu vs1).bind fun vr3 =>
 if (!(decide (vr3 = 0))) then
  some (false, (jB.mk false [] false), vr3)
 else
  (kO fu vx2).bind fun vr5 =>
  if (!(decide (vr5 = 0))) then
   some (false, (jB.mk false [] false), vr5)
  else
   (if vs1.Some then some (Op.bytesLess vx2.Key vs1.Last) else some false).bind fun b7 =>
   if b7 then
    some (false, (jB.mk false [] false), 6)
   else
    (if vs1.Some then some (vx2.Key == vs1.Last) else some false).bind fun b10 =>
    if b10 then
     some (false, (jB.mk true vx2.Key vs1.Bottom), 0)
    else
     (if vs1.Bottom then some vx2.Dead else some false).bind fun b13 =>
     if b13 then
      some (false, (jB.mk true vx2.Key vs1.Bottom), 0)
     else
      some (true, (jB.mk true vx2.Key vs1.Bottom), 0)
def tH (vr3 : Int × Int) (n2 : Int) : Nat → Int → List (List aA) → List Int → List eA → List Int → Int → Bool → List UInt8 → Bool → Int → List aA → Option (Sum (List (List aA) × List Int × List eA × List Int × Int × Bool × List UInt8 × Bool × Int × List aA) (lB × Int × Int))
 | 0, _, _, _, _, _, _, _, _, _, _, _ => none
 | fu + 1, left43, v44, v45, v46, v47, v48, v49, v50, v51, v52, v53 =>
  if (decide (left43 < (if vr3.1 < n2 then vr3.1 else n2))) then
   (vP fu (dB.mk v44 v45 (bB.mk v46 v47 v48))).bind fun vr56 =>
   if (!(decide (vr56.2.2.2 = 0))) then
    some (.inr ((lB.mk (dB.mk [] [] (bB.mk [] [] 0)) (jB.mk false [] false) [] 0), 0, vr56.2.2.2))
   else
    (fN fu (jB.mk v49 v50 v51) vr56.1).bind fun vr58 =>
    if (!(decide (vr58.2.2 = 0))) then
     some (.inr ((lB.mk (dB.mk [] [] (bB.mk [] [] 0)) (jB.mk false [] false) [] 0), 0, vr58.2.2))
    else
     if vr58.1 then
      if 2 * ((v53.length + 1) * 48) ≤ 281474976710656 then
       tH vr3 n2 fu (IntKind.i64.wrap (left43 + 1)) vr56.2.2.1.Runs vr56.2.2.1.At vr56.2.2.1.Tree.Keys vr56.2.2.1.Tree.Lose vr56.2.2.1.Tree.Win vr58.2.1.Some vr58.2.1.Last vr58.2.1.Bottom (IntKind.i64.wrap (v52 + 1)) (v53 ++ [vr56.1])
      else none
     else
      tH vr3 n2 fu (IntKind.i64.wrap (left43 + 1)) vr56.2.2.1.Runs vr56.2.2.1.At vr56.2.2.1.Tree.Keys vr56.2.2.1.Tree.Lose vr56.2.2.1.Tree.Win vr58.2.1.Some vr58.2.1.Last vr58.2.1.Bottom (IntKind.i64.wrap (v52 + 1)) v53
  else
   some (.inl (v44, v45, v46, v47, v48, v49, v50, v51, v52, v53))
def uO (fu : Nat) (vs1 : lB) (n2 : Int) : Option (lB × Int × Int) :=
 (fM fu vs1).bind fun vr3 =>
 if (!(decide (vr3.2 = 0))) then
  some ((lB.mk (dB.mk [] [] (bB.mk [] [] 0)) (jB.mk false [] false) [] 0), 0, vr3.2)
 else
  if (decide (n2 < 0)) then
   some ((lB.mk (dB.mk [] [] (bB.mk [] [] 0)) (jB.mk false [] false) [] 0), 0, 7)
  else
   if (decide (20000 < (IntKind.i64.wrap (vs1.Steps + (if vr3.1 < n2 then vr3.1 else n2))))) then
    some ((lB.mk (dB.mk [] [] (bB.mk [] [] 0)) (jB.mk false [] false) [] 0), 0, 3)
   else
    if 2 * (vs1.Out.length * 48) ≤ 281474976710656 then
     if 2 * (vs1.Merge.At.length * 8) ≤ 281474976710656 then
      (tH vr3 n2 fu 0 vs1.Merge.Runs vs1.Merge.At vs1.Merge.Tree.Keys vs1.Merge.Tree.Lose vs1.Merge.Tree.Win vs1.Shadow.Some vs1.Shadow.Last vs1.Shadow.Bottom vs1.Steps vs1.Out).bind fun x42 => match x42 with
      | .inl o62 =>
       some ((lB.mk (dB.mk o62.1 o62.2.1 (bB.mk o62.2.2.1 o62.2.2.2.1 o62.2.2.2.2.1)) (jB.mk o62.2.2.2.2.2.1 o62.2.2.2.2.2.2.1 o62.2.2.2.2.2.2.2.1) o62.2.2.2.2.2.2.2.2.2 o62.2.2.2.2.2.2.2.2.1), (if vr3.1 < n2 then vr3.1 else n2), 0)
      | .inr y =>
       some y
     else none
    else none
def cI (s11 : List aA) (s22 : List aA) : Nat → Int → Option (Sum (Unit) (Bool))
 | 0, _ => none
 | fu + 1, v14 =>
  if (decide (v14 < (s11.length : Int))) then
   (ix s11 v14).bind fun e16 =>
   (ix s22 v14).bind fun e17 =>
   if (!(aA.eqb e16 e17)) then
    some (.inr false)
   else
    cI s11 s22 fu (IntKind.i64.wrap (v14 + 1))
  else
   some (.inl ())
def vR (fu : Nat) (s11 : List aA) (s22 : List aA) : Option (Bool) :=
 if (!(decide ((s11.length : Int) = (s22.length : Int)))) then
  some false
 else
  (cI s11 s22 fu 0).bind fun x13 => match x13 with
  | .inl o19 =>
   some true
  | .inr y =>
   some y
def vM (fu : Nat) (a1 : List aA) (b2 : List aA) : Option (Bool) :=
 (vR fu a1 b2).bind fun vr3 =>
 some vr3
def uH (s11 : List (List aA)) (s22 : List (List aA)) : Nat → Int → Option (Sum (Unit) (Bool))
 | 0, _ => none
 | fu + 1, v16 =>
  if (decide (v16 < (s11.length : Int))) then
   (ix s11 v16).bind fun e18 =>
   (ix s22 v16).bind fun e19 =>
   (vM fu e18 e19).bind fun vr20 =>
   if (!vr20) then
    some (.inr false)
   else
    uH s11 s22 fu (IntKind.i64.wrap (v16 + 1))
  else
   some (.inl ())
def iQ (fu : Nat) (s11 : List (List aA)) (s22 : List (List aA)) : Option (Bool) :=
 if (!(decide ((s11.length : Int) = (s22.length : Int)))) then
  some false
 else
  (uH s11 s22 fu 0).bind fun x15 => match x15 with
  | .inl o22 =>
   some true
  | .inr y =>
   some y
def aQ (fu : Nat) (a1 : lB) (b2 : lB) : Option (Bool) :=
 (iQ fu a1.Merge.Runs b2.Merge.Runs).bind fun vr3 =>
 (if vr3 then (nJ fu a1.Merge.At b2.Merge.At).bind fun vr4 => some vr4 else some false).bind fun b5 =>
 (if b5 then (cM fu a1.Merge.Tree.Keys b2.Merge.Tree.Keys).bind fun vr6 => some vr6 else some false).bind fun b7 =>
 (if b7 then (nJ fu a1.Merge.Tree.Lose b2.Merge.Tree.Lose).bind fun vr8 => some vr8 else some false).bind fun b9 =>
 (if b9 then some (decide (a1.Merge.Tree.Win = b2.Merge.Tree.Win)) else some false).bind fun b10 =>
 (if b10 then some (jB.eqb a1.Shadow b2.Shadow) else some false).bind fun b11 =>
 (if b11 then (vM fu a1.Out b2.Out).bind fun vr12 => some vr12 else some false).bind fun b13 =>
 (if b13 then some (decide (a1.Steps = b2.Steps)) else some false).bind fun b14 =>
 some b14
def fF (vs1 : mB) (vr10 : List Int) : Nat → Int → Option (Sum (Unit) (Int × Int))
 | 0, _ => none
 | fu + 1, v49 =>
  if (decide (v49 < (vs1.Jobs.length : Int))) then
   (ix vs1.Jobs v49).bind fun e51 =>
   (if (decide ((vr10.length : Int) ≤ v49)) then some true else (ix vr10 v49).bind fun e52 => some (!(decide (e51.Level = e52)))).bind fun b53 =>
   if b53 then
    some (.inr (v49, 6))
   else
    (if e51.Work.Shadow.Bottom then (iL fu vs1.Levels e51.Level).bind fun vr56 => some (!vr56) else some false).bind fun b57 =>
    if b57 then
     some (.inr (v49, 6))
    else
     (eP fu vs1.Levels e51.Level e51.Work.Shadow.Bottom).bind fun vr60 =>
     (fM fu vr60.Work).bind fun vr61 =>
     (if (decide (e51.Work.Steps < 0)) then some true else some (decide (vr61.1 < e51.Work.Steps))).bind fun b62 =>
     if b62 then
      some (.inr (v49, 6))
     else
      (uO fu vr60.Work e51.Work.Steps).bind fun vr65 =>
      (aQ fu vr65.1 e51.Work).bind fun vr66 =>
      if (!vr66) then
       some (.inr (v49, 6))
      else
       fF vs1 vr10 fu (IntKind.i64.wrap (v49 + 1))
  else
   some (.inl ())
def uI (fu : Nat) (vs1 : mB) : Option (Int × Int) :=
 (oJ fu vs1.Levels).bind fun vr2 =>
 if (!(decide (vr2.2.2 = 0))) then
  some ((-1), vr2.2.2)
 else
  (if (decide (vs1.NextId < 1)) then some true else some (decide (1000001 < vs1.NextId))).bind fun b4 =>
  if b4 then
   some ((-1), 7)
  else
   (vN fu vs1.Levels).bind fun vr7 =>
   if (decide (vs1.NextId ≤ vr7)) then
    some ((-1), 6)
   else
    (fO fu vs1.Levels).bind fun vr9 =>
    (nN fu vr9.1 vr9.2).bind fun vr10 =>
    (fF vs1 vr10 fu 0).bind fun x48 => match x48 with
    | .inl o68 =>
     if (decide ((vs1.Jobs.length : Int) < (vr10.length : Int))) then
      some ((-1), 4)
     else
      some (0, 0)
    | .inr y =>
     some y
def tN (fu : Nat) (j1 : fB) (p2 : Int) : Option (Bool) :=
 some (decide (j1.Level = p2))
def iG (vs1 : List fB) (f2 : Int) : Nat → Int → Option (Sum (Unit) (Int))
 | 0, _ => none
 | fu + 1, v13 =>
  if (decide (v13 < (vs1.length : Int))) then
   (ix vs1 v13).bind fun e15 =>
   (tN fu e15 f2).bind fun vr16 =>
   if vr16 then
    some (.inr v13)
   else
    iG vs1 f2 fu (IntKind.i64.wrap (v13 + 1))
  else
   some (.inl ())
def yM (fu : Nat) (vs1 : List fB) (f2 : Int) : Option (Int) :=
 (iG vs1 f2 fu 0).bind fun x12 => match x12 with
 | .inl o18 =>
  some (-1)
 | .inr y =>
  some y
def pO (fu : Nat) (l1 : List fB) (is2 : Int) : Option (Int × Int) :=
 (yM fu l1 is2).bind fun vr3 =>
 if (decide (vr3 < 0)) then
  some (0, 4)
 else
  some (vr3, 0)
def lG (fu : Nat) (vs1 : mB) (level2 : Int) : Option (Int × Int) :=
 (uI fu vs1).bind fun vr3 =>
 if (!(decide (vr3.2 = 0))) then
  some (0, vr3.2)
 else
  (pO fu vs1.Jobs level2).bind fun vr5 =>
  some (vr5.1, vr5.2)
def gK (fu : Nat) (vs1 : mB) (level2 : Int) : Option (Int × Int) :=
 (lG fu vs1 level2).bind fun vr3 =>
 if (!(decide (vr3.2 = 0))) then
  some (0, vr3.2)
 else
  (ix vs1.Jobs vr3.1).bind fun e5 =>
  (fM fu e5.Work).bind fun vr6 =>
  some (vr6.1, vr6.2)
def gV (fu : Nat) (vs1 : List fB) : Option (List fB) :=
 if vs1.isEmpty then
  some []
 else
  if 2 * ((0 + vs1.length) * 176) ≤ 281474976710656 then
   some vs1
  else none
def uS (fu : Nat) (vs1 : mB) (level2 : Int) (most3 : Int) : Option (mB × Int × Int) :=
 (uI fu vs1).bind fun vr4 =>
 if (!(decide (vr4.2 = 0))) then
  some ((mB.mk (iB.mk 0 []) [] 0), 0, vr4.2)
 else
  if (decide (most3 < 0)) then
   some ((mB.mk (iB.mk 0 []) [] 0), 0, 7)
  else
   (lG fu vs1 level2).bind fun vr7 =>
   if (!(decide (vr7.2 = 0))) then
    some ((mB.mk (iB.mk 0 []) [] 0), 0, vr7.2)
   else
    (ix vs1.Jobs vr7.1).bind fun e9 =>
    (fM fu e9.Work).bind fun vr10 =>
    if (decide (vr10.1 = 0)) then
     some ((mB.mk (iB.mk 0 []) [] 0), 0, 9)
    else
     (uO fu e9.Work most3).bind fun vr12 =>
     if (!(decide (vr12.2.2 = 0))) then
      some ((mB.mk (iB.mk 0 []) [] 0), 0, vr12.2.2)
     else
      (gV fu vs1.Jobs).bind fun vr14 =>
      (ix vr14 vr7.1).bind fun e15 =>
      some ((mB.mk vs1.Levels (vr14.set vr7.1.toNat (fB.mk e15.Level vr12.1)) vs1.NextId), vr12.2.1, 0)
def rM (fu : Nat) : Option (Bool) :=
 (fV fu).bind fun vr1 =>
 (aV fu vr1).bind fun vr2 =>
 (if (!(decide (vr2.2 = 0))) then some true else some (!(decide (vr2.1.NextId = 3)))).bind fun b3 =>
 (if b3 then some true else some (!(decide ((vr2.1.Jobs.length : Int) = 1)))).bind fun b4 =>
 (if b4 then some true else (ix vr2.1.Jobs 0).bind fun e5 => some (!(decide (e5.Level = 0)))).bind fun b6 =>
 if b6 then
  some false
 else
  (gK fu vr2.1 0).bind fun vr14 =>
  (uS fu vr2.1 0 9).bind fun vr15 =>
  (gK fu vr15.1 0).bind fun vr16 =>
  (uS fu vr15.1 0 1).bind fun vr17 =>
  (if (decide (vr14.1 = 3)) then some (decide (vr14.2 = 0)) else some false).bind fun b18 =>
  (if b18 then some (decide (vr15.2.1 = 3)) else some false).bind fun b19 =>
  (if b19 then some (decide (vr15.2.2 = 0)) else some false).bind fun b20 =>
  (if b20 then some (decide (vr16.1 = 0)) else some false).bind fun b21 =>
  (if b21 then some (decide (vr16.2 = 0)) else some false).bind fun b22 =>
  (if b22 then some (decide (vr17.2.2 = 9)) else some false).bind fun b23 =>
  (if b23 then some (decide ((vr15.1.Jobs.length : Int) = 1)) else some false).bind fun b24 =>
  (if b24 then (ix vr15.1.Jobs 0).bind fun e25 => some (decide ((e25.Work.Out.length : Int) = 1)) else some false).bind fun b26 =>
  (if b26 then (ix vr15.1.Jobs 0).bind fun e27 => (ix e27.Work.Out 0).bind fun e28 => some (e28.Key == [97]) else some false).bind fun b29 =>
  some b29
def cN (a1 : List Int) (b2 : List Int) : Nat → Int → Option (Sum (Unit) (Bool))
 | 0, _ => none
 | fu + 1, i14 =>
  if (decide (i14 < (a1.length : Int))) then
   (ix a1 i14).bind fun e16 =>
   (ix b2 i14).bind fun e17 =>
   if (!(decide (e16 = e17))) then
    some (.inr false)
   else
    cN a1 b2 fu (IntKind.i64.wrap (i14 + 1))
  else
   some (.inl ())
def oR (fu : Nat) (a1 : List Int) (b2 : List Int) : Option (Bool) :=
 if (!(decide ((a1.length : Int) = (b2.length : Int)))) then
  some false
 else
  (cN a1 b2 fu 0).bind fun x13 => match x13 with
  | .inl o19 =>
   some true
  | .inr y =>
   some y
def jL (a1 : bB) (b2 : bB) : Nat → Int → Option (Sum (Unit) (Bool))
 | 0, _ => none
 | fu + 1, i20 =>
  if (decide (i20 < (a1.Keys.length : Int))) then
   (ix a1.Keys i20).bind fun e22 =>
   (ix b2.Keys i20).bind fun e23 =>
   if (!(eA.eqb e22 e23)) then
    some (.inr false)
   else
    jL a1 b2 fu (IntKind.i64.wrap (i20 + 1))
  else
   some (.inl ())
def iT (fu : Nat) (a1 : bB) (b2 : bB) : Option (Bool) :=
 (if (!(decide ((a1.Keys.length : Int) = (b2.Keys.length : Int)))) then some true else some (!(decide (a1.Win = b2.Win)))).bind fun b3 =>
 (if b3 then some true else (oR fu a1.Lose b2.Lose).bind fun vr4 => some (!vr4)).bind fun b5 =>
 if b5 then
  some false
 else
  (jL a1 b2 fu 0).bind fun x19 => match x19 with
  | .inl o25 =>
   some true
  | .inr y =>
   some y
def mO (a1 : List aA) (b2 : List aA) : Nat → Int → Option (Sum (Unit) (Bool))
 | 0, _ => none
 | fu + 1, i14 =>
  if (decide (i14 < (a1.length : Int))) then
   (ix a1 i14).bind fun e16 =>
   (ix b2 i14).bind fun e17 =>
   if (!(aA.eqb e16 e17)) then
    some (.inr false)
   else
    mO a1 b2 fu (IntKind.i64.wrap (i14 + 1))
  else
   some (.inl ())
def sO (fu : Nat) (a1 : List aA) (b2 : List aA) : Option (Bool) :=
 if (!(decide ((a1.length : Int) = (b2.length : Int)))) then
  some false
 else
  (mO a1 b2 fu 0).bind fun x13 => match x13 with
  | .inl o19 =>
   some true
  | .inr y =>
   some y
def kJ (a1 : dB) (b2 : dB) : Nat → Int → Option (Sum (Unit) (Bool))
 | 0, _ => none
 | fu + 1, i23 =>
  if (decide (i23 < (a1.Runs.length : Int))) then
   (ix a1.Runs i23).bind fun e25 =>
   (ix b2.Runs i23).bind fun e26 =>
   (sO fu e25 e26).bind fun vr27 =>
   if (!vr27) then
    some (.inr false)
   else
    kJ a1 b2 fu (IntKind.i64.wrap (i23 + 1))
  else
   some (.inl ())
def iX (fu : Nat) (a1 : dB) (b2 : dB) : Option (Bool) :=
 (if (!(decide ((a1.Runs.length : Int) = (b2.Runs.length : Int)))) then some true else (oR fu a1.At b2.At).bind fun vr3 => some (!vr3)).bind fun b4 =>
 (if b4 then some true else (iT fu a1.Tree b2.Tree).bind fun vr5 => some (!vr5)).bind fun b6 =>
 if b6 then
  some false
 else
  (kJ a1 b2 fu 0).bind fun x22 => match x22 with
  | .inl o29 =>
   some true
  | .inr y =>
   some y
def qW (fu : Nat) (a1 : lB) (b2 : lB) : Option (Bool) :=
 (iX fu a1.Merge b2.Merge).bind fun vr3 =>
 (if vr3 then some (jB.eqb a1.Shadow b2.Shadow) else some false).bind fun b4 =>
 (if b4 then (sO fu a1.Out b2.Out).bind fun vr5 => some vr5 else some false).bind fun b6 =>
 (if b6 then some (decide (a1.Steps = b2.Steps)) else some false).bind fun b7 =>
 some b7
def cO (level2 : Int) : Nat → Int → Int → Option (Int)
 | 0, _, _ => none
 | fu + 1, b8, i9 =>
  if (decide (i9 < level2)) then
   cO level2 fu (IntKind.i64.wrap (2 * b8)) (IntKind.i64.wrap (i9 + 1))
  else
   some b8
def nX (fu : Nat) (b1 : Int) (level2 : Int) : Option (Int) :=
 (cO level2 fu b1 0).bind fun x7 =>
 some x7
def eU (fu : Nat) (vx1 : aA) : Option (Int) :=
 (if (decide (32 < (vx1.Key.length : Int))) then some true else some (decide (64 < (vx1.Val.length : Int)))).bind fun b2 =>
 if b2 then
  some 3
 else
  (if vx1.Dead then some (!(vx1.Val == [])) else some false).bind fun b5 =>
  if b5 then
   some 6
  else
   (if (decide (vx1.Seq < 1)) then some true else some (decide (1000000000 < vx1.Seq))).bind fun b8 =>
   if b8 then
    some 7
   else
    some 0
def nK (a1 : List UInt8) (b2 : List UInt8) : Nat → Int → Option (Int)
 | 0, _ => none
 | fu + 1, n21 =>
  (if (decide (n21 < (a1.length : Int))) then some (decide (n21 < (b2.length : Int))) else some false).bind fun b22 =>
  (if b22 then (ix a1 n21).bind fun e23 => (ix b2 n21).bind fun e24 => some (decide ((e23.toNat : Int) = (e24.toNat : Int))) else some false).bind fun b25 =>
  if b25 then
   nK a1 b2 fu (IntKind.i64.wrap (n21 + 1))
  else
   some n21
def dX (fu : Nat) (a1 : List UInt8) (b2 : List UInt8) : Option (Int) :=
 (nK a1 b2 fu 0).bind fun x20 =>
 some x20
def iN (fu : Nat) (a1 : List UInt8) (b2 : List UInt8) : Option (Int) :=
 (dX fu a1 b2).bind fun vr3 =>
 (if (decide (vr3 = (a1.length : Int))) then some (decide (vr3 = (b2.length : Int))) else some false).bind fun b4 =>
 if b4 then
  some 0
 else
  (if (decide (vr3 = (a1.length : Int))) then some true else (if (decide (vr3 < (b2.length : Int))) then (ix a1 vr3).bind fun e7 => (ix b2 vr3).bind fun e8 => some (decide ((e7.toNat : Int) < (e8.toNat : Int))) else some false).bind fun b9 => some b9).bind fun b10 =>
  if b10 then
   some (-1)
  else
   some 1
def qI (l1 : List aA) : Nat → Int → Option (Sum (Unit) (Int × Int))
 | 0, _ => none
 | fu + 1, i29 =>
  if (decide (i29 < (l1.length : Int))) then
   (ix l1 i29).bind fun e31 =>
   (eU fu e31).bind fun vr32 =>
   (if (decide (vr32 = 0)) then some (decide (0 < i29)) else some false).bind fun b33 =>
   (if b33 then (ix l1 (IntKind.i64.wrap (i29 - 1))).bind fun e34 => (iN fu e34.Key e31.Key).bind fun vr35 => some (decide (0 ≤ vr35)) else some false).bind fun b36 =>
   if b36 then
    some (.inr (i29, 6))
   else
    if (!(decide (vr32 = 0))) then
     some (.inr (i29, vr32))
    else
     qI l1 fu (IntKind.i64.wrap (i29 + 1))
  else
   some (.inl ())
def nS (fu : Nat) (l1 : List aA) : Option (Int × Int) :=
 if (decide (5000 < (l1.length : Int))) then
  some ((-1), 3)
 else
  (qI l1 fu 0).bind fun x28 => match x28 with
  | .inl o42 =>
   some (0, 0)
  | .inr y =>
   some y
def tZ (fu : Nat) (vr1 : kB) : Option (Int × Int) :=
 (if (decide (vr1.Id < 1)) then some true else some (decide (1000000 < vr1.Id))).bind fun b2 =>
 if b2 then
  some ((-1), 7)
 else
  (nS fu vr1.Entries).bind fun vr5 =>
  some (vr5.1, vr5.2)
def dL (ids3 : List Int) (vr1 : kB) : Nat → Int → Option (Sum (Unit) (Int))
 | 0, _ => none
 | fu + 1, i16 =>
  if (decide (i16 < (ids3.length : Int))) then
   (ix ids3 i16).bind fun e18 =>
   if (decide (e18 = vr1.Id)) then
    some (.inr 8)
   else
    dL ids3 vr1 fu (IntKind.i64.wrap (i16 + 1))
  else
   some (.inl ())
def vW (fu : Nat) (vr1 : kB) (most2 : Int) (ids3 : List Int) : Option (Int) :=
 (tZ fu vr1).bind fun vr4 =>
 if (!(decide (vr4.2 = 0))) then
  some vr4.2
 else
  if (decide ((vr1.Entries.length : Int) = 0)) then
   some 4
  else
   if (decide (most2 < (vr1.Entries.length : Int))) then
    some 3
   else
    (dL ids3 vr1 fu 0).bind fun x15 => match x15 with
    | .inl o20 =>
     some 0
    | .inr y =>
     some y
def hI (e107 : tA) (l1 : iB) (i103 : Int) : Nat → Int → List Int → Option (Sum (List Int) (Int × Int × Int))
 | 0, _, _ => none
 | fu + 1, k125, ids126 =>
  if (decide (k125 < (e107.Runs.length : Int))) then
   (ix e107.Runs k125).bind fun e129 =>
   (nX fu l1.B i103).bind fun vr130 =>
   (vW fu e129 vr130 ids126).bind fun vr131 =>
   if (!(decide (vr131 = 0))) then
    some (.inr (i103, k125, vr131))
   else
    if 2 * ((ids126.length + 1) * 8) ≤ 281474976710656 then
     hI e107 l1 i103 fu (IntKind.i64.wrap (k125 + 1)) (ids126 ++ [e129.Id])
    else none
  else
   some (.inl ids126)
def bI (l1 : iB) : Nat → Int → List Int → Option (Sum (List Int) (Int × Int × Int))
 | 0, _, _ => none
 | fu + 1, i103, ids104 =>
  if (decide (i103 < (l1.Levels.length : Int))) then
   (ix l1.Levels i103).bind fun e107 =>
   if (decide (2 < (e107.Runs.length : Int))) then
    some (.inr (i103, 0, 3))
   else
    (hI e107 l1 i103 fu 0 ids104).bind fun x124 => match x124 with
    | .inl o134 =>
     bI l1 fu (IntKind.i64.wrap (i103 + 1)) o134
    | .inr y =>
     some (.inr y)
  else
   some (.inl ids104)
def aK (fu : Nat) (l1 : iB) : Option (Int × Int × Int) :=
 (if (decide (l1.B < 1)) then some true else some (decide (16 < l1.B))).bind fun b2 =>
 if b2 then
  some (0, 0, 7)
 else
  if (decide (12 < (l1.Levels.length : Int))) then
   some (0, 0, 3)
  else
   (bI l1 fu 0 []).bind fun x102 => match x102 with
   | .inl o136 =>
    (if (decide (0 < (l1.Levels.length : Int))) then (ix l1.Levels (IntKind.i64.wrap ((l1.Levels.length : Int) - 1))).bind fun e138 => some (decide ((e138.Runs.length : Int) = 0)) else some false).bind fun b139 =>
    if b139 then
     some ((IntKind.i64.wrap ((l1.Levels.length : Int) - 1)), 0, 6)
    else
     some (0, 0, 0)
   | .inr y =>
    some y
def eK (e69 : tA) : Nat → Int → List kB → Option (List kB)
 | 0, _, _ => none
 | fu + 1, k80, out81 =>
  if (decide (0 ≤ k80)) then
   (ix e69.Runs k80).bind fun e84 =>
   if 2 * ((out81.length + 1) * 32) ≤ 281474976710656 then
    eK e69 fu (IntKind.i64.wrap (k80 - 1)) (out81 ++ [e84])
   else none
  else
   some out81
def zN (l1 : iB) : Nat → Int → List kB → Option (List kB)
 | 0, _, _ => none
 | fu + 1, i65, out66 =>
  if (decide (i65 < (l1.Levels.length : Int))) then
   (ix l1.Levels i65).bind fun e69 =>
   (eK e69 fu (IntKind.i64.wrap ((e69.Runs.length : Int) - 1)) out66).bind fun x79 =>
   zN l1 fu (IntKind.i64.wrap (i65 + 1)) x79
  else
   some out66
def fX (fu : Nat) (l1 : iB) : Option (List kB × Int) :=
 (aK fu l1).bind fun vr2 =>
 if (!(decide (vr2.2.2 = 0))) then
  some ([], vr2.2.2)
 else
  (zN l1 fu 0 []).bind fun x64 =>
  some (x64, 0)
def lN (vr2 : List kB × Int) : Nat → Int → Int → Option (Int)
 | 0, _, _ => none
 | fu + 1, best10, i11 =>
  if (decide (i11 < (vr2.1.length : Int))) then
   (ix vr2.1 i11).bind fun e13 =>
   lN vr2 fu (if best10 < e13.Id then e13.Id else best10) (IntKind.i64.wrap (i11 + 1))
  else
   some best10
def bU (fu : Nat) (l1 : iB) : Option (Int) :=
 (fX fu l1).bind fun vr2 =>
 (lN vr2 fu 0 0).bind fun x9 =>
 some x9
def vK (l1 : iB) : Nat → Int → List Int → Option (List Int)
 | 0, _, _ => none
 | fu + 1, i16, out17 =>
  if (decide (i16 < (l1.Levels.length : Int))) then
   (ix l1.Levels i16).bind fun e20 =>
   if (decide ((e20.Runs.length : Int) = 2)) then
    if 2 * ((out17.length + 1) * 8) ≤ 281474976710656 then
     vK l1 fu (IntKind.i64.wrap (i16 + 1)) (out17 ++ [i16])
    else none
   else
    vK l1 fu (IntKind.i64.wrap (i16 + 1)) out17
  else
   some out17
def yU (fu : Nat) (l1 : iB) : Option (List Int) :=
 (vK l1 fu 0 []).bind fun x15 =>
 some x15
def qY (fu : Nat) (l1 : iB) (level2 : Int) : Option (Int) :=
 (aK fu l1).bind fun vr3 =>
 (if (decide (vr3.2.2 = 0)) then (if (decide (level2 < 0)) then some true else some (decide (12 ≤ level2))).bind fun b4 => some b4 else some false).bind fun b5 =>
 if b5 then
  some 7
 else
  some vr3.2.2
def xY (fu : Nat) (l1 : iB) (level2 : Int) : Option (Bool × Int) :=
 (qY fu l1 level2).bind fun vr3 =>
 if (!(decide (vr3 = 0))) then
  some (false, vr3)
 else
  some ((decide ((IntKind.i64.wrap (level2 + 1)) < (l1.Levels.length : Int))), 0)
def jS (fu : Nat) (l1 : iB) (level2 : Int) : Option (Bool) :=
 (xY fu l1 level2).bind fun vr3 =>
 some (!vr3.1)
def vY (fu : Nat) (l1 : iB) (level2 : Int) : Option (List kB) :=
 if (decide ((l1.Levels.length : Int) ≤ level2)) then
  some []
 else
  (ix l1.Levels level2).bind fun e4 =>
  some e4.Runs
def qK (runs1 : List (List aA)) : Nat → Int → Option (Sum (Unit) (Int × Int))
 | 0, _ => none
 | fu + 1, i14 =>
  if (decide (i14 < (runs1.length : Int))) then
   (ix runs1 i14).bind fun e16 =>
   (nS fu e16).bind fun vr17 =>
   if (!(decide (vr17.2 = 0))) then
    some (.inr (i14, vr17.2))
   else
    qK runs1 fu (IntKind.i64.wrap (i14 + 1))
  else
   some (.inl ())
def mR (fu : Nat) (runs1 : List (List aA)) : Option (Int × Int) :=
 if (decide ((runs1.length : Int) = 0)) then
  some ((-1), 6)
 else
  if (decide (32 < (runs1.length : Int))) then
   some ((-1), 3)
  else
   (qK runs1 fu 0).bind fun x13 => match x13 with
   | .inl o19 =>
    some (0, 0)
   | .inr y =>
    some y
def zM (keys1 : List eA) : Nat → Int → Option (Sum (Unit) (Int))
 | 0, _ => none
 | fu + 1, i16 =>
  if (decide (i16 < (keys1.length : Int))) then
   (ix keys1 i16).bind fun e18 =>
   (if e18.Done then some (!(e18.Key == [])) else some false).bind fun b19 =>
   if b19 then
    some (.inr 2)
   else
    zM keys1 fu (IntKind.i64.wrap (i16 + 1))
  else
   some (.inl ())
def nW (fu : Nat) (keys1 : List eA) : Option (Int) :=
 if (decide ((keys1.length : Int) = 0)) then
  some 6
 else
  if (decide (32 < (keys1.length : Int))) then
   some 3
  else
   (zM keys1 fu 0).bind fun x15 => match x15 with
   | .inl o22 =>
    some 0
   | .inr y =>
    some y
def iW (fu : Nat) (keys1 : List eA) (p2 : Int) (q3 : Int) : Option (Bool) :=
 (ix keys1 p2).bind fun e4 =>
 (ix keys1 q3).bind fun e5 =>
 if (!(e4.Done == e5.Done)) then
  some e5.Done
 else
  (if (!e4.Done) then some (!(e4.Key == e5.Key)) else some false).bind fun b7 =>
  if b7 then
   some (Op.bytesLess e4.Key e5.Key)
  else
   some (decide (p2 < q3))
def qL : Nat → List eA → Int → Option (Int × Int)
 | 0, _, _ => none
 | fu + 1, keys1, node2 =>
  if (decide ((keys1.length : Int) ≤ node2)) then
   some ((IntKind.i64.wrap (node2 - (keys1.length : Int))), 0)
  else
   (qL fu keys1 (IntKind.i64.wrap (2 * node2))).bind fun vr4 =>
   (qL fu keys1 (IntKind.i64.wrap ((IntKind.i64.wrap (2 * node2)) + 1))).bind fun vr5 =>
   (iW fu keys1 vr4.1 vr5.1).bind fun vr6 =>
   if vr6 then
    some (vr4.1, vr5.1)
   else
    some (vr5.1, vr4.1)
def pM (keys1 : List eA) : Nat → Int → List Int → Option (List Int)
 | 0, _, _ => none
 | fu + 1, i14, v15 =>
  if (decide (i14 < (keys1.length : Int))) then
   (qL fu keys1 i14).bind fun vr18 =>
   (ix v15 i14).bind fun e19 =>
   pM keys1 fu (IntKind.i64.wrap (i14 + 1)) (v15.set i14.toNat vr18.2)
  else
   some v15
def sV (fu : Nat) (keys1 : List eA) : Option (bB) :=
 if 2 * ((0 + keys1.length) * 24) ≤ 281474976710656 then
  if 0 ≤ (keys1.length : Int) ∧ (keys1.length : Int) ≤ (keys1.length : Int) ∧ (keys1.length : Int) ≤ 9223372036854775807 ∧ 8 * (keys1.length : Int) ≤ 281474976710656 then
   (pM keys1 fu 1 (List.replicate keys1.length 0 : List Int)).bind fun x13 =>
   (qL fu keys1 1).bind fun vr21 =>
   some (bB.mk keys1 x13 vr21.1)
  else none
 else none
def pX (fu : Nat) (keys1 : List eA) : Option (bB × Int) :=
 (nW fu keys1).bind fun vr2 =>
 if (!(decide (vr2 = 0))) then
  some ((bB.mk [] [] 0), vr2)
 else
  (sV fu keys1).bind fun vr4 =>
  some (vr4, 0)
def mL (runs1 : List (List aA)) (vat2 : List Int) : Nat → Int → List eA → Option (List eA)
 | 0, _, _ => none
 | fu + 1, i26, keys27 =>
  if (decide (i26 < (runs1.length : Int))) then
   (ix vat2 i26).bind fun e30 =>
   (ix runs1 i26).bind fun e31 =>
   if (!(decide (e30 = (e31.length : Int)))) then
    (ix e31 e30).bind fun e33 =>
    if 2 * ((keys27.length + 1) * 24) ≤ 281474976710656 then
     mL runs1 vat2 fu (IntKind.i64.wrap (i26 + 1)) (keys27 ++ [(eA.mk e33.Key (decide (e30 = (e31.length : Int))))])
    else none
   else
    if 2 * ((keys27.length + 1) * 24) ≤ 281474976710656 then
     mL runs1 vat2 fu (IntKind.i64.wrap (i26 + 1)) (keys27 ++ [(eA.mk [] (decide (e30 = (e31.length : Int))))])
    else none
  else
   some keys27
def pS (fu : Nat) (runs1 : List (List aA)) (vat2 : List Int) : Option (dB) :=
 if 2 * ((0 + runs1.length) * 24) ≤ 281474976710656 then
  if 2 * ((0 + vat2.length) * 8) ≤ 281474976710656 then
   (mL runs1 vat2 fu 0 []).bind fun x25 =>
   (pX fu x25).bind fun vr37 =>
   some (dB.mk runs1 vat2 vr37.1)
  else none
 else none
def lL (fu : Nat) (runs1 : List (List aA)) : Option (dB × Int × Int) :=
 (mR fu runs1).bind fun vr2 =>
 if (!(decide (vr2.2 = 0))) then
  some ((dB.mk [] [] (bB.mk [] [] 0)), vr2.1, vr2.2)
 else
  if 0 ≤ (runs1.length : Int) ∧ (runs1.length : Int) ≤ (runs1.length : Int) ∧ (runs1.length : Int) ≤ 9223372036854775807 ∧ 8 * (runs1.length : Int) ≤ 281474976710656 then
   (pS fu runs1 (List.replicate runs1.length 0 : List Int)).bind fun vr5 =>
   some (vr5, 0, 0)
  else none
def tQ (fu : Nat) (bottom1 : Bool) : Option (jB) :=
 some (jB.mk false [] bottom1)
def qV (fu : Nat) (runs1 : List (List aA)) (bottom2 : Bool) : Option (lB × Int × Int) :=
 (lL fu runs1).bind fun vr3 =>
 if (!(decide (vr3.2.2 = 0))) then
  some ((lB.mk (dB.mk [] [] (bB.mk [] [] 0)) (jB.mk false [] false) [] 0), vr3.2.1, vr3.2.2)
 else
  (tQ fu bottom2).bind fun vr5 =>
  some ((lB.mk vr3.1 vr5 [] 0), 0, 0)
def jX (fu : Nat) (l1 : iB) (level2 : Int) (bottom3 : Bool) : Option (fB) :=
 (vY fu l1 level2).bind fun vr4 =>
 (ix vr4 1).bind fun e5 =>
 (ix vr4 0).bind fun e6 =>
 (qV fu [e5.Entries, e6.Entries] bottom3).bind fun vr7 =>
 some (fB.mk level2 vr7.1)
def vJ (l1 : List aA) : Nat → Int → Option (Sum (Unit) (Bool))
 | 0, _ => none
 | fu + 1, i18 =>
  (if (decide (i18 < (l1.length : Int))) then some (decide (i18 < 80)) else some false).bind fun b19 =>
  if b19 then
   (ix l1 i18).bind fun e22 =>
   (if (decide (100 < (e22.Key.length : Int))) then some true else some (decide (100 < (e22.Val.length : Int)))).bind fun b23 =>
   if b23 then
    some (.inr true)
   else
    vJ l1 fu (IntKind.i64.wrap (i18 + 1))
  else
   some (.inl ())
def tT (fu : Nat) (l1 : List aA) : Option (Bool) :=
 (vJ l1 fu 0).bind fun x17 => match x17 with
 | .inl o26 =>
  some (decide (70 < (l1.length : Int)))
 | .inr y =>
  some y
def uJ (e104 : fB) : Nat → Int → Option (Sum (Unit) (Bool))
 | 0, _ => none
 | fu + 1, k119 =>
  (if (decide (k119 < (e104.Work.Merge.Runs.length : Int))) then some (decide (k119 < 10)) else some false).bind fun b120 =>
  if b120 then
   (ix e104.Work.Merge.Runs k119).bind fun e123 =>
   (tT fu e123).bind fun vr124 =>
   if vr124 then
    some (.inr true)
   else
    uJ e104 fu (IntKind.i64.wrap (k119 + 1))
  else
   some (.inl ())
def bK (vs1 : mB) : Nat → Int → Option (Sum (Unit) (Bool))
 | 0, _ => none
 | fu + 1, i100 =>
  (if (decide (i100 < (vs1.Jobs.length : Int))) then some (decide (i100 < 20)) else some false).bind fun b101 =>
  if b101 then
   (ix vs1.Jobs i100).bind fun e104 =>
   (uJ e104 fu 0).bind fun x118 => match x118 with
   | .inl o126 =>
    (tT fu e104.Work.Out).bind fun vr127 =>
    (if vr127 then some true else some (decide (6 < (e104.Work.Merge.Runs.length : Int)))).bind fun b128 =>
    (if b128 then some true else some (decide (40 < (e104.Work.Merge.At.length : Int)))).bind fun b129 =>
    (if b129 then some true else some (decide (40 < (e104.Work.Merge.Tree.Keys.length : Int)))).bind fun b130 =>
    (if b130 then some true else some (decide (40 < (e104.Work.Merge.Tree.Lose.length : Int)))).bind fun b131 =>
    (if b131 then some true else some (decide (200 < (e104.Work.Shadow.Last.length : Int)))).bind fun b132 =>
    if b132 then
     some (.inr true)
    else
     bK vs1 fu (IntKind.i64.wrap (i100 + 1))
   | .inr y =>
    some (.inr y)
  else
   some (.inl ())
def uW (fu : Nat) (vs1 : mB) : Option (Bool) :=
 (bK vs1 fu 0).bind fun x99 => match x99 with
 | .inl o149 =>
  (if (decide (14 < (vs1.Jobs.length : Int))) then some true else (lU fu vs1.Levels).bind fun vr150 => some vr150).bind fun b151 =>
  some b151
 | .inr y =>
  some y
def cK (runs1 : List (List aA)) (vat2 : List Int) : Nat → Int → Int → Option (Int)
 | 0, _, _ => none
 | fu + 1, best24, i25 =>
  if (decide (i25 < (runs1.length : Int))) then
   (ix vat2 i25).bind fun e27 =>
   (ix runs1 i25).bind fun e28 =>
   (if (decide (e27 < (e28.length : Int))) then (if (decide (best24 < 0)) then some true else (ix e28 e27).bind fun e29 => (ix runs1 best24).bind fun e30 => (ix vat2 best24).bind fun e31 => (ix e30 e31).bind fun e32 => some (Op.bytesLess e29.Key e32.Key)).bind fun b33 => some b33 else some false).bind fun b34 =>
   if b34 then
    cK runs1 vat2 fu i25 (IntKind.i64.wrap (i25 + 1))
   else
    cK runs1 vat2 fu best24 (IntKind.i64.wrap (i25 + 1))
  else
   some best24
def tR (fu : Nat) (runs1 : List (List aA)) (vat2 : List Int) : Option (Int) :=
 (cK runs1 vat2 fu (-1) 0).bind fun x23 =>
 some x23
def fK (vs1 : dB) : Nat → Int → Option (Sum (Unit) (Int × Int))
 | 0, _ => none
 | fu + 1, i19 =>
  if (decide (i19 < (vs1.At.length : Int))) then
   (ix vs1.At i19).bind fun e21 =>
   (if (decide (e21 < 0)) then some true else (ix vs1.Runs i19).bind fun e22 => some (decide ((e22.length : Int) < e21))).bind fun b23 =>
   if b23 then
    some (.inr (i19, 6))
   else
    fK vs1 fu (IntKind.i64.wrap (i19 + 1))
  else
   some (.inl ())
def kG (vs1 : dB) (vr30 : Int) : Nat → Int → Option (Sum (Unit) (Int × Int))
 | 0, _ => none
 | fu + 1, i63 =>
  (if (decide (i63 < (vs1.Runs.length : Int))) then some (decide (0 ≤ vr30)) else some false).bind fun b64 =>
  if b64 then
   (ix vs1.At i63).bind fun e67 =>
   if (decide (e67 = 0)) then
    kG vs1 vr30 fu (IntKind.i64.wrap (i63 + 1))
   else
    (ix vs1.Runs i63).bind fun e69 =>
    (ix e69 (IntKind.i64.wrap (e67 - 1))).bind fun e70 =>
    (ix vs1.Runs vr30).bind fun e71 =>
    (ix vs1.At vr30).bind fun e72 =>
    (ix e71 e72).bind fun e73 =>
    (if (!(Op.bytesLess e70.Key e73.Key || e70.Key == e73.Key)) then some true else (if (e70.Key == e73.Key) then some (decide (vr30 < i63)) else some false).bind fun b74 => some b74).bind fun b75 =>
    if b75 then
     some (.inr (vr30, 6))
    else
     kG vs1 vr30 fu (IntKind.i64.wrap (i63 + 1))
  else
   some (.inl ())
def sK (fu : Nat) (vs1 : dB) : Option (Int × Int) :=
 (mR fu vs1.Runs).bind fun vr2 =>
 if (!(decide (vr2.2 = 0))) then
  some (vr2.1, vr2.2)
 else
  if (!(decide ((vs1.At.length : Int) = (vs1.Runs.length : Int)))) then
   some ((-1), 6)
  else
   (fK vs1 fu 0).bind fun x18 => match x18 with
   | .inl o26 =>
    (pS fu vs1.Runs vs1.At).bind fun vr27 =>
    (iT fu vs1.Tree vr27.Tree).bind fun vr28 =>
    if (!vr28) then
     some ((-1), 6)
    else
     (tR fu vs1.Runs vs1.At).bind fun vr30 =>
     (kG vs1 vr30 fu 0).bind fun x62 => match x62 with
     | .inl o79 =>
      some (0, 0)
     | .inr y =>
      some y
   | .inr y =>
    some y
def pJ (vs1 : lB) : Nat → Int → Int → Option (Int)
 | 0, _, _ => none
 | fu + 1, n9, i10 =>
  if (decide (i10 < (vs1.Merge.At.length : Int))) then
   (ix vs1.Merge.At i10).bind fun e12 =>
   pJ vs1 fu (IntKind.i64.wrap (n9 + e12)) (IntKind.i64.wrap (i10 + 1))
  else
   some n9
def bQ (fu : Nat) (vs1 : lB) : Option (Int) :=
 (pJ vs1 fu 0 0).bind fun x8 =>
 some x8
def xM (runs1 : List (List aA)) : Nat → List Int → List aA → List Int → Option (List aA × List Int × Int)
 | 0, _, _, _ => none
 | fu + 1, vat29, l30, vfrom31 =>
  (tR fu runs1 vat29).bind fun vr35 =>
  if (decide (vr35 < 0)) then
   some (l30, vfrom31, 0)
  else
   (ix runs1 vr35).bind fun e37 =>
   (ix vat29 vr35).bind fun e38 =>
   (ix e37 e38).bind fun e39 =>
   if 2 * ((l30.length + 1) * 48) ≤ 281474976710656 then
    if 2 * ((vfrom31.length + 1) * 8) ≤ 281474976710656 then
     xM runs1 fu (vat29.set vr35.toNat (IntKind.i64.wrap (e38 + 1))) (l30 ++ [e39]) (vfrom31 ++ [vr35])
    else none
   else none
def aT (fu : Nat) (runs1 : List (List aA)) : Option (List aA × List Int × Int) :=
 (mR fu runs1).bind fun vr2 =>
 if (!(decide (vr2.2 = 0))) then
  some ([], [], vr2.2)
 else
  if 0 ≤ (runs1.length : Int) ∧ (runs1.length : Int) ≤ (runs1.length : Int) ∧ (runs1.length : Int) ≤ 9223372036854775807 ∧ 8 * (runs1.length : Int) ≤ 281474976710656 then
   (xM runs1 fu (List.replicate runs1.length 0 : List Int) [] []).bind fun x28 =>
   some x28
  else none
def aW (fu : Nat) (vs1 : jB) : Option (Int) :=
 if (decide (32 < (vs1.Last.length : Int))) then
  some 3
 else
  (if (!vs1.Some) then some (!(vs1.Last == [])) else some false).bind fun b3 =>
  if b3 then
   some 6
  else
   some 0
def aX (fu : Nat) (vs1 : jB) (vx2 : aA) : Option (Bool × jB × Int) :=
 (aW fu vs1).bind fun vr3 =>
 if (decide (vr3 = 0)) then
  (eU fu vx2).bind fun vr5 =>
  (if (decide (vr5 = 0)) then some vs1.Some else some false).bind fun b6 =>
  (if b6 then some (Op.bytesLess vx2.Key vs1.Last) else some false).bind fun b7 =>
  if b7 then
   some (false, (jB.mk false [] false), 6)
  else
   if (!(decide (vr5 = 0))) then
    some (false, (jB.mk false [] false), vr5)
   else
    (if (!vs1.Some) then some true else some (!(vx2.Key == vs1.Last))).bind fun b13 =>
    (if b13 then (if vs1.Bottom then some vx2.Dead else some false).bind fun b15 => some (!b15) else some false).bind fun b16 =>
    some (b16, (jB.mk true vx2.Key vs1.Bottom), 0)
 else
  (if (decide (vr3 = 0)) then some vs1.Some else some false).bind fun b19 =>
  (if b19 then some (Op.bytesLess vx2.Key vs1.Last) else some false).bind fun b20 =>
  if b20 then
   some (false, (jB.mk false [] false), 6)
  else
   if (!(decide (vr3 = 0))) then
    some (false, (jB.mk false [] false), vr3)
   else
    (if (!vs1.Some) then some true else some (!(vx2.Key == vs1.Last))).bind fun b26 =>
    (if b26 then (if vs1.Bottom then some vx2.Dead else some false).bind fun b28 => some (!b28) else some false).bind fun b29 =>
    some (b29, (jB.mk true vx2.Key vs1.Bottom), 0)
def nL (l1 : List aA) : Nat → Int → Bool → List UInt8 → Bool → List aA → Option (Sum (Bool × List UInt8 × Bool × List aA) (List aA × Int × Int))
 | 0, _, _, _, _, _ => none
 | fu + 1, i28, vs29, vs30, vs31, out32 =>
  if (decide (i28 < (l1.length : Int))) then
   (ix l1 i28).bind fun e35 =>
   (aX fu (jB.mk vs29 vs30 vs31) e35).bind fun vr36 =>
   if (!(decide (vr36.2.2 = 0))) then
    some (.inr ([], i28, vr36.2.2))
   else
    if vr36.1 then
     if 2 * ((out32.length + 1) * 48) ≤ 281474976710656 then
      nL l1 fu (IntKind.i64.wrap (i28 + 1)) vr36.2.1.Some vr36.2.1.Last vr36.2.1.Bottom (out32 ++ [e35])
     else none
    else
     nL l1 fu (IntKind.i64.wrap (i28 + 1)) vr36.2.1.Some vr36.2.1.Last vr36.2.1.Bottom out32
  else
   some (.inl (vs29, vs30, vs31, out32))
def rV (fu : Nat) (l1 : List aA) (bottom2 : Bool) : Option (List aA × Int × Int) :=
 if (decide (20000 < (l1.length : Int))) then
  some ([], (-1), 3)
 else
  (tQ fu bottom2).bind fun vr4 =>
  (nL l1 fu 0 vr4.Some vr4.Last vr4.Bottom []).bind fun x27 => match x27 with
  | .inl o40 =>
   some (o40.2.2.2, 0, 0)
  | .inr y =>
   some y
def qT (fu : Nat) (l1 : List aA) (bottom2 : Bool) : Option (List aA × jB) :=
 (rV fu l1 bottom2).bind fun vr3 =>
 (tQ fu bottom2).bind fun vr4 =>
 if (decide (0 < (l1.length : Int))) then
  (ix l1 (IntKind.i64.wrap ((l1.length : Int) - 1))).bind fun e6 =>
  some (vr3.1, (jB.mk true e6.Key vr4.Bottom))
 else
  some (vr3.1, vr4)
def yT (fu : Nat) (vs1 : lB) : Option (Int) :=
 (sK fu vs1.Merge).bind fun vr2 =>
 if (!(decide (vr2.2 = 0))) then
  some vr2.2
 else
  (bQ fu vs1).bind fun vr4 =>
  (if (decide (20000 < (vs1.Out.length : Int))) then some true else some (decide (20000 < vr4))).bind fun b5 =>
  if b5 then
   some 3
  else
   if (!(decide (vs1.Steps = vr4))) then
    some 7
   else
    (aT fu vs1.Merge.Runs).bind fun vr9 =>
    if 0 ≤ vr4 ∧ vr4 ≤ (vr9.1.length : Int) then
     (qT fu (vr9.1.take vr4.toNat) vs1.Shadow.Bottom).bind fun vr11 =>
     (sO fu vs1.Out vr11.1).bind fun vr12 =>
     (if (!vr12) then some true else some (!(jB.eqb vs1.Shadow vr11.2))).bind fun b13 =>
     if b13 then
      some 6
     else
      some 0
    else none
def uN (vs1 : dB) : Nat → Int → Int → Option (Int)
 | 0, _, _ => none
 | fu + 1, n13, i14 =>
  if (decide (i14 < (vs1.Runs.length : Int))) then
   (ix vs1.Runs i14).bind fun e16 =>
   (ix vs1.At i14).bind fun e17 =>
   uN vs1 fu (IntKind.i64.wrap ((IntKind.i64.wrap (n13 + (e16.length : Int))) - e17)) (IntKind.i64.wrap (i14 + 1))
  else
   some n13
def pV (fu : Nat) (vs1 : dB) : Option (Int × Int) :=
 (sK fu vs1).bind fun vr2 =>
 if (!(decide (vr2.2 = 0))) then
  some (0, vr2.2)
 else
  (uN vs1 fu 0 0).bind fun x12 =>
  some (x12, 0)
def gS (fu : Nat) (vs1 : lB) : Option (Int × Int) :=
 (yT fu vs1).bind fun vr2 =>
 if (!(decide (vr2 = 0))) then
  some (0, vr2)
 else
  (pV fu vs1.Merge).bind fun vr4 =>
  some (vr4.1, vr4.2)
def mU (fu : Nat) (vs1 : dB) : Option (aA × Int × dB × Int) :=
 (sK fu vs1).bind fun vr2 =>
 if (!(decide (vr2.2 = 0))) then
  some ((aA.mk [] [] false 0), 0, (dB.mk [] [] (bB.mk [] [] 0)), vr2.2)
 else
  (tR fu vs1.Runs vs1.At).bind fun vr4 =>
  if (decide (vr4 < 0)) then
   some ((aA.mk [] [] false 0), 0, (dB.mk [] [] (bB.mk [] [] 0)), 12)
  else
   if 2 * ((0 + vs1.At.length) * 8) ≤ 281474976710656 then
    (ix vs1.At vr4).bind fun e7 =>
    (ix vs1.Runs vr4).bind fun e8 =>
    (ix e8 e7).bind fun e9 =>
    (pS fu vs1.Runs (vs1.At.set vr4.toNat (IntKind.i64.wrap (e7 + 1)))).bind fun vr10 =>
    some (e9, vr4, vr10, 0)
   else none
def yN (vr3 : Int × Int) (n2 : Int) : Nat → Int → List (List aA) → List Int → List eA → List Int → Int → Option (List (List aA) × List Int × List eA × List Int × Int)
 | 0, _, _, _, _, _, _ => none
 | fu + 1, i21, t22, t23, t24, t25, t26 =>
  if (decide (i21 < (if vr3.1 < n2 then vr3.1 else n2))) then
   (mU fu (dB.mk t22 t23 (bB.mk t24 t25 t26))).bind fun vr28 =>
   yN vr3 n2 fu (IntKind.i64.wrap (i21 + 1)) vr28.2.2.1.Runs vr28.2.2.1.At vr28.2.2.1.Tree.Keys vr28.2.2.1.Tree.Lose vr28.2.2.1.Tree.Win
  else
   some (t22, t23, t24, t25, t26)
def yV (fu : Nat) (vs1 : lB) (n2 : Int) : Option (lB × Int × Int) :=
 (gS fu vs1).bind fun vr3 =>
 (if (decide (vr3.2 = 0)) then some (decide (n2 < 0)) else some false).bind fun b4 =>
 if b4 then
  some ((lB.mk (dB.mk [] [] (bB.mk [] [] 0)) (jB.mk false [] false) [] 0), 0, 7)
 else
  if (!(decide (vr3.2 = 0))) then
   some ((lB.mk (dB.mk [] [] (bB.mk [] [] 0)) (jB.mk false [] false) [] 0), 0, vr3.2)
  else
   (bQ fu vs1).bind fun vr8 =>
   if (decide (20000 < (IntKind.i64.wrap (vr8 + (if vr3.1 < n2 then vr3.1 else n2))))) then
    some ((lB.mk (dB.mk [] [] (bB.mk [] [] 0)) (jB.mk false [] false) [] 0), 0, 3)
   else
    (yN vr3 n2 fu 0 vs1.Merge.Runs vs1.Merge.At vs1.Merge.Tree.Keys vs1.Merge.Tree.Lose vs1.Merge.Tree.Win).bind fun x20 =>
    (aT fu vs1.Merge.Runs).bind fun vr29 =>
    if 0 ≤ (IntKind.i64.wrap (vs1.Steps + (if vr3.1 < n2 then vr3.1 else n2))) ∧ (IntKind.i64.wrap (vs1.Steps + (if vr3.1 < n2 then vr3.1 else n2))) ≤ (vr29.1.length : Int) then
     (qT fu (vr29.1.take ((IntKind.i64.wrap (vs1.Steps + (if vr3.1 < n2 then vr3.1 else n2))).toNat)) vs1.Shadow.Bottom).bind fun vr31 =>
     some ((lB.mk (dB.mk x20.1 x20.2.1 (bB.mk x20.2.2.1 x20.2.2.2.1 x20.2.2.2.2)) vr31.2 vr31.1 (IntKind.i64.wrap (vs1.Steps + (if vr3.1 < n2 then vr3.1 else n2)))), (if vr3.1 < n2 then vr3.1 else n2), 0)
    else none
def yG (vs1 : mB) (vr13 : List Int) : Nat → Int → Option (Sum (Unit) (Int × Int))
 | 0, _ => none
 | fu + 1, i52 =>
  if (decide (i52 < (vs1.Jobs.length : Int))) then
   (ix vs1.Jobs i52).bind fun e54 =>
   (if (decide ((vr13.length : Int) ≤ i52)) then some true else (ix vr13 i52).bind fun e55 => some (!(decide (e54.Level = e55)))).bind fun b56 =>
   if b56 then
    some (.inr (i52, 6))
   else
    (if e54.Work.Shadow.Bottom then (jS fu vs1.Levels e54.Level).bind fun vr59 => some (!vr59) else some false).bind fun b60 =>
    if b60 then
     some (.inr (i52, 6))
    else
     (jX fu vs1.Levels e54.Level e54.Work.Shadow.Bottom).bind fun vr63 =>
     (gS fu vr63.Work).bind fun vr64 =>
     (if (decide (e54.Work.Steps < 0)) then some true else some (decide (vr64.1 < e54.Work.Steps))).bind fun b65 =>
     if b65 then
      some (.inr (i52, 6))
     else
      (yV fu vr63.Work e54.Work.Steps).bind fun vr68 =>
      (qW fu vr68.1 e54.Work).bind fun vr69 =>
      if (!vr69) then
       some (.inr (i52, 6))
      else
       yG vs1 vr13 fu (IntKind.i64.wrap (i52 + 1))
  else
   some (.inl ())
def pK (fu : Nat) (vs1 : mB) : Option (Int × Int) :=
 (aK fu vs1.Levels).bind fun vr2 =>
 (if (decide (vr2.2.2 = 0)) then (if (decide (vs1.NextId < 1)) then some true else some (decide (1000001 < vs1.NextId))).bind fun b3 => some b3 else some false).bind fun b4 =>
 if b4 then
  some ((-1), 7)
 else
  (if (decide (vr2.2.2 = 0)) then (bU fu vs1.Levels).bind fun vr8 => some (decide (vs1.NextId ≤ vr8)) else some false).bind fun b9 =>
  if b9 then
   some ((-1), 6)
  else
   if (!(decide (vr2.2.2 = 0))) then
    some ((-1), vr2.2.2)
   else
    (yU fu vs1.Levels).bind fun vr13 =>
    (yG vs1 vr13 fu 0).bind fun x51 => match x51 with
    | .inl o71 =>
     if (decide ((vs1.Jobs.length : Int) < (vr13.length : Int))) then
      some ((-1), 4)
     else
      some (0, 0)
    | .inr y =>
     some y
def sS (fu : Nat) (vs1 : mB) : Option (List Int × Int) :=
 (uI fu vs1).bind fun vr2 =>
 if (!(decide (vr2.2 = 0))) then
  some ([], vr2.2)
 else
  (fO fu vs1.Levels).bind fun vr4 =>
  (nN fu vr4.1 vr4.2).bind fun vr5 =>
  some (vr5, 0)
def mP (fu : Nat) (vs1 : mB) : Option (List Int × Int) :=
 (pK fu vs1).bind fun vr2 =>
 if (!(decide (vr2.2 = 0))) then
  some ([], vr2.2)
 else
  (yU fu vs1.Levels).bind fun vr4 =>
  some (vr4, 0)
def uM (a1 : List Int) (b2 : List Int) : Nat → Int → Option (Sum (Unit) (Bool))
 | 0, _ => none
 | fu + 1, i17 =>
  (if (decide (i17 < (a1.length : Int))) then some (decide (i17 < (b2.length : Int))) else some false).bind fun b18 =>
  if b18 then
   (ix a1 i17).bind fun e21 =>
   (ix b2 i17).bind fun e22 =>
   if (!(decide (e21 = e22))) then
    some (.inr false)
   else
    uM a1 b2 fu (IntKind.i64.wrap (i17 + 1))
  else
   some (.inl ())
def kX (fu : Nat) (a1 : List Int) (b2 : List Int) : Option (Bool) :=
 (uM a1 b2 fu 0).bind fun x16 => match x16 with
 | .inl o24 =>
  some (decide ((a1.length : Int) = (b2.length : Int)))
 | .inr y =>
  some y
def nM (vr3 : List Int × Int) (level2 : Int) : Nat → Int → Option (Sum (Unit) (Int × Int))
 | 0, _ => none
 | fu + 1, i13 =>
  if (decide (i13 < (vr3.1.length : Int))) then
   (ix vr3.1 i13).bind fun e15 =>
   if (decide (e15 = level2)) then
    some (.inr (i13, 0))
   else
    nM vr3 level2 fu (IntKind.i64.wrap (i13 + 1))
  else
   some (.inl ())
def dK (fu : Nat) (vs1 : mB) (level2 : Int) : Option (Int × Int) :=
 (mP fu vs1).bind fun vr3 =>
 if (!(decide (vr3.2 = 0))) then
  some (0, vr3.2)
 else
  (nM vr3 level2 fu 0).bind fun x12 => match x12 with
  | .inl o17 =>
   some (0, 4)
  | .inr y =>
   some y
def kQ (fu : Nat) (vs1 : mB) (level2 : Int) : Option (Int × Int) :=
 (dK fu vs1 level2).bind fun vr3 =>
 if (!(decide (vr3.2 = 0))) then
  some (0, vr3.2)
 else
  (ix vs1.Jobs vr3.1).bind fun e5 =>
  (gS fu e5.Work).bind fun vr6 =>
  some (vr6.1, vr6.2)
def vX (fu : Nat) (vs1 : mB) (level2 : Int) : Option (Bool) :=
 (uW fu vs1).bind fun vr3 =>
 if vr3 then
  (rM fu).bind fun vr5 =>
  some vr5
 else
  (uI fu vs1).bind fun vr6 =>
  (pK fu vs1).bind fun vr7 =>
  (if (!(decide (vr6.1 = vr7.1))) then some true else some (!(decide (vr6.2 = vr7.2)))).bind fun b8 =>
  if b8 then
   some false
  else
   (sS fu vs1).bind fun vr11 =>
   (mP fu vs1).bind fun vr12 =>
   (kX fu vr11.1 vr12.1).bind fun vr13 =>
   (if (!vr13) then some true else some (!(decide (vr11.2 = vr12.2)))).bind fun b14 =>
   if b14 then
    some false
   else
    (lG fu vs1 level2).bind fun vr17 =>
    (dK fu vs1 level2).bind fun vr18 =>
    (gK fu vs1 level2).bind fun vr19 =>
    (kQ fu vs1 level2).bind fun vr20 =>
    (if (decide (vr17.1 = vr18.1)) then some (decide (vr17.2 = vr18.2)) else some false).bind fun b21 =>
    (if b21 then some (decide (vr19.1 = vr20.1)) else some false).bind fun b22 =>
    (if b22 then some (decide (vr19.2 = vr20.2)) else some false).bind fun b23 =>
    (if b23 then (rM fu).bind fun vr24 => some vr24 else some false).bind fun b25 =>
    some b25
end Go.T
