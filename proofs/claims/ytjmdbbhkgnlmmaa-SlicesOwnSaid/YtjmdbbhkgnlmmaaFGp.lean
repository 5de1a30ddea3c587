/- A text of the proof. -/
import Derived.Test.YtjmdbbhkgnlmmaaFAmZb
namespace Go.T
open Go Go.AM
set_option linter.unusedVariables false
structure TApiEntry where
  Key : List UInt8
  Val : List UInt8
  Dead : Bool
  Seq : Int
  deriving DecidableEq
structure TApiLsKey where
  Key : List UInt8
  Done : Bool
  deriving DecidableEq
structure TApiLsTree where
  Keys : List TApiLsKey
  Lose : List Int
  Win : Int
  deriving DecidableEq
structure TApiMgState where
  Runs : List (List TApiEntry)
  At : List Int
  Tree : TApiLsTree
  deriving DecidableEq
structure TApiShState where
  Some : Bool
  Last : List UInt8
  Bottom : Bool
  deriving DecidableEq
structure TApiSlState where
  Merge : TApiMgState
  Shadow : TApiShState
  Out : List TApiEntry
  Steps : Int
  deriving DecidableEq
structure TShadowShadowed where
  Key : List UInt8
  Val : List UInt8
  Dead : Bool
  Seq : Int
  deriving DecidableEq
structure TShadowDropped where
  Key : List UInt8
  Val : List UInt8
  Dead : Bool
  Seq : Int
  deriving DecidableEq
structure TShadowKept where
  Key : List UInt8
  Val : List UInt8
  Dead : Bool
  Seq : Int
  deriving DecidableEq
structure T2Uint8 where
  e0 : Int
  e1 : Int
  deriving DecidableEq
def TApiShState.eqb (x y : TApiShState) : Bool := ((x.Some == y.Some) && ((x.Last == y.Last) && ((x.Bottom == y.Bottom) && true)))
def TApiEntry.eqb (x y : TApiEntry) : Bool := ((x.Key == y.Key) && ((x.Val == y.Val) && ((x.Dead == y.Dead) && ((x.Seq == y.Seq) && true))))
def TApiLsKey.eqb (x y : TApiLsKey) : Bool := ((x.Key == y.Key) && ((x.Done == y.Done) && true))
def bookendlaw11_Far_l1 (runs1 : List (List TApiEntry)) : Nat → Int → Option (Sum (Unit) (Bool))
  | 0, _ => none
  | fu + 1, i21 =>
    (ix runs1 0).bind fun e22 =>
    if (decide (i21 < (e22.length : Int))) then
      (ix e22 i21).bind fun e24 =>
      if (!(TApiEntry.eqb e24 (TApiEntry.mk [] [] false 0))) then
        some (.inr true)
      else
        bookendlaw11_Far_l1 runs1 fu (IntKind.i64.wrap (i21 + 1))
    else
      some (.inl ())
def bookendlaw11_Far_l5 (e77 : List TApiEntry) : Nat → Int → Option (Sum (Unit) (Bool))
  | 0, _ => none
  | fu + 1, k91 =>
    if (decide (k91 < (e77.length : Int))) then
      (ix e77 k91).bind fun e93 =>
      (if (decide (200 < (e93.Key.length : Int))) then some true else some (decide (200 < (e93.Val.length : Int)))).bind fun b94 =>
      if b94 then
        some (.inr true)
      else
        bookendlaw11_Far_l5 e77 fu (IntKind.i64.wrap (k91 + 1))
    else
      some (.inl ())
def bookendlaw11_Far_l4 (runs1 : List (List TApiEntry)) : Nat → Int → Int → Option (Sum (Unit) (Bool))
  | 0, _, _ => none
  | fu + 1, many74, i75 =>
    if (decide (i75 < (runs1.length : Int))) then
      (ix runs1 i75).bind fun e77 =>
      if (decide (120 < (IntKind.i64.wrap (many74 + (if 200 < (e77.length : Int) then 200 else (e77.length : Int)))))) then
        some (.inr true)
      else
        (bookendlaw11_Far_l5 e77 fu 0).bind fun x90 => match x90 with
        | .inl o97 =>
          bookendlaw11_Far_l4 runs1 fu (IntKind.i64.wrap (many74 + (if 200 < (e77.length : Int) then 200 else (e77.length : Int)))) (IntKind.i64.wrap (i75 + 1))
        | .inr y =>
          some (.inr y)
    else
      some (.inl ())
def bookendlaw11_Far (fu : Nat) (runs1 : List (List TApiEntry)) : Option (Bool) :=
  if (decide (34 < (runs1.length : Int))) then
    some true
  else
    (if (decide ((runs1.length : Int) = 1)) then (ix runs1 0).bind fun e3 => some (decide (5000 < (e3.length : Int))) else some false).bind fun b4 =>
    (if b4 then (ix runs1 0).bind fun e5 => some (decide ((e5.length : Int) ≤ 5005)) else some false).bind fun b6 =>
    if b6 then
      (bookendlaw11_Far_l1 runs1 fu 0).bind fun x20 => match x20 with
      | .inl o26 =>
        some false
      | .inr y =>
        some y
    else
      (bookendlaw11_Far_l4 runs1 fu 0 0).bind fun x73 => match x73 with
      | .inl o98 =>
        some false
      | .inr y =>
        some y
def bookendlaw11_Example (fu : Nat) : Option (List (List TApiEntry)) :=
  some [[(TApiEntry.mk [98] [] true 9)], [(TApiEntry.mk [97] [49] false 1), (TApiEntry.mk [98] [50] false 2), (TApiEntry.mk [99] [51] false 3)]]
def keys_Check (fu : Nat) (k1 : List UInt8) : Option (Int) :=
  if (decide (32 < (k1.length : Int))) then
    some 3
  else
    some 0
def entries_Check (fu : Nat) (vx1 : TApiEntry) : Option (Int) :=
  (keys_Check fu vx1.Key).bind fun vr2 =>
  (if (!(decide (vr2 = 0))) then some true else some (decide (64 < (vx1.Val.length : Int)))).bind fun b3 =>
  if b3 then
    some 3
  else
    (if vx1.Dead then some (!(vx1.Val == [])) else some false).bind fun b6 =>
    if b6 then
      some 6
    else
      (if (decide (vx1.Seq < 1)) then some true else some (decide (1000000000 < vx1.Seq))).bind fun b9 =>
      if b9 then
        some 7
      else
        some 0
def entries_CheckList_l1 (l1 : List TApiEntry) : Nat → Int → Option (Sum (Unit) (Int × Int))
  | 0, _ => none
  | fu + 1, v17 =>
    if (decide (v17 < (l1.length : Int))) then
      (ix l1 v17).bind fun e19 =>
      (entries_Check fu e19).bind fun vr20 =>
      if (!(decide (vr20 = 0))) then
        some (.inr (v17, vr20))
      else
        (if (decide (0 < v17)) then (ix l1 (IntKind.i64.wrap (v17 - 1))).bind fun e22 => some (Op.bytesLess e19.Key e22.Key || e19.Key == e22.Key) else some false).bind fun b23 =>
        if b23 then
          some (.inr (v17, 6))
        else
          entries_CheckList_l1 l1 fu (IntKind.i64.wrap (v17 + 1))
    else
      some (.inl ())
def entries_CheckList (fu : Nat) (l1 : List TApiEntry) : Option (Int × Int) :=
  if (decide (5000 < (l1.length : Int))) then
    some ((-1), 3)
  else
    (entries_CheckList_l1 l1 fu 0).bind fun x16 => match x16 with
    | .inl o26 =>
      some (0, 0)
    | .inr y =>
      some y
def merge_check_l1 (runs1 : List (List TApiEntry)) : Nat → Int → Option (Sum (Unit) (Int × Int))
  | 0, _ => none
  | fu + 1, v14 =>
    if (decide (v14 < (runs1.length : Int))) then
      (ix runs1 v14).bind fun e16 =>
      (entries_CheckList fu e16).bind fun vr17 =>
      if (!(decide (vr17.2 = 0))) then
        some (.inr (v14, vr17.2))
      else
        merge_check_l1 runs1 fu (IntKind.i64.wrap (v14 + 1))
    else
      some (.inl ())
def merge_check (fu : Nat) (runs1 : List (List TApiEntry)) : Option (Int × Int) :=
  if (decide ((runs1.length : Int) = 0)) then
    some ((-1), 6)
  else
    if (decide (32 < (runs1.length : Int))) then
      some ((-1), 3)
    else
      (merge_check_l1 runs1 fu 0).bind fun x13 => match x13 with
      | .inl o19 =>
        some (0, 0)
      | .inr y =>
        some y
def slices_Clone_apiEntry (fu : Nat) (vs1 : List (List TApiEntry)) : Option (List (List TApiEntry)) :=
  if vs1.isEmpty then
    some []
  else
    if 2 * ((0 + vs1.length) * 24) ≤ 281474976710656 then
      some vs1
    else none
def merge_next (fu : Nat) (l1 : List TApiEntry) (vat2 : Int) : Option (TApiLsKey) :=
  if (decide (vat2 = (l1.length : Int))) then
    some (TApiLsKey.mk [] true)
  else
    (ix l1 vat2).bind fun e4 =>
    some (TApiLsKey.mk e4.Key false)
def loser_check_1 (fu : Nat) (k1 : TApiLsKey) : Option (Bool) :=
  (if k1.Done then some (!(k1.Key == [])) else some false).bind fun b2 =>
  some b2
def slices_IndexFunc_apiLsKey_l1 (vs1 : List TApiLsKey) : Nat → Int → Option (Sum (Unit) (Int))
  | 0, _ => none
  | fu + 1, v12 =>
    if (decide (v12 < (vs1.length : Int))) then
      (ix vs1 v12).bind fun e14 =>
      (loser_check_1 fu e14).bind fun vr15 =>
      if vr15 then
        some (.inr v12)
      else
        slices_IndexFunc_apiLsKey_l1 vs1 fu (IntKind.i64.wrap (v12 + 1))
    else
      some (.inl ())
def slices_IndexFunc_apiLsKey (fu : Nat) (vs1 : List TApiLsKey) : Option (Int) :=
  (slices_IndexFunc_apiLsKey_l1 vs1 fu 0).bind fun x11 => match x11 with
  | .inl o17 =>
    some (-1)
  | .inr y =>
    some y
def slices_ContainsFunc_apiLsKey (fu : Nat) (vs1 : List TApiLsKey) : Option (Bool) :=
  (slices_IndexFunc_apiLsKey fu vs1).bind fun vr2 =>
  some (decide (0 ≤ vr2))
def loser_check (fu : Nat) (keys1 : List TApiLsKey) : Option (Int) :=
  if (decide ((keys1.length : Int) = 0)) then
    some 6
  else
    if (decide (32 < (keys1.length : Int))) then
      some 3
    else
      (slices_ContainsFunc_apiLsKey fu keys1).bind fun vr4 =>
      if vr4 then
        some 2
      else
        some 0
def loser_judge (fu : Nat) (keys1 : List TApiLsKey) : Option (List TApiLsKey) :=
  some keys1
def slices_Clone_apiLsKey (fu : Nat) (vs1 : List TApiLsKey) : Option (List TApiLsKey) :=
  if vs1.isEmpty then
    some []
  else
    if 2 * ((0 + vs1.length) * 24) ≤ 281474976710656 then
      some vs1
    else none
def loser_judge_1 (fu : Nat) (p1 : Int) (q2 : Int) (p3 : List TApiLsKey) : Option (Bool) :=
  (ix p3 p1).bind fun e4 =>
  (ix p3 q2).bind fun e5 =>
  if (!(e4.Done == e5.Done)) then
    some e5.Done
  else
    if (!(e4.Key == e5.Key)) then
      some (Op.bytesLess e4.Key e5.Key)
    else
      some (decide (p1 < q2))
def loser_play_l1 (keys1 : List TApiLsKey) (vr2 : List TApiLsKey) : Nat → Int → List Int → List Int → Option (List Int × List Int)
  | 0, _, _, _ => none
  | fu + 1, i34, players35, v36 =>
    if (decide (0 < i34)) then
      if (decide ((keys1.length : Int) ≤ i34)) then
        (ix players35 i34).bind fun e41 =>
        loser_play_l1 keys1 vr2 fu (IntKind.i64.wrap (i34 - 1)) (players35.set i34.toNat (IntKind.i64.wrap (i34 - (keys1.length : Int)))) v36
      else
        (ix players35 (IntKind.i64.wrap (2 * i34))).bind fun e42 =>
        (ix players35 (IntKind.i64.wrap ((IntKind.i64.wrap (2 * i34)) + 1))).bind fun e43 =>
        (loser_judge_1 fu e42 e43 vr2).bind fun vr44 =>
        if (!vr44) then
          (ix players35 i34).bind fun e46 =>
          (ix v36 i34).bind fun e47 =>
          loser_play_l1 keys1 vr2 fu (IntKind.i64.wrap (i34 - 1)) (players35.set i34.toNat e43) (v36.set i34.toNat e42)
        else
          (ix players35 i34).bind fun e48 =>
          (ix v36 i34).bind fun e49 =>
          loser_play_l1 keys1 vr2 fu (IntKind.i64.wrap (i34 - 1)) (players35.set i34.toNat e42) (v36.set i34.toNat e43)
    else
      some (players35, v36)
def loser_play (fu : Nat) (keys1 : List TApiLsKey) : Option (TApiLsTree) :=
  (loser_judge fu keys1).bind fun vr2 =>
  if 0 ≤ (IntKind.i64.wrap (2 * (keys1.length : Int))) ∧ (IntKind.i64.wrap (2 * (keys1.length : Int))) ≤ (IntKind.i64.wrap (2 * (keys1.length : Int))) ∧ (IntKind.i64.wrap (2 * (keys1.length : Int))) ≤ 9223372036854775807 ∧ 8 * (IntKind.i64.wrap (2 * (keys1.length : Int))) ≤ 281474976710656 then
    (slices_Clone_apiLsKey fu keys1).bind fun vr4 =>
    if 0 ≤ (keys1.length : Int) ∧ (keys1.length : Int) ≤ (keys1.length : Int) ∧ (keys1.length : Int) ≤ 9223372036854775807 ∧ 8 * (keys1.length : Int) ≤ 281474976710656 then
      (loser_play_l1 keys1 vr2 fu (IntKind.i64.wrap ((IntKind.i64.wrap (2 * (keys1.length : Int))) - 1)) (List.replicate (IntKind.i64.wrap (2 * (keys1.length : Int))).toNat 0 : List Int) (List.replicate keys1.length 0 : List Int)).bind fun x33 =>
      (ix x33.1 1).bind fun e52 =>
      some (TApiLsTree.mk vr4 x33.2 e52)
    else none
  else none
def loser_Build (fu : Nat) (keys1 : List TApiLsKey) : Option (TApiLsTree × Int) :=
  (loser_check fu keys1).bind fun vr2 =>
  if (!(decide (vr2 = 0))) then
    some ((TApiLsTree.mk [] [] 0), vr2)
  else
    (loser_play fu keys1).bind fun vr4 =>
    some (vr4, 0)
def merge_tree_l1 (runs1 : List (List TApiEntry)) (vat2 : List Int) : Nat → Int → List TApiLsKey → Option (List TApiLsKey)
  | 0, _, _ => none
  | fu + 1, v18, keys19 =>
    if (decide (v18 < (runs1.length : Int))) then
      (ix runs1 v18).bind fun e22 =>
      (ix vat2 v18).bind fun e23 =>
      (merge_next fu e22 e23).bind fun vr24 =>
      (ix keys19 v18).bind fun e25 =>
      merge_tree_l1 runs1 vat2 fu (IntKind.i64.wrap (v18 + 1)) (keys19.set v18.toNat vr24)
    else
      some keys19
def merge_tree (fu : Nat) (runs1 : List (List TApiEntry)) (vat2 : List Int) : Option (TApiLsTree) :=
  if 0 ≤ (runs1.length : Int) ∧ (runs1.length : Int) ≤ (runs1.length : Int) ∧ (runs1.length : Int) ≤ 9223372036854775807 ∧ 24 * (runs1.length : Int) ≤ 281474976710656 then
    (merge_tree_l1 runs1 vat2 fu 0 (List.replicate runs1.length (TApiLsKey.mk [] false) : List TApiLsKey)).bind fun x17 =>
    (loser_Build fu x17).bind fun vr27 =>
    some vr27.1
  else none
def merge_Begin (fu : Nat) (runs1 : List (List TApiEntry)) : Option (TApiMgState × Int × Int) :=
  (merge_check fu runs1).bind fun vr2 =>
  if (!(decide (vr2.2 = 0))) then
    some ((TApiMgState.mk [] [] (TApiLsTree.mk [] [] 0)), vr2.1, vr2.2)
  else
    if 0 ≤ (runs1.length : Int) ∧ (runs1.length : Int) ≤ (runs1.length : Int) ∧ (runs1.length : Int) ≤ 9223372036854775807 ∧ 8 * (runs1.length : Int) ≤ 281474976710656 then
      (slices_Clone_apiEntry fu runs1).bind fun vr5 =>
      (merge_tree fu runs1 (List.replicate runs1.length 0 : List Int)).bind fun vr6 =>
      some ((TApiMgState.mk vr5 (List.replicate runs1.length 0 : List Int) vr6), 0, 0)
    else none
def shadow_Begin (fu : Nat) (bottom1 : Bool) : Option (TApiShState) :=
  some (TApiShState.mk false [] bottom1)
def slices_Begin (fu : Nat) (runs1 : List (List TApiEntry)) (bottom2 : Bool) : Option (TApiSlState × Int × Int) :=
  (merge_Begin fu runs1).bind fun vr3 =>
  if (!(decide (vr3.2.2 = 0))) then
    some ((TApiSlState.mk (TApiMgState.mk [] [] (TApiLsTree.mk [] [] 0)) (TApiShState.mk false [] false) [] 0), vr3.2.1, vr3.2.2)
  else
    (shadow_Begin fu bottom2).bind fun vr5 =>
    some ((TApiSlState.mk vr3.1 vr5 [] 0), 0, 0)
def slices_Equal_apiLsKey_l1 (s11 : List TApiLsKey) (s22 : List TApiLsKey) : Nat → Int → Option (Sum (Unit) (Bool))
  | 0, _ => none
  | fu + 1, v14 =>
    if (decide (v14 < (s11.length : Int))) then
      (ix s11 v14).bind fun e16 =>
      (ix s22 v14).bind fun e17 =>
      if (!(TApiLsKey.eqb e16 e17)) then
        some (.inr false)
      else
        slices_Equal_apiLsKey_l1 s11 s22 fu (IntKind.i64.wrap (v14 + 1))
    else
      some (.inl ())
def slices_Equal_apiLsKey (fu : Nat) (s11 : List TApiLsKey) (s22 : List TApiLsKey) : Option (Bool) :=
  if (!(decide ((s11.length : Int) = (s22.length : Int)))) then
    some false
  else
    (slices_Equal_apiLsKey_l1 s11 s22 fu 0).bind fun x13 => match x13 with
    | .inl o19 =>
      some true
    | .inr y =>
      some y
def slices_Equal_int_l1 (s11 : List Int) (s22 : List Int) : Nat → Int → Option (Sum (Unit) (Bool))
  | 0, _ => none
  | fu + 1, v14 =>
    if (decide (v14 < (s11.length : Int))) then
      (ix s11 v14).bind fun e16 =>
      (ix s22 v14).bind fun e17 =>
      if (!(decide (e16 = e17))) then
        some (.inr false)
      else
        slices_Equal_int_l1 s11 s22 fu (IntKind.i64.wrap (v14 + 1))
    else
      some (.inl ())
def slices_Equal_int (fu : Nat) (s11 : List Int) (s22 : List Int) : Option (Bool) :=
  if (!(decide ((s11.length : Int) = (s22.length : Int)))) then
    some false
  else
    (slices_Equal_int_l1 s11 s22 fu 0).bind fun x13 => match x13 with
    | .inl o19 =>
      some true
    | .inr y =>
      some y
def merge_alike (fu : Nat) (a1 : TApiLsTree) (b2 : TApiLsTree) : Option (Bool) :=
  (if (decide (a1.Win = b2.Win)) then (slices_Equal_apiLsKey fu a1.Keys b2.Keys).bind fun vr3 => some vr3 else some false).bind fun b4 =>
  (if b4 then (slices_Equal_int fu a1.Lose b2.Lose).bind fun vr5 => some vr5 else some false).bind fun b6 =>
  some b6
def loser_Check_l1 (vr5 : TApiLsTree) (t1 : TApiLsTree) : Nat → Int → Option (Sum (Unit) (Int × Int))
  | 0, _ => none
  | fu + 1, v16 =>
    if (decide (v16 < (vr5.Lose.length : Int))) then
      (ix vr5.Lose v16).bind fun e18 =>
      (ix t1.Lose v16).bind fun e19 =>
      if (!(decide (e19 = e18))) then
        some (.inr (v16, 6))
      else
        loser_Check_l1 vr5 t1 fu (IntKind.i64.wrap (v16 + 1))
    else
      some (.inl ())
def loser_Check (fu : Nat) (t1 : TApiLsTree) : Option (Int × Int) :=
  (loser_check fu t1.Keys).bind fun vr2 =>
  if (!(decide (vr2 = 0))) then
    some (0, vr2)
  else
    if (!(decide ((t1.Lose.length : Int) = (t1.Keys.length : Int)))) then
      some (0, 6)
    else
      (loser_play fu t1.Keys).bind fun vr5 =>
      (loser_Check_l1 vr5 t1 fu 0).bind fun x15 => match x15 with
      | .inl o21 =>
        if (!(decide (t1.Win = vr5.Win))) then
          some (0, 6)
        else
          some (0, 0)
      | .inr y =>
        some y
def loser_open (fu : Nat) (t1 : TApiLsTree) : Option (Int) :=
  (loser_Check fu t1).bind fun vr2 =>
  if (!(decide (vr2.2 = 0))) then
    some vr2.2
  else
    (ix t1.Keys t1.Win).bind fun e4 =>
    if e4.Done then
      some 12
    else
      some 0
def loser_Winner (fu : Nat) (t1 : TApiLsTree) : Option (Int × List UInt8 × Int) :=
  (loser_open fu t1).bind fun vr2 =>
  if (!(decide (vr2 = 0))) then
    some (0, [], vr2)
  else
    (ix t1.Keys t1.Win).bind fun e4 =>
    some (t1.Win, e4.Key, 0)
def cmp_isNaN_string (fu : Nat) (vx1 : List UInt8) : Option (Bool) :=
  some (!(vx1 == vx1))
def cmp_Compare_string (fu : Nat) (vx1 : List UInt8) (y2 : List UInt8) : Option (Int) :=
  (cmp_isNaN_string fu vx1).bind fun vr3 =>
  (cmp_isNaN_string fu y2).bind fun vr4 =>
  if vr3 then
    if vr4 then
      some 0
    else
      some (-1)
  else
    if vr4 then
      some 1
    else
      if (Op.bytesLess vx1 y2) then
        some (-1)
      else
        if (!(Op.bytesLess vx1 y2 || vx1 == y2)) then
          some 1
        else
          some 0
def cmp_isNaN_int (fu : Nat) (vx1 : Int) : Option (Bool) :=
  some (!(decide (vx1 = vx1)))
def cmp_Compare_int (fu : Nat) (vx1 : Int) (y2 : Int) : Option (Int) :=
  (cmp_isNaN_int fu vx1).bind fun vr3 =>
  (cmp_isNaN_int fu y2).bind fun vr4 =>
  if vr3 then
    if vr4 then
      some 0
    else
      some (-1)
  else
    if vr4 then
      some 1
    else
      if (decide (vx1 < y2)) then
        some (-1)
      else
        if (decide (y2 < vx1)) then
          some 1
        else
          some 0
def cmp_Or_int_l1 (vals1 : List Int) : Nat → Int → Option (Sum (Unit) (Int))
  | 0, _ => none
  | fu + 1, v10 =>
    if (decide (v10 < (vals1.length : Int))) then
      (ix vals1 v10).bind fun e12 =>
      if (!(decide (e12 = 0))) then
        some (.inr e12)
      else
        cmp_Or_int_l1 vals1 fu (IntKind.i64.wrap (v10 + 1))
    else
      some (.inl ())
def cmp_Or_int (fu : Nat) (vals1 : List Int) : Option (Int) :=
  (cmp_Or_int_l1 vals1 fu 0).bind fun x9 => match x9 with
  | .inl o14 =>
    some 0
  | .inr y =>
    some y
def merge_Check_l1 (vs1 : TApiMgState) : Nat → Int → Option (Sum (Unit) (Int × Int))
  | 0, _ => none
  | fu + 1, v19 =>
    if (decide (v19 < (vs1.At.length : Int))) then
      (ix vs1.At v19).bind fun e21 =>
      (if (decide (e21 < 0)) then some true else (ix vs1.Runs v19).bind fun e22 => some (decide ((e22.length : Int) < e21))).bind fun b23 =>
      if b23 then
        some (.inr (v19, 6))
      else
        merge_Check_l1 vs1 fu (IntKind.i64.wrap (v19 + 1))
    else
      some (.inl ())
def merge_Check_l2 (vs1 : TApiMgState) (vr30 : Int × List UInt8 × Int) : Nat → Int → Option (Sum (Unit) (Int × Int))
  | 0, _ => none
  | fu + 1, v54 =>
    if (decide (v54 < (vs1.At.length : Int))) then
      (ix vs1.At v54).bind fun e56 =>
      (if (decide (0 < e56)) then (ix vs1.Runs v54).bind fun e57 => (ix e57 (IntKind.i64.wrap (e56 - 1))).bind fun e58 => (cmp_Compare_string fu e58.Key vr30.2.1).bind fun vr59 => (cmp_Compare_int fu v54 vr30.1).bind fun vr60 => (cmp_Or_int fu [vr59, vr60]).bind fun vr61 => some (decide (0 < vr61)) else some false).bind fun b62 =>
      if b62 then
        some (.inr (vr30.1, 6))
      else
        merge_Check_l2 vs1 vr30 fu (IntKind.i64.wrap (v54 + 1))
    else
      some (.inl ())
def merge_Check (fu : Nat) (vs1 : TApiMgState) : Option (Int × Int) :=
  (merge_check fu vs1.Runs).bind fun vr2 =>
  if (!(decide (vr2.2 = 0))) then
    some (vr2.1, vr2.2)
  else
    if (!(decide ((vs1.At.length : Int) = (vs1.Runs.length : Int)))) then
      some ((-1), 6)
    else
      (merge_Check_l1 vs1 fu 0).bind fun x18 => match x18 with
      | .inl o26 =>
        (merge_tree fu vs1.Runs vs1.At).bind fun vr27 =>
        (merge_alike fu vs1.Tree vr27).bind fun vr28 =>
        if (!vr28) then
          some ((-1), 6)
        else
          (loser_Winner fu vs1.Tree).bind fun vr30 =>
          if (!(decide (vr30.2.2 = 0))) then
            some (0, 0)
          else
            (merge_Check_l2 vs1 vr30 fu 0).bind fun x53 => match x53 with
            | .inl o65 =>
              some (0, 0)
            | .inr y =>
              some y
      | .inr y =>
        some y
def merge_reader_peek (fu : Nat) (vr1 : List (List TApiEntry)) (vr2 : List Int) (vr3 : List TApiLsKey) (vr4 : List Int) (vr5 : Int) : Option (TApiEntry × Int × Int) :=
  (loser_Winner fu (TApiLsTree.mk vr3 vr4 vr5)).bind fun vr6 =>
  if (!(decide (vr6.2.2 = 0))) then
    some ((TApiEntry.mk [] [] false 0), 0, vr6.2.2)
  else
    (ix vr1 vr6.1).bind fun e8 =>
    (ix vr2 vr6.1).bind fun e9 =>
    (ix e8 e9).bind fun e10 =>
    some (e10, vr6.1, 0)
def slices_Clone_apiLsKey_2 (fu : Nat) (vs1 : List TApiLsKey) : Option (List TApiLsKey) :=
  if vs1.isEmpty then
    some []
  else
    if 2 * ((0 + vs1.length) * 24) ≤ 281474976710656 then
      some vs1
    else none
def loser_play_3_l1 (keys1 : List TApiLsKey) (vr2 : List TApiLsKey) : Nat → Int → List Int → List Int → Option (List Int × List Int)
  | 0, _, _, _ => none
  | fu + 1, i34, players35, v36 =>
    if (decide (0 < i34)) then
      if (decide ((keys1.length : Int) ≤ i34)) then
        (ix players35 i34).bind fun e41 =>
        loser_play_3_l1 keys1 vr2 fu (IntKind.i64.wrap (i34 - 1)) (players35.set i34.toNat (IntKind.i64.wrap (i34 - (keys1.length : Int)))) v36
      else
        (ix players35 (IntKind.i64.wrap (2 * i34))).bind fun e42 =>
        (ix players35 (IntKind.i64.wrap ((IntKind.i64.wrap (2 * i34)) + 1))).bind fun e43 =>
        (loser_judge_1 fu e42 e43 vr2).bind fun vr44 =>
        if (!vr44) then
          (ix players35 i34).bind fun e46 =>
          (ix v36 i34).bind fun e47 =>
          loser_play_3_l1 keys1 vr2 fu (IntKind.i64.wrap (i34 - 1)) (players35.set i34.toNat e43) (v36.set i34.toNat e42)
        else
          (ix players35 i34).bind fun e48 =>
          (ix v36 i34).bind fun e49 =>
          loser_play_3_l1 keys1 vr2 fu (IntKind.i64.wrap (i34 - 1)) (players35.set i34.toNat e42) (v36.set i34.toNat e43)
    else
      some (players35, v36)
def loser_play_3 (fu : Nat) (keys1 : List TApiLsKey) : Option (TApiLsTree) :=
  (loser_judge fu keys1).bind fun vr2 =>
  if 0 ≤ (IntKind.i64.wrap (2 * (keys1.length : Int))) ∧ (IntKind.i64.wrap (2 * (keys1.length : Int))) ≤ (IntKind.i64.wrap (2 * (keys1.length : Int))) ∧ (IntKind.i64.wrap (2 * (keys1.length : Int))) ≤ 9223372036854775807 ∧ 8 * (IntKind.i64.wrap (2 * (keys1.length : Int))) ≤ 281474976710656 then
    (slices_Clone_apiLsKey_2 fu keys1).bind fun vr4 =>
    if 0 ≤ (keys1.length : Int) ∧ (keys1.length : Int) ≤ (keys1.length : Int) ∧ (keys1.length : Int) ≤ 9223372036854775807 ∧ 8 * (keys1.length : Int) ≤ 281474976710656 then
      (loser_play_3_l1 keys1 vr2 fu (IntKind.i64.wrap ((IntKind.i64.wrap (2 * (keys1.length : Int))) - 1)) (List.replicate (IntKind.i64.wrap (2 * (keys1.length : Int))).toNat 0 : List Int) (List.replicate keys1.length 0 : List Int)).bind fun x33 =>
      (ix x33.1 1).bind fun e52 =>
      some (TApiLsTree.mk vr4 x33.2 e52)
    else none
  else none
def loser_Build_3 (fu : Nat) (keys1 : List TApiLsKey) : Option (TApiLsTree × Int) :=
  (loser_check fu keys1).bind fun vr2 =>
  if (!(decide (vr2 = 0))) then
    some ((TApiLsTree.mk [] [] 0), vr2)
  else
    (loser_play_3 fu keys1).bind fun vr4 =>
    some (vr4, 0)
def merge_tree_2_l1 (runs1 : List (List TApiEntry)) (vat2 : List Int) : Nat → Int → List TApiLsKey → Option (List TApiLsKey)
  | 0, _, _ => none
  | fu + 1, v18, keys19 =>
    if (decide (v18 < (runs1.length : Int))) then
      (ix runs1 v18).bind fun e22 =>
      (ix vat2 v18).bind fun e23 =>
      (merge_next fu e22 e23).bind fun vr24 =>
      (ix keys19 v18).bind fun e25 =>
      merge_tree_2_l1 runs1 vat2 fu (IntKind.i64.wrap (v18 + 1)) (keys19.set v18.toNat vr24)
    else
      some keys19
def merge_tree_2 (fu : Nat) (runs1 : List (List TApiEntry)) (vat2 : List Int) : Option (TApiLsTree) :=
  if 0 ≤ (runs1.length : Int) ∧ (runs1.length : Int) ≤ (runs1.length : Int) ∧ (runs1.length : Int) ≤ 9223372036854775807 ∧ 24 * (runs1.length : Int) ≤ 281474976710656 then
    (merge_tree_2_l1 runs1 vat2 fu 0 (List.replicate runs1.length (TApiLsKey.mk [] false) : List TApiLsKey)).bind fun x17 =>
    (loser_Build_3 fu x17).bind fun vr27 =>
    some vr27.1
  else none
def merge_Begin_2 (fu : Nat) (runs1 : List (List TApiEntry)) : Option (TApiMgState × Int × Int) :=
  (merge_check fu runs1).bind fun vr2 =>
  if (!(decide (vr2.2 = 0))) then
    some ((TApiMgState.mk [] [] (TApiLsTree.mk [] [] 0)), vr2.1, vr2.2)
  else
    if 0 ≤ (runs1.length : Int) ∧ (runs1.length : Int) ≤ (runs1.length : Int) ∧ (runs1.length : Int) ≤ 9223372036854775807 ∧ 8 * (runs1.length : Int) ≤ 281474976710656 then
      (slices_Clone_apiEntry fu runs1).bind fun vr5 =>
      (merge_tree_2 fu runs1 (List.replicate runs1.length 0 : List Int)).bind fun vr6 =>
      some ((TApiMgState.mk vr5 (List.replicate runs1.length 0 : List Int) vr6), 0, 0)
    else none
def slices_Clone_int_2 (fu : Nat) (vs1 : List Int) : Option (List Int) :=
  if vs1.isEmpty then
    some []
  else
    if 2 * ((0 + vs1.length) * 8) ≤ 281474976710656 then
      some vs1
    else none
def loser_Replace_l1 (vr14 : List TApiLsKey) : Nat → Int → Int → Int → List Int → Option (Int × Int × List Int)
  | 0, _, _, _, _ => none
  | fu + 1, games29, node30, u31, v32 =>
    if (decide ((IntKind.i64.wrap (node30.tdiv 2)) = 0)) then
      some (games29, u31, v32)
    else
      (ix v32 (IntKind.i64.wrap (node30.tdiv 2))).bind fun e35 =>
      (loser_judge_1 fu e35 u31 vr14).bind fun vr36 =>
      if vr36 then
        loser_Replace_l1 vr14 fu (IntKind.i64.wrap (games29 + 1)) (IntKind.i64.wrap (node30.tdiv 2)) e35 (v32.set ((IntKind.i64.wrap (node30.tdiv 2)).toNat) u31)
      else
        loser_Replace_l1 vr14 fu (IntKind.i64.wrap (games29 + 1)) (IntKind.i64.wrap (node30.tdiv 2)) u31 v32
def loser_Replace (fu : Nat) (t1 : TApiLsTree) (k2 : TApiLsKey) : Option (TApiLsTree × Int × Int) :=
  (loser_open fu t1).bind fun vr3 =>
  if (!(decide (vr3 = 0))) then
    some ((TApiLsTree.mk [] [] 0), 0, vr3)
  else
    (loser_check fu [k2]).bind fun vr5 =>
    if (!(decide (vr5 = 0))) then
      some ((TApiLsTree.mk [] [] 0), 0, vr5)
    else
      (if (!k2.Done) then (ix t1.Keys t1.Win).bind fun e7 => some (Op.bytesLess k2.Key e7.Key) else some false).bind fun b8 =>
      if b8 then
        some ((TApiLsTree.mk [] [] 0), 0, 6)
      else
        (slices_Clone_apiLsKey_2 fu t1.Keys).bind fun vr11 =>
        (slices_Clone_int_2 fu t1.Lose).bind fun vr12 =>
        (ix vr11 t1.Win).bind fun e13 =>
        (loser_judge fu (vr11.set t1.Win.toNat k2)).bind fun vr14 =>
        (loser_Replace_l1 vr14 fu 0 (IntKind.i64.wrap (((vr11.set t1.Win.toNat k2).length : Int) + t1.Win)) t1.Win vr12).bind fun x28 =>
        some ((TApiLsTree.mk (vr11.set t1.Win.toNat k2) x28.2.2 x28.2.1), x28.1, 0)
def merge_All_l1 (vr2 : TApiMgState × Int × Int) : Nat → List Int → List TApiLsKey → List Int → Int → List TApiEntry → List Int → Option (List Int × List TApiLsKey × List Int × Int × List TApiEntry × List Int)
  | 0, _, _, _, _, _, _ => none
  | fu + 1, v38, v39, v40, v41, v42, v43 =>
    (merge_reader_peek fu vr2.1.Runs v38 v39 v40 v41).bind fun vr47 =>
    if (!(decide (vr47.2.2 = 0))) then
      some (v38, v39, v40, v41, v42, v43)
    else
      if 2 * ((v42.length + 1) * 48) ≤ 281474976710656 then
        if 2 * ((v43.length + 1) * 8) ≤ 281474976710656 then
          (ix v38 vr47.2.1).bind fun e51 =>
          (ix vr2.1.Runs vr47.2.1).bind fun e52 =>
          (ix (v38.set vr47.2.1.toNat (IntKind.i64.wrap (e51 + 1))) vr47.2.1).bind fun e53 =>
          (merge_next fu e52 e53).bind fun vr54 =>
          (loser_Replace fu (TApiLsTree.mk v39 v40 v41) vr54).bind fun vr55 =>
          merge_All_l1 vr2 fu (v38.set vr47.2.1.toNat (IntKind.i64.wrap (e51 + 1))) vr55.1.Keys vr55.1.Lose vr55.1.Win (v42 ++ [vr47.1]) (v43 ++ [vr47.2.1])
        else none
      else none
def merge_All (fu : Nat) (runs1 : List (List TApiEntry)) : Option (List TApiEntry × List Int × Int) :=
  (merge_Begin_2 fu runs1).bind fun vr2 =>
  if (!(decide (vr2.2.2 = 0))) then
    some ([], [], vr2.2.2)
  else
    (merge_All_l1 vr2 fu vr2.1.At vr2.1.Tree.Keys vr2.1.Tree.Lose vr2.1.Tree.Win [] []).bind fun x37 =>
    some (x37.2.2.2.2.1, x37.2.2.2.2.2, 0)
def shadow_Check (fu : Nat) (vs1 : TApiShState) : Option (Int) :=
  (keys_Check fu vs1.Last).bind fun vr2 =>
  if (!(decide (vr2 = 0))) then
    some vr2
  else
    (if (!vs1.Some) then some (!(vs1.Last == [])) else some false).bind fun b4 =>
    if b4 then
      some 6
    else
      some 0
def shadow_kept_entry (fu : Nat) (vx1 : TShadowKept) : Option (TApiEntry) :=
  some (TApiEntry.mk vx1.Key vx1.Val vx1.Dead vx1.Seq)
def shadow_Filter_l1 (l1 : List TApiEntry) (vr4 : TApiShState) : Nat → Int → Bool → List UInt8 → List TApiEntry → Option (Sum (Bool × List UInt8 × List TApiEntry) (List TApiEntry × Int × Int))
  | 0, _, _, _, _ => none
  | fu + 1, v60, v61, v62, v63 =>
    if (decide (v60 < (l1.length : Int))) then
      (ix l1 v60).bind fun e66 =>
      (shadow_Check fu (TApiShState.mk v61 v62 vr4.Bottom)).bind fun vr67 =>
      if (!(decide (vr67 = 0))) then
        some (.inr ([], v60, vr67))
      else
        (entries_Check fu e66).bind fun vr69 =>
        if (!(decide (vr69 = 0))) then
          some (.inr ([], v60, vr69))
        else
          (if v61 then some (Op.bytesLess e66.Key v62) else some false).bind fun b71 =>
          if b71 then
            some (.inr ([], v60, 6))
          else
            (if v61 then some (e66.Key == v62) else some false).bind fun b74 =>
            if b74 then
              shadow_Filter_l1 l1 vr4 fu (IntKind.i64.wrap (v60 + 1)) true e66.Key v63
            else
              (if vr4.Bottom then some e66.Dead else some false).bind fun b77 =>
              if b77 then
                shadow_Filter_l1 l1 vr4 fu (IntKind.i64.wrap (v60 + 1)) true e66.Key v63
              else
                (shadow_kept_entry fu (TShadowKept.mk e66.Key e66.Val e66.Dead e66.Seq)).bind fun vr80 =>
                if 2 * ((v63.length + 1) * 48) ≤ 281474976710656 then
                  shadow_Filter_l1 l1 vr4 fu (IntKind.i64.wrap (v60 + 1)) true e66.Key (v63 ++ [vr80])
                else none
    else
      some (.inl (v61, v62, v63))
def shadow_Filter (fu : Nat) (l1 : List TApiEntry) (bottom2 : Bool) : Option (List TApiEntry × Int × Int) :=
  if (decide (20000 < (l1.length : Int))) then
    some ([], (-1), 3)
  else
    (shadow_Begin fu bottom2).bind fun vr4 =>
    (shadow_Filter_l1 l1 vr4 fu 0 vr4.Some vr4.Last []).bind fun x59 => match x59 with
    | .inl o82 =>
      some (o82.2.2, 0, 0)
    | .inr y =>
      some y
def slices_alike_l1 (a1 : List TApiEntry) (b2 : List TApiEntry) : Nat → Int → Option (Sum (Unit) (Bool))
  | 0, _ => none
  | fu + 1, v14 =>
    if (decide (v14 < (a1.length : Int))) then
      (ix a1 v14).bind fun e16 =>
      (ix b2 v14).bind fun e17 =>
      if (!(TApiEntry.eqb e16 e17)) then
        some (.inr false)
      else
        slices_alike_l1 a1 b2 fu (IntKind.i64.wrap (v14 + 1))
    else
      some (.inl ())
def slices_alike (fu : Nat) (a1 : List TApiEntry) (b2 : List TApiEntry) : Option (Bool) :=
  if (!(decide ((a1.length : Int) = (b2.length : Int)))) then
    some false
  else
    (slices_alike_l1 a1 b2 fu 0).bind fun x13 => match x13 with
    | .inl o19 =>
      some true
    | .inr y =>
      some y
def slices_Check_l1 (vs1 : TApiSlState) : Nat → Int → Int → Option (Int)
  | 0, _, _ => none
  | fu + 1, n11, v12 =>
    if (decide (v12 < (vs1.Merge.At.length : Int))) then
      (ix vs1.Merge.At v12).bind fun e14 =>
      slices_Check_l1 vs1 fu (IntKind.i64.wrap (n11 + e14)) (IntKind.i64.wrap (v12 + 1))
    else
      some n11
def slices_Check (fu : Nat) (vs1 : TApiSlState) : Option (Int) :=
  (merge_Check fu vs1.Merge).bind fun vr2 =>
  if (!(decide (vr2.2 = 0))) then
    some vr2.2
  else
    (slices_Check_l1 vs1 fu 0 0).bind fun x10 =>
    (if (decide (20000 < (vs1.Out.length : Int))) then some true else some (decide (20000 < x10))).bind fun b15 =>
    if b15 then
      some 3
    else
      if (!(decide (vs1.Steps = x10))) then
        some 7
      else
        (merge_All fu vs1.Merge.Runs).bind fun vr19 =>
        if (!(decide (vr19.2.2 = 0))) then
          some vr19.2.2
        else
          if 0 ≤ x10 ∧ x10 ≤ (vr19.1.length : Int) then
            (shadow_Filter fu (vr19.1.take x10.toNat) vs1.Shadow.Bottom).bind fun vr22 =>
            if (!(decide (vr22.2.2 = 0))) then
              some vr22.2.2
            else
              (shadow_Begin fu vs1.Shadow.Bottom).bind fun vr24 =>
              if (decide (0 < x10)) then
                (ix vr19.1 (IntKind.i64.wrap (x10 - 1))).bind fun e26 =>
                (slices_alike fu vs1.Out vr22.1).bind fun vr27 =>
                (if (!vr27) then some true else some (!(TApiShState.eqb vs1.Shadow (TApiShState.mk true e26.Key vr24.Bottom)))).bind fun b28 =>
                if b28 then
                  some 6
                else
                  some 0
              else
                (slices_alike fu vs1.Out vr22.1).bind fun vr31 =>
                (if (!vr31) then some true else some (!(TApiShState.eqb vs1.Shadow vr24))).bind fun b32 =>
                if b32 then
                  some 6
                else
                  some 0
          else none
def merge_Left_l1 (vs1 : TApiMgState) : Nat → Int → Int → Option (Int)
  | 0, _, _ => none
  | fu + 1, n13, v14 =>
    if (decide (v14 < (vs1.Runs.length : Int))) then
      (ix vs1.Runs v14).bind fun e16 =>
      (ix vs1.At v14).bind fun e17 =>
      merge_Left_l1 vs1 fu (IntKind.i64.wrap (n13 + (IntKind.i64.wrap ((e16.length : Int) - e17)))) (IntKind.i64.wrap (v14 + 1))
    else
      some n13
def merge_Left (fu : Nat) (vs1 : TApiMgState) : Option (Int × Int) :=
  (merge_Check fu vs1).bind fun vr2 =>
  if (!(decide (vr2.2 = 0))) then
    some (0, vr2.2)
  else
    (merge_Left_l1 vs1 fu 0 0).bind fun x12 =>
    some (x12, 0)
def slices_Left (fu : Nat) (vs1 : TApiSlState) : Option (Int × Int) :=
  (slices_Check fu vs1).bind fun vr2 =>
  if (!(decide (vr2 = 0))) then
    some (0, vr2)
  else
    (merge_Left fu vs1.Merge).bind fun vr4 =>
    some (vr4.1, vr4.2)
def merge_Next (fu : Nat) (vs1 : TApiMgState) : Option (TApiEntry × Int × TApiMgState × Int) :=
  (merge_Check fu vs1).bind fun vr2 =>
  if (!(decide (vr2.2 = 0))) then
    some ((TApiEntry.mk [] [] false 0), 0, (TApiMgState.mk [] [] (TApiLsTree.mk [] [] 0)), vr2.2)
  else
    (slices_Clone_apiEntry fu vs1.Runs).bind fun vr4 =>
    (slices_Clone_int_2 fu vs1.At).bind fun vr5 =>
    (merge_reader_peek fu vr4 vr5 vs1.Tree.Keys vs1.Tree.Lose vs1.Tree.Win).bind fun vr6 =>
    if (!(decide (vr6.2.2 = 0))) then
      some ((TApiEntry.mk [] [] false 0), 0, (TApiMgState.mk [] [] (TApiLsTree.mk [] [] 0)), vr6.2.2)
    else
      (ix vr5 vr6.2.1).bind fun e8 =>
      (ix vr4 vr6.2.1).bind fun e9 =>
      (ix (vr5.set vr6.2.1.toNat (IntKind.i64.wrap (e8 + 1))) vr6.2.1).bind fun e10 =>
      (merge_next fu e9 e10).bind fun vr11 =>
      (loser_Replace fu vs1.Tree vr11).bind fun vr12 =>
      some (vr6.1, vr6.2.1, (TApiMgState.mk vr4 (vr5.set vr6.2.1.toNat (IntKind.i64.wrap (e8 + 1))) vr12.1), 0)
def shadow_Step (fu : Nat) (vs1 : TApiShState) (vx2 : TApiEntry) : Option (Bool × TApiShState × Int) :=
  (shadow_Check fu vs1).bind fun vr3 =>
  if (!(decide (vr3 = 0))) then
    some (false, (TApiShState.mk false [] false), vr3)
  else
    (entries_Check fu vx2).bind fun vr5 =>
    if (!(decide (vr5 = 0))) then
      some (false, (TApiShState.mk false [] false), vr5)
    else
      (if vs1.Some then some (Op.bytesLess vx2.Key vs1.Last) else some false).bind fun b7 =>
      if b7 then
        some (false, (TApiShState.mk false [] false), 6)
      else
        (if vs1.Some then some (vx2.Key == vs1.Last) else some false).bind fun b10 =>
        if b10 then
          some (false, (TApiShState.mk true vx2.Key vs1.Bottom), 0)
        else
          (if vs1.Bottom then some vx2.Dead else some false).bind fun b13 =>
          if b13 then
            some (false, (TApiShState.mk true vx2.Key vs1.Bottom), 0)
          else
            some (true, (TApiShState.mk true vx2.Key vs1.Bottom), 0)
def slices_Step_l1 (vr3 : Int × Int) (n2 : Int) : Nat → Int → List (List TApiEntry) → List Int → List TApiLsKey → List Int → Int → Bool → List UInt8 → Bool → Int → List TApiEntry → Option (Sum (List (List TApiEntry) × List Int × List TApiLsKey × List Int × Int × Bool × List UInt8 × Bool × Int × List TApiEntry) (TApiSlState × Int × Int))
  | 0, _, _, _, _, _, _, _, _, _, _, _ => none
  | fu + 1, left43, v44, v45, v46, v47, v48, v49, v50, v51, v52, v53 =>
    if (decide (left43 < (if vr3.1 < n2 then vr3.1 else n2))) then
      (merge_Next fu (TApiMgState.mk v44 v45 (TApiLsTree.mk v46 v47 v48))).bind fun vr56 =>
      if (!(decide (vr56.2.2.2 = 0))) then
        some (.inr ((TApiSlState.mk (TApiMgState.mk [] [] (TApiLsTree.mk [] [] 0)) (TApiShState.mk false [] false) [] 0), 0, vr56.2.2.2))
      else
        (shadow_Step fu (TApiShState.mk v49 v50 v51) vr56.1).bind fun vr58 =>
        if (!(decide (vr58.2.2 = 0))) then
          some (.inr ((TApiSlState.mk (TApiMgState.mk [] [] (TApiLsTree.mk [] [] 0)) (TApiShState.mk false [] false) [] 0), 0, vr58.2.2))
        else
          if vr58.1 then
            if 2 * ((v53.length + 1) * 48) ≤ 281474976710656 then
              slices_Step_l1 vr3 n2 fu (IntKind.i64.wrap (left43 + 1)) vr56.2.2.1.Runs vr56.2.2.1.At vr56.2.2.1.Tree.Keys vr56.2.2.1.Tree.Lose vr56.2.2.1.Tree.Win vr58.2.1.Some vr58.2.1.Last vr58.2.1.Bottom (IntKind.i64.wrap (v52 + 1)) (v53 ++ [vr56.1])
            else none
          else
            slices_Step_l1 vr3 n2 fu (IntKind.i64.wrap (left43 + 1)) vr56.2.2.1.Runs vr56.2.2.1.At vr56.2.2.1.Tree.Keys vr56.2.2.1.Tree.Lose vr56.2.2.1.Tree.Win vr58.2.1.Some vr58.2.1.Last vr58.2.1.Bottom (IntKind.i64.wrap (v52 + 1)) v53
    else
      some (.inl (v44, v45, v46, v47, v48, v49, v50, v51, v52, v53))
def slices_Step (fu : Nat) (vs1 : TApiSlState) (n2 : Int) : Option (TApiSlState × Int × Int) :=
  (slices_Left fu vs1).bind fun vr3 =>
  if (!(decide (vr3.2 = 0))) then
    some ((TApiSlState.mk (TApiMgState.mk [] [] (TApiLsTree.mk [] [] 0)) (TApiShState.mk false [] false) [] 0), 0, vr3.2)
  else
    if (decide (n2 < 0)) then
      some ((TApiSlState.mk (TApiMgState.mk [] [] (TApiLsTree.mk [] [] 0)) (TApiShState.mk false [] false) [] 0), 0, 7)
    else
      if (decide (20000 < (IntKind.i64.wrap (vs1.Steps + (if vr3.1 < n2 then vr3.1 else n2))))) then
        some ((TApiSlState.mk (TApiMgState.mk [] [] (TApiLsTree.mk [] [] 0)) (TApiShState.mk false [] false) [] 0), 0, 3)
      else
        if 2 * (vs1.Out.length * 48) ≤ 281474976710656 then
          if 2 * (vs1.Merge.At.length * 8) ≤ 281474976710656 then
            (slices_Step_l1 vr3 n2 fu 0 vs1.Merge.Runs vs1.Merge.At vs1.Merge.Tree.Keys vs1.Merge.Tree.Lose vs1.Merge.Tree.Win vs1.Shadow.Some vs1.Shadow.Last vs1.Shadow.Bottom vs1.Steps vs1.Out).bind fun x42 => match x42 with
            | .inl o62 =>
              some ((TApiSlState.mk (TApiMgState.mk o62.1 o62.2.1 (TApiLsTree.mk o62.2.2.1 o62.2.2.2.1 o62.2.2.2.2.1)) (TApiShState.mk o62.2.2.2.2.2.1 o62.2.2.2.2.2.2.1 o62.2.2.2.2.2.2.2.1) o62.2.2.2.2.2.2.2.2.2 o62.2.2.2.2.2.2.2.2.1), (if vr3.1 < n2 then vr3.1 else n2), 0)
            | .inr y =>
              some y
          else none
        else none
def slices_Output (fu : Nat) (vs1 : TApiSlState) : Option (List TApiEntry × Int) :=
  (slices_Left fu vs1).bind fun vr2 =>
  if (!(decide (vr2.2 = 0))) then
    some ([], vr2.2)
  else
    if (decide (0 < vr2.1)) then
      some ([], 9)
    else
      if 2 * (vs1.Out.length * 48) ≤ 281474976710656 then
        some (vs1.Out, 0)
      else none
def slices_All (fu : Nat) (runs1 : List (List TApiEntry)) (bottom2 : Bool) : Option (List TApiEntry × Int × Int) :=
  (merge_All fu runs1).bind fun vr3 =>
  if (!(decide (vr3.2.2 = 0))) then
    some ([], 0, vr3.2.2)
  else
    (shadow_Filter fu vr3.1 bottom2).bind fun vr5 =>
    if (!(decide (vr5.2.2 = 0))) then
      some ([], 0, vr5.2.2)
    else
      some (vr5.1, (vr3.1.length : Int), 0)
def bookendref11_SameEntries_l1 (a1 : List TApiEntry) (b2 : List TApiEntry) : Nat → Int → Option (Sum (Unit) (Bool))
  | 0, _ => none
  | fu + 1, i14 =>
    if (decide (i14 < (a1.length : Int))) then
      (ix a1 i14).bind fun e16 =>
      (ix b2 i14).bind fun e17 =>
      if (!(TApiEntry.eqb e16 e17)) then
        some (.inr false)
      else
        bookendref11_SameEntries_l1 a1 b2 fu (IntKind.i64.wrap (i14 + 1))
    else
      some (.inl ())
def bookendref11_SameEntries (fu : Nat) (a1 : List TApiEntry) (b2 : List TApiEntry) : Option (Bool) :=
  if (!(decide ((a1.length : Int) = (b2.length : Int)))) then
    some false
  else
    (bookendref11_SameEntries_l1 a1 b2 fu 0).bind fun x13 => match x13 with
    | .inl o19 =>
      some true
    | .inr y =>
      some y
def bookendlaw13_awake (fu : Nat) : Option (Bool) :=
  (bookendlaw11_Example fu).bind fun vr1 =>
  (slices_Begin fu vr1 false).bind fun vr2 =>
  (slices_Left fu vr2.1).bind fun vr3 =>
  (slices_Step fu vr2.1 2).bind fun vr4 =>
  (slices_Step fu vr4.1 9).bind fun vr5 =>
  (slices_Output fu vr5.1).bind fun vr6 =>
  (slices_Output fu vr2.1).bind fun vr7 =>
  (slices_All fu vr1 true).bind fun vr8 =>
  (if (decide (vr2.2.2 = 0)) then some (decide (vr3.1 = 4)) else some false).bind fun b9 =>
  (if b9 then some (decide (vr3.2 = 0)) else some false).bind fun b10 =>
  (if b10 then some (decide (vr4.2.1 = 2)) else some false).bind fun b11 =>
  (if b11 then some (decide (vr4.2.2 = 0)) else some false).bind fun b12 =>
  (if b12 then (ix vr1 1).bind fun e13 => (ix e13 0).bind fun e14 => (ix vr1 0).bind fun e15 => (ix e15 0).bind fun e16 => (bookendref11_SameEntries fu vr4.1.Out [e14, e16]).bind fun vr17 => some vr17 else some false).bind fun b18 =>
  (if b18 then some (decide (vr5.2.1 = 2)) else some false).bind fun b19 =>
  (if b19 then some (decide (vr5.2.2 = 0)) else some false).bind fun b20 =>
  (if b20 then (ix vr1 1).bind fun e21 => (ix e21 0).bind fun e22 => (ix vr1 0).bind fun e23 => (ix e23 0).bind fun e24 => (ix e21 2).bind fun e25 => (bookendref11_SameEntries fu vr6.1 [e22, e24, e25]).bind fun vr26 => some vr26 else some false).bind fun b27 =>
  (if b27 then some (decide (vr6.2 = 0)) else some false).bind fun b28 =>
  (if b28 then some (decide (vr7.2 = 9)) else some false).bind fun b29 =>
  (if b29 then (ix vr1 1).bind fun e30 => (ix e30 0).bind fun e31 => (ix e30 2).bind fun e32 => (bookendref11_SameEntries fu vr8.1 [e31, e32]).bind fun vr33 => some vr33 else some false).bind fun b34 =>
  (if b34 then some (decide (vr8.2.1 = 4)) else some false).bind fun b35 =>
  (if b35 then some (decide (vr8.2.2 = 0)) else some false).bind fun b36 =>
  some b36
def bookendref03_Check (fu : Nat) (vx1 : TApiEntry) : Option (Int) :=
  (if (decide (32 < (vx1.Key.length : Int))) then some true else some (decide (64 < (vx1.Val.length : Int)))).bind fun b2 =>
  if b2 then
    some 3
  else
    (if vx1.Dead then some (!(vx1.Val == [])) else some false).bind fun b5 =>
    if b5 then
      some 6
    else
      (if (decide (vx1.Seq < 1)) then some true else some (decide (1000000000 < vx1.Seq))).bind fun b8 =>
      if b8 then
        some 7
      else
        some 0
def bookendref02_common_l1 (a1 : List UInt8) (b2 : List UInt8) : Nat → Int → Option (Int)
  | 0, _ => none
  | fu + 1, n21 =>
    (if (decide (n21 < (a1.length : Int))) then some (decide (n21 < (b2.length : Int))) else some false).bind fun b22 =>
    (if b22 then (ix a1 n21).bind fun e23 => (ix b2 n21).bind fun e24 => some (decide ((e23.toNat : Int) = (e24.toNat : Int))) else some false).bind fun b25 =>
    if b25 then
      bookendref02_common_l1 a1 b2 fu (IntKind.i64.wrap (n21 + 1))
    else
      some n21
def bookendref02_common (fu : Nat) (a1 : List UInt8) (b2 : List UInt8) : Option (Int) :=
  (bookendref02_common_l1 a1 b2 fu 0).bind fun x20 =>
  some x20
def bookendref02_Order (fu : Nat) (a1 : List UInt8) (b2 : List UInt8) : Option (Int) :=
  (bookendref02_common fu a1 b2).bind fun vr3 =>
  (if (decide (vr3 = (a1.length : Int))) then some (decide (vr3 = (b2.length : Int))) else some false).bind fun b4 =>
  if b4 then
    some 0
  else
    (if (decide (vr3 = (a1.length : Int))) then some true else (if (decide (vr3 < (b2.length : Int))) then (ix a1 vr3).bind fun e7 => (ix b2 vr3).bind fun e8 => some (decide ((e7.toNat : Int) < (e8.toNat : Int))) else some false).bind fun b9 => some b9).bind fun b10 =>
    if b10 then
      some (-1)
    else
      some 1
def bookendref03_CheckList_l1 (l1 : List TApiEntry) : Nat → Int → Option (Sum (Unit) (Int × Int))
  | 0, _ => none
  | fu + 1, i29 =>
    if (decide (i29 < (l1.length : Int))) then
      (ix l1 i29).bind fun e31 =>
      (bookendref03_Check fu e31).bind fun vr32 =>
      (if (decide (vr32 = 0)) then some (decide (0 < i29)) else some false).bind fun b33 =>
      (if b33 then (ix l1 (IntKind.i64.wrap (i29 - 1))).bind fun e34 => (bookendref02_Order fu e34.Key e31.Key).bind fun vr35 => some (decide (0 ≤ vr35)) else some false).bind fun b36 =>
      if b36 then
        some (.inr (i29, 6))
      else
        if (!(decide (vr32 = 0))) then
          some (.inr (i29, vr32))
        else
          bookendref03_CheckList_l1 l1 fu (IntKind.i64.wrap (i29 + 1))
    else
      some (.inl ())
def bookendref03_CheckList (fu : Nat) (l1 : List TApiEntry) : Option (Int × Int) :=
  if (decide (5000 < (l1.length : Int))) then
    some ((-1), 3)
  else
    (bookendref03_CheckList_l1 l1 fu 0).bind fun x28 => match x28 with
    | .inl o42 =>
      some (0, 0)
    | .inr y =>
      some y
def bookendref11_right_l1 (runs1 : List (List TApiEntry)) : Nat → Int → Option (Sum (Unit) (Int × Int))
  | 0, _ => none
  | fu + 1, i14 =>
    if (decide (i14 < (runs1.length : Int))) then
      (ix runs1 i14).bind fun e16 =>
      (bookendref03_CheckList fu e16).bind fun vr17 =>
      if (!(decide (vr17.2 = 0))) then
        some (.inr (i14, vr17.2))
      else
        bookendref11_right_l1 runs1 fu (IntKind.i64.wrap (i14 + 1))
    else
      some (.inl ())
def bookendref11_right (fu : Nat) (runs1 : List (List TApiEntry)) : Option (Int × Int) :=
  if (decide ((runs1.length : Int) = 0)) then
    some ((-1), 6)
  else
    if (decide (32 < (runs1.length : Int))) then
      some ((-1), 3)
    else
      (bookendref11_right_l1 runs1 fu 0).bind fun x13 => match x13 with
      | .inl o19 =>
        some (0, 0)
      | .inr y =>
        some y
def bookendref10_right_l1 (keys1 : List TApiLsKey) : Nat → Int → Option (Sum (Unit) (Int))
  | 0, _ => none
  | fu + 1, i16 =>
    if (decide (i16 < (keys1.length : Int))) then
      (ix keys1 i16).bind fun e18 =>
      (if e18.Done then some (!(e18.Key == [])) else some false).bind fun b19 =>
      if b19 then
        some (.inr 2)
      else
        bookendref10_right_l1 keys1 fu (IntKind.i64.wrap (i16 + 1))
    else
      some (.inl ())
def bookendref10_right (fu : Nat) (keys1 : List TApiLsKey) : Option (Int) :=
  if (decide ((keys1.length : Int) = 0)) then
    some 6
  else
    if (decide (32 < (keys1.length : Int))) then
      some 3
    else
      (bookendref10_right_l1 keys1 fu 0).bind fun x15 => match x15 with
      | .inl o22 =>
        some 0
      | .inr y =>
        some y
def bookendref10_wins (fu : Nat) (keys1 : List TApiLsKey) (p2 : Int) (q3 : Int) : Option (Bool) :=
  (ix keys1 p2).bind fun e4 =>
  (ix keys1 q3).bind fun e5 =>
  if (!(e4.Done == e5.Done)) then
    some e5.Done
  else
    (if (!e4.Done) then some (!(e4.Key == e5.Key)) else some false).bind fun b7 =>
    if b7 then
      some (Op.bytesLess e4.Key e5.Key)
    else
      some (decide (p2 < q3))
def bookendref10_player : Nat → List TApiLsKey → Int → Option (Int × Int)
  | 0, _, _ => none
  | fu + 1, keys1, node2 =>
    if (decide ((keys1.length : Int) ≤ node2)) then
      some ((IntKind.i64.wrap (node2 - (keys1.length : Int))), 0)
    else
      (bookendref10_player fu keys1 (IntKind.i64.wrap (2 * node2))).bind fun vr4 =>
      (bookendref10_player fu keys1 (IntKind.i64.wrap ((IntKind.i64.wrap (2 * node2)) + 1))).bind fun vr5 =>
      (bookendref10_wins fu keys1 vr4.1 vr5.1).bind fun vr6 =>
      if vr6 then
        some (vr4.1, vr5.1)
      else
        some (vr5.1, vr4.1)
def bookendref10_tree_l1 (keys1 : List TApiLsKey) : Nat → Int → List Int → Option (List Int)
  | 0, _, _ => none
  | fu + 1, i14, v15 =>
    if (decide (i14 < (keys1.length : Int))) then
      (bookendref10_player fu keys1 i14).bind fun vr18 =>
      (ix v15 i14).bind fun e19 =>
      bookendref10_tree_l1 keys1 fu (IntKind.i64.wrap (i14 + 1)) (v15.set i14.toNat vr18.2)
    else
      some v15
def bookendref10_tree (fu : Nat) (keys1 : List TApiLsKey) : Option (TApiLsTree) :=
  if 2 * ((0 + keys1.length) * 24) ≤ 281474976710656 then
    if 0 ≤ (keys1.length : Int) ∧ (keys1.length : Int) ≤ (keys1.length : Int) ∧ (keys1.length : Int) ≤ 9223372036854775807 ∧ 8 * (keys1.length : Int) ≤ 281474976710656 then
      (bookendref10_tree_l1 keys1 fu 1 (List.replicate keys1.length 0 : List Int)).bind fun x13 =>
      (bookendref10_player fu keys1 1).bind fun vr21 =>
      some (TApiLsTree.mk keys1 x13 vr21.1)
    else none
  else none
def bookendref10_Build (fu : Nat) (keys1 : List TApiLsKey) : Option (TApiLsTree × Int) :=
  (bookendref10_right fu keys1).bind fun vr2 =>
  if (!(decide (vr2 = 0))) then
    some ((TApiLsTree.mk [] [] 0), vr2)
  else
    (bookendref10_tree fu keys1).bind fun vr4 =>
    some (vr4, 0)
def bookendref11_state_l1 (runs1 : List (List TApiEntry)) (vat2 : List Int) : Nat → Int → List TApiLsKey → Option (List TApiLsKey)
  | 0, _, _ => none
  | fu + 1, i26, keys27 =>
    if (decide (i26 < (runs1.length : Int))) then
      (ix vat2 i26).bind fun e30 =>
      (ix runs1 i26).bind fun e31 =>
      if (!(decide (e30 = (e31.length : Int)))) then
        (ix e31 e30).bind fun e33 =>
        if 2 * ((keys27.length + 1) * 24) ≤ 281474976710656 then
          bookendref11_state_l1 runs1 vat2 fu (IntKind.i64.wrap (i26 + 1)) (keys27 ++ [(TApiLsKey.mk e33.Key (decide (e30 = (e31.length : Int))))])
        else none
      else
        if 2 * ((keys27.length + 1) * 24) ≤ 281474976710656 then
          bookendref11_state_l1 runs1 vat2 fu (IntKind.i64.wrap (i26 + 1)) (keys27 ++ [(TApiLsKey.mk [] (decide (e30 = (e31.length : Int))))])
        else none
    else
      some keys27
def bookendref11_state (fu : Nat) (runs1 : List (List TApiEntry)) (vat2 : List Int) : Option (TApiMgState) :=
  if 2 * ((0 + runs1.length) * 24) ≤ 281474976710656 then
    if 2 * ((0 + vat2.length) * 8) ≤ 281474976710656 then
      (bookendref11_state_l1 runs1 vat2 fu 0 []).bind fun x25 =>
      (bookendref10_Build fu x25).bind fun vr37 =>
      some (TApiMgState.mk runs1 vat2 vr37.1)
    else none
  else none
def bookendref11_Begin (fu : Nat) (runs1 : List (List TApiEntry)) : Option (TApiMgState × Int × Int) :=
  (bookendref11_right fu runs1).bind fun vr2 =>
  if (!(decide (vr2.2 = 0))) then
    some ((TApiMgState.mk [] [] (TApiLsTree.mk [] [] 0)), vr2.1, vr2.2)
  else
    if 0 ≤ (runs1.length : Int) ∧ (runs1.length : Int) ≤ (runs1.length : Int) ∧ (runs1.length : Int) ≤ 9223372036854775807 ∧ 8 * (runs1.length : Int) ≤ 281474976710656 then
      (bookendref11_state fu runs1 (List.replicate runs1.length 0 : List Int)).bind fun vr5 =>
      some (vr5, 0, 0)
    else none
def bookendref12_Begin (fu : Nat) (bottom1 : Bool) : Option (TApiShState) :=
  some (TApiShState.mk false [] bottom1)
def bookendref13_Begin (fu : Nat) (runs1 : List (List TApiEntry)) (bottom2 : Bool) : Option (TApiSlState × Int × Int) :=
  (bookendref11_Begin fu runs1).bind fun vr3 =>
  if (!(decide (vr3.2.2 = 0))) then
    some ((TApiSlState.mk (TApiMgState.mk [] [] (TApiLsTree.mk [] [] 0)) (TApiShState.mk false [] false) [] 0), vr3.2.1, vr3.2.2)
  else
    (bookendref12_Begin fu bottom2).bind fun vr5 =>
    some ((TApiSlState.mk vr3.1 vr5 [] 0), 0, 0)
def bookendref11_first_l1 (runs1 : List (List TApiEntry)) (vat2 : List Int) : Nat → Int → Int → Option (Int)
  | 0, _, _ => none
  | fu + 1, best24, i25 =>
    if (decide (i25 < (runs1.length : Int))) then
      (ix vat2 i25).bind fun e27 =>
      (ix runs1 i25).bind fun e28 =>
      (if (decide (e27 < (e28.length : Int))) then (if (decide (best24 < 0)) then some true else (ix e28 e27).bind fun e29 => (ix runs1 best24).bind fun e30 => (ix vat2 best24).bind fun e31 => (ix e30 e31).bind fun e32 => some (Op.bytesLess e29.Key e32.Key)).bind fun b33 => some b33 else some false).bind fun b34 =>
      if b34 then
        bookendref11_first_l1 runs1 vat2 fu i25 (IntKind.i64.wrap (i25 + 1))
      else
        bookendref11_first_l1 runs1 vat2 fu best24 (IntKind.i64.wrap (i25 + 1))
    else
      some best24
def bookendref11_first (fu : Nat) (runs1 : List (List TApiEntry)) (vat2 : List Int) : Option (Int) :=
  (bookendref11_first_l1 runs1 vat2 fu (-1) 0).bind fun x23 =>
  some x23
def bookendref11_All_l1 (runs1 : List (List TApiEntry)) : Nat → List Int → List TApiEntry → List Int → Option (List TApiEntry × List Int × Int)
  | 0, _, _, _ => none
  | fu + 1, vat29, l30, vfrom31 =>
    (bookendref11_first fu runs1 vat29).bind fun vr35 =>
    if (decide (vr35 < 0)) then
      some (l30, vfrom31, 0)
    else
      (ix runs1 vr35).bind fun e37 =>
      (ix vat29 vr35).bind fun e38 =>
      (ix e37 e38).bind fun e39 =>
      if 2 * ((l30.length + 1) * 48) ≤ 281474976710656 then
        if 2 * ((vfrom31.length + 1) * 8) ≤ 281474976710656 then
          bookendref11_All_l1 runs1 fu (vat29.set vr35.toNat (IntKind.i64.wrap (e38 + 1))) (l30 ++ [e39]) (vfrom31 ++ [vr35])
        else none
      else none
def bookendref11_All (fu : Nat) (runs1 : List (List TApiEntry)) : Option (List TApiEntry × List Int × Int) :=
  (bookendref11_right fu runs1).bind fun vr2 =>
  if (!(decide (vr2.2 = 0))) then
    some ([], [], vr2.2)
  else
    if 0 ≤ (runs1.length : Int) ∧ (runs1.length : Int) ≤ (runs1.length : Int) ∧ (runs1.length : Int) ≤ 9223372036854775807 ∧ 8 * (runs1.length : Int) ≤ 281474976710656 then
      (bookendref11_All_l1 runs1 fu (List.replicate runs1.length 0 : List Int) [] []).bind fun x28 =>
      some x28
    else none
def bookendref12_Check (fu : Nat) (vs1 : TApiShState) : Option (Int) :=
  if (decide (32 < (vs1.Last.length : Int))) then
    some 3
  else
    (if (!vs1.Some) then some (!(vs1.Last == [])) else some false).bind fun b3 =>
    if b3 then
      some 6
    else
      some 0
def bookendref12_Step (fu : Nat) (vs1 : TApiShState) (vx2 : TApiEntry) : Option (Bool × TApiShState × Int) :=
  (bookendref12_Check fu vs1).bind fun vr3 =>
  if (decide (vr3 = 0)) then
    (bookendref03_Check fu vx2).bind fun vr5 =>
    (if (decide (vr5 = 0)) then some vs1.Some else some false).bind fun b6 =>
    (if b6 then some (Op.bytesLess vx2.Key vs1.Last) else some false).bind fun b7 =>
    if b7 then
      some (false, (TApiShState.mk false [] false), 6)
    else
      if (!(decide (vr5 = 0))) then
        some (false, (TApiShState.mk false [] false), vr5)
      else
        (if (!vs1.Some) then some true else some (!(vx2.Key == vs1.Last))).bind fun b13 =>
        (if b13 then (if vs1.Bottom then some vx2.Dead else some false).bind fun b15 => some (!b15) else some false).bind fun b16 =>
        some (b16, (TApiShState.mk true vx2.Key vs1.Bottom), 0)
  else
    (if (decide (vr3 = 0)) then some vs1.Some else some false).bind fun b19 =>
    (if b19 then some (Op.bytesLess vx2.Key vs1.Last) else some false).bind fun b20 =>
    if b20 then
      some (false, (TApiShState.mk false [] false), 6)
    else
      if (!(decide (vr3 = 0))) then
        some (false, (TApiShState.mk false [] false), vr3)
      else
        (if (!vs1.Some) then some true else some (!(vx2.Key == vs1.Last))).bind fun b26 =>
        (if b26 then (if vs1.Bottom then some vx2.Dead else some false).bind fun b28 => some (!b28) else some false).bind fun b29 =>
        some (b29, (TApiShState.mk true vx2.Key vs1.Bottom), 0)
def bookendref12_Filter_l1 (l1 : List TApiEntry) : Nat → Int → Bool → List UInt8 → Bool → List TApiEntry → Option (Sum (Bool × List UInt8 × Bool × List TApiEntry) (List TApiEntry × Int × Int))
  | 0, _, _, _, _, _ => none
  | fu + 1, i28, vs29, vs30, vs31, out32 =>
    if (decide (i28 < (l1.length : Int))) then
      (ix l1 i28).bind fun e35 =>
      (bookendref12_Step fu (TApiShState.mk vs29 vs30 vs31) e35).bind fun vr36 =>
      if (!(decide (vr36.2.2 = 0))) then
        some (.inr ([], i28, vr36.2.2))
      else
        if vr36.1 then
          if 2 * ((out32.length + 1) * 48) ≤ 281474976710656 then
            bookendref12_Filter_l1 l1 fu (IntKind.i64.wrap (i28 + 1)) vr36.2.1.Some vr36.2.1.Last vr36.2.1.Bottom (out32 ++ [e35])
          else none
        else
          bookendref12_Filter_l1 l1 fu (IntKind.i64.wrap (i28 + 1)) vr36.2.1.Some vr36.2.1.Last vr36.2.1.Bottom out32
    else
      some (.inl (vs29, vs30, vs31, out32))
def bookendref12_Filter (fu : Nat) (l1 : List TApiEntry) (bottom2 : Bool) : Option (List TApiEntry × Int × Int) :=
  if (decide (20000 < (l1.length : Int))) then
    some ([], (-1), 3)
  else
    (bookendref12_Begin fu bottom2).bind fun vr4 =>
    (bookendref12_Filter_l1 l1 fu 0 vr4.Some vr4.Last vr4.Bottom []).bind fun x27 => match x27 with
    | .inl o40 =>
      some (o40.2.2.2, 0, 0)
    | .inr y =>
      some y
def bookendref13_behind (fu : Nat) (l1 : List TApiEntry) (bottom2 : Bool) : Option (List TApiEntry × TApiShState) :=
  (bookendref12_Filter fu l1 bottom2).bind fun vr3 =>
  (bookendref12_Begin fu bottom2).bind fun vr4 =>
  if (decide (0 < (l1.length : Int))) then
    (ix l1 (IntKind.i64.wrap ((l1.length : Int) - 1))).bind fun e6 =>
    some (vr3.1, (TApiShState.mk true e6.Key vr4.Bottom))
  else
    some (vr3.1, vr4)
def bookendref10_Ints_l1 (a1 : List Int) (b2 : List Int) : Nat → Int → Option (Sum (Unit) (Bool))
  | 0, _ => none
  | fu + 1, i14 =>
    if (decide (i14 < (a1.length : Int))) then
      (ix a1 i14).bind fun e16 =>
      (ix b2 i14).bind fun e17 =>
      if (!(decide (e16 = e17))) then
        some (.inr false)
      else
        bookendref10_Ints_l1 a1 b2 fu (IntKind.i64.wrap (i14 + 1))
    else
      some (.inl ())
def bookendref10_Ints (fu : Nat) (a1 : List Int) (b2 : List Int) : Option (Bool) :=
  if (!(decide ((a1.length : Int) = (b2.length : Int)))) then
    some false
  else
    (bookendref10_Ints_l1 a1 b2 fu 0).bind fun x13 => match x13 with
    | .inl o19 =>
      some true
    | .inr y =>
      some y
def bookendref10_Same_l1 (a1 : TApiLsTree) (b2 : TApiLsTree) : Nat → Int → Option (Sum (Unit) (Bool))
  | 0, _ => none
  | fu + 1, i20 =>
    if (decide (i20 < (a1.Keys.length : Int))) then
      (ix a1.Keys i20).bind fun e22 =>
      (ix b2.Keys i20).bind fun e23 =>
      if (!(TApiLsKey.eqb e22 e23)) then
        some (.inr false)
      else
        bookendref10_Same_l1 a1 b2 fu (IntKind.i64.wrap (i20 + 1))
    else
      some (.inl ())
def bookendref10_Same (fu : Nat) (a1 : TApiLsTree) (b2 : TApiLsTree) : Option (Bool) :=
  (if (!(decide ((a1.Keys.length : Int) = (b2.Keys.length : Int)))) then some true else some (!(decide (a1.Win = b2.Win)))).bind fun b3 =>
  (if b3 then some true else (bookendref10_Ints fu a1.Lose b2.Lose).bind fun vr4 => some (!vr4)).bind fun b5 =>
  if b5 then
    some false
  else
    (bookendref10_Same_l1 a1 b2 fu 0).bind fun x19 => match x19 with
    | .inl o25 =>
      some true
    | .inr y =>
      some y
def bookendref11_Check_l1 (vs1 : TApiMgState) : Nat → Int → Option (Sum (Unit) (Int × Int))
  | 0, _ => none
  | fu + 1, i19 =>
    if (decide (i19 < (vs1.At.length : Int))) then
      (ix vs1.At i19).bind fun e21 =>
      (if (decide (e21 < 0)) then some true else (ix vs1.Runs i19).bind fun e22 => some (decide ((e22.length : Int) < e21))).bind fun b23 =>
      if b23 then
        some (.inr (i19, 6))
      else
        bookendref11_Check_l1 vs1 fu (IntKind.i64.wrap (i19 + 1))
    else
      some (.inl ())
def bookendref11_Check_l2 (vs1 : TApiMgState) (vr30 : Int) : Nat → Int → Option (Sum (Unit) (Int × Int))
  | 0, _ => none
  | fu + 1, i63 =>
    (if (decide (i63 < (vs1.Runs.length : Int))) then some (decide (0 ≤ vr30)) else some false).bind fun b64 =>
    if b64 then
      (ix vs1.At i63).bind fun e67 =>
      if (decide (e67 = 0)) then
        bookendref11_Check_l2 vs1 vr30 fu (IntKind.i64.wrap (i63 + 1))
      else
        (ix vs1.Runs i63).bind fun e69 =>
        (ix e69 (IntKind.i64.wrap (e67 - 1))).bind fun e70 =>
        (ix vs1.Runs vr30).bind fun e71 =>
        (ix vs1.At vr30).bind fun e72 =>
        (ix e71 e72).bind fun e73 =>
        (if (!(Op.bytesLess e70.Key e73.Key || e70.Key == e73.Key)) then some true else (if (e70.Key == e73.Key) then some (decide (vr30 < i63)) else some false).bind fun b74 => some b74).bind fun b75 =>
        if b75 then
          some (.inr (vr30, 6))
        else
          bookendref11_Check_l2 vs1 vr30 fu (IntKind.i64.wrap (i63 + 1))
    else
      some (.inl ())
def bookendref11_Check (fu : Nat) (vs1 : TApiMgState) : Option (Int × Int) :=
  (bookendref11_right fu vs1.Runs).bind fun vr2 =>
  if (!(decide (vr2.2 = 0))) then
    some (vr2.1, vr2.2)
  else
    if (!(decide ((vs1.At.length : Int) = (vs1.Runs.length : Int)))) then
      some ((-1), 6)
    else
      (bookendref11_Check_l1 vs1 fu 0).bind fun x18 => match x18 with
      | .inl o26 =>
        (bookendref11_state fu vs1.Runs vs1.At).bind fun vr27 =>
        (bookendref10_Same fu vs1.Tree vr27.Tree).bind fun vr28 =>
        if (!vr28) then
          some ((-1), 6)
        else
          (bookendref11_first fu vs1.Runs vs1.At).bind fun vr30 =>
          (bookendref11_Check_l2 vs1 vr30 fu 0).bind fun x62 => match x62 with
          | .inl o79 =>
            some (0, 0)
          | .inr y =>
            some y
      | .inr y =>
        some y
def bookendref13_read_l1 (vs1 : TApiSlState) : Nat → Int → Int → Option (Int)
  | 0, _, _ => none
  | fu + 1, n9, i10 =>
    if (decide (i10 < (vs1.Merge.At.length : Int))) then
      (ix vs1.Merge.At i10).bind fun e12 =>
      bookendref13_read_l1 vs1 fu (IntKind.i64.wrap (n9 + e12)) (IntKind.i64.wrap (i10 + 1))
    else
      some n9
def bookendref13_read (fu : Nat) (vs1 : TApiSlState) : Option (Int) :=
  (bookendref13_read_l1 vs1 fu 0 0).bind fun x8 =>
  some x8
def bookendref13_Check (fu : Nat) (vs1 : TApiSlState) : Option (Int) :=
  (bookendref11_Check fu vs1.Merge).bind fun vr2 =>
  if (!(decide (vr2.2 = 0))) then
    some vr2.2
  else
    (bookendref13_read fu vs1).bind fun vr4 =>
    (if (decide (20000 < (vs1.Out.length : Int))) then some true else some (decide (20000 < vr4))).bind fun b5 =>
    if b5 then
      some 3
    else
      if (!(decide (vs1.Steps = vr4))) then
        some 7
      else
        (bookendref11_All fu vs1.Merge.Runs).bind fun vr9 =>
        if 0 ≤ vr4 ∧ vr4 ≤ (vr9.1.length : Int) then
          (bookendref13_behind fu (vr9.1.take vr4.toNat) vs1.Shadow.Bottom).bind fun vr11 =>
          (bookendref11_SameEntries fu vs1.Out vr11.1).bind fun vr12 =>
          (if (!vr12) then some true else some (!(TApiShState.eqb vs1.Shadow vr11.2))).bind fun b13 =>
          if b13 then
            some 6
          else
            some 0
        else none
def bookendref11_Left_l1 (vs1 : TApiMgState) : Nat → Int → Int → Option (Int)
  | 0, _, _ => none
  | fu + 1, n13, i14 =>
    if (decide (i14 < (vs1.Runs.length : Int))) then
      (ix vs1.Runs i14).bind fun e16 =>
      (ix vs1.At i14).bind fun e17 =>
      bookendref11_Left_l1 vs1 fu (IntKind.i64.wrap ((IntKind.i64.wrap (n13 + (e16.length : Int))) - e17)) (IntKind.i64.wrap (i14 + 1))
    else
      some n13
def bookendref11_Left (fu : Nat) (vs1 : TApiMgState) : Option (Int × Int) :=
  (bookendref11_Check fu vs1).bind fun vr2 =>
  if (!(decide (vr2.2 = 0))) then
    some (0, vr2.2)
  else
    (bookendref11_Left_l1 vs1 fu 0 0).bind fun x12 =>
    some (x12, 0)
def bookendref13_Left (fu : Nat) (vs1 : TApiSlState) : Option (Int × Int) :=
  (bookendref13_Check fu vs1).bind fun vr2 =>
  if (!(decide (vr2 = 0))) then
    some (0, vr2)
  else
    (bookendref11_Left fu vs1.Merge).bind fun vr4 =>
    some (vr4.1, vr4.2)
def bookendref11_Next (fu : Nat) (vs1 : TApiMgState) : Option (TApiEntry × Int × TApiMgState × Int) :=
  (bookendref11_Check fu vs1).bind fun vr2 =>
  if (!(decide (vr2.2 = 0))) then
    some ((TApiEntry.mk [] [] false 0), 0, (TApiMgState.mk [] [] (TApiLsTree.mk [] [] 0)), vr2.2)
  else
    (bookendref11_first fu vs1.Runs vs1.At).bind fun vr4 =>
    if (decide (vr4 < 0)) then
      some ((TApiEntry.mk [] [] false 0), 0, (TApiMgState.mk [] [] (TApiLsTree.mk [] [] 0)), 12)
    else
      if 2 * ((0 + vs1.At.length) * 8) ≤ 281474976710656 then
        (ix vs1.At vr4).bind fun e7 =>
        (ix vs1.Runs vr4).bind fun e8 =>
        (ix e8 e7).bind fun e9 =>
        (bookendref11_state fu vs1.Runs (vs1.At.set vr4.toNat (IntKind.i64.wrap (e7 + 1)))).bind fun vr10 =>
        some (e9, vr4, vr10, 0)
      else none
def bookendref13_Step_l1 (vr3 : Int × Int) (n2 : Int) : Nat → Int → List (List TApiEntry) → List Int → List TApiLsKey → List Int → Int → Option (List (List TApiEntry) × List Int × List TApiLsKey × List Int × Int)
  | 0, _, _, _, _, _, _ => none
  | fu + 1, i21, t22, t23, t24, t25, t26 =>
    if (decide (i21 < (if vr3.1 < n2 then vr3.1 else n2))) then
      (bookendref11_Next fu (TApiMgState.mk t22 t23 (TApiLsTree.mk t24 t25 t26))).bind fun vr28 =>
      bookendref13_Step_l1 vr3 n2 fu (IntKind.i64.wrap (i21 + 1)) vr28.2.2.1.Runs vr28.2.2.1.At vr28.2.2.1.Tree.Keys vr28.2.2.1.Tree.Lose vr28.2.2.1.Tree.Win
    else
      some (t22, t23, t24, t25, t26)
def bookendref13_Step (fu : Nat) (vs1 : TApiSlState) (n2 : Int) : Option (TApiSlState × Int × Int) :=
  (bookendref13_Left fu vs1).bind fun vr3 =>
  (if (decide (vr3.2 = 0)) then some (decide (n2 < 0)) else some false).bind fun b4 =>
  if b4 then
    some ((TApiSlState.mk (TApiMgState.mk [] [] (TApiLsTree.mk [] [] 0)) (TApiShState.mk false [] false) [] 0), 0, 7)
  else
    if (!(decide (vr3.2 = 0))) then
      some ((TApiSlState.mk (TApiMgState.mk [] [] (TApiLsTree.mk [] [] 0)) (TApiShState.mk false [] false) [] 0), 0, vr3.2)
    else
      (bookendref13_read fu vs1).bind fun vr8 =>
      if (decide (20000 < (IntKind.i64.wrap (vr8 + (if vr3.1 < n2 then vr3.1 else n2))))) then
        some ((TApiSlState.mk (TApiMgState.mk [] [] (TApiLsTree.mk [] [] 0)) (TApiShState.mk false [] false) [] 0), 0, 3)
      else
        (bookendref13_Step_l1 vr3 n2 fu 0 vs1.Merge.Runs vs1.Merge.At vs1.Merge.Tree.Keys vs1.Merge.Tree.Lose vs1.Merge.Tree.Win).bind fun x20 =>
        (bookendref11_All fu vs1.Merge.Runs).bind fun vr29 =>
        if 0 ≤ (IntKind.i64.wrap (vs1.Steps + (if vr3.1 < n2 then vr3.1 else n2))) ∧ (IntKind.i64.wrap (vs1.Steps + (if vr3.1 < n2 then vr3.1 else n2))) ≤ (vr29.1.length : Int) then
          (bookendref13_behind fu (vr29.1.take ((IntKind.i64.wrap (vs1.Steps + (if vr3.1 < n2 then vr3.1 else n2))).toNat)) vs1.Shadow.Bottom).bind fun vr31 =>
          some ((TApiSlState.mk (TApiMgState.mk x20.1 x20.2.1 (TApiLsTree.mk x20.2.2.1 x20.2.2.2.1 x20.2.2.2.2)) vr31.2 vr31.1 (IntKind.i64.wrap (vs1.Steps + (if vr3.1 < n2 then vr3.1 else n2)))), (if vr3.1 < n2 then vr3.1 else n2), 0)
        else none
def merge_Next_2 (fu : Nat) (vs1 : TApiMgState) : Option (TApiEntry × Int × TApiMgState × Int) :=
  (merge_Check fu vs1).bind fun vr2 =>
  if (!(decide (vr2.2 = 0))) then
    some ((TApiEntry.mk [] [] false 0), 0, (TApiMgState.mk [] [] (TApiLsTree.mk [] [] 0)), vr2.2)
  else
    (slices_Clone_apiEntry fu vs1.Runs).bind fun vr4 =>
    (slices_Clone_int_2 fu vs1.At).bind fun vr5 =>
    (merge_reader_peek fu vr4 vr5 vs1.Tree.Keys vs1.Tree.Lose vs1.Tree.Win).bind fun vr6 =>
    if (!(decide (vr6.2.2 = 0))) then
      some ((TApiEntry.mk [] [] false 0), 0, (TApiMgState.mk [] [] (TApiLsTree.mk [] [] 0)), vr6.2.2)
    else
      (ix vr5 vr6.2.1).bind fun e8 =>
      (ix vr4 vr6.2.1).bind fun e9 =>
      (ix (vr5.set vr6.2.1.toNat (IntKind.i64.wrap (e8 + 1))) vr6.2.1).bind fun e10 =>
      (merge_next fu e9 e10).bind fun vr11 =>
      (loser_Replace fu vs1.Tree vr11).bind fun vr12 =>
      some (vr6.1, vr6.2.1, (TApiMgState.mk vr4 (vr5.set vr6.2.1.toNat (IntKind.i64.wrap (e8 + 1))) vr12.1), 0)
def slices_Step_3_l1 (vr3 : Int × Int) (n2 : Int) : Nat → List Int → Int → List (List TApiEntry) → List TApiLsKey → List Int → Int → Bool → List UInt8 → Bool → Int → List TApiEntry → Option (Sum (List (List TApiEntry) × List TApiLsKey × List Int × Int × Bool × List UInt8 × Bool × Int × List TApiEntry × List Int) (TApiSlState × Int × Int))
  | 0, _, _, _, _, _, _, _, _, _, _, _ => none
  | fu + 1, v39, left40, v41, v42, v43, v44, v45, v46, v47, v48, v49 =>
    if (decide (left40 < (if vr3.1 < n2 then vr3.1 else n2))) then
      (merge_Next_2 fu (TApiMgState.mk v41 v39 (TApiLsTree.mk v42 v43 v44))).bind fun vr53 =>
      if (!(decide (vr53.2.2.2 = 0))) then
        some (.inr ((TApiSlState.mk (TApiMgState.mk [] [] (TApiLsTree.mk [] [] 0)) (TApiShState.mk false [] false) [] 0), 0, vr53.2.2.2))
      else
        (shadow_Step fu (TApiShState.mk v45 v46 v47) vr53.1).bind fun vr55 =>
        if (!(decide (vr55.2.2 = 0))) then
          some (.inr ((TApiSlState.mk (TApiMgState.mk [] [] (TApiLsTree.mk [] [] 0)) (TApiShState.mk false [] false) [] 0), 0, vr55.2.2))
        else
          if vr55.1 then
            if 2 * ((v49.length + 1) * 48) ≤ 281474976710656 then
              slices_Step_3_l1 vr3 n2 fu vr53.2.2.1.At (IntKind.i64.wrap (left40 + 1)) vr53.2.2.1.Runs vr53.2.2.1.Tree.Keys vr53.2.2.1.Tree.Lose vr53.2.2.1.Tree.Win vr55.2.1.Some vr55.2.1.Last vr55.2.1.Bottom (IntKind.i64.wrap (v48 + 1)) (v49 ++ [vr53.1])
            else none
          else
            slices_Step_3_l1 vr3 n2 fu vr53.2.2.1.At (IntKind.i64.wrap (left40 + 1)) vr53.2.2.1.Runs vr53.2.2.1.Tree.Keys vr53.2.2.1.Tree.Lose vr53.2.2.1.Tree.Win vr55.2.1.Some vr55.2.1.Last vr55.2.1.Bottom (IntKind.i64.wrap (v48 + 1)) v49
    else
      some (.inl (v41, v42, v43, v44, v45, v46, v47, v48, v49, v39))
def slices_Step_3 (fu : Nat) (vs1 : TApiSlState) (n2 : Int) : Option (TApiSlState × Int × Int) :=
  (slices_Left fu vs1).bind fun vr3 =>
  if (!(decide (vr3.2 = 0))) then
    some ((TApiSlState.mk (TApiMgState.mk [] [] (TApiLsTree.mk [] [] 0)) (TApiShState.mk false [] false) [] 0), 0, vr3.2)
  else
    if (decide (n2 < 0)) then
      some ((TApiSlState.mk (TApiMgState.mk [] [] (TApiLsTree.mk [] [] 0)) (TApiShState.mk false [] false) [] 0), 0, 7)
    else
      if (decide (20000 < (IntKind.i64.wrap (vs1.Steps + (if vr3.1 < n2 then vr3.1 else n2))))) then
        some ((TApiSlState.mk (TApiMgState.mk [] [] (TApiLsTree.mk [] [] 0)) (TApiShState.mk false [] false) [] 0), 0, 3)
      else
        if 2 * (vs1.Out.length * 48) ≤ 281474976710656 then
          if 2 * (vs1.Merge.At.length * 8) ≤ 281474976710656 then
            (slices_Step_3_l1 vr3 n2 fu vs1.Merge.At 0 vs1.Merge.Runs vs1.Merge.Tree.Keys vs1.Merge.Tree.Lose vs1.Merge.Tree.Win vs1.Shadow.Some vs1.Shadow.Last vs1.Shadow.Bottom vs1.Steps vs1.Out).bind fun x38 => match x38 with
            | .inl o59 =>
              some ((TApiSlState.mk (TApiMgState.mk o59.1 o59.2.2.2.2.2.2.2.2.2 (TApiLsTree.mk o59.2.1 o59.2.2.1 o59.2.2.2.1)) (TApiShState.mk o59.2.2.2.2.1 o59.2.2.2.2.2.1 o59.2.2.2.2.2.2.1) o59.2.2.2.2.2.2.2.2.1 o59.2.2.2.2.2.2.2.1), (if vr3.1 < n2 then vr3.1 else n2), 0)
            | .inr y =>
              some y
          else none
        else none
def bookendlaw13_SlicesOwn_l1 : Nat → Int → List TApiEntry → Option (List TApiEntry)
  | 0, _, _ => none
  | fu + 1, i27, v28 =>
    if (decide (i27 < (v28.length : Int))) then
      (ix v28 i27).bind fun e31 =>
      bookendlaw13_SlicesOwn_l1 fu (IntKind.i64.wrap (i27 + 1)) (v28.set i27.toNat (TApiEntry.mk [99, 104, 97, 110, 103, 101, 100] [] false 0))
    else
      some v28
def bookendlaw13_SlicesOwn_l2 : Nat → Int → List Int → Option (List Int)
  | 0, _, _ => none
  | fu + 1, i41, v42 =>
    if (decide (i41 < (v42.length : Int))) then
      (ix v42 i41).bind fun e45 =>
      bookendlaw13_SlicesOwn_l2 fu (IntKind.i64.wrap (i41 + 1)) (v42.set i41.toNat (-1))
    else
      some v42
def bookendlaw13_SlicesOwn (fu : Nat) (runs1 : List (List TApiEntry)) (bottom2 : Bool) (vx3 : T2Uint8) : Option (Bool) :=
  (bookendlaw11_Far fu runs1).bind fun vr4 =>
  if vr4 then
    (bookendlaw13_awake fu).bind fun vr6 =>
    some vr6
  else
    (slices_Begin fu runs1 bottom2).bind fun vr7 =>
    if (!(decide (vr7.2.2 = 0))) then
      (bookendlaw13_awake fu).bind fun vr9 =>
      some vr9
    else
      (slices_Step fu vr7.1 (IntKind.i64.wrap (vx3.e0.tmod 30))).bind fun vr10 =>
      if (!(decide (vr10.2.2 = 0))) then
        some false
      else
        if 2 * ((0 + vr10.1.Out.length) * 48) ≤ 281474976710656 then
          (slices_Step_3 fu vr10.1 1).bind fun vr13 =>
          (slices_Step fu vr10.1 (IntKind.i64.wrap (vx3.e1.tmod 30))).bind fun vr14 =>
          (if (!(decide (vr13.2.2 = 0))) then some true else some (!(decide (vr14.2.2 = 0)))).bind fun b15 =>
          if b15 then
            some false
          else
            if 2 * ((0 + vr14.1.Out.length) * 48) ≤ 281474976710656 then
              (bookendlaw13_SlicesOwn_l1 fu 0 vr13.1.Out).bind fun x26 =>
              (bookendlaw13_SlicesOwn_l2 fu 0 vr13.1.Merge.At).bind fun x40 =>
              (bookendref11_SameEntries fu vr10.1.Out vr10.1.Out).bind fun vr47 =>
              (if vr47 then (bookendref11_SameEntries fu vr14.1.Out vr14.1.Out).bind fun vr48 => some vr48 else some false).bind fun b49 =>
              (if b49 then (slices_Check fu vr10.1).bind fun vr50 => some (decide (vr50 = 0)) else some false).bind fun b51 =>
              (if b51 then (slices_Check fu vr14.1).bind fun vr52 => some (decide (vr52 = 0)) else some false).bind fun b53 =>
              (if b53 then (bookendlaw13_awake fu).bind fun vr54 => some vr54 else some false).bind fun b55 =>
              some b55
            else none
        else none
end Go.T
