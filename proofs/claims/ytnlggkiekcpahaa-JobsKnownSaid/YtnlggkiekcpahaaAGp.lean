/- A text of the proof. -/
import Derived.Test.YtnlggkiekcpahaaAAmZj
namespace Go.T
open Go Go.AM
set_option linter.unusedVariables false
structure TApiEntry where
  Key : List UInt8
  Val : List UInt8
  Dead : Bool
  Seq : Int
  deriving DecidableEq
structure TApiRun where
  Id : Int
  Entries : List TApiEntry
  deriving DecidableEq
structure TApiLvLevel where
  Runs : List TApiRun
  deriving DecidableEq
structure TApiLvLevels where
  B : Int
  Levels : List TApiLvLevel
  deriving DecidableEq
structure TApiLsKey where
  Key : List UInt8
  Done : Bool
  deriving DecidableEq
structure TApiLsTree where
  Keys : List TApiLsKey
  Lose : List Int
  Win : Int
  deriving DecidableEq
structure TApiMgState where
  Runs : List (List TApiEntry)
  At : List Int
  Tree : TApiLsTree
  deriving DecidableEq
structure TApiShState where
  Some : Bool
  Last : List UInt8
  Bottom : Bool
  deriving DecidableEq
structure TApiSlState where
  Merge : TApiMgState
  Shadow : TApiShState
  Out : List TApiEntry
  Steps : Int
  deriving DecidableEq
structure TApiJbJob where
  Level : Int
  Work : TApiSlState
  deriving DecidableEq
structure TApiJbState where
  Levels : TApiLvLevels
  Jobs : List TApiJbJob
  NextId : Int
  deriving DecidableEq
structure TShadowShadowed where
  Key : List UInt8
  Val : List UInt8
  Dead : Bool
  Seq : Int
  deriving DecidableEq
structure TShadowDropped where
  Key : List UInt8
  Val : List UInt8
  Dead : Bool
  Seq : Int
  deriving DecidableEq
structure TShadowKept where
  Key : List UInt8
  Val : List UInt8
  Dead : Bool
  Seq : Int
  deriving DecidableEq
structure T2Uint8 where
  e0 : Int
  e1 : Int
  deriving DecidableEq
def TApiLsKey.eqb (x y : TApiLsKey) : Bool := ((x.Key == y.Key) && ((x.Done == y.Done) && true))
def TApiShState.eqb (x y : TApiShState) : Bool := ((x.Some == y.Some) && ((x.Last == y.Last) && ((x.Bottom == y.Bottom) && true)))
def TApiEntry.eqb (x y : TApiEntry) : Bool := ((x.Key == y.Key) && ((x.Val == y.Val) && ((x.Dead == y.Dead) && ((x.Seq == y.Seq) && true))))
def bookendlaw16_of_l1 (keys3 : List UInt8) (dead2 : Bool) (id1 : Int) : Nat → Int → List TApiEntry → Option (List TApiEntry)
  | 0, _, _ => none
  | fu + 1, i15, v16 =>
    if (decide (i15 < (keys3.length : Int))) then
      if 0 ≤ i15 ∧ i15 ≤ (IntKind.i64.wrap (i15 + 1)) ∧ (IntKind.i64.wrap (i15 + 1)) ≤ (keys3.length : Int) then
        if 2 * ((v16.length + 1) * 48) ≤ 281474976710656 then
          bookendlaw16_of_l1 keys3 dead2 id1 fu (IntKind.i64.wrap (i15 + 1)) (v16 ++ [(TApiEntry.mk ((keys3.drop i15.toNat).take ((IntKind.i64.wrap (i15 + 1)).toNat - i15.toNat)) [] dead2 (IntKind.i64.wrap ((IntKind.i64.wrap ((IntKind.i64.wrap (10 * id1)) + i15)) + 1)))])
        else none
      else none
    else
      some v16
def bookendlaw16_of (fu : Nat) (id1 : Int) (dead2 : Bool) (keys3 : List UInt8) : Option (TApiRun) :=
  (bookendlaw16_of_l1 keys3 dead2 id1 fu 0 []).bind fun x14 =>
  some (TApiRun.mk id1 x14)
def bookendlaw16_Example (fu : Nat) : Option (TApiLvLevels) :=
  (bookendlaw16_of fu 1 false [97, 98]).bind fun vr1 =>
  (bookendlaw16_of fu 2 true [98]).bind fun vr2 =>
  some (TApiLvLevels.mk 2 [(TApiLvLevel.mk [vr1, vr2])])
def keys_Check (fu : Nat) (k1 : List UInt8) : Option (Int) :=
  if (decide (32 < (k1.length : Int))) then
    some 3
  else
    some 0
def entries_Check (fu : Nat) (vx1 : TApiEntry) : Option (Int) :=
  (keys_Check fu vx1.Key).bind fun vr2 =>
  (if (!(decide (vr2 = 0))) then some true else some (decide (64 < (vx1.Val.length : Int)))).bind fun b3 =>
  if b3 then
    some 3
  else
    (if vx1.Dead then some (!(vx1.Val == [])) else some false).bind fun b6 =>
    if b6 then
      some 6
    else
      (if (decide (vx1.Seq < 1)) then some true else some (decide (1000000000 < vx1.Seq))).bind fun b9 =>
      if b9 then
        some 7
      else
        some 0
def entries_CheckList_l1 (l1 : List TApiEntry) : Nat → Int → Option (Sum (Unit) (Int × Int))
  | 0, _ => none
  | fu + 1, v17 =>
    if (decide (v17 < (l1.length : Int))) then
      (ix l1 v17).bind fun e19 =>
      (entries_Check fu e19).bind fun vr20 =>
      if (!(decide (vr20 = 0))) then
        some (.inr (v17, vr20))
      else
        (if (decide (0 < v17)) then (ix l1 (IntKind.i64.wrap (v17 - 1))).bind fun e22 => some (Op.bytesLess e19.Key e22.Key || e19.Key == e22.Key) else some false).bind fun b23 =>
        if b23 then
          some (.inr (v17, 6))
        else
          entries_CheckList_l1 l1 fu (IntKind.i64.wrap (v17 + 1))
    else
      some (.inl ())
def entries_CheckList (fu : Nat) (l1 : List TApiEntry) : Option (Int × Int) :=
  if (decide (5000 < (l1.length : Int))) then
    some ((-1), 3)
  else
    (entries_CheckList_l1 l1 fu 0).bind fun x16 => match x16 with
    | .inl o26 =>
      some (0, 0)
    | .inr y =>
      some y
def runs_Check (fu : Nat) (vr1 : TApiRun) : Option (Int × Int) :=
  (if (decide (vr1.Id < 1)) then some true else some (decide (1000000 < vr1.Id))).bind fun b2 =>
  if b2 then
    some ((-1), 7)
  else
    (entries_CheckList fu vr1.Entries).bind fun vr5 =>
    some (vr5.1, vr5.2)
def levels_fits (fu : Nat) (vr1 : TApiRun) (most2 : Int) : Option (Int) :=
  (runs_Check fu vr1).bind fun vr3 =>
  if (!(decide (vr3.2 = 0))) then
    some vr3.2
  else
    if (decide ((vr1.Entries.length : Int) = 0)) then
      some 4
    else
      if (decide (most2 < (vr1.Entries.length : Int))) then
        some 3
      else
        some 0
def levels_Check_l5 (e169 : TApiLvLevel) (v165 : Int) (l1 : TApiLvLevels) : Nat → Int → Int → (List (Int × Bool)) → Int → Option (Sum (Int × Int × (List (Int × Bool))) (Int × Int × (List (Int × Bool))))
  | 0, _, _, _, _ => none
  | fu + 1, e203, v204, v205, run206 =>
    if (decide (v204 < (e169.Runs.length : Int))) then
      (ix e169.Runs v204).bind fun e208 =>
      if 0 ≤ v165 then
        (levels_fits fu e208 (IntKind.i64.wrap (l1.B * 2 ^ (min v165.toNat (IntKind.bits .i64))))).bind fun vr210 =>
        if (decide (vr210 = 0)) then
          if ((mget v205 e208.Id).getD false) then
            some (.inr (v204, 8, v205))
          else
            if (!(decide (vr210 = 0))) then
              some (.inr (v204, vr210, v205))
            else
              levels_Check_l5 e169 v165 l1 fu vr210 (IntKind.i64.wrap (v204 + 1)) (mset v205 e208.Id true) v204
        else
          if (!(decide (vr210 = 0))) then
            some (.inr (v204, vr210, v205))
          else
            levels_Check_l5 e169 v165 l1 fu vr210 (IntKind.i64.wrap (v204 + 1)) (mset v205 e208.Id true) v204
      else none
    else
      some (.inl (run206, e203, v205))
def levels_Check_l4 (l1 : TApiLvLevels) : Nat → Int → Int → Int → (List (Int × Bool)) → Int → Option (Int × Int × Int × (List (Int × Bool)))
  | 0, _, _, _, _, _ => none
  | fu + 1, run163, e164, v165, v166, level167 =>
    if (decide (v165 < (l1.Levels.length : Int))) then
      (ix l1.Levels v165).bind fun e169 =>
      if (decide (2 < (e169.Runs.length : Int))) then
        some (v165, 0, 3, v166)
      else
        (levels_Check_l5 e169 v165 l1 fu e164 0 v166 0).bind fun x202 => match x202 with
        | .inl o215 =>
          levels_Check_l4 l1 fu o215.1 o215.2.1 (IntKind.i64.wrap (v165 + 1)) o215.2.2 v165
        | .inr o216 =>
          some (v165, o216.1, o216.2.1, o216.2.2)
    else
      some (level167, run163, e164, v166)
def levels_Check (fu : Nat) (l1 : TApiLvLevels) : Option (Int × Int × Int) :=
  (if (decide (l1.B < 1)) then some true else some (decide (16 < l1.B))).bind fun b2 =>
  if b2 then
    some (0, 0, 7)
  else
    if (decide (12 < (l1.Levels.length : Int))) then
      some (0, 0, 3)
    else
      (levels_Check_l4 l1 fu 0 0 0 ([] : List (Int × Bool)) 0).bind fun x162 =>
      if (!(decide (x162.2.2.1 = 0))) then
        some (x162.1, x162.2.1, x162.2.2.1)
      else
        (if (decide (0 < (l1.Levels.length : Int))) then (ix l1.Levels (IntKind.i64.wrap ((l1.Levels.length : Int) - 1))).bind fun e218 => some (decide ((e218.Runs.length : Int) = 0)) else some false).bind fun b219 =>
        if b219 then
          some ((IntKind.i64.wrap ((l1.Levels.length : Int) - 1)), 0, 6)
        else
          some (0, 0, 0)
def jobs_greatest_l4 (e34 : TApiLvLevel) : Nat → Int → Int → Option (Int)
  | 0, _, _ => none
  | fu + 1, best42, v43 =>
    if (decide (v43 < (e34.Runs.length : Int))) then
      (ix e34.Runs v43).bind fun e45 =>
      jobs_greatest_l4 e34 fu (if best42 < e45.Id then e45.Id else best42) (IntKind.i64.wrap (v43 + 1))
    else
      some best42
def jobs_greatest_l3 (l1 : TApiLvLevels) : Nat → Int → Int → Option (Int)
  | 0, _, _ => none
  | fu + 1, best31, v32 =>
    if (decide (v32 < (l1.Levels.length : Int))) then
      (ix l1.Levels v32).bind fun e34 =>
      (jobs_greatest_l4 e34 fu best31 0).bind fun x41 =>
      jobs_greatest_l3 l1 fu x41 (IntKind.i64.wrap (v32 + 1))
    else
      some best31
def jobs_greatest (fu : Nat) (l1 : TApiLvLevels) : Option (Int) :=
  (jobs_greatest_l3 l1 fu 0 0).bind fun x30 =>
  some x30
def jobs_due (fu : Nat) (l1 : TApiLvLevels) : Option (Int × List TApiLvLevel) :=
  some (l1.B, l1.Levels)
def jobs_lowest (fu : Nat) (l1 : TApiLvLevels) (level2 : Int) : Option (Bool) :=
  some (decide (level2 = (IntKind.i64.wrap ((l1.Levels.length : Int) - 1))))
def merge_check_l1 (runs1 : List (List TApiEntry)) : Nat → Int → Option (Sum (Unit) (Int × Int))
  | 0, _ => none
  | fu + 1, v14 =>
    if (decide (v14 < (runs1.length : Int))) then
      (ix runs1 v14).bind fun e16 =>
      (entries_CheckList fu e16).bind fun vr17 =>
      if (!(decide (vr17.2 = 0))) then
        some (.inr (v14, vr17.2))
      else
        merge_check_l1 runs1 fu (IntKind.i64.wrap (v14 + 1))
    else
      some (.inl ())
def merge_check (fu : Nat) (runs1 : List (List TApiEntry)) : Option (Int × Int) :=
  if (decide ((runs1.length : Int) = 0)) then
    some ((-1), 6)
  else
    if (decide (32 < (runs1.length : Int))) then
      some ((-1), 3)
    else
      (merge_check_l1 runs1 fu 0).bind fun x13 => match x13 with
      | .inl o19 =>
        some (0, 0)
      | .inr y =>
        some y
def slices_Clone_apiEntry (fu : Nat) (vs1 : List (List TApiEntry)) : Option (List (List TApiEntry)) :=
  if vs1.isEmpty then
    some []
  else
    if 2 * ((0 + vs1.length) * 24) ≤ 281474976710656 then
      some vs1
    else none
def merge_next (fu : Nat) (l1 : List TApiEntry) (vat2 : Int) : Option (TApiLsKey) :=
  if (decide (vat2 = (l1.length : Int))) then
    some (TApiLsKey.mk [] true)
  else
    (ix l1 vat2).bind fun e4 =>
    some (TApiLsKey.mk e4.Key false)
def loser_check_1 (fu : Nat) (k1 : TApiLsKey) : Option (Bool) :=
  (if k1.Done then some (!(k1.Key == [])) else some false).bind fun b2 =>
  some b2
def slices_IndexFunc_apiLsKey_l1 (vs1 : List TApiLsKey) : Nat → Int → Option (Sum (Unit) (Int))
  | 0, _ => none
  | fu + 1, v12 =>
    if (decide (v12 < (vs1.length : Int))) then
      (ix vs1 v12).bind fun e14 =>
      (loser_check_1 fu e14).bind fun vr15 =>
      if vr15 then
        some (.inr v12)
      else
        slices_IndexFunc_apiLsKey_l1 vs1 fu (IntKind.i64.wrap (v12 + 1))
    else
      some (.inl ())
def slices_IndexFunc_apiLsKey (fu : Nat) (vs1 : List TApiLsKey) : Option (Int) :=
  (slices_IndexFunc_apiLsKey_l1 vs1 fu 0).bind fun x11 => match x11 with
  | .inl o17 =>
    some (-1)
  | .inr y =>
    some y
def slices_ContainsFunc_apiLsKey (fu : Nat) (vs1 : List TApiLsKey) : Option (Bool) :=
  (slices_IndexFunc_apiLsKey fu vs1).bind fun vr2 =>
  some (decide (0 ≤ vr2))
def loser_check (fu : Nat) (keys1 : List TApiLsKey) : Option (Int) :=
  if (decide ((keys1.length : Int) = 0)) then
    some 6
  else
    if (decide (32 < (keys1.length : Int))) then
      some 3
    else
      (slices_ContainsFunc_apiLsKey fu keys1).bind fun vr4 =>
      if vr4 then
        some 2
      else
        some 0
def loser_judge (fu : Nat) (keys1 : List TApiLsKey) : Option (List TApiLsKey) :=
  some keys1
def slices_Clone_apiLsKey (fu : Nat) (vs1 : List TApiLsKey) : Option (List TApiLsKey) :=
  if vs1.isEmpty then
    some []
  else
    if 2 * ((0 + vs1.length) * 24) ≤ 281474976710656 then
      some vs1
    else none
def loser_judge_1 (fu : Nat) (p1 : Int) (q2 : Int) (p3 : List TApiLsKey) : Option (Bool) :=
  (ix p3 p1).bind fun e4 =>
  (ix p3 q2).bind fun e5 =>
  if (!(e4.Done == e5.Done)) then
    some e5.Done
  else
    if (!(e4.Key == e5.Key)) then
      some (Op.bytesLess e4.Key e5.Key)
    else
      some (decide (p1 < q2))
def loser_play_l1 (keys1 : List TApiLsKey) (vr2 : List TApiLsKey) : Nat → Int → List Int → List Int → Option (List Int × List Int)
  | 0, _, _, _ => none
  | fu + 1, i34, players35, v36 =>
    if (decide (0 < i34)) then
      if (decide ((keys1.length : Int) ≤ i34)) then
        (ix players35 i34).bind fun e41 =>
        loser_play_l1 keys1 vr2 fu (IntKind.i64.wrap (i34 - 1)) (players35.set i34.toNat (IntKind.i64.wrap (i34 - (keys1.length : Int)))) v36
      else
        (ix players35 (IntKind.i64.wrap (2 * i34))).bind fun e42 =>
        (ix players35 (IntKind.i64.wrap ((IntKind.i64.wrap (2 * i34)) + 1))).bind fun e43 =>
        (loser_judge_1 fu e42 e43 vr2).bind fun vr44 =>
        if (!vr44) then
          (ix players35 i34).bind fun e46 =>
          (ix v36 i34).bind fun e47 =>
          loser_play_l1 keys1 vr2 fu (IntKind.i64.wrap (i34 - 1)) (players35.set i34.toNat e43) (v36.set i34.toNat e42)
        else
          (ix players35 i34).bind fun e48 =>
          (ix v36 i34).bind fun e49 =>
          loser_play_l1 keys1 vr2 fu (IntKind.i64.wrap (i34 - 1)) (players35.set i34.toNat e42) (v36.set i34.toNat e43)
    else
      some (players35, v36)
def loser_play (fu : Nat) (keys1 : List TApiLsKey) : Option (TApiLsTree) :=
  (loser_judge fu keys1).bind fun vr2 =>
  if 0 ≤ (IntKind.i64.wrap (2 * (keys1.length : Int))) ∧ (IntKind.i64.wrap (2 * (keys1.length : Int))) ≤ (IntKind.i64.wrap (2 * (keys1.length : Int))) ∧ (IntKind.i64.wrap (2 * (keys1.length : Int))) ≤ 9223372036854775807 ∧ 8 * (IntKind.i64.wrap (2 * (keys1.length : Int))) ≤ 281474976710656 then
    (slices_Clone_apiLsKey fu keys1).bind fun vr4 =>
    if 0 ≤ (keys1.length : Int) ∧ (keys1.length : Int) ≤ (keys1.length : Int) ∧ (keys1.length : Int) ≤ 9223372036854775807 ∧ 8 * (keys1.length : Int) ≤ 281474976710656 then
      (loser_play_l1 keys1 vr2 fu (IntKind.i64.wrap ((IntKind.i64.wrap (2 * (keys1.length : Int))) - 1)) (List.replicate (IntKind.i64.wrap (2 * (keys1.length : Int))).toNat 0 : List Int) (List.replicate keys1.length 0 : List Int)).bind fun x33 =>
      (ix x33.1 1).bind fun e52 =>
      some (TApiLsTree.mk vr4 x33.2 e52)
    else none
  else none
def loser_Build (fu : Nat) (keys1 : List TApiLsKey) : Option (TApiLsTree × Int) :=
  (loser_check fu keys1).bind fun vr2 =>
  if (!(decide (vr2 = 0))) then
    some ((TApiLsTree.mk [] [] 0), vr2)
  else
    (loser_play fu keys1).bind fun vr4 =>
    some (vr4, 0)
def merge_tree_l1 (runs1 : List (List TApiEntry)) (vat2 : List Int) : Nat → Int → List TApiLsKey → Option (List TApiLsKey)
  | 0, _, _ => none
  | fu + 1, v18, keys19 =>
    if (decide (v18 < (runs1.length : Int))) then
      (ix runs1 v18).bind fun e22 =>
      (ix vat2 v18).bind fun e23 =>
      (merge_next fu e22 e23).bind fun vr24 =>
      (ix keys19 v18).bind fun e25 =>
      merge_tree_l1 runs1 vat2 fu (IntKind.i64.wrap (v18 + 1)) (keys19.set v18.toNat vr24)
    else
      some keys19
def merge_tree (fu : Nat) (runs1 : List (List TApiEntry)) (vat2 : List Int) : Option (TApiLsTree) :=
  if 0 ≤ (runs1.length : Int) ∧ (runs1.length : Int) ≤ (runs1.length : Int) ∧ (runs1.length : Int) ≤ 9223372036854775807 ∧ 24 * (runs1.length : Int) ≤ 281474976710656 then
    (merge_tree_l1 runs1 vat2 fu 0 (List.replicate runs1.length (TApiLsKey.mk [] false) : List TApiLsKey)).bind fun x17 =>
    (loser_Build fu x17).bind fun vr27 =>
    some vr27.1
  else none
def merge_Begin (fu : Nat) (runs1 : List (List TApiEntry)) : Option (TApiMgState × Int × Int) :=
  (merge_check fu runs1).bind fun vr2 =>
  if (!(decide (vr2.2 = 0))) then
    some ((TApiMgState.mk [] [] (TApiLsTree.mk [] [] 0)), vr2.1, vr2.2)
  else
    if 0 ≤ (runs1.length : Int) ∧ (runs1.length : Int) ≤ (runs1.length : Int) ∧ (runs1.length : Int) ≤ 9223372036854775807 ∧ 8 * (runs1.length : Int) ≤ 281474976710656 then
      (slices_Clone_apiEntry fu runs1).bind fun vr5 =>
      (merge_tree fu runs1 (List.replicate runs1.length 0 : List Int)).bind fun vr6 =>
      some ((TApiMgState.mk vr5 (List.replicate runs1.length 0 : List Int) vr6), 0, 0)
    else none
def shadow_Begin (fu : Nat) (bottom1 : Bool) : Option (TApiShState) :=
  some (TApiShState.mk false [] bottom1)
def slices_Begin (fu : Nat) (runs1 : List (List TApiEntry)) (bottom2 : Bool) : Option (TApiSlState × Int × Int) :=
  (merge_Begin fu runs1).bind fun vr3 =>
  if (!(decide (vr3.2.2 = 0))) then
    some ((TApiSlState.mk (TApiMgState.mk [] [] (TApiLsTree.mk [] [] 0)) (TApiShState.mk false [] false) [] 0), vr3.2.1, vr3.2.2)
  else
    (shadow_Begin fu bottom2).bind fun vr5 =>
    some ((TApiSlState.mk vr3.1 vr5 [] 0), 0, 0)
def jobs_begun (fu : Nat) (l1 : TApiLvLevels) (level2 : Int) (bottom3 : Bool) : Option (TApiJbJob) :=
  (ix l1.Levels level2).bind fun e4 =>
  (ix e4.Runs 1).bind fun e5 =>
  (ix e4.Runs 0).bind fun e6 =>
  (slices_Begin fu [e5.Entries, e6.Entries] bottom3).bind fun vr7 =>
  some (TApiJbJob.mk level2 vr7.1)
def jobs_Of_l1 (vr5 : Int × List TApiLvLevel) (l1 : TApiLvLevels) : Nat → Int → List TApiJbJob → Option (List TApiJbJob)
  | 0, _, _ => none
  | fu + 1, level27, v28 =>
    if (decide (level27 < (vr5.2.length : Int))) then
      (ix vr5.2 level27).bind fun e31 =>
      if (decide ((e31.Runs.length : Int) = 2)) then
        (jobs_lowest fu l1 level27).bind fun vr33 =>
        (jobs_begun fu l1 level27 vr33).bind fun vr34 =>
        if 2 * ((v28.length + 1) * 176) ≤ 281474976710656 then
          jobs_Of_l1 vr5 l1 fu (IntKind.i64.wrap (level27 + 1)) (v28 ++ [vr34])
        else none
      else
        jobs_Of_l1 vr5 l1 fu (IntKind.i64.wrap (level27 + 1)) v28
    else
      some v28
def jobs_Of (fu : Nat) (l1 : TApiLvLevels) : Option (TApiJbState × Int) :=
  (levels_Check fu l1).bind fun vr2 =>
  if (!(decide (vr2.2.2 = 0))) then
    some ((TApiJbState.mk (TApiLvLevels.mk 0 []) [] 0), vr2.2.2)
  else
    (jobs_greatest fu l1).bind fun vr4 =>
    (jobs_due fu l1).bind fun vr5 =>
    (jobs_Of_l1 vr5 l1 fu 0 []).bind fun x26 =>
    some ((TApiJbState.mk l1 x26 (IntKind.i64.wrap (vr4 + 1))), 0)
def slices_Collect_int_l1 (seq2 : List TApiLvLevel) : Nat → Int → List Int → Option (List Int)
  | 0, _, _ => none
  | fu + 1, v18, v19 =>
    if (decide (v18 < (seq2.length : Int))) then
      (ix seq2 v18).bind fun e22 =>
      if (decide ((e22.Runs.length : Int) = 2)) then
        if 2 * ((v19.length + 1) * 8) ≤ 281474976710656 then
          slices_Collect_int_l1 seq2 fu (IntKind.i64.wrap (v18 + 1)) (v19 ++ [v18])
        else none
      else
        slices_Collect_int_l1 seq2 fu (IntKind.i64.wrap (v18 + 1)) v19
    else
      some v19
def slices_Collect_int (fu : Nat) (seq1 : Int) (seq2 : List TApiLvLevel) : Option (List Int) :=
  (slices_Collect_int_l1 seq2 fu 0 []).bind fun x17 =>
  some x17
def slices_Equal_apiLsKey_l1 (s11 : List TApiLsKey) (s22 : List TApiLsKey) : Nat → Int → Option (Sum (Unit) (Bool))
  | 0, _ => none
  | fu + 1, v14 =>
    if (decide (v14 < (s11.length : Int))) then
      (ix s11 v14).bind fun e16 =>
      (ix s22 v14).bind fun e17 =>
      if (!(TApiLsKey.eqb e16 e17)) then
        some (.inr false)
      else
        slices_Equal_apiLsKey_l1 s11 s22 fu (IntKind.i64.wrap (v14 + 1))
    else
      some (.inl ())
def slices_Equal_apiLsKey (fu : Nat) (s11 : List TApiLsKey) (s22 : List TApiLsKey) : Option (Bool) :=
  if (!(decide ((s11.length : Int) = (s22.length : Int)))) then
    some false
  else
    (slices_Equal_apiLsKey_l1 s11 s22 fu 0).bind fun x13 => match x13 with
    | .inl o19 =>
      some true
    | .inr y =>
      some y
def slices_Equal_int_l1 (s11 : List Int) (s22 : List Int) : Nat → Int → Option (Sum (Unit) (Bool))
  | 0, _ => none
  | fu + 1, v14 =>
    if (decide (v14 < (s11.length : Int))) then
      (ix s11 v14).bind fun e16 =>
      (ix s22 v14).bind fun e17 =>
      if (!(decide (e16 = e17))) then
        some (.inr false)
      else
        slices_Equal_int_l1 s11 s22 fu (IntKind.i64.wrap (v14 + 1))
    else
      some (.inl ())
def slices_Equal_int (fu : Nat) (s11 : List Int) (s22 : List Int) : Option (Bool) :=
  if (!(decide ((s11.length : Int) = (s22.length : Int)))) then
    some false
  else
    (slices_Equal_int_l1 s11 s22 fu 0).bind fun x13 => match x13 with
    | .inl o19 =>
      some true
    | .inr y =>
      some y
def merge_alike (fu : Nat) (a1 : TApiLsTree) (b2 : TApiLsTree) : Option (Bool) :=
  (if (decide (a1.Win = b2.Win)) then (slices_Equal_apiLsKey fu a1.Keys b2.Keys).bind fun vr3 => some vr3 else some false).bind fun b4 =>
  (if b4 then (slices_Equal_int fu a1.Lose b2.Lose).bind fun vr5 => some vr5 else some false).bind fun b6 =>
  some b6
def loser_Check_l1 (vr5 : TApiLsTree) (t1 : TApiLsTree) : Nat → Int → Option (Sum (Unit) (Int × Int))
  | 0, _ => none
  | fu + 1, v16 =>
    if (decide (v16 < (vr5.Lose.length : Int))) then
      (ix vr5.Lose v16).bind fun e18 =>
      (ix t1.Lose v16).bind fun e19 =>
      if (!(decide (e19 = e18))) then
        some (.inr (v16, 6))
      else
        loser_Check_l1 vr5 t1 fu (IntKind.i64.wrap (v16 + 1))
    else
      some (.inl ())
def loser_Check (fu : Nat) (t1 : TApiLsTree) : Option (Int × Int) :=
  (loser_check fu t1.Keys).bind fun vr2 =>
  if (!(decide (vr2 = 0))) then
    some (0, vr2)
  else
    if (!(decide ((t1.Lose.length : Int) = (t1.Keys.length : Int)))) then
      some (0, 6)
    else
      (loser_play fu t1.Keys).bind fun vr5 =>
      (loser_Check_l1 vr5 t1 fu 0).bind fun x15 => match x15 with
      | .inl o21 =>
        if (!(decide (t1.Win = vr5.Win))) then
          some (0, 6)
        else
          some (0, 0)
      | .inr y =>
        some y
def loser_open (fu : Nat) (t1 : TApiLsTree) : Option (Int) :=
  (loser_Check fu t1).bind fun vr2 =>
  if (!(decide (vr2.2 = 0))) then
    some vr2.2
  else
    (ix t1.Keys t1.Win).bind fun e4 =>
    if e4.Done then
      some 12
    else
      some 0
def loser_Winner (fu : Nat) (t1 : TApiLsTree) : Option (Int × List UInt8 × Int) :=
  (loser_open fu t1).bind fun vr2 =>
  if (!(decide (vr2 = 0))) then
    some (0, [], vr2)
  else
    (ix t1.Keys t1.Win).bind fun e4 =>
    some (t1.Win, e4.Key, 0)
def cmp_isNaN_string (fu : Nat) (vx1 : List UInt8) : Option (Bool) :=
  some (!(vx1 == vx1))
def cmp_Compare_string (fu : Nat) (vx1 : List UInt8) (y2 : List UInt8) : Option (Int) :=
  (cmp_isNaN_string fu vx1).bind fun vr3 =>
  (cmp_isNaN_string fu y2).bind fun vr4 =>
  if vr3 then
    if vr4 then
      some 0
    else
      some (-1)
  else
    if vr4 then
      some 1
    else
      if (Op.bytesLess vx1 y2) then
        some (-1)
      else
        if (!(Op.bytesLess vx1 y2 || vx1 == y2)) then
          some 1
        else
          some 0
def cmp_isNaN_int (fu : Nat) (vx1 : Int) : Option (Bool) :=
  some (!(decide (vx1 = vx1)))
def cmp_Compare_int (fu : Nat) (vx1 : Int) (y2 : Int) : Option (Int) :=
  (cmp_isNaN_int fu vx1).bind fun vr3 =>
  (cmp_isNaN_int fu y2).bind fun vr4 =>
  if vr3 then
    if vr4 then
      some 0
    else
      some (-1)
  else
    if vr4 then
      some 1
    else
      if (decide (vx1 < y2)) then
        some (-1)
      else
        if (decide (y2 < vx1)) then
          some 1
        else
          some 0
def cmp_Or_int_l1 (vals1 : List Int) : Nat → Int → Option (Sum (Unit) (Int))
  | 0, _ => none
  | fu + 1, v10 =>
    if (decide (v10 < (vals1.length : Int))) then
      (ix vals1 v10).bind fun e12 =>
      if (!(decide (e12 = 0))) then
        some (.inr e12)
      else
        cmp_Or_int_l1 vals1 fu (IntKind.i64.wrap (v10 + 1))
    else
      some (.inl ())
def cmp_Or_int (fu : Nat) (vals1 : List Int) : Option (Int) :=
  (cmp_Or_int_l1 vals1 fu 0).bind fun x9 => match x9 with
  | .inl o14 =>
    some 0
  | .inr y =>
    some y
def merge_Check_l1 (vs1 : TApiMgState) : Nat → Int → Option (Sum (Unit) (Int × Int))
  | 0, _ => none
  | fu + 1, v19 =>
    if (decide (v19 < (vs1.At.length : Int))) then
      (ix vs1.At v19).bind fun e21 =>
      (if (decide (e21 < 0)) then some true else (ix vs1.Runs v19).bind fun e22 => some (decide ((e22.length : Int) < e21))).bind fun b23 =>
      if b23 then
        some (.inr (v19, 6))
      else
        merge_Check_l1 vs1 fu (IntKind.i64.wrap (v19 + 1))
    else
      some (.inl ())
def merge_Check_l2 (vs1 : TApiMgState) (vr30 : Int × List UInt8 × Int) : Nat → Int → Option (Sum (Unit) (Int × Int))
  | 0, _ => none
  | fu + 1, v54 =>
    if (decide (v54 < (vs1.At.length : Int))) then
      (ix vs1.At v54).bind fun e56 =>
      (if (decide (0 < e56)) then (ix vs1.Runs v54).bind fun e57 => (ix e57 (IntKind.i64.wrap (e56 - 1))).bind fun e58 => (cmp_Compare_string fu e58.Key vr30.2.1).bind fun vr59 => (cmp_Compare_int fu v54 vr30.1).bind fun vr60 => (cmp_Or_int fu [vr59, vr60]).bind fun vr61 => some (decide (0 < vr61)) else some false).bind fun b62 =>
      if b62 then
        some (.inr (vr30.1, 6))
      else
        merge_Check_l2 vs1 vr30 fu (IntKind.i64.wrap (v54 + 1))
    else
      some (.inl ())
def merge_Check (fu : Nat) (vs1 : TApiMgState) : Option (Int × Int) :=
  (merge_check fu vs1.Runs).bind fun vr2 =>
  if (!(decide (vr2.2 = 0))) then
    some (vr2.1, vr2.2)
  else
    if (!(decide ((vs1.At.length : Int) = (vs1.Runs.length : Int)))) then
      some ((-1), 6)
    else
      (merge_Check_l1 vs1 fu 0).bind fun x18 => match x18 with
      | .inl o26 =>
        (merge_tree fu vs1.Runs vs1.At).bind fun vr27 =>
        (merge_alike fu vs1.Tree vr27).bind fun vr28 =>
        if (!vr28) then
          some ((-1), 6)
        else
          (loser_Winner fu vs1.Tree).bind fun vr30 =>
          if (!(decide (vr30.2.2 = 0))) then
            some (0, 0)
          else
            (merge_Check_l2 vs1 vr30 fu 0).bind fun x53 => match x53 with
            | .inl o65 =>
              some (0, 0)
            | .inr y =>
              some y
      | .inr y =>
        some y
def merge_reader_peek (fu : Nat) (vr1 : List (List TApiEntry)) (vr2 : List Int) (vr3 : List TApiLsKey) (vr4 : List Int) (vr5 : Int) : Option (TApiEntry × Int × Int) :=
  (loser_Winner fu (TApiLsTree.mk vr3 vr4 vr5)).bind fun vr6 =>
  if (!(decide (vr6.2.2 = 0))) then
    some ((TApiEntry.mk [] [] false 0), 0, vr6.2.2)
  else
    (ix vr1 vr6.1).bind fun e8 =>
    (ix vr2 vr6.1).bind fun e9 =>
    (ix e8 e9).bind fun e10 =>
    some (e10, vr6.1, 0)
def slices_Clone_apiLsKey_2 (fu : Nat) (vs1 : List TApiLsKey) : Option (List TApiLsKey) :=
  if vs1.isEmpty then
    some []
  else
    if 2 * ((0 + vs1.length) * 24) ≤ 281474976710656 then
      some vs1
    else none
def loser_play_3_l1 (keys1 : List TApiLsKey) (vr2 : List TApiLsKey) : Nat → Int → List Int → List Int → Option (List Int × List Int)
  | 0, _, _, _ => none
  | fu + 1, i34, players35, v36 =>
    if (decide (0 < i34)) then
      if (decide ((keys1.length : Int) ≤ i34)) then
        (ix players35 i34).bind fun e41 =>
        loser_play_3_l1 keys1 vr2 fu (IntKind.i64.wrap (i34 - 1)) (players35.set i34.toNat (IntKind.i64.wrap (i34 - (keys1.length : Int)))) v36
      else
        (ix players35 (IntKind.i64.wrap (2 * i34))).bind fun e42 =>
        (ix players35 (IntKind.i64.wrap ((IntKind.i64.wrap (2 * i34)) + 1))).bind fun e43 =>
        (loser_judge_1 fu e42 e43 vr2).bind fun vr44 =>
        if (!vr44) then
          (ix players35 i34).bind fun e46 =>
          (ix v36 i34).bind fun e47 =>
          loser_play_3_l1 keys1 vr2 fu (IntKind.i64.wrap (i34 - 1)) (players35.set i34.toNat e43) (v36.set i34.toNat e42)
        else
          (ix players35 i34).bind fun e48 =>
          (ix v36 i34).bind fun e49 =>
          loser_play_3_l1 keys1 vr2 fu (IntKind.i64.wrap (i34 - 1)) (players35.set i34.toNat e42) (v36.set i34.toNat e43)
    else
      some (players35, v36)
def loser_play_3 (fu : Nat) (keys1 : List TApiLsKey) : Option (TApiLsTree) :=
  (loser_judge fu keys1).bind fun vr2 =>
  if 0 ≤ (IntKind.i64.wrap (2 * (keys1.length : Int))) ∧ (IntKind.i64.wrap (2 * (keys1.length : Int))) ≤ (IntKind.i64.wrap (2 * (keys1.length : Int))) ∧ (IntKind.i64.wrap (2 * (keys1.length : Int))) ≤ 9223372036854775807 ∧ 8 * (IntKind.i64.wrap (2 * (keys1.length : Int))) ≤ 281474976710656 then
    (slices_Clone_apiLsKey_2 fu keys1).bind fun vr4 =>
    if 0 ≤ (keys1.length : Int) ∧ (keys1.length : Int) ≤ (keys1.length : Int) ∧ (keys1.length : Int) ≤ 9223372036854775807 ∧ 8 * (keys1.length : Int) ≤ 281474976710656 then
      (loser_play_3_l1 keys1 vr2 fu (IntKind.i64.wrap ((IntKind.i64.wrap (2 * (keys1.length : Int))) - 1)) (List.replicate (IntKind.i64.wrap (2 * (keys1.length : Int))).toNat 0 : List Int) (List.replicate keys1.length 0 : List Int)).bind fun x33 =>
      (ix x33.1 1).bind fun e52 =>
      some (TApiLsTree.mk vr4 x33.2 e52)
    else none
  else none
def loser_Build_3 (fu : Nat) (keys1 : List TApiLsKey) : Option (TApiLsTree × Int) :=
  (loser_check fu keys1).bind fun vr2 =>
  if (!(decide (vr2 = 0))) then
    some ((TApiLsTree.mk [] [] 0), vr2)
  else
    (loser_play_3 fu keys1).bind fun vr4 =>
    some (vr4, 0)
def merge_tree_2_l1 (runs1 : List (List TApiEntry)) (vat2 : List Int) : Nat → Int → List TApiLsKey → Option (List TApiLsKey)
  | 0, _, _ => none
  | fu + 1, v18, keys19 =>
    if (decide (v18 < (runs1.length : Int))) then
      (ix runs1 v18).bind fun e22 =>
      (ix vat2 v18).bind fun e23 =>
      (merge_next fu e22 e23).bind fun vr24 =>
      (ix keys19 v18).bind fun e25 =>
      merge_tree_2_l1 runs1 vat2 fu (IntKind.i64.wrap (v18 + 1)) (keys19.set v18.toNat vr24)
    else
      some keys19
def merge_tree_2 (fu : Nat) (runs1 : List (List TApiEntry)) (vat2 : List Int) : Option (TApiLsTree) :=
  if 0 ≤ (runs1.length : Int) ∧ (runs1.length : Int) ≤ (runs1.length : Int) ∧ (runs1.length : Int) ≤ 9223372036854775807 ∧ 24 * (runs1.length : Int) ≤ 281474976710656 then
    (merge_tree_2_l1 runs1 vat2 fu 0 (List.replicate runs1.length (TApiLsKey.mk [] false) : List TApiLsKey)).bind fun x17 =>
    (loser_Build_3 fu x17).bind fun vr27 =>
    some vr27.1
  else none
def merge_Begin_2 (fu : Nat) (runs1 : List (List TApiEntry)) : Option (TApiMgState × Int × Int) :=
  (merge_check fu runs1).bind fun vr2 =>
  if (!(decide (vr2.2 = 0))) then
    some ((TApiMgState.mk [] [] (TApiLsTree.mk [] [] 0)), vr2.1, vr2.2)
  else
    if 0 ≤ (runs1.length : Int) ∧ (runs1.length : Int) ≤ (runs1.length : Int) ∧ (runs1.length : Int) ≤ 9223372036854775807 ∧ 8 * (runs1.length : Int) ≤ 281474976710656 then
      (slices_Clone_apiEntry fu runs1).bind fun vr5 =>
      (merge_tree_2 fu runs1 (List.replicate runs1.length 0 : List Int)).bind fun vr6 =>
      some ((TApiMgState.mk vr5 (List.replicate runs1.length 0 : List Int) vr6), 0, 0)
    else none
def slices_Clone_int_2 (fu : Nat) (vs1 : List Int) : Option (List Int) :=
  if vs1.isEmpty then
    some []
  else
    if 2 * ((0 + vs1.length) * 8) ≤ 281474976710656 then
      some vs1
    else none
def loser_Replace_l1 (vr14 : List TApiLsKey) : Nat → Int → Int → Int → List Int → Option (Int × Int × List Int)
  | 0, _, _, _, _ => none
  | fu + 1, games29, node30, u31, v32 =>
    if (decide ((IntKind.i64.wrap (node30.tdiv 2)) = 0)) then
      some (games29, u31, v32)
    else
      (ix v32 (IntKind.i64.wrap (node30.tdiv 2))).bind fun e35 =>
      (loser_judge_1 fu e35 u31 vr14).bind fun vr36 =>
      if vr36 then
        loser_Replace_l1 vr14 fu (IntKind.i64.wrap (games29 + 1)) (IntKind.i64.wrap (node30.tdiv 2)) e35 (v32.set ((IntKind.i64.wrap (node30.tdiv 2)).toNat) u31)
      else
        loser_Replace_l1 vr14 fu (IntKind.i64.wrap (games29 + 1)) (IntKind.i64.wrap (node30.tdiv 2)) u31 v32
def loser_Replace (fu : Nat) (t1 : TApiLsTree) (k2 : TApiLsKey) : Option (TApiLsTree × Int × Int) :=
  (loser_open fu t1).bind fun vr3 =>
  if (!(decide (vr3 = 0))) then
    some ((TApiLsTree.mk [] [] 0), 0, vr3)
  else
    (loser_check fu [k2]).bind fun vr5 =>
    if (!(decide (vr5 = 0))) then
      some ((TApiLsTree.mk [] [] 0), 0, vr5)
    else
      (if (!k2.Done) then (ix t1.Keys t1.Win).bind fun e7 => some (Op.bytesLess k2.Key e7.Key) else some false).bind fun b8 =>
      if b8 then
        some ((TApiLsTree.mk [] [] 0), 0, 6)
      else
        (slices_Clone_apiLsKey_2 fu t1.Keys).bind fun vr11 =>
        (slices_Clone_int_2 fu t1.Lose).bind fun vr12 =>
        (ix vr11 t1.Win).bind fun e13 =>
        (loser_judge fu (vr11.set t1.Win.toNat k2)).bind fun vr14 =>
        (loser_Replace_l1 vr14 fu 0 (IntKind.i64.wrap (((vr11.set t1.Win.toNat k2).length : Int) + t1.Win)) t1.Win vr12).bind fun x28 =>
        some ((TApiLsTree.mk (vr11.set t1.Win.toNat k2) x28.2.2 x28.2.1), x28.1, 0)
def merge_All_l1 (vr2 : TApiMgState × Int × Int) : Nat → List Int → List TApiLsKey → List Int → Int → List TApiEntry → List Int → Option (List Int × List TApiLsKey × List Int × Int × List TApiEntry × List Int)
  | 0, _, _, _, _, _, _ => none
  | fu + 1, v38, v39, v40, v41, v42, v43 =>
    (merge_reader_peek fu vr2.1.Runs v38 v39 v40 v41).bind fun vr47 =>
    if (!(decide (vr47.2.2 = 0))) then
      some (v38, v39, v40, v41, v42, v43)
    else
      if 2 * ((v42.length + 1) * 48) ≤ 281474976710656 then
        if 2 * ((v43.length + 1) * 8) ≤ 281474976710656 then
          (ix v38 vr47.2.1).bind fun e51 =>
          (ix vr2.1.Runs vr47.2.1).bind fun e52 =>
          (ix (v38.set vr47.2.1.toNat (IntKind.i64.wrap (e51 + 1))) vr47.2.1).bind fun e53 =>
          (merge_next fu e52 e53).bind fun vr54 =>
          (loser_Replace fu (TApiLsTree.mk v39 v40 v41) vr54).bind fun vr55 =>
          merge_All_l1 vr2 fu (v38.set vr47.2.1.toNat (IntKind.i64.wrap (e51 + 1))) vr55.1.Keys vr55.1.Lose vr55.1.Win (v42 ++ [vr47.1]) (v43 ++ [vr47.2.1])
        else none
      else none
def merge_All (fu : Nat) (runs1 : List (List TApiEntry)) : Option (List TApiEntry × List Int × Int) :=
  (merge_Begin_2 fu runs1).bind fun vr2 =>
  if (!(decide (vr2.2.2 = 0))) then
    some ([], [], vr2.2.2)
  else
    (merge_All_l1 vr2 fu vr2.1.At vr2.1.Tree.Keys vr2.1.Tree.Lose vr2.1.Tree.Win [] []).bind fun x37 =>
    some (x37.2.2.2.2.1, x37.2.2.2.2.2, 0)
def shadow_Check (fu : Nat) (vs1 : TApiShState) : Option (Int) :=
  (keys_Check fu vs1.Last).bind fun vr2 =>
  if (!(decide (vr2 = 0))) then
    some vr2
  else
    (if (!vs1.Some) then some (!(vs1.Last == [])) else some false).bind fun b4 =>
    if b4 then
      some 6
    else
      some 0
def shadow_kept_entry (fu : Nat) (vx1 : TShadowKept) : Option (TApiEntry) :=
  some (TApiEntry.mk vx1.Key vx1.Val vx1.Dead vx1.Seq)
def shadow_Filter_l1 (l1 : List TApiEntry) (vr4 : TApiShState) : Nat → Int → Bool → List UInt8 → List TApiEntry → Option (Sum (Bool × List UInt8 × List TApiEntry) (List TApiEntry × Int × Int))
  | 0, _, _, _, _ => none
  | fu + 1, v60, v61, v62, v63 =>
    if (decide (v60 < (l1.length : Int))) then
      (ix l1 v60).bind fun e66 =>
      (shadow_Check fu (TApiShState.mk v61 v62 vr4.Bottom)).bind fun vr67 =>
      if (!(decide (vr67 = 0))) then
        some (.inr ([], v60, vr67))
      else
        (entries_Check fu e66).bind fun vr69 =>
        if (!(decide (vr69 = 0))) then
          some (.inr ([], v60, vr69))
        else
          (if v61 then some (Op.bytesLess e66.Key v62) else some false).bind fun b71 =>
          if b71 then
            some (.inr ([], v60, 6))
          else
            (if v61 then some (e66.Key == v62) else some false).bind fun b74 =>
            if b74 then
              shadow_Filter_l1 l1 vr4 fu (IntKind.i64.wrap (v60 + 1)) true e66.Key v63
            else
              (if vr4.Bottom then some e66.Dead else some false).bind fun b77 =>
              if b77 then
                shadow_Filter_l1 l1 vr4 fu (IntKind.i64.wrap (v60 + 1)) true e66.Key v63
              else
                (shadow_kept_entry fu (TShadowKept.mk e66.Key e66.Val e66.Dead e66.Seq)).bind fun vr80 =>
                if 2 * ((v63.length + 1) * 48) ≤ 281474976710656 then
                  shadow_Filter_l1 l1 vr4 fu (IntKind.i64.wrap (v60 + 1)) true e66.Key (v63 ++ [vr80])
                else none
    else
      some (.inl (v61, v62, v63))
def shadow_Filter (fu : Nat) (l1 : List TApiEntry) (bottom2 : Bool) : Option (List TApiEntry × Int × Int) :=
  if (decide (20000 < (l1.length : Int))) then
    some ([], (-1), 3)
  else
    (shadow_Begin fu bottom2).bind fun vr4 =>
    (shadow_Filter_l1 l1 vr4 fu 0 vr4.Some vr4.Last []).bind fun x59 => match x59 with
    | .inl o82 =>
      some (o82.2.2, 0, 0)
    | .inr y =>
      some y
def slices_alike_l1 (a1 : List TApiEntry) (b2 : List TApiEntry) : Nat → Int → Option (Sum (Unit) (Bool))
  | 0, _ => none
  | fu + 1, v14 =>
    if (decide (v14 < (a1.length : Int))) then
      (ix a1 v14).bind fun e16 =>
      (ix b2 v14).bind fun e17 =>
      if (!(TApiEntry.eqb e16 e17)) then
        some (.inr false)
      else
        slices_alike_l1 a1 b2 fu (IntKind.i64.wrap (v14 + 1))
    else
      some (.inl ())
def slices_alike (fu : Nat) (a1 : List TApiEntry) (b2 : List TApiEntry) : Option (Bool) :=
  if (!(decide ((a1.length : Int) = (b2.length : Int)))) then
    some false
  else
    (slices_alike_l1 a1 b2 fu 0).bind fun x13 => match x13 with
    | .inl o19 =>
      some true
    | .inr y =>
      some y
def slices_Check_l1 (vs1 : TApiSlState) : Nat → Int → Int → Option (Int)
  | 0, _, _ => none
  | fu + 1, n11, v12 =>
    if (decide (v12 < (vs1.Merge.At.length : Int))) then
      (ix vs1.Merge.At v12).bind fun e14 =>
      slices_Check_l1 vs1 fu (IntKind.i64.wrap (n11 + e14)) (IntKind.i64.wrap (v12 + 1))
    else
      some n11
def slices_Check (fu : Nat) (vs1 : TApiSlState) : Option (Int) :=
  (merge_Check fu vs1.Merge).bind fun vr2 =>
  if (!(decide (vr2.2 = 0))) then
    some vr2.2
  else
    (slices_Check_l1 vs1 fu 0 0).bind fun x10 =>
    (if (decide (20000 < (vs1.Out.length : Int))) then some true else some (decide (20000 < x10))).bind fun b15 =>
    if b15 then
      some 3
    else
      if (!(decide (vs1.Steps = x10))) then
        some 7
      else
        (merge_All fu vs1.Merge.Runs).bind fun vr19 =>
        if (!(decide (vr19.2.2 = 0))) then
          some vr19.2.2
        else
          if 0 ≤ x10 ∧ x10 ≤ (vr19.1.length : Int) then
            (shadow_Filter fu (vr19.1.take x10.toNat) vs1.Shadow.Bottom).bind fun vr22 =>
            if (!(decide (vr22.2.2 = 0))) then
              some vr22.2.2
            else
              (shadow_Begin fu vs1.Shadow.Bottom).bind fun vr24 =>
              if (decide (0 < x10)) then
                (ix vr19.1 (IntKind.i64.wrap (x10 - 1))).bind fun e26 =>
                (slices_alike fu vs1.Out vr22.1).bind fun vr27 =>
                (if (!vr27) then some true else some (!(TApiShState.eqb vs1.Shadow (TApiShState.mk true e26.Key vr24.Bottom)))).bind fun b28 =>
                if b28 then
                  some 6
                else
                  some 0
              else
                (slices_alike fu vs1.Out vr22.1).bind fun vr31 =>
                (if (!vr31) then some true else some (!(TApiShState.eqb vs1.Shadow vr24))).bind fun b32 =>
                if b32 then
                  some 6
                else
                  some 0
          else none
def merge_Left_l1 (vs1 : TApiMgState) : Nat → Int → Int → Option (Int)
  | 0, _, _ => none
  | fu + 1, n13, v14 =>
    if (decide (v14 < (vs1.Runs.length : Int))) then
      (ix vs1.Runs v14).bind fun e16 =>
      (ix vs1.At v14).bind fun e17 =>
      merge_Left_l1 vs1 fu (IntKind.i64.wrap (n13 + (IntKind.i64.wrap ((e16.length : Int) - e17)))) (IntKind.i64.wrap (v14 + 1))
    else
      some n13
def merge_Left (fu : Nat) (vs1 : TApiMgState) : Option (Int × Int) :=
  (merge_Check fu vs1).bind fun vr2 =>
  if (!(decide (vr2.2 = 0))) then
    some (0, vr2.2)
  else
    (merge_Left_l1 vs1 fu 0 0).bind fun x12 =>
    some (x12, 0)
def slices_Left (fu : Nat) (vs1 : TApiSlState) : Option (Int × Int) :=
  (slices_Check fu vs1).bind fun vr2 =>
  if (!(decide (vr2 = 0))) then
    some (0, vr2)
  else
    (merge_Left fu vs1.Merge).bind fun vr4 =>
    some (vr4.1, vr4.2)
def merge_Next (fu : Nat) (vs1 : TApiMgState) : Option (TApiEntry × Int × TApiMgState × Int) :=
  (merge_Check fu vs1).bind fun vr2 =>
  if (!(decide (vr2.2 = 0))) then
    some ((TApiEntry.mk [] [] false 0), 0, (TApiMgState.mk [] [] (TApiLsTree.mk [] [] 0)), vr2.2)
  else
    (slices_Clone_apiEntry fu vs1.Runs).bind fun vr4 =>
    (slices_Clone_int_2 fu vs1.At).bind fun vr5 =>
    (merge_reader_peek fu vr4 vr5 vs1.Tree.Keys vs1.Tree.Lose vs1.Tree.Win).bind fun vr6 =>
    if (!(decide (vr6.2.2 = 0))) then
      some ((TApiEntry.mk [] [] false 0), 0, (TApiMgState.mk [] [] (TApiLsTree.mk [] [] 0)), vr6.2.2)
    else
      (ix vr5 vr6.2.1).bind fun e8 =>
      (ix vr4 vr6.2.1).bind fun e9 =>
      (ix (vr5.set vr6.2.1.toNat (IntKind.i64.wrap (e8 + 1))) vr6.2.1).bind fun e10 =>
      (merge_next fu e9 e10).bind fun vr11 =>
      (loser_Replace fu vs1.Tree vr11).bind fun vr12 =>
      some (vr6.1, vr6.2.1, (TApiMgState.mk vr4 (vr5.set vr6.2.1.toNat (IntKind.i64.wrap (e8 + 1))) vr12.1), 0)
def shadow_Step (fu : Nat) (vs1 : TApiShState) (vx2 : TApiEntry) : Option (Bool × TApiShState × Int) :=
  (shadow_Check fu vs1).bind fun vr3 =>
  if (!(decide (vr3 = 0))) then
    some (false, (TApiShState.mk false [] false), vr3)
  else
    (entries_Check fu vx2).bind fun vr5 =>
    if (!(decide (vr5 = 0))) then
      some (false, (TApiShState.mk false [] false), vr5)
    else
      (if vs1.Some then some (Op.bytesLess vx2.Key vs1.Last) else some false).bind fun b7 =>
      if b7 then
        some (false, (TApiShState.mk false [] false), 6)
      else
        (if vs1.Some then some (vx2.Key == vs1.Last) else some false).bind fun b10 =>
        if b10 then
          some (false, (TApiShState.mk true vx2.Key vs1.Bottom), 0)
        else
          (if vs1.Bottom then some vx2.Dead else some false).bind fun b13 =>
          if b13 then
            some (false, (TApiShState.mk true vx2.Key vs1.Bottom), 0)
          else
            some (true, (TApiShState.mk true vx2.Key vs1.Bottom), 0)
def slices_Step_l1 (vr3 : Int × Int) (n2 : Int) : Nat → Int → List (List TApiEntry) → List Int → List TApiLsKey → List Int → Int → Bool → List UInt8 → Bool → Int → List TApiEntry → Option (Sum (List (List TApiEntry) × List Int × List TApiLsKey × List Int × Int × Bool × List UInt8 × Bool × Int × List TApiEntry) (TApiSlState × Int × Int))
  | 0, _, _, _, _, _, _, _, _, _, _, _ => none
  | fu + 1, left43, v44, v45, v46, v47, v48, v49, v50, v51, v52, v53 =>
    if (decide (left43 < (if vr3.1 < n2 then vr3.1 else n2))) then
      (merge_Next fu (TApiMgState.mk v44 v45 (TApiLsTree.mk v46 v47 v48))).bind fun vr56 =>
      if (!(decide (vr56.2.2.2 = 0))) then
        some (.inr ((TApiSlState.mk (TApiMgState.mk [] [] (TApiLsTree.mk [] [] 0)) (TApiShState.mk false [] false) [] 0), 0, vr56.2.2.2))
      else
        (shadow_Step fu (TApiShState.mk v49 v50 v51) vr56.1).bind fun vr58 =>
        if (!(decide (vr58.2.2 = 0))) then
          some (.inr ((TApiSlState.mk (TApiMgState.mk [] [] (TApiLsTree.mk [] [] 0)) (TApiShState.mk false [] false) [] 0), 0, vr58.2.2))
        else
          if vr58.1 then
            if 2 * ((v53.length + 1) * 48) ≤ 281474976710656 then
              slices_Step_l1 vr3 n2 fu (IntKind.i64.wrap (left43 + 1)) vr56.2.2.1.Runs vr56.2.2.1.At vr56.2.2.1.Tree.Keys vr56.2.2.1.Tree.Lose vr56.2.2.1.Tree.Win vr58.2.1.Some vr58.2.1.Last vr58.2.1.Bottom (IntKind.i64.wrap (v52 + 1)) (v53 ++ [vr56.1])
            else none
          else
            slices_Step_l1 vr3 n2 fu (IntKind.i64.wrap (left43 + 1)) vr56.2.2.1.Runs vr56.2.2.1.At vr56.2.2.1.Tree.Keys vr56.2.2.1.Tree.Lose vr56.2.2.1.Tree.Win vr58.2.1.Some vr58.2.1.Last vr58.2.1.Bottom (IntKind.i64.wrap (v52 + 1)) v53
    else
      some (.inl (v44, v45, v46, v47, v48, v49, v50, v51, v52, v53))
def slices_Step (fu : Nat) (vs1 : TApiSlState) (n2 : Int) : Option (TApiSlState × Int × Int) :=
  (slices_Left fu vs1).bind fun vr3 =>
  if (!(decide (vr3.2 = 0))) then
    some ((TApiSlState.mk (TApiMgState.mk [] [] (TApiLsTree.mk [] [] 0)) (TApiShState.mk false [] false) [] 0), 0, vr3.2)
  else
    if (decide (n2 < 0)) then
      some ((TApiSlState.mk (TApiMgState.mk [] [] (TApiLsTree.mk [] [] 0)) (TApiShState.mk false [] false) [] 0), 0, 7)
    else
      if (decide (20000 < (IntKind.i64.wrap (vs1.Steps + (if vr3.1 < n2 then vr3.1 else n2))))) then
        some ((TApiSlState.mk (TApiMgState.mk [] [] (TApiLsTree.mk [] [] 0)) (TApiShState.mk false [] false) [] 0), 0, 3)
      else
        if 2 * (vs1.Out.length * 48) ≤ 281474976710656 then
          if 2 * (vs1.Merge.At.length * 8) ≤ 281474976710656 then
            (slices_Step_l1 vr3 n2 fu 0 vs1.Merge.Runs vs1.Merge.At vs1.Merge.Tree.Keys vs1.Merge.Tree.Lose vs1.Merge.Tree.Win vs1.Shadow.Some vs1.Shadow.Last vs1.Shadow.Bottom vs1.Steps vs1.Out).bind fun x42 => match x42 with
            | .inl o62 =>
              some ((TApiSlState.mk (TApiMgState.mk o62.1 o62.2.1 (TApiLsTree.mk o62.2.2.1 o62.2.2.2.1 o62.2.2.2.2.1)) (TApiShState.mk o62.2.2.2.2.2.1 o62.2.2.2.2.2.2.1 o62.2.2.2.2.2.2.2.1) o62.2.2.2.2.2.2.2.2.2 o62.2.2.2.2.2.2.2.2.1), (if vr3.1 < n2 then vr3.1 else n2), 0)
            | .inr y =>
              some y
          else none
        else none
def slices_Equal_apiEntry_l1 (s11 : List TApiEntry) (s22 : List TApiEntry) : Nat → Int → Option (Sum (Unit) (Bool))
  | 0, _ => none
  | fu + 1, v14 =>
    if (decide (v14 < (s11.length : Int))) then
      (ix s11 v14).bind fun e16 =>
      (ix s22 v14).bind fun e17 =>
      if (!(TApiEntry.eqb e16 e17)) then
        some (.inr false)
      else
        slices_Equal_apiEntry_l1 s11 s22 fu (IntKind.i64.wrap (v14 + 1))
    else
      some (.inl ())
def slices_Equal_apiEntry (fu : Nat) (s11 : List TApiEntry) (s22 : List TApiEntry) : Option (Bool) :=
  if (!(decide ((s11.length : Int) = (s22.length : Int)))) then
    some false
  else
    (slices_Equal_apiEntry_l1 s11 s22 fu 0).bind fun x13 => match x13 with
    | .inl o19 =>
      some true
    | .inr y =>
      some y
def jobs_sameEntries (fu : Nat) (a1 : List TApiEntry) (b2 : List TApiEntry) : Option (Bool) :=
  (slices_Equal_apiEntry fu a1 b2).bind fun vr3 =>
  some vr3
def slices_EqualFunc_apiEntry_l1 (s11 : List (List TApiEntry)) (s22 : List (List TApiEntry)) : Nat → Int → Option (Sum (Unit) (Bool))
  | 0, _ => none
  | fu + 1, v16 =>
    if (decide (v16 < (s11.length : Int))) then
      (ix s11 v16).bind fun e18 =>
      (ix s22 v16).bind fun e19 =>
      (jobs_sameEntries fu e18 e19).bind fun vr20 =>
      if (!vr20) then
        some (.inr false)
      else
        slices_EqualFunc_apiEntry_l1 s11 s22 fu (IntKind.i64.wrap (v16 + 1))
    else
      some (.inl ())
def slices_EqualFunc_apiEntry (fu : Nat) (s11 : List (List TApiEntry)) (s22 : List (List TApiEntry)) : Option (Bool) :=
  if (!(decide ((s11.length : Int) = (s22.length : Int)))) then
    some false
  else
    (slices_EqualFunc_apiEntry_l1 s11 s22 fu 0).bind fun x15 => match x15 with
    | .inl o22 =>
      some true
    | .inr y =>
      some y
def jobs_same (fu : Nat) (a1 : TApiSlState) (b2 : TApiSlState) : Option (Bool) :=
  (slices_EqualFunc_apiEntry fu a1.Merge.Runs b2.Merge.Runs).bind fun vr3 =>
  (if vr3 then (slices_Equal_int fu a1.Merge.At b2.Merge.At).bind fun vr4 => some vr4 else some false).bind fun b5 =>
  (if b5 then (slices_Equal_apiLsKey fu a1.Merge.Tree.Keys b2.Merge.Tree.Keys).bind fun vr6 => some vr6 else some false).bind fun b7 =>
  (if b7 then (slices_Equal_int fu a1.Merge.Tree.Lose b2.Merge.Tree.Lose).bind fun vr8 => some vr8 else some false).bind fun b9 =>
  (if b9 then some (decide (a1.Merge.Tree.Win = b2.Merge.Tree.Win)) else some false).bind fun b10 =>
  (if b10 then some (TApiShState.eqb a1.Shadow b2.Shadow) else some false).bind fun b11 =>
  (if b11 then (jobs_sameEntries fu a1.Out b2.Out).bind fun vr12 => some vr12 else some false).bind fun b13 =>
  (if b13 then some (decide (a1.Steps = b2.Steps)) else some false).bind fun b14 =>
  some b14
def jobs_Check_l1 (vs1 : TApiJbState) (vr10 : List Int) : Nat → Int → Option (Sum (Unit) (Int × Int))
  | 0, _ => none
  | fu + 1, v49 =>
    if (decide (v49 < (vs1.Jobs.length : Int))) then
      (ix vs1.Jobs v49).bind fun e51 =>
      (if (decide ((vr10.length : Int) ≤ v49)) then some true else (ix vr10 v49).bind fun e52 => some (!(decide (e51.Level = e52)))).bind fun b53 =>
      if b53 then
        some (.inr (v49, 6))
      else
        (if e51.Work.Shadow.Bottom then (jobs_lowest fu vs1.Levels e51.Level).bind fun vr56 => some (!vr56) else some false).bind fun b57 =>
        if b57 then
          some (.inr (v49, 6))
        else
          (jobs_begun fu vs1.Levels e51.Level e51.Work.Shadow.Bottom).bind fun vr60 =>
          (slices_Left fu vr60.Work).bind fun vr61 =>
          (if (decide (e51.Work.Steps < 0)) then some true else some (decide (vr61.1 < e51.Work.Steps))).bind fun b62 =>
          if b62 then
            some (.inr (v49, 6))
          else
            (slices_Step fu vr60.Work e51.Work.Steps).bind fun vr65 =>
            (jobs_same fu vr65.1 e51.Work).bind fun vr66 =>
            if (!vr66) then
              some (.inr (v49, 6))
            else
              jobs_Check_l1 vs1 vr10 fu (IntKind.i64.wrap (v49 + 1))
    else
      some (.inl ())
def jobs_Check (fu : Nat) (vs1 : TApiJbState) : Option (Int × Int) :=
  (levels_Check fu vs1.Levels).bind fun vr2 =>
  if (!(decide (vr2.2.2 = 0))) then
    some ((-1), vr2.2.2)
  else
    (if (decide (vs1.NextId < 1)) then some true else some (decide (1000001 < vs1.NextId))).bind fun b4 =>
    if b4 then
      some ((-1), 7)
    else
      (jobs_greatest fu vs1.Levels).bind fun vr7 =>
      if (decide (vs1.NextId ≤ vr7)) then
        some ((-1), 6)
      else
        (jobs_due fu vs1.Levels).bind fun vr9 =>
        (slices_Collect_int fu vr9.1 vr9.2).bind fun vr10 =>
        (jobs_Check_l1 vs1 vr10 fu 0).bind fun x48 => match x48 with
        | .inl o68 =>
          if (decide ((vs1.Jobs.length : Int) < (vr10.length : Int))) then
            some ((-1), 4)
          else
            some (0, 0)
        | .inr y =>
          some y
def jobs_Find_1 (fu : Nat) (j1 : TApiJbJob) (p2 : Int) : Option (Bool) :=
  some (decide (j1.Level = p2))
def slices_IndexFunc_apiJbJob_l1 (vs1 : List TApiJbJob) (f2 : Int) : Nat → Int → Option (Sum (Unit) (Int))
  | 0, _ => none
  | fu + 1, v13 =>
    if (decide (v13 < (vs1.length : Int))) then
      (ix vs1 v13).bind fun e15 =>
      (jobs_Find_1 fu e15 f2).bind fun vr16 =>
      if vr16 then
        some (.inr v13)
      else
        slices_IndexFunc_apiJbJob_l1 vs1 f2 fu (IntKind.i64.wrap (v13 + 1))
    else
      some (.inl ())
def slices_IndexFunc_apiJbJob (fu : Nat) (vs1 : List TApiJbJob) (f2 : Int) : Option (Int) :=
  (slices_IndexFunc_apiJbJob_l1 vs1 f2 fu 0).bind fun x12 => match x12 with
  | .inl o18 =>
    some (-1)
  | .inr y =>
    some y
def jobs_first_apiJbJob (fu : Nat) (l1 : List TApiJbJob) (is2 : Int) : Option (Int × Int) :=
  (slices_IndexFunc_apiJbJob fu l1 is2).bind fun vr3 =>
  if (decide (vr3 < 0)) then
    some (0, 4)
  else
    some (vr3, 0)
def jobs_Find (fu : Nat) (vs1 : TApiJbState) (level2 : Int) : Option (Int × Int) :=
  (jobs_Check fu vs1).bind fun vr3 =>
  if (!(decide (vr3.2 = 0))) then
    some (0, vr3.2)
  else
    (jobs_first_apiJbJob fu vs1.Jobs level2).bind fun vr5 =>
    some (vr5.1, vr5.2)
def jobs_Left (fu : Nat) (vs1 : TApiJbState) (level2 : Int) : Option (Int × Int) :=
  (jobs_Find fu vs1 level2).bind fun vr3 =>
  if (!(decide (vr3.2 = 0))) then
    some (0, vr3.2)
  else
    (ix vs1.Jobs vr3.1).bind fun e5 =>
    (slices_Left fu e5.Work).bind fun vr6 =>
    some (vr6.1, vr6.2)
def slices_Clone_apiJbJob_2 (fu : Nat) (vs1 : List TApiJbJob) : Option (List TApiJbJob) :=
  if vs1.isEmpty then
    some []
  else
    if 2 * ((0 + vs1.length) * 176) ≤ 281474976710656 then
      some vs1
    else none
def jobs_Read (fu : Nat) (vs1 : TApiJbState) (level2 : Int) (most3 : Int) : Option (TApiJbState × Int × Int) :=
  (jobs_Check fu vs1).bind fun vr4 =>
  if (!(decide (vr4.2 = 0))) then
    some ((TApiJbState.mk (TApiLvLevels.mk 0 []) [] 0), 0, vr4.2)
  else
    if (decide (most3 < 0)) then
      some ((TApiJbState.mk (TApiLvLevels.mk 0 []) [] 0), 0, 7)
    else
      (jobs_Find fu vs1 level2).bind fun vr7 =>
      if (!(decide (vr7.2 = 0))) then
        some ((TApiJbState.mk (TApiLvLevels.mk 0 []) [] 0), 0, vr7.2)
      else
        (ix vs1.Jobs vr7.1).bind fun e9 =>
        (slices_Left fu e9.Work).bind fun vr10 =>
        if (decide (vr10.1 = 0)) then
          some ((TApiJbState.mk (TApiLvLevels.mk 0 []) [] 0), 0, 9)
        else
          (slices_Step fu e9.Work most3).bind fun vr12 =>
          if (!(decide (vr12.2.2 = 0))) then
            some ((TApiJbState.mk (TApiLvLevels.mk 0 []) [] 0), 0, vr12.2.2)
          else
            (slices_Clone_apiJbJob_2 fu vs1.Jobs).bind fun vr14 =>
            (ix vr14 vr7.1).bind fun e15 =>
            some ((TApiJbState.mk vs1.Levels (vr14.set vr7.1.toNat (TApiJbJob.mk e15.Level vr12.1)) vs1.NextId), vr12.2.1, 0)
def bookendlaw16_shown (fu : Nat) : Option (Bool) :=
  (bookendlaw16_Example fu).bind fun vr1 =>
  (jobs_Of fu vr1).bind fun vr2 =>
  (if (!(decide (vr2.2 = 0))) then some true else some (!(decide (vr2.1.NextId = 3)))).bind fun b3 =>
  (if b3 then some true else some (!(decide ((vr2.1.Jobs.length : Int) = 1)))).bind fun b4 =>
  (if b4 then some true else (ix vr2.1.Jobs 0).bind fun e5 => some (!(decide (e5.Level = 0)))).bind fun b6 =>
  if b6 then
    some false
  else
    (jobs_Left fu vr2.1 0).bind fun vr14 =>
    (jobs_Read fu vr2.1 0 9).bind fun vr15 =>
    (jobs_Left fu vr15.1 0).bind fun vr16 =>
    (jobs_Read fu vr15.1 0 1).bind fun vr17 =>
    (if (decide (vr14.1 = 3)) then some (decide (vr14.2 = 0)) else some false).bind fun b18 =>
    (if b18 then some (decide (vr15.2.1 = 3)) else some false).bind fun b19 =>
    (if b19 then some (decide (vr15.2.2 = 0)) else some false).bind fun b20 =>
    (if b20 then some (decide (vr16.1 = 0)) else some false).bind fun b21 =>
    (if b21 then some (decide (vr16.2 = 0)) else some false).bind fun b22 =>
    (if b22 then some (decide (vr17.2.2 = 9)) else some false).bind fun b23 =>
    (if b23 then some (decide ((vr15.1.Jobs.length : Int) = 1)) else some false).bind fun b24 =>
    (if b24 then (ix vr15.1.Jobs 0).bind fun e25 => some (decide ((e25.Work.Out.length : Int) = 1)) else some false).bind fun b26 =>
    (if b26 then (ix vr15.1.Jobs 0).bind fun e27 => (ix e27.Work.Out 0).bind fun e28 => some (e28.Key == [97]) else some false).bind fun b29 =>
    some b29
def bookendlaw16_JobsKnown (fu : Nat) : Option (Bool) :=
  (bookendlaw16_shown fu).bind fun vr1 =>
  some vr1
end Go.T
