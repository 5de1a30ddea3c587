/- A text of the proof. -/
import Derived.Test.YtbjmeobodbgdbaaGreatDoorKAmZb
namespace Go.T
open Go Go.AM
set_option linter.unusedVariables false
structure TApiKeRange where
 Low : List UInt8
 High : List UInt8
 Bound : Bool
 deriving DecidableEq
structure TApiHandle where
 Index : Int
 Gen : Int
 deriving DecidableEq
structure TApiOpWrite where
 Key : List UInt8
 Val : List UInt8
 Dead : Bool
 deriving DecidableEq
structure TApiOpCall where
 Kind : Int
 Grant : Int
 Key : List UInt8
 Val : List UInt8
 Range : TApiKeRange
 Handle : TApiHandle
 Other : TApiHandle
 Writes : List TApiOpWrite
 deriving DecidableEq
structure TApiDfItem where
 Kind : Int
 Key : List UInt8
 Old : List UInt8
 New : List UInt8
 deriving DecidableEq
structure TApiStStats where
 Live : Int
 Entries : Int
 Dead : Int
 Buffered : Int
 Runs : Int
 Height : Int
 Jobs : Int
 Debt : Int
 Pins : Int
 Cursors : Int
 Held : Int
 Writes : Int
 Busy : Int
 Seals : Int
 Installs : Int
 Steps : Int
 Lost : Int
 deriving DecidableEq
structure TApiOpAnswer where
 E : Int
 Key : List UInt8
 Val : List UInt8
 N : Int
 Handle : TApiHandle
 Items : List TApiDfItem
 Stats : TApiStStats
 deriving DecidableEq
structure TApiStEvents where
 Writes : Int
 Busy : Int
 Pins : Int
 Cursors : Int
 deriving DecidableEq
def TApiHandle.eqb (x y : TApiHandle) : Bool := ((x.Index == y.Index) && ((x.Gen == y.Gen) && true))
def TApiStEvents.eqb (x y : TApiStEvents) : Bool := ((x.Writes == y.Writes) && ((x.Busy == y.Busy) && ((x.Pins == y.Pins) && ((x.Cursors == y.Cursors) && true))))
def TApiKeRange.eqb (x y : TApiKeRange) : Bool := ((x.Low == y.Low) && ((x.High == y.High) && ((x.Bound == y.Bound) && true)))
def bookendlaw04_FarCall_l1 (c1 : TApiOpCall) : Nat → Int → Option (Sum (Unit) (Bool))
 | 0, _ => none
 | fu + 1, i29 =>
  if (decide (i29 < (c1.Writes.length : Int))) then
   (ix c1.Writes i29).bind fun e31 =>
   (if (decide (300 < (e31.Key.length : Int))) then some true else some (decide (300 < (e31.Val.length : Int)))).bind fun b32 =>
   if b32 then
    some (.inr true)
   else
    bookendlaw04_FarCall_l1 c1 fu (IntKind.i64.wrap (i29 + 1))
  else
   some (.inl ())
def bookendlaw04_FarCall (fu : Nat) (c1 : TApiOpCall) : Option (Bool) :=
 (if (decide (300 < (c1.Key.length : Int))) then some true else some (decide (300 < (c1.Val.length : Int)))).bind fun b2 =>
 (if b2 then some true else some (decide (300 < (c1.Range.Low.length : Int)))).bind fun b3 =>
 (if b3 then some true else some (decide (300 < (c1.Range.High.length : Int)))).bind fun b4 =>
 (if b4 then some true else some (decide (20 < (c1.Writes.length : Int)))).bind fun b5 =>
 if b5 then
  some true
 else
  (bookendlaw04_FarCall_l1 c1 fu 0).bind fun x28 => match x28 with
  | .inl o35 =>
   some false
  | .inr y =>
   some y
def bookendlaw04_FarScript_l1 (l1 : List TApiOpCall) : Nat → Int → Option (Sum (Unit) (Bool))
 | 0, _ => none
 | fu + 1, i18 =>
  if (decide (i18 < (l1.length : Int))) then
   (ix l1 i18).bind fun e20 =>
   (bookendlaw04_FarCall fu e20).bind fun vr21 =>
   if vr21 then
    some (.inr true)
   else
    bookendlaw04_FarScript_l1 l1 fu (IntKind.i64.wrap (i18 + 1))
  else
   some (.inl ())
def bookendlaw04_FarScript (fu : Nat) (l1 : List TApiOpCall) : Option (Bool) :=
 (if (decide (30 < (l1.length : Int))) then some (decide ((l1.length : Int) ≤ 200)) else some false).bind fun b2 =>
 (if b2 then some true else some (decide (205 < (l1.length : Int)))).bind fun b3 =>
 if b3 then
  some true
 else
  (bookendlaw04_FarScript_l1 l1 fu 0).bind fun x17 => match x17 with
  | .inl o23 =>
   some false
  | .inr y =>
   some y
def bookendlaw31_shown (fu : Nat) : Option (Bool) :=
 some true
def bookendlaw04_FarAnswer_l1 (a1 : TApiOpAnswer) : Nat → Int → Option (Sum (Unit) (Bool))
 | 0, _ => none
 | fu + 1, i31 =>
  if (decide (i31 < (a1.Items.length : Int))) then
   (ix a1.Items i31).bind fun e33 =>
   (if (decide (900 < (IntKind.i64.wrap ((IntKind.i64.wrap ((e33.Key.length : Int) + (e33.Old.length : Int))) + (e33.New.length : Int))))) then some true else (if (decide (30 < (a1.Items.length : Int))) then some (decide (0 < (IntKind.i64.wrap ((IntKind.i64.wrap ((e33.Key.length : Int) + (e33.Old.length : Int))) + (e33.New.length : Int))))) else some false).bind fun b34 => some b34).bind fun b35 =>
   if b35 then
    some (.inr true)
   else
    bookendlaw04_FarAnswer_l1 a1 fu (IntKind.i64.wrap (i31 + 1))
  else
   some (.inl ())
def bookendlaw04_FarAnswer (fu : Nat) (a1 : TApiOpAnswer) : Option (Bool) :=
 (if (decide (300 < (a1.Key.length : Int))) then some true else some (decide (300 < (a1.Val.length : Int)))).bind fun b2 =>
 (if b2 then some true else (if (decide (30 < (a1.Items.length : Int))) then some (decide ((a1.Items.length : Int) ≤ 2000)) else some false).bind fun b3 => some b3).bind fun b4 =>
 (if b4 then some true else some (decide (2005 < (a1.Items.length : Int)))).bind fun b5 =>
 if b5 then
  some true
 else
  (bookendlaw04_FarAnswer_l1 a1 fu 0).bind fun x30 => match x30 with
  | .inl o39 =>
   some false
  | .inr y =>
   some y
def ops_known (fu : Nat) (kind1 : Int) : Option (Bool) :=
 (if (decide (1 ≤ kind1)) then some (decide (kind1 ≤ 17)) else some false).bind fun b2 =>
 some b2
def lets : Int → List Char
  | 1 => [Char.ofNat 107, Char.ofNat 118]
  | 2 => [Char.ofNat 107]
  | 3 => [Char.ofNat 119]
  | 4 => [Char.ofNat 104, Char.ofNat 107]
  | 5 => [Char.ofNat 104, Char.ofNat 107]
  | 6 => [Char.ofNat 104, Char.ofNat 107]
  | 7 => [Char.ofNat 104, Char.ofNat 114]
  | 8 => []
  | 9 => [Char.ofNat 104]
  | 10 => [Char.ofNat 104, Char.ofNat 114]
  | 11 => [Char.ofNat 104]
  | 12 => [Char.ofNat 104]
  | 13 => [Char.ofNat 104]
  | 14 => [Char.ofNat 104, Char.ofNat 111]
  | 15 => []
  | 16 => []
  | 17 => []
  | _ => []
def hasL : List Char → Nat → Bool
  | [], _ => false
  | c :: l, n => Nat.beq c.toNat n || hasL l n
def bareB (ls : List Char) (c : TApiOpCall) : Bool :=
  ((hasL ls 107 || c.Key.isEmpty) && (hasL ls 118 || c.Val.isEmpty)) && ((hasL ls 104 || decide (c.Handle.Index = 0) && decide (c.Handle.Gen = 0)) && ((hasL ls 111 || decide (c.Other.Index = 0) && decide (c.Other.Gen = 0)) && ((hasL ls 114 || c.Range.Low.isEmpty && c.Range.High.isEmpty && !c.Range.Bound) && (hasL ls 119 || c.Writes.isEmpty))))
def bareF (c : TApiOpCall) : Bool := bareB (lets c.Kind) c
abbrev bN : Nat := 4611686018427387903
def ops_bare (fu : Nat) (c1 : TApiOpCall) : Option (Bool) :=
 if 1 ≤ c1.Kind ∧ c1.Kind ≤ 17 ∧ c1.Key.length ≤ bN ∧ c1.Val.length ≤ bN then some (bareF c1) else none
def ops_inside (fu : Nat) (n1 : Int) : Option (Bool) :=
 (if (decide (0 ≤ n1)) then some (decide (n1 ≤ 1000000000)) else some false).bind fun b2 =>
 some b2
def ops_named (fu : Nat) (vh1 : TApiHandle) : Option (Bool) :=
 (ops_inside fu vh1.Index).bind fun vr2 =>
 (if vr2 then (ops_inside fu vh1.Gen).bind fun vr3 => some vr3 else some false).bind fun b4 =>
 some b4
def ops_long_l1 (l1 : List (List UInt8)) : Nat → Int → Option (Sum (Unit) (Bool))
 | 0, _ => none
 | fu + 1, v10 =>
  if (decide (v10 < (l1.length : Int))) then
   (ix l1 v10).bind fun e12 =>
   if (decide (100 < (e12.length : Int))) then
    some (.inr true)
   else
    ops_long_l1 l1 fu (IntKind.i64.wrap (v10 + 1))
  else
   some (.inl ())
def ops_long (fu : Nat) (l1 : List (List UInt8)) : Option (Bool) :=
 (ops_long_l1 l1 fu 0).bind fun x9 => match x9 with
 | .inl o14 =>
  some false
 | .inr y =>
  some y
def ops_Check_l1 (c1 : TApiOpCall) : Nat → Bool → Int → Option (Sum (Bool) (Int))
 | 0, _, _ => none
 | fu + 1, form39, v40 =>
  if (decide (v40 < (c1.Writes.length : Int))) then
   (ix c1.Writes v40).bind fun e42 =>
   (ops_long fu [e42.Key, e42.Val]).bind fun vr43 =>
   if vr43 then
    some (.inr 3)
   else
    (if form39 then some true else (if e42.Dead then some (!(e42.Val == [])) else some false).bind fun b45 => some b45).bind fun b46 =>
    ops_Check_l1 c1 fu b46 (IntKind.i64.wrap (v40 + 1))
  else
   some (.inl form39)
def ops_Check (fu : Nat) (c1 : TApiOpCall) : Option (Int) :=
 (ops_known fu c1.Kind).bind fun vr2 =>
 if (!vr2) then
  some 2
 else
  (if (decide (c1.Grant < 0)) then some true else some (decide (1000000 < c1.Grant))).bind fun b4 =>
  if b4 then
   some 7
  else
   (ops_bare fu c1).bind fun vr7 =>
   if (!vr7) then
    some 6
   else
    (ops_named fu c1.Handle).bind fun vr9 =>
    (if (!vr9) then some true else (ops_named fu c1.Other).bind fun vr10 => some (!vr10)).bind fun b11 =>
    if b11 then
     some 7
    else
     (ops_long fu [c1.Key, c1.Val, c1.Range.Low, c1.Range.High]).bind fun vr14 =>
     (if vr14 then some true else some (decide (8 < (c1.Writes.length : Int)))).bind fun b15 =>
     if b15 then
      some 3
     else
      (if (!c1.Range.Bound) then some (!(c1.Range.High == [])) else some false).bind fun b18 =>
      (ops_Check_l1 c1 fu b18 0).bind fun x38 => match x38 with
      | .inl o49 =>
       (if (decide (c1.Kind = 3)) then some (decide ((c1.Writes.length : Int) = 0)) else some false).bind fun b50 =>
       if b50 then
        some 4
       else
        if o49 then
         some 6
        else
         some 0
      | .inr y =>
       some y
def ops_Write (fu : Nat) (c1 : TApiOpCall) : Option (Bool) :=
 (if (decide (c1.Kind = 1)) then some true else some (decide (c1.Kind = 2))).bind fun b2 =>
 (if b2 then some true else some (decide (c1.Kind = 3))).bind fun b3 =>
 some b3
def stats_Events_l1 (l1 : List TApiOpCall) (a2 : List TApiOpAnswer) : Nat → Int → Int → Int → Int → Int → Option (Sum (Int × Int × Int × Int) (TApiStEvents × Int × Int))
 | 0, _, _, _, _, _ => none
 | fu + 1, v43, vx44, vx45, vx46, vx47 =>
  if (decide (v43 < (l1.length : Int))) then
   (ix l1 v43).bind fun e49 =>
   (ops_Check fu e49).bind fun vr50 =>
   if (!(decide (vr50 = 0))) then
    some (.inr ((TApiStEvents.mk 0 0 0 0), v43, vr50))
   else
    (ix a2 v43).bind fun e52 =>
    if (decide (e52.E = 10)) then
     (ops_Write fu e49).bind fun vr54 =>
     if vr54 then
      stats_Events_l1 l1 a2 fu (IntKind.i64.wrap (v43 + 1)) (IntKind.i64.wrap (vx44 + 1)) vx45 vx46 vx47
     else
      stats_Events_l1 l1 a2 fu (IntKind.i64.wrap (v43 + 1)) vx44 vx45 vx46 vx47
    else
     if (decide (e52.E = 0)) then
      if (decide (e49.Kind = 1)) then
       stats_Events_l1 l1 a2 fu (IntKind.i64.wrap (v43 + 1)) vx44 (IntKind.i64.wrap (vx45 + 1)) vx46 vx47
      else
       if (decide (e49.Kind = 2)) then
        stats_Events_l1 l1 a2 fu (IntKind.i64.wrap (v43 + 1)) vx44 (IntKind.i64.wrap (vx45 + 1)) vx46 vx47
       else
        if (decide (e49.Kind = 3)) then
         stats_Events_l1 l1 a2 fu (IntKind.i64.wrap (v43 + 1)) vx44 (IntKind.i64.wrap (vx45 + (e49.Writes.length : Int))) vx46 vx47
        else
         if (decide (e49.Kind = 8)) then
          stats_Events_l1 l1 a2 fu (IntKind.i64.wrap (v43 + 1)) vx44 vx45 (IntKind.i64.wrap (vx46 + 1)) vx47
         else
          if (decide (e49.Kind = 9)) then
           stats_Events_l1 l1 a2 fu (IntKind.i64.wrap (v43 + 1)) vx44 vx45 (IntKind.i64.wrap (vx46 - 1)) vx47
          else
           if (decide (e49.Kind = 10)) then
            stats_Events_l1 l1 a2 fu (IntKind.i64.wrap (v43 + 1)) vx44 vx45 vx46 (IntKind.i64.wrap (vx47 + 1))
           else
            if (decide (e49.Kind = 13)) then
             stats_Events_l1 l1 a2 fu (IntKind.i64.wrap (v43 + 1)) vx44 vx45 vx46 (IntKind.i64.wrap (vx47 - 1))
            else
             stats_Events_l1 l1 a2 fu (IntKind.i64.wrap (v43 + 1)) vx44 vx45 vx46 vx47
     else
      stats_Events_l1 l1 a2 fu (IntKind.i64.wrap (v43 + 1)) vx44 vx45 vx46 vx47
  else
   some (.inl (vx45, vx44, vx46, vx47))
def stats_Events (fu : Nat) (l1 : List TApiOpCall) (a2 : List TApiOpAnswer) : Option (TApiStEvents × Int × Int) :=
 if (decide (200 < (l1.length : Int))) then
  some ((TApiStEvents.mk 0 0 0 0), (-1), 3)
 else
  if (!(decide ((l1.length : Int) = (a2.length : Int)))) then
   some ((TApiStEvents.mk 0 0 0 0), (-1), 6)
  else
   (stats_Events_l1 l1 a2 fu 0 0 0 0 0).bind fun x42 => match x42 with
   | .inl o64 =>
    some ((TApiStEvents.mk o64.1 o64.2.1 o64.2.2.1 o64.2.2.2), 0, 0)
   | .inr y =>
    some y
def bookendref04_word (fu : Nat) (kind1 : Int) : Option (List UInt8) :=
 (if (decide (kind1 < 1)) then some true else some (decide (17 < kind1))).bind fun b2 =>
 if b2 then
  some []
 else
  (ix [[], [112, 117, 116], [100, 101, 108], [98, 97, 116, 99, 104], [103, 101, 116], [102, 108, 111, 111, 114], [99, 101, 105, 108, 105, 110, 103], [99, 111, 117, 110, 116], [112, 105, 110], [117, 110, 112, 105, 110], [111, 112, 101, 110], [110, 101, 120, 116], [112, 114, 101, 118], [115, 104, 117, 116], [100, 105, 102, 102], [119, 111, 114, 107], [99, 111, 109, 112, 97, 99, 116], [115, 116, 97, 116, 115]] kind1).bind fun e5 =>
  some e5
def bookendref04_one_l1 (l2 : List Int) (kind1 : Int) : Nat → Int → Option (Sum (Unit) (Bool))
 | 0, _ => none
 | fu + 1, i11 =>
  if (decide (i11 < (l2.length : Int))) then
   (ix l2 i11).bind fun e13 =>
   if (decide (e13 = kind1)) then
    some (.inr true)
   else
    bookendref04_one_l1 l2 kind1 fu (IntKind.i64.wrap (i11 + 1))
  else
   some (.inl ())
def bookendref04_one (fu : Nat) (kind1 : Int) (l2 : List Int) : Option (Bool) :=
 (bookendref04_one_l1 l2 kind1 fu 0).bind fun x10 => match x10 with
 | .inl o15 =>
  some false
 | .inr y =>
  some y
def bookendref04_hasKey (fu : Nat) (kind1 : Int) : Option (Bool) :=
 (bookendref04_one fu kind1 [1, 2, 4, 5, 6]).bind fun vr2 =>
 some vr2
def bookendref04_hasRange (fu : Nat) (kind1 : Int) : Option (Bool) :=
 (if (decide (kind1 = 7)) then some true else some (decide (kind1 = 10))).bind fun b2 =>
 some b2
def bookendref04_hasHandle (fu : Nat) (kind1 : Int) : Option (Bool) :=
 (bookendref04_one fu kind1 [4, 5, 6, 7, 10, 9, 11, 12, 13, 14]).bind fun vr2 =>
 some vr2
def bookendref04_extra (fu : Nat) (c1 : TApiOpCall) : Option (Bool) :=
 (bookendref04_hasKey fu c1.Kind).bind fun vr2 =>
 (if (!vr2) then some (!(c1.Key == [])) else some false).bind fun b3 =>
 (if b3 then some true else (if (!(decide (c1.Kind = 1))) then some (!(c1.Val == [])) else some false).bind fun b4 => some b4).bind fun b5 =>
 (if b5 then some true else (bookendref04_hasRange fu c1.Kind).bind fun vr6 => (if (!vr6) then some (!(TApiKeRange.eqb c1.Range (TApiKeRange.mk [] [] false))) else some false).bind fun b7 => some b7).bind fun b8 =>
 (if b8 then some true else (bookendref04_hasHandle fu c1.Kind).bind fun vr9 => (if (!vr9) then some (!(TApiHandle.eqb c1.Handle (TApiHandle.mk 0 0))) else some false).bind fun b10 => some b10).bind fun b11 =>
 (if b11 then some true else (if (!(decide (c1.Kind = 14))) then some (!(TApiHandle.eqb c1.Other (TApiHandle.mk 0 0))) else some false).bind fun b12 => some b12).bind fun b13 =>
 (if b13 then some true else (if (!(decide (c1.Kind = 3))) then some (decide (0 < (c1.Writes.length : Int))) else some false).bind fun b14 => some b14).bind fun b15 =>
 some b15
def bookendref04_number (fu : Nat) (n1 : Int) : Option (Bool) :=
 (if (decide (0 ≤ n1)) then some (decide (n1 ≤ 1000000000)) else some false).bind fun b2 =>
 some b2
def bookendref04_handle (fu : Nat) (vh1 : TApiHandle) : Option (Bool) :=
 (bookendref04_number fu vh1.Index).bind fun vr2 =>
 (if vr2 then (bookendref04_number fu vh1.Gen).bind fun vr3 => some vr3 else some false).bind fun b4 =>
 some b4
def bookendref04_long (fu : Nat) (vs1 : List UInt8) : Option (Bool) :=
 some (decide (100 < (vs1.length : Int)))
def bookendref04_Check_l1 (c1 : TApiOpCall) : Nat → Bool → Int → Option (Sum (Bool) (Int))
 | 0, _, _ => none
 | fu + 1, form60, i61 =>
  if (decide (i61 < (c1.Writes.length : Int))) then
   (ix c1.Writes i61).bind fun e63 =>
   (bookendref04_long fu e63.Key).bind fun vr64 =>
   (if vr64 then some true else (bookendref04_long fu e63.Val).bind fun vr65 => some vr65).bind fun b66 =>
   if b66 then
    some (.inr 3)
   else
    (if form60 then some true else (if e63.Dead then some (!(e63.Val == [])) else some false).bind fun b69 => some b69).bind fun b70 =>
    bookendref04_Check_l1 c1 fu b70 (IntKind.i64.wrap (i61 + 1))
  else
   some (.inl form60)
def bookendref04_Check (fu : Nat) (c1 : TApiOpCall) : Option (Int) :=
 (bookendref04_word fu c1.Kind).bind fun vr2 =>
 if (vr2 == []) then
  some 2
 else
  (if (decide (c1.Grant < 0)) then some true else some (decide (1000000 < c1.Grant))).bind fun b4 =>
  if b4 then
   some 7
  else
   (bookendref04_extra fu c1).bind fun vr7 =>
   if vr7 then
    some 6
   else
    (bookendref04_handle fu c1.Handle).bind fun vr9 =>
    (if (!vr9) then some true else (bookendref04_handle fu c1.Other).bind fun vr10 => some (!vr10)).bind fun b11 =>
    if b11 then
     some 7
    else
     (bookendref04_long fu c1.Key).bind fun vr14 =>
     (if vr14 then some true else (bookendref04_long fu c1.Val).bind fun vr15 => some vr15).bind fun b16 =>
     (if b16 then some true else (bookendref04_long fu c1.Range.Low).bind fun vr17 => some vr17).bind fun b18 =>
     (if b18 then some true else (bookendref04_long fu c1.Range.High).bind fun vr19 => some vr19).bind fun b20 =>
     (if b20 then some true else some (decide (8 < (c1.Writes.length : Int)))).bind fun b21 =>
     if b21 then
      some 3
     else
      (if (!c1.Range.Bound) then some (!(c1.Range.High == [])) else some false).bind fun b33 =>
      (bookendref04_Check_l1 c1 fu b33 0).bind fun x59 => match x59 with
      | .inl o73 =>
       (if (decide (c1.Kind = 3)) then some (decide ((c1.Writes.length : Int) = 0)) else some false).bind fun b74 =>
       if b74 then
        some 4
       else
        if o73 then
         some 6
        else
         some 0
      | .inr y =>
       some y
def bookendref04_Write (fu : Nat) (c1 : TApiOpCall) : Option (Bool) :=
 (if (decide (1 ≤ c1.Kind)) then some (decide (c1.Kind ≤ 3)) else some false).bind fun b2 =>
 some b2
def bookendref31_many (fu : Nat) (c1 : TApiOpCall) : Option (Int) :=
 if (decide (c1.Kind = 3)) then
  some (c1.Writes.length : Int)
 else
  some 1
def bookendref31_Events_l1 (l1 : List TApiOpCall) (a2 : List TApiOpAnswer) : Nat → Int → Int → Int → Int → Int → Option (Sum (Int × Int × Int × Int) (TApiStEvents × Int × Int))
 | 0, _, _, _, _, _ => none
 | fu + 1, i63, vx64, vx65, vx66, vx67 =>
  if (decide (i63 < (l1.length : Int))) then
   (ix l1 i63).bind fun e69 =>
   (bookendref04_Check fu e69).bind fun vr70 =>
   if (!(decide (vr70 = 0))) then
    some (.inr ((TApiStEvents.mk 0 0 0 0), i63, vr70))
   else
    (ix a2 i63).bind fun e72 =>
    (bookendref04_Write fu e69).bind fun vr73 =>
    (if vr73 then some (decide (e72.E = 0)) else some false).bind fun b74 =>
    if b74 then
     (bookendref31_many fu e69).bind fun vr77 =>
     bookendref31_Events_l1 l1 a2 fu (IntKind.i64.wrap (i63 + 1)) (IntKind.i64.wrap (vx64 + vr77)) vx65 vx66 vx67
    else
     (bookendref04_Write fu e69).bind fun vr78 =>
     (if vr78 then some (decide (e72.E = 10)) else some false).bind fun b79 =>
     if b79 then
      bookendref31_Events_l1 l1 a2 fu (IntKind.i64.wrap (i63 + 1)) vx64 (IntKind.i64.wrap (vx65 + 1)) vx66 vx67
     else
      (if (decide (e69.Kind = 8)) then some (decide (e72.E = 0)) else some false).bind fun b82 =>
      if b82 then
       bookendref31_Events_l1 l1 a2 fu (IntKind.i64.wrap (i63 + 1)) vx64 vx65 (IntKind.i64.wrap (vx66 + 1)) vx67
      else
       (if (decide (e69.Kind = 9)) then some (decide (e72.E = 0)) else some false).bind fun b85 =>
       if b85 then
        bookendref31_Events_l1 l1 a2 fu (IntKind.i64.wrap (i63 + 1)) vx64 vx65 (IntKind.i64.wrap (vx66 - 1)) vx67
       else
        (if (decide (e69.Kind = 10)) then some (decide (e72.E = 0)) else some false).bind fun b88 =>
        if b88 then
         bookendref31_Events_l1 l1 a2 fu (IntKind.i64.wrap (i63 + 1)) vx64 vx65 vx66 (IntKind.i64.wrap (vx67 + 1))
        else
         (if (decide (e69.Kind = 13)) then some (decide (e72.E = 0)) else some false).bind fun b91 =>
         if b91 then
          bookendref31_Events_l1 l1 a2 fu (IntKind.i64.wrap (i63 + 1)) vx64 vx65 vx66 (IntKind.i64.wrap (vx67 - 1))
         else
          bookendref31_Events_l1 l1 a2 fu (IntKind.i64.wrap (i63 + 1)) vx64 vx65 vx66 vx67
  else
   some (.inl (vx64, vx65, vx66, vx67))
def bookendref31_Events (fu : Nat) (l1 : List TApiOpCall) (a2 : List TApiOpAnswer) : Option (TApiStEvents × Int × Int) :=
 if (decide (200 < (l1.length : Int))) then
  some ((TApiStEvents.mk 0 0 0 0), (-1), 3)
 else
  if (!(decide ((l1.length : Int) = (a2.length : Int)))) then
   some ((TApiStEvents.mk 0 0 0 0), (-1), 6)
  else
   (bookendref31_Events_l1 l1 a2 fu 0 0 0 0 0).bind fun x62 => match x62 with
   | .inl o94 =>
    some ((TApiStEvents.mk o94.1 o94.2.1 o94.2.2.1 o94.2.2.2), 0, 0)
   | .inr y =>
    some y
def bookendlaw31_StatsEvents_l1 (a2 : List TApiOpAnswer) : Nat → Int → Option (Sum (Unit) (Bool))
 | 0, _ => none
 | fu + 1, i20 =>
  if (decide (i20 < (a2.length : Int))) then
   (ix a2 i20).bind fun e22 =>
   (bookendlaw04_FarAnswer fu e22).bind fun vr23 =>
   if vr23 then
    (bookendlaw31_shown fu).bind fun vr25 =>
    some (.inr vr25)
   else
    bookendlaw31_StatsEvents_l1 a2 fu (IntKind.i64.wrap (i20 + 1))
  else
   some (.inl ())
def bookendlaw31_StatsEvents (fu : Nat) (l1 : List TApiOpCall) (a2 : List TApiOpAnswer) : Option (Bool) :=
 (bookendlaw04_FarScript fu l1).bind fun vr3 =>
 (if vr3 then some true else some (decide (205 < (a2.length : Int)))).bind fun b4 =>
 if b4 then
  (bookendlaw31_shown fu).bind fun vr7 =>
  some vr7
 else
  (bookendlaw31_StatsEvents_l1 a2 fu 0).bind fun x19 => match x19 with
  | .inl o26 =>
   (stats_Events fu l1 a2).bind fun vr27 =>
   (bookendref31_Events fu l1 a2).bind fun vr28 =>
   (if (TApiStEvents.eqb vr27.1 vr28.1) then some (decide (vr27.2.1 = vr28.2.1)) else some false).bind fun b29 =>
   (if b29 then some (decide (vr27.2.2 = vr28.2.2)) else some false).bind fun b30 =>
   (if b30 then (bookendlaw31_shown fu).bind fun vr31 => some vr31 else some false).bind fun b32 =>
   some b32
  | .inr y =>
   some y
end Go.T
