/- A text of the proof. -/
import Derived.Test.YtnlggkiekcpahaaGreatAAmX
set_option linter.unusedSimpArgs false
set_option linter.unusedVariables false
namespace Go.AM
open Go Go.RowKit
def Bd {α β : Type} (x : Option α) (f : α → Option β) : Option β:=match x with | some a=>f a | none=>none
@[congr] theorem Bd_congr {α β : Type} {x y : Option α} {f : α → Option β} (h : x = y) : Bd x f = Bd y f:=by rw [h]
theorem zkv {α β : Type} (a : α) (f : α → Option β) : Bd (some a) f = f a:=rfl
theorem zlw {α β : Type} (f : α → Option β) : Bd none f = none:=rfl
def wC {α : Type} (c : Prop) [Decidable c] (x : Option α) : Option α:=if c then x else none
@[congr] theorem IfO_congr {α : Type} {c : Prop} [Decidable c] {x : Option α} : wC c x = wC c x:=rfl
theorem Bd_IfO {α β : Type} (c : Prop) [Decidable c] (x : Option α) (f : α → Option β) : Bd (wC c x) f = wC c (Bd x f):=by
  unfold wC; split <;> rfl
theorem zjS {α : Type} (c : Prop) [Decidable c] (x : Option α) (k : α → Prop) : bC (wC c x) k = (c ∧ bC (Xa x) k):=zjN c x k
theorem znw {α β : Type} (x : Option α) (f : α → Option β) (k : β → Prop) : bC (Bd x f) k = bC (Xa x) fun a=>bC (Xa (f a)) k:=by cases x <;> rfl
def zdu : AV → Option Bool | .bool b=>some b | _=>none
theorem zno (b : Bool) : zdu (.bool b) = some b:=rfl
section
variable {P : Program} {ρ : Operand → AV} {η : kB} {nm : Nat}
theorem eF {d : Option Tmp} {op : Op} {ty : TypeId} {pos : String} {after : Array Edge} {g : Option (Nat × Bool)} {ans : Option (AV × List pA)} {gt : List Nat} {τ : Nat → AV} {k : SE → Prop} (h : mM op = none) (h2 : mT P op τ = none := by rfl) :
    bC (nD P ⟨d,op,ty,pos,after,g⟩ ans nm gt τ η) k = bC (Xa (cC P op (yB τ) η nm)) fun e=>k ⟨d,e.v,e.wr,gt++bE op.operands.toList,e.rd,none⟩:=by
  simp only [nD,h,h2]
  cases cC P op (yB τ) η nm <;> rfl
theorem H_call {d : Option Tmp} {f : Operand} {args : Array Operand} {ats : Array TypeId} {ty : TypeId} {pos : String} {after : Array Edge} {g : Option (Nat × Bool)} {ans : Option (AV × List pA)} {gt : List Nat} {τ : Nat → AV} {k : SE → Prop} :
    bC (nD P ⟨d,.call { callee:=.value f,args:=args,argTypes:=ats },ty,pos,after,g⟩ ans nm gt τ η) k =
      bC (Bd ans fun a=>sJ η nm (yB τ f) (args.toList.map (yB τ)) a) fun r=>k ⟨d,r.1.v,r.1.wr,gt++bE (f::args.toList),r.1.rd,some r.2⟩:=by
  simp only [nD,mM]
  cases ans with
  | none=>rfl
  | some a=>simp only [Bd,Xa]; cases sJ η nm (yB τ f) (args.toList.map (yB τ)) a <;> rfl
theorem zlx {t : TypeId} {x : AV} {name : String} : uU P (.iface t x) name = Bd (Xa (kV P t name)) fun f=>some (f,x):=by
  simp only [uU]; cases kV P t name <;> rfl
theorem zgn {d : Option Tmp} {rcv : Operand} {name : String} {args : Array Operand} {ats : Array TypeId} {ty : TypeId} {pos : String} {after : Array Edge} {g : Option (Nat × Bool)} {ans : Option (AV × List pA)} {gt : List Nat} {τ : Nat → AV} {k : SE → Prop} :
    bC (nD P ⟨d,.call { callee:=.invoke rcv name,args:=args,argTypes:=ats },ty,pos,after,g⟩ ans nm gt τ η) k =
      bC (Bd (Xa (uU P (yB τ rcv) name)) fun p=>Bd ans fun a=>sJ η nm (.fn p.1 [] []) (p.2::args.toList.map (yB τ)) a) fun r=>k ⟨d,r.1.v,r.1.wr,gt++bE (rcv::args.toList),r.1.rd,some r.2⟩:=by
  have hops : (Op.call { callee:=.invoke rcv name,args:=args,argTypes:=ats }).operands.toList = rcv::args.toList:=by simp [Op.operands,Call.operands]
  simp only [nD,mM,mT,hops]
  cases uU P (yB τ rcv) name with
  | none=>cases ans <;> rfl
  | some p =>
    cases ans with
    | none=>rfl
    | some a=>simp only [Bd,Xa]; cases sJ η nm (.fn p.1 [] []) (p.2::args.toList.map (yB τ)) a <;> rfl
theorem zfA {fid : FuncId} {first cap args : List AV} {ans : AV × List pA} : sJ η nm (.fn fid first cap) args ans =
    Bd (aC.purs η 60 (first++args++cap)) fun p=>wC (ans.2.length ≤ 8) (some (⟨ans.1.shift nm,(if p.2.isEmpty || (ans.1.flatR && ans.2.all pA.flat) then [] else bH η p.2)++pP nm 0 ans.2,p.2⟩,⟨fid,p.1,ans.1,ans.2⟩)):=by
  simp only [sJ]
  cases aC.purs η 60 (first++args++cap) <;> rfl
theorem S_move {x : Operand} : cC P (.move x) ρ η nm = some ⟨ρ x,[],[]⟩:=rfl
theorem zoS {x : Operand} : cC P (.assign x) ρ η nm = some ⟨ρ x,[],[]⟩:=rfl
theorem S_pick {c a b : Operand} : cC P (.pick c a b) ρ η nm = Bd (Xa (zdu (ρ c))) fun t=>some ⟨if t then ρ a else ρ b,[],[]⟩:=by
  simp only [cC]; cases ρ c <;> rfl
theorem zjA {t : TypeId} : cC P (.alloc t) ρ η nm = Bd (Xa (sB P t)) fun n=>Bd (Xa (zC P t)) fun z=>wC (z.length = n) (some ⟨.ref nm 0 0 0,[(nm,{ g:=0,own:=true,pure:=AV.isP.isPs z,sz:=n,es:=[z] })],[]⟩):=by
  simp only [cC]; cases sB P t <;> cases zC P t <;> rfl
theorem S_mkif {t : TypeId} {x : Operand} : cC P (.makeInterface t x) ρ η nm = wC (fP P t = true) (some ⟨.iface t (ρ x),[],[]⟩):=by
  simp only [cC,wC]
def vL (P : Program) (t : TypeId) (v : AV) : Option AV:=match v with
  | .iface u x=>if u = t then some (.tup [x,.bool true]) else (sI P t).map fun z=>.tup [z,.bool false]
  | .nili=>(sI P t).map fun z=>.tup [z,.bool false]
  | _=>none
theorem zpL {x : Operand} {xt t : TypeId} : cC P (.typeAssert x xt t true) ρ η nm = wC (fP P t = true) (Bd (Xa (vL P t (ρ x))) fun v=>some ⟨v,[],[]⟩):=by
  simp only [cC,wC,vL,Bool.true_and]
  split
  · cases ρ x <;> try rfl
    case iface u v =>
      simp only [Bd,Xa]
      by_cases e : u = t
      · simp only [if_pos e]
      · simp only [if_neg e]; cases sI P t <;> rfl
    case nili=>simp only [Bd,Xa]; cases sI P t <;> rfl
  · rfl
theorem zfZ {t : TypeId} {x : AV} : vL P t (.iface t x) = some (.tup [x,.bool true]):=by simp [vL]
theorem ziZ {u t : TypeId} {x : AV} (h : (u == t) = false) : vL P t (.iface u x) = Bd (Xa (sI P t)) fun z=>some (.tup [z,.bool false]):=by
  have : u ≠ t:=by simpa using h
  simp only [vL,if_neg this]; cases sI P t <;> rfl
theorem znk {t : TypeId} : vL P t .nili = Bd (Xa (sI P t)) fun z=>some (.tup [z,.bool false]):=by
  simp only [vL]; cases sI P t <;> rfl
theorem S_box {t : TypeId} {x : Operand} : cC P (.box t x) ρ η nm = Bd (Xa ((ρ x).cells)) fun cs=>some ⟨.ref nm 0 0 0,[(nm,{ g:=0,own:=true,pure:=AV.isP.isPs cs,sz:=cs.length,es:=[cs] })],[]⟩:=by
  simp only [cC]; cases (ρ x).cells <;> rfl
theorem zii {t : TypeId} {parts : Array (Nat × Operand)} : cC P (.build t parts) ρ η nm = Bd (Xa (zG P t)) fun pl=>Bd (Xa (zC P t)) fun z=>Bd (Xa (qJ (fun i=>pl[i]?) z (parts.toList.map fun p=>(p.1,ρ p.2)))) fun cs=>some ⟨.agg cs,[],[]⟩:=by
  simp only [cC,iY]
  cases zG P t with
  | none=>cases zC P t <;> rfl
  | some pl=>cases zC P t with
    | none=>rfl
    | some z=>simp only [Bd,Xa]; cases qJ (fun i=>pl[i]?) z (parts.toList.map fun p=>(p.1,ρ p.2)) <;> rfl
theorem zjY {place : Nat → Option (Nat × Nat)} {cs : List AV} : qJ place cs [] = some cs:=rfl
theorem zhI {place : Nat → Option (Nat × Nat)} {cs : List AV} {i : Nat} {v : AV} {jB : List (Nat × AV)} :
    qJ place cs ((i,v)::jB) = Bd (Xa (place i)) fun p=>Bd (Xa (v.cells)) fun vs=>wC (vs.length = p.2 ∧ p.1 + p.2 ≤ cs.length) (qJ place (cs.take p.1++vs++cs.drop (p.1 + p.2)) jB):=by
  simp only [qJ]; cases place i <;> cases v.cells <;> rfl
theorem zko {t : TypeId} {len : Nat} {parts : Array (Nat × Operand)} : cC P (.buildSlice t len parts) ρ η nm = Bd (Xa (jD P t)) fun e => Bd (Xa (sB P e)) fun sz => Bd (Xa (zC P e)) fun z => wC (len * sz ≤ 2 ^ 24 ∧ z.length = sz ∧ 0 < sz) (Bd (Xa (aM (List.replicate len z) (parts.toList.map fun p => (p.1, ρ p.2)) sz)) fun es =>
    some ⟨.sl nm 0 sz 0 len,[(nm,{ g:=0,own:=true,pure:=es.all AV.isP.isPs,sz:=sz,es:=es })],[]⟩):=by
  simp only [cC,kZ]
  cases jD P t with
  | none=>rfl
  | some e=>simp only [Bd,Xa]; cases sB P e with
    | none=>cases zC P e <;> rfl
    | some sz=>cases zC P e with
      | none=>rfl
      | some z => simp only [wC, Xa]; split
                  · cases aM (List.replicate len z) (parts.toList.map fun p=>(p.1,ρ p.2)) sz <;> rfl
                  · rfl
theorem zkL {es : List (List AV)} {n : Nat} : aM es [] n = some es:=rfl
theorem zjz {es : List (List AV)} {n i : Nat} {v : AV} {jB : List (Nat × AV)} : aM es ((i,v)::jB) n = Bd (Xa (v.cells)) fun cs=>wC (cs.length = n ∧ i < es.length) (aM (es.set i cs) jB n):=by
  simp only [aM]; cases v.cells <;> rfl
def sN (ag : Bool) (n : Nat) (a : AV) (η : kB) : Option (AV × List Nat):=match a with
  | .ref b g i j=>match dH η b g i with
    | some e=>if j + n ≤ e.length then (AV.ofCells ag ((e.drop j).take n)).map fun v=>(v,[b]) else none
    | none=>none
  | .pp cs=>if n ≤ cs.length then (AV.ofCells ag (cs.take n)).map fun v=>(v,[]) else none
  | _=>none
theorem S_load {t : TypeId} {a : Operand} : cC P (.load t a) ρ η nm = Bd (Xa (uD P t)) fun ag=>Bd (Xa (sB P t)) fun n=>Bd (Xa (sN ag n (ρ a) η)) fun r=>some ⟨r.1,[],r.2⟩:=by
  simp only [cC,kO]
  cases uD P t with
  | none=>rfl
  | some ag=>cases sB P t with
    | none=>rfl
    | some n=>show Option.map _ (sN ag n (ρ a) η) = _; simp only [Bd,Xa]; cases sN ag n (ρ a) η <;> rfl
theorem zjC {ag : Bool} {n b g i j : Nat} : sN ag n (.ref b g i j) η = Bd (Xa (dH η b g i)) fun e=>wC (j + n ≤ e.length) (Bd (Xa (AV.ofCells ag ((e.drop j).take n))) fun v=>some (v,[b])):=by
  simp only [sN]; cases dH η b g i with
  | none=>rfl
  | some e => simp only [Bd, Xa, wC]; split
              · cases AV.ofCells ag ((e.drop j).take n) <;> rfl
              · rfl
theorem zk5 {ag : Bool} {n : Nat} {cs : List AV} : sN ag n (.pp cs) η = wC (n ≤ cs.length) (Bd (AV.ofCells ag (cs.take n)) fun v=>some (v,[])):=by
  simp only [sN,wC]; split
  · cases AV.ofCells ag (cs.take n) <;> rfl
  · rfl
theorem zg1 {cs : List AV} : AV.ofCells true cs = some (.agg cs):=rfl
theorem zlP {c : AV} : AV.ofCells false [c] = some c:=rfl
theorem zpy {b g i : Nat} : dH η b g i = Bd (Xa (η b)) fun blk=>wC (blk.g = g) (blk.es[i]?):=by
  simp only [dH]; cases η b <;> rfl
theorem zlJ {t : TypeId} {a x : Operand} : cC P (.store t a x) ρ η nm = Bd (Xa (vN P t (ρ a) (ρ x) η)) fun r=>some ⟨.tup [],[r],[r.1]⟩:=by
  simp only [cC]; cases vN P t (ρ a) (ρ x) η <;> rfl
theorem zg7 {t : TypeId} {b g i j : Nat} {v : AV} : vN P t (.ref b g i j) v η = Bd (Xa (sB P t)) fun n => Bd (Xa (v.cells)) fun cs => Bd (Xa (η b)) fun blk => wC (blk.g = g ∧ blk.own = true ∧ cs.length = n) (Bd (Xa (blk.es[i]?)) fun e => wC (j + n ≤ e.length)
    (some (b,{ blk with es:=blk.es.set i (e.take j++cs++e.drop (j + n)),pure:=blk.pure && AV.isP.isPs cs }))):=by
  simp only [vN]
  cases sB P t with
  | none=>rfl
  | some n=>cases v.cells with
    | none=>rfl
    | some cs=>simp only [Bd,Xa]; cases η b with
      | none=>rfl
      | some blk => simp only [wC, Xa]; split
                    · cases blk.es[i]? <;> rfl
                    · rfl
theorem zn4 {x : Operand} : cC P (.nilCheck x) ρ η nm = Bd (match ρ x with | .ref b g i j=>some (AV.ref b g i j) | .pp cs=>some (.pp cs) | .fn f a c=>some (.fn f a c) | _=>none) fun v=>some ⟨v,[],[]⟩:=by
  simp only [cC]; cases ρ x <;> rfl
theorem S_bin {op : BinOp} {t yt : TypeId} {x y : Operand} : cC P (.binOp op t x y yt) ρ η nm = Bd (Xa (eD P op t (ρ x) (ρ y))) fun v=>some ⟨v,[],[]⟩:=by
  simp only [cC]; cases eD P op t (ρ x) (ρ y) <;> rfl
theorem S_un {op : UnOp} {t : TypeId} {x : Operand} : cC P (.unOp op t x) ρ η nm = Bd (Xa (aUn op (ρ x))) fun v=>some ⟨v,[],[]⟩:=by
  simp only [cC]; cases aUn op (ρ x) <;> rfl
theorem S_conv {s d : TypeId} {x : Operand} : cC P (.convert s d x) ρ η nm = Bd (Xa (tW P s d (ρ x))) fun v=>some ⟨v,[],[]⟩:=by
  simp only [cC]; cases tW P s d (ρ x) <;> rfl
theorem zl7 {b : Bool} : aUn .not (.bool b) = some (.bool !b):=rfl
theorem zlr {k : IntKind} {n : Int} : aUn .neg (.int k n) = some (.int k (k.wrap (0 - n))):=rfl
theorem zlA {f : FuncId} {first cap : Array Operand} : cC P (.makeFunc (.func f) first cap) ρ η nm = some ⟨.fn f (first.toList.map ρ) (cap.toList.map ρ),[],[]⟩:=rfl
theorem zot {t : TypeId} {l c : Operand} : cC P (.makeSlice t l c) ρ η nm = Bd (Xa (pT P t (ρ l) (ρ c) nm)) fun r=>some ⟨r.1,[r.2],[]⟩:=by
  simp only [cC]; cases pT P t (ρ l) (ρ c) nm <;> rfl
theorem zlt {t : TypeId} {k k' : IntKind} {l c : Int} : pT P t (.int k l) (.int k' c) nm = Bd (Xa (jD P t)) fun e => Bd (Xa (sB P e)) fun sz => Bd (Xa (tD P e)) fun bs => Bd (Xa (zC P e)) fun z => wC (0 ≤ l ∧ l ≤ c ∧ c ≤ IntKind.i64.max ∧ (bs : Int) * c ≤ 2 ^ 48 ∧ z.length = sz ∧ 0 < sz)
    (some (.sl nm 0 sz 0 l.toNat,(nm,{ g:=0,own:=true,pure:=true,sz:=sz,es:=List.replicate l.toNat z }))):=by
  simp only [pT]
  cases jD P t with
  | none=>rfl
  | some e=>simp only [Bd,Xa]; cases sB P e with
    | none=>rfl
    | some sz=>cases tD P e with
      | none=>rfl
      | some bs=>cases zC P e <;> rfl
theorem zim {t : TypeId} {x : Operand} {lo hi mx : Option Operand} : cC P (.slice t x lo hi mx) ρ η nm = Bd (Xa (sL P t (ρ x) (lo.map ρ) (hi.map ρ) (mx.map ρ))) fun v=>some ⟨v,[],[]⟩:=by
  simp only [cC]; cases sL P t (ρ x) (lo.map ρ) (hi.map ρ) (mx.map ρ) <;> rfl
theorem zpG {t : TypeId} {x : Operand} {f : Nat} : cC P (.fieldAddr t x f) ρ η nm = Bd (Xa (kD P t f)) fun p=>Bd (match ρ x with | .ref b g i j=>some (AV.ref b g i (j + p.1)) | .pp cs=>wC (p.1 ≤ cs.length) (some (.pp (cs.drop p.1))) | _=>none) fun v=>some ⟨v,[],[]⟩:=by
  simp only [cC,zap]
  cases kD P t f with
  | none=>rfl
  | some p=>simp only [Bd,Xa]; cases ρ x <;> first | rfl | (simp only [wC,Xa]; split <;> rfl)
theorem zfD {t : TypeId} {x : Operand} {f : Nat} : cC P (.field t x f) ρ η nm = Bd (Xa (kD P t f)) fun p=>Bd (match ρ x with | .agg cs=>tM P p.2 cs p.1 | _=>none) fun v=>some ⟨v,[],[]⟩:=by
  simp only [cC]
  cases kD P t f with
  | none=>rfl
  | some p=>cases ρ x <;> first | rfl | (rename_i cs; simp only [Bd,Xa]; cases tM P p.2 cs p.1 <;> rfl)
theorem zkd {t : TypeId} {cs : List AV} {off : Nat} : tM P t cs off = Bd (Xa (uD P t)) fun ag=>Bd (Xa (sB P t)) fun n=>if ag then some (.agg ((cs.drop off).take n)) else cs[off]?:=by
  simp only [tM]
  cases uD P t with
  | none=>rfl
  | some ag=>cases sB P t with
    | none=>cases ag <;> rfl
    | some n=>cases ag <;> rfl
theorem zjr {t : TypeId} {x i : Operand} : cC P (.indexAddr t x i) ρ η nm = Bd (Xa (rK P t (ρ x) (ρ i))) fun v=>some ⟨v,[],[]⟩:=by
  simp only [cC]; cases rK P t (ρ x) (ρ i) <;> rfl
theorem znQ {t : TypeId} {b g z off len : Nat} {k : IntKind} {n : Int} : rK P t (.sl b g z off len) (.int k n) = Bd (Xa (jD P t)) fun e=>Bd (Xa (sB P e)) fun sz=>wC (z = sz ∧ 0 ≤ n ∧ n < len) (some (.ref b g (off + n.toNat) 0)):=by
  simp only [rK]
  cases jD P t with
  | none =>
    cases iP P t with
    | none=>rfl
    | some a=>obtain ⟨l,e⟩:=a; simp only [Bd,Xa]; cases sB P e <;> rfl
  | some e=>simp only [Bd,Xa]; cases sB P e <;> rfl
theorem zlR {t : TypeId} {z : Nat} {es : List (List AV)} {k : IntKind} {n : Int} : rK P t (.psl z es) (.int k n) = Bd (Xa (jD P t)) fun e=>Bd (Xa (sB P e)) fun sz=>wC (z = sz ∧ 0 ≤ n) (Bd (Xa (es[n.toNat]?)) fun e=>some (.pp e)):=by
  simp only [rK]
  cases jD P t with
  | none =>
    cases iP P t with
    | none=>rfl
    | some a=>obtain ⟨l,e⟩:=a; simp only [Bd,Xa]; cases sB P e <;> rfl
  | some e=>simp only [Bd,Xa]; cases sB P e with
    | none=>rfl
    | some sz => simp only [wC, Xa]; split
                 · cases es[n.toNat]? <;> rfl
                 · rfl
theorem zjv {t : TypeId} {b g i j : Nat} {k : IntKind} {n : Int} : rK P t (.ref b g i j) (.int k n) = Bd (Xa (iP P t)) fun a=>Bd (Xa (sB P a.2)) fun sz=>wC (0 ≤ n ∧ n < a.1) (some (.ref b g i (j + n.toNat * sz))):=by
  simp only [rK,jD,iP,Xa]
  cases P.underlying t with
  | none=>rfl
  | some u =>
    cases u with
    | slice e=>dsimp only; cases sB P e <;> rfl
    | array l e=>dsimp only [Bd]; cases sB P e <;> rfl
    | _=>rfl
theorem zhl {t : TypeId} {cs : List AV} {k : IntKind} {n : Int} : rK P t (.pp cs) (.int k n) = Bd (Xa (iP P t)) fun a=>Bd (Xa (sB P a.2)) fun sz=>wC (0 ≤ n ∧ n < a.1 ∧ n.toNat * sz ≤ cs.length) (some (.pp (cs.drop (n.toNat * sz)))):=by
  simp only [rK,jD,iP,Xa]
  cases P.underlying t with
  | none=>rfl
  | some u =>
    cases u with
    | slice e=>dsimp only; cases sB P e <;> rfl
    | array l e=>dsimp only [Bd]; cases sB P e <;> rfl
    | _=>rfl
theorem ziB {t : TypeId} {x i : Operand} : cC P (.index t x i) ρ η nm = Bd (Xa (P.underlying t)) fun u=>Bd (match u,ρ x,ρ i with | .string,.str s,.int _ n=>wC (0 ≤ n) (Bd (s[n.toNat]?) fun c=>some (AV.int .u8 c.toNat)) | _,_,_=>none) fun v=>some ⟨v,[],[]⟩:=by
  simp only [cC]
  cases P.underlying t with
  | none=>rfl
  | some u => cases u <;> try rfl
              cases ρ x <;> try rfl
              cases ρ i <;> try rfl
              rename_i s k n
              simp only [Bd,Xa,wC]
              split
              · cases s[n.toNat]? <;> rfl
              · rfl
theorem zob {x : Operand} {i : Nat} : cC P (.extract x i) ρ η nm = Bd (match ρ x with | .tup vs=>vs[i]? | _=>none) fun v=>some ⟨v,[],[]⟩:=by
  simp only [cC]
  cases ρ x <;> first | rfl | (rename_i vs; simp only [Bd,Xa]; cases vs[i]? <;> rfl)
theorem S_bi {b : Builtin} {args : Array Operand} {ats : Array TypeId} : cC P (.call { callee:=.builtin b,args:=args,argTypes:=ats }) ρ η nm = lL P b ats.toList (args.toList.map ρ) η nm:=rfl
theorem B_len {t : TypeId} {x : AV} : lL P .len [t] [x] η nm = Bd (Xa (P.underlying t)) fun u => Bd (match u, x with
    | .string,.str s=>some (AV.int .i64 s.length) | .slice _,.nils=>some (.int .i64 0) | .slice _,.sl _ _ _ _ n=>some (.int .i64 n) | .slice _,.psl _ es=>some (.int .i64 es.length) | .slice _,.emp=>some (.int .i64 0) | _,_=>none) fun v=>some ⟨v,[],[]⟩:=by
  simp only [lL,zan]
  cases P.underlying t with
  | none=>rfl
  | some u=>cases u <;> first | rfl | (cases x <;> rfl)
theorem zky {t t' : TypeId} {s x : AV} : lL P .append [t,t'] [s,x] η nm = Bd (Xa (jJ P t t' s x η nm)) fun r=>some ⟨r.1,[r.2.1],r.2.2⟩:=by
  simp only [lL]; cases jJ P t t' s x η nm <;> rfl
theorem B_max {ts : List TypeId} {k : IntKind} {x y : Int} : lL P .max ts [.int k x,.int k y] η nm = some ⟨.int k (if x < y then y else x),[],[]⟩:=by
  simp [lL,aMax]
theorem B_min {ts : List TypeId} {k : IntKind} {x y : Int} : lL P .min ts [.int k x,.int k y] η nm = some ⟨.int k (if y < x then y else x),[],[]⟩:=by
  simp [lL,aMin]
theorem zll {t t' : TypeId} {x : AV} : jJ P t t' .nils x η nm = Bd (Xa (jD P t)) fun e => Bd (Xa (jD P t')) fun e' => Bd (Xa (sB P e)) fun sz => Bd (Xa (tD P e)) fun bs => Bd (Xa (sB P e')) fun sz' => Bd (Xa (zC P e)) fun z => wC (sz = sz' ∧ 0 < sz ∧ 0 < bs ∧ z.length = sz)
    (Bd (lH η sz x) fun p=>wC (2 * (p.1.length * bs) ≤ 2 ^ 48) (some (.sl nm 0 sz 0 p.1.length,(nm,{ g:=0,own:=true,pure:=p.1.all AV.isP.isPs,sz:=sz,es:=p.1 }),p.2))):=by
  simp only [jJ]
  cases jD P t with
  | none=>rfl
  | some e=>cases jD P t' with
    | none=>rfl
    | some e'=>simp only [Bd,Xa]; cases sB P e with
      | none=>rfl
      | some sz=>cases tD P e with
        | none=>rfl
        | some bs=>cases sB P e' with
          | none=>rfl
          | some sz'=>cases zC P e with
            | none=>rfl
            | some z => simp only [wC, Xa]; split
                        · cases lH η sz x <;> rfl
                        · rfl
theorem zlO {t t' : TypeId} {x : AV} : jJ P t t' .emp x η nm = Bd (Xa (jD P t)) fun e => Bd (Xa (jD P t')) fun e' => Bd (Xa (sB P e)) fun sz => Bd (Xa (tD P e)) fun bs => Bd (Xa (sB P e')) fun sz' => Bd (Xa (zC P e)) fun z => wC (sz = sz' ∧ 0 < sz ∧ 0 < bs ∧ z.length = sz)
    (Bd (lH η sz x) fun p=>wC (2 * (p.1.length * bs) ≤ 2 ^ 48) (some (.sl nm 0 sz 0 p.1.length,(nm,{ g:=0,own:=true,pure:=p.1.all AV.isP.isPs,sz:=sz,es:=p.1 }),p.2))):=by
  simp only [jJ]
  cases jD P t with
  | none=>rfl
  | some e=>cases jD P t' with
    | none=>rfl
    | some e'=>simp only [Bd,Xa]; cases sB P e with
      | none=>rfl
      | some sz=>cases tD P e with
        | none=>rfl
        | some bs=>cases sB P e' with
          | none=>rfl
          | some sz'=>cases zC P e with
            | none=>rfl
            | some z => simp only [wC, Xa]; split
                        · cases lH η sz x <;> rfl
                        · rfl
theorem zfK {t t' : TypeId} {b g z0 off len : Nat} {x : AV} : jJ P t t' (.sl b g z0 off len) x η nm = Bd (Xa (jD P t)) fun e => Bd (Xa (jD P t')) fun e' => Bd (Xa (sB P e)) fun sz => Bd (Xa (tD P e)) fun bs => Bd (Xa (sB P e')) fun sz' => Bd (Xa (zC P e)) fun z => wC (sz = sz' ∧ 0 < sz ∧ 0 < bs ∧ z.length = sz)
    (Bd (lH η sz x) fun p=>Bd (η b) fun blk=>wC (z0 = sz ∧ blk.g = g ∧ blk.sz = sz ∧ off = 0 ∧ len = blk.es.length ∧ blk.own = true ∧ 2 * ((len + p.1.length) * bs) ≤ 2 ^ 48)
      (some (.sl b (g + 1) sz 0 (len + p.1.length),(b,{ blk with g:=g + 1,es:=blk.es++p.1,pure:=blk.pure && p.1.all AV.isP.isPs }),b::p.2))):=by
  simp only [jJ]
  cases jD P t with
  | none=>rfl
  | some e=>cases jD P t' with
    | none=>rfl
    | some e'=>simp only [Bd,Xa]; cases sB P e with
      | none=>rfl
      | some sz=>cases tD P e with
        | none=>rfl
        | some bs=>cases sB P e' with
          | none=>rfl
          | some sz'=>cases zC P e with
            | none=>rfl
            | some z => simp only [wC, Xa]; split
                        · cases lH η sz x with
                          | none=>rfl
                          | some p=>simp only; cases η b <;> rfl
                        · rfl
theorem znq {sz : Nat} : lH η sz .nils = some ([],[]):=rfl
theorem zmw {sz : Nat} : lH η sz .emp = some ([],[]):=rfl
theorem zix {sz z : Nat} {es : List (List AV)} : lH η sz (.psl z es) = wC (z = sz ∨ es = []) (some (es,[])):=rfl
theorem zf8 {sz b g z off len : Nat} : lH η sz (.sl b g z off len) = Bd (Xa (η b)) fun blk=>wC (z = sz ∧ blk.g = g ∧ blk.sz = sz ∧ off + len ≤ blk.es.length) (some ((blk.es.drop off).take len,[b])):=by
  simp only [lH]; cases η b <;> rfl
end
section
variable {x a b c : Operand} {t ty : TypeId} {n : Nat} {pr : Array (Nat × Operand)} {bo : BinOp} {uo : UnOp} {fn : Fn} {ar br : Array Operand} {oa ob oc : Option Operand} {bi : Builtin} {ts : Array TypeId}
theorem H_move {P : Program} {η : kB} {nm : Nat} {d : Option Tmp} {tq : TypeId} {pos : String} {after : Array Edge} {g : Option (Nat × Bool)} {ans : Option (AV × List pA)} {gt : List Nat} {τ : Nat → AV} {k : SE → Prop} :
    bC (nD P ⟨d,(.move x),tq,pos,after,g⟩ ans nm gt τ η) k = bC (Xa (cC P (.move x) (yB τ) η nm)) fun e=>k ⟨d,e.v,e.wr,gt++bE (Op.operands (.move x)).toList,e.rd,none⟩:=eF rfl
theorem H_mkif {P : Program} {η : kB} {nm : Nat} {d : Option Tmp} {tq : TypeId} {pos : String} {after : Array Edge} {g : Option (Nat × Bool)} {ans : Option (AV × List pA)} {gt : List Nat} {τ : Nat → AV} {k : SE → Prop} :
    bC (nD P ⟨d,(.makeInterface t x),tq,pos,after,g⟩ ans nm gt τ η) k = bC (Xa (cC P (.makeInterface t x) (yB τ) η nm)) fun e=>k ⟨d,e.v,e.wr,gt++bE (Op.operands (.makeInterface t x)).toList,e.rd,none⟩:=eF rfl
theorem zgH {xt : TypeId} {ok : Bool} {P : Program} {η : kB} {nm : Nat} {d : Option Tmp} {tq : TypeId} {pos : String} {after : Array Edge} {g : Option (Nat × Bool)} {ans : Option (AV × List pA)} {gt : List Nat} {τ : Nat → AV} {k : SE → Prop} :
    bC (nD P ⟨d,(.typeAssert x xt t ok),tq,pos,after,g⟩ ans nm gt τ η) k = bC (Xa (cC P (.typeAssert x xt t ok) (yB τ) η nm)) fun e=>k ⟨d,e.v,e.wr,gt++bE (Op.operands (.typeAssert x xt t ok)).toList,e.rd,none⟩:=eF rfl
theorem zlS {P : Program} {η : kB} {nm : Nat} {d : Option Tmp} {tq : TypeId} {pos : String} {after : Array Edge} {g : Option (Nat × Bool)} {ans : Option (AV × List pA)} {gt : List Nat} {τ : Nat → AV} {k : SE → Prop} :
    bC (nD P ⟨d,(.assign x),tq,pos,after,g⟩ ans nm gt τ η) k = bC (Xa (cC P (.assign x) (yB τ) η nm)) fun e=>k ⟨d,e.v,e.wr,gt++bE (Op.operands (.assign x)).toList,e.rd,none⟩:=eF rfl
theorem H_pick {P : Program} {η : kB} {nm : Nat} {d : Option Tmp} {tq : TypeId} {pos : String} {after : Array Edge} {g : Option (Nat × Bool)} {ans : Option (AV × List pA)} {gt : List Nat} {τ : Nat → AV} {k : SE → Prop} :
    bC (nD P ⟨d,(.pick c a b),tq,pos,after,g⟩ ans nm gt τ η) k = bC (Xa (cC P (.pick c a b) (yB τ) η nm)) fun e=>k ⟨d,e.v,e.wr,gt++bE (Op.operands (.pick c a b)).toList,e.rd,none⟩:=eF rfl
theorem zjx {P : Program} {η : kB} {nm : Nat} {d : Option Tmp} {tq : TypeId} {pos : String} {after : Array Edge} {g : Option (Nat × Bool)} {ans : Option (AV × List pA)} {gt : List Nat} {τ : Nat → AV} {k : SE → Prop} :
    bC (nD P ⟨d,(.alloc t),tq,pos,after,g⟩ ans nm gt τ η) k = bC (Xa (cC P (.alloc t) (yB τ) η nm)) fun e=>k ⟨d,e.v,e.wr,gt++bE (Op.operands (.alloc t)).toList,e.rd,none⟩:=eF rfl
theorem H_box {P : Program} {η : kB} {nm : Nat} {d : Option Tmp} {tq : TypeId} {pos : String} {after : Array Edge} {g : Option (Nat × Bool)} {ans : Option (AV × List pA)} {gt : List Nat} {τ : Nat → AV} {k : SE → Prop} :
    bC (nD P ⟨d,(.box t x),tq,pos,after,g⟩ ans nm gt τ η) k = bC (Xa (cC P (.box t x) (yB τ) η nm)) fun e=>k ⟨d,e.v,e.wr,gt++bE (Op.operands (.box t x)).toList,e.rd,none⟩:=eF rfl
theorem zkI {P : Program} {η : kB} {nm : Nat} {d : Option Tmp} {tq : TypeId} {pos : String} {after : Array Edge} {g : Option (Nat × Bool)} {ans : Option (AV × List pA)} {gt : List Nat} {τ : Nat → AV} {k : SE → Prop} :
    bC (nD P ⟨d,(.build t pr),tq,pos,after,g⟩ ans nm gt τ η) k = bC (Xa (cC P (.build t pr) (yB τ) η nm)) fun e=>k ⟨d,e.v,e.wr,gt++bE (Op.operands (.build t pr)).toList,e.rd,none⟩:=eF rfl
theorem zid {P : Program} {η : kB} {nm : Nat} {d : Option Tmp} {tq : TypeId} {pos : String} {after : Array Edge} {g : Option (Nat × Bool)} {ans : Option (AV × List pA)} {gt : List Nat} {τ : Nat → AV} {k : SE → Prop} :
    bC (nD P ⟨d,(.buildSlice t n pr),tq,pos,after,g⟩ ans nm gt τ η) k = bC (Xa (cC P (.buildSlice t n pr) (yB τ) η nm)) fun e=>k ⟨d,e.v,e.wr,gt++bE (Op.operands (.buildSlice t n pr)).toList,e.rd,none⟩:=eF rfl
theorem H_load {P : Program} {η : kB} {nm : Nat} {d : Option Tmp} {tq : TypeId} {pos : String} {after : Array Edge} {g : Option (Nat × Bool)} {ans : Option (AV × List pA)} {gt : List Nat} {τ : Nat → AV} {k : SE → Prop} :
    bC (nD P ⟨d,(.load t a),tq,pos,after,g⟩ ans nm gt τ η) k = bC (Xa (cC P (.load t a) (yB τ) η nm)) fun e=>k ⟨d,e.v,e.wr,gt++bE (Op.operands (.load t a)).toList,e.rd,none⟩:=eF rfl
theorem zkD {P : Program} {η : kB} {nm : Nat} {d : Option Tmp} {tq : TypeId} {pos : String} {after : Array Edge} {g : Option (Nat × Bool)} {ans : Option (AV × List pA)} {gt : List Nat} {τ : Nat → AV} {k : SE → Prop} :
    bC (nD P ⟨d,(.store t a b),tq,pos,after,g⟩ ans nm gt τ η) k = bC (Xa (cC P (.store t a b) (yB τ) η nm)) fun e=>k ⟨d,e.v,e.wr,gt++bE (Op.operands (.store t a b)).toList,e.rd,none⟩:=eF rfl
theorem zg9 {P : Program} {η : kB} {nm : Nat} {d : Option Tmp} {tq : TypeId} {pos : String} {after : Array Edge} {g : Option (Nat × Bool)} {ans : Option (AV × List pA)} {gt : List Nat} {τ : Nat → AV} {k : SE → Prop} :
    bC (nD P ⟨d,(.nilCheck x),tq,pos,after,g⟩ ans nm gt τ η) k = bC (Xa (cC P (.nilCheck x) (yB τ) η nm)) fun e=>k ⟨d,e.v,e.wr,gt++bE (Op.operands (.nilCheck x)).toList,e.rd,none⟩:=eF rfl
theorem zjn {P : Program} {η : kB} {nm : Nat} {d : Option Tmp} {tq : TypeId} {pos : String} {after : Array Edge} {g : Option (Nat × Bool)} {ans : Option (AV × List pA)} {gt : List Nat} {τ : Nat → AV} {k : SE → Prop} :
    bC (nD P ⟨d,(.binOp bo t a b ty),tq,pos,after,g⟩ ans nm gt τ η) k = bC (Xa (cC P (.binOp bo t a b ty) (yB τ) η nm)) fun e=>k ⟨d,e.v,e.wr,gt++bE (Op.operands (.binOp bo t a b ty)).toList,e.rd,none⟩:=eF rfl
theorem H_unOp {P : Program} {η : kB} {nm : Nat} {d : Option Tmp} {tq : TypeId} {pos : String} {after : Array Edge} {g : Option (Nat × Bool)} {ans : Option (AV × List pA)} {gt : List Nat} {τ : Nat → AV} {k : SE → Prop} :
    bC (nD P ⟨d,(.unOp uo t a),tq,pos,after,g⟩ ans nm gt τ η) k = bC (Xa (cC P (.unOp uo t a) (yB τ) η nm)) fun e=>k ⟨d,e.v,e.wr,gt++bE (Op.operands (.unOp uo t a)).toList,e.rd,none⟩:=eF rfl
theorem H_conv {P : Program} {η : kB} {nm : Nat} {d : Option Tmp} {tq ts td : TypeId} {a : Operand} {pos : String} {after : Array Edge} {g : Option (Nat × Bool)} {ans : Option (AV × List pA)} {gt : List Nat} {τ : Nat → AV} {k : SE → Prop} :
    bC (nD P ⟨d,(.convert ts td a),tq,pos,after,g⟩ ans nm gt τ η) k = bC (Xa (cC P (.convert ts td a) (yB τ) η nm)) fun e=>k ⟨d,e.v,e.wr,gt++bE (Op.operands (.convert ts td a)).toList,e.rd,none⟩:=eF rfl
theorem zou {P : Program} {η : kB} {nm : Nat} {d : Option Tmp} {tq : TypeId} {pos : String} {after : Array Edge} {g : Option (Nat × Bool)} {ans : Option (AV × List pA)} {gt : List Nat} {τ : Nat → AV} {k : SE → Prop} :
    bC (nD P ⟨d,(.makeFunc fn ar br),tq,pos,after,g⟩ ans nm gt τ η) k = bC (Xa (cC P (.makeFunc fn ar br) (yB τ) η nm)) fun e=>k ⟨d,e.v,e.wr,gt++bE (Op.operands (.makeFunc fn ar br)).toList,e.rd,none⟩:=eF rfl
theorem zg8 {P : Program} {η : kB} {nm : Nat} {d : Option Tmp} {tq : TypeId} {pos : String} {after : Array Edge} {g : Option (Nat × Bool)} {ans : Option (AV × List pA)} {gt : List Nat} {τ : Nat → AV} {k : SE → Prop} :
    bC (nD P ⟨d,(.makeSlice t a b),tq,pos,after,g⟩ ans nm gt τ η) k = bC (Xa (cC P (.makeSlice t a b) (yB τ) η nm)) fun e=>k ⟨d,e.v,e.wr,gt++bE (Op.operands (.makeSlice t a b)).toList,e.rd,none⟩:=eF rfl
theorem znv {P : Program} {η : kB} {nm : Nat} {d : Option Tmp} {tq : TypeId} {pos : String} {after : Array Edge} {g : Option (Nat × Bool)} {ans : Option (AV × List pA)} {gt : List Nat} {τ : Nat → AV} {k : SE → Prop} :
    bC (nD P ⟨d,(.slice t a oa ob oc),tq,pos,after,g⟩ ans nm gt τ η) k = bC (Xa (cC P (.slice t a oa ob oc) (yB τ) η nm)) fun e=>k ⟨d,e.v,e.wr,gt++bE (Op.operands (.slice t a oa ob oc)).toList,e.rd,none⟩:=eF rfl
theorem ziw {P : Program} {η : kB} {nm : Nat} {d : Option Tmp} {tq : TypeId} {pos : String} {after : Array Edge} {g : Option (Nat × Bool)} {ans : Option (AV × List pA)} {gt : List Nat} {τ : Nat → AV} {k : SE → Prop} :
    bC (nD P ⟨d,(.fieldAddr t a n),tq,pos,after,g⟩ ans nm gt τ η) k = bC (Xa (cC P (.fieldAddr t a n) (yB τ) η nm)) fun e=>k ⟨d,e.v,e.wr,gt++bE (Op.operands (.fieldAddr t a n)).toList,e.rd,none⟩:=eF rfl
theorem zmm {P : Program} {η : kB} {nm : Nat} {d : Option Tmp} {tq : TypeId} {pos : String} {after : Array Edge} {g : Option (Nat × Bool)} {ans : Option (AV × List pA)} {gt : List Nat} {τ : Nat → AV} {k : SE → Prop} :
    bC (nD P ⟨d,(.field t a n),tq,pos,after,g⟩ ans nm gt τ η) k = bC (Xa (cC P (.field t a n) (yB τ) η nm)) fun e=>k ⟨d,e.v,e.wr,gt++bE (Op.operands (.field t a n)).toList,e.rd,none⟩:=eF rfl
theorem zhX {P : Program} {η : kB} {nm : Nat} {d : Option Tmp} {tq : TypeId} {pos : String} {after : Array Edge} {g : Option (Nat × Bool)} {ans : Option (AV × List pA)} {gt : List Nat} {τ : Nat → AV} {k : SE → Prop} :
    bC (nD P ⟨d,(.indexAddr t a b),tq,pos,after,g⟩ ans nm gt τ η) k = bC (Xa (cC P (.indexAddr t a b) (yB τ) η nm)) fun e=>k ⟨d,e.v,e.wr,gt++bE (Op.operands (.indexAddr t a b)).toList,e.rd,none⟩:=eF rfl
theorem zgo {P : Program} {η : kB} {nm : Nat} {d : Option Tmp} {tq : TypeId} {pos : String} {after : Array Edge} {g : Option (Nat × Bool)} {ans : Option (AV × List pA)} {gt : List Nat} {τ : Nat → AV} {k : SE → Prop} :
    bC (nD P ⟨d,(.index t a b),tq,pos,after,g⟩ ans nm gt τ η) k = bC (Xa (cC P (.index t a b) (yB τ) η nm)) fun e=>k ⟨d,e.v,e.wr,gt++bE (Op.operands (.index t a b)).toList,e.rd,none⟩:=eF rfl
theorem zk0 {P : Program} {η : kB} {nm : Nat} {d : Option Tmp} {tq : TypeId} {pos : String} {after : Array Edge} {g : Option (Nat × Bool)} {ans : Option (AV × List pA)} {gt : List Nat} {τ : Nat → AV} {k : SE → Prop} :
    bC (nD P ⟨d,(.extract a n),tq,pos,after,g⟩ ans nm gt τ η) k = bC (Xa (cC P (.extract a n) (yB τ) η nm)) fun e=>k ⟨d,e.v,e.wr,gt++bE (Op.operands (.extract a n)).toList,e.rd,none⟩:=eF rfl
theorem H_bi {P : Program} {η : kB} {nm : Nat} {d : Option Tmp} {tq : TypeId} {pos : String} {after : Array Edge} {g : Option (Nat × Bool)} {ans : Option (AV × List pA)} {gt : List Nat} {τ : Nat → AV} {k : SE → Prop} :
    bC (nD P ⟨d,(.call { callee:=.builtin bi,args:=ar,argTypes:=ts }),tq,pos,after,g⟩ ans nm gt τ η) k = bC (Xa (cC P (.call { callee:=.builtin bi,args:=ar,argTypes:=ts }) (yB τ) η nm)) fun e=>k ⟨d,e.v,e.wr,gt++bE (Op.operands (.call { callee:=.builtin bi,args:=ar,argTypes:=ts })).toList,e.rd,none⟩:=eF rfl
theorem eval_t {τ : Nat → AV} {t : Nat} : yB τ (.tmp t) = τ t:=rfl
theorem eval_c {τ : Nat → AV} {v : Value} : yB τ (.const v) = zM v:=rfl
theorem eval_f {τ : Nat → AV} {f : FuncId} : yB τ (.func f) = .fn f [] []:=rfl
theorem zgL {k : IntKind} {n : Int} : zM (.int k n) = .int k n:=rfl
theorem zjH {b : Bool} : zM (.bool b) = .bool b:=rfl
theorem zjF {s : ByteArray} : zM (.string s) = .str s.data.toList:=rfl
theorem zmr : zM (.slice none 0 0) = .nils:=rfl
theorem znV : zM (.pointer none) = .nilp:=rfl
theorem ziX : zM .nilFunc = .nilf:=rfl
theorem zni {k : IntKind} {n : Int} : (AV.int k n).cells = some [.int k n]:=rfl
theorem zi0 {b : Bool} : (AV.bool b).cells = some [.bool b]:=rfl
theorem zpg {s : List UInt8} : (AV.str s).cells = some [.str s]:=rfl
theorem zlh {cs : List AV} : (AV.agg cs).cells = some cs:=rfl
theorem zgF : AV.nils.cells = some [.nils]:=rfl
theorem zkw : AV.nilp.cells = some [.nilp]:=rfl
theorem zgZ : AV.nilf.cells = some [.nilf]:=rfl
theorem zgU {z : Nat} {es : List (List AV)} : (AV.psl z es).cells = some [.psl z es]:=rfl
theorem zoz {b g z o l : Nat} : (AV.sl b g z o l).cells = some [.sl b g z o l]:=rfl
theorem zkX {b g i j : Nat} : (AV.ref b g i j).cells = some [.ref b g i j]:=rfl
theorem zha {cs : List AV} : (AV.pp cs).cells = some [.pp cs]:=rfl
theorem zpa {f : FuncId} {a c : List AV} : (AV.fn f a c).cells = some [.fn f a c]:=rfl
theorem zlX {fr : List (Nat × AV)} {d : Nat} {v : AV} : jH fr (some d) v = (d,v)::fr:=rfl
theorem zjk {fr : List (Nat × AV)} {v : AV} : jH fr none v = fr:=rfl
theorem zke {nt : Nat} {op : Op} {pos : String} {after : Array Edge} {g : Option (Nat × Bool)} : xG nt ⟨none,op,ty,pos,after,g⟩ = true:=rfl
theorem zmN {nt d : Nat} {op : Op} {pos : String} {after : Array Edge} {g : Option (Nat × Bool)} : xG nt ⟨some d,op,ty,pos,after,g⟩ = decide (d < nt):=rfl
theorem znj {P : Program} {d : Option Nat} {v : AV} {wr : List (Nat × pA)} {rt rb : List Nat} : sW P ⟨d,v,wr,rt,rb,none⟩ = True:=rfl
theorem ziF {P : Program} {d : Option Nat} {v : AV} {wr : List (Nat × pA)} {rt rb : List Nat} {o : Obl} : sW P ⟨d,v,wr,rt,rb,some o⟩ = yA P o.f o.args o.r o.blks:=rfl
end
section
variable {P : Program} {t : TypeId} {k : IntKind} {a b : Int} {x y : List UInt8}
theorem I_add : eD P .add t (.int k a) (.int k b) = some (.int k (k.wrap (a + b))):=by simp [eD]
theorem I_sub : eD P .sub t (.int k a) (.int k b) = some (.int k (k.wrap (a - b))):=by simp [eD]
theorem I_mul : eD P .mul t (.int k a) (.int k b) = some (.int k (k.wrap (a * b))):=by simp [eD]
theorem I_quo : eD P .quo t (.int k a) (.int k b) = wC (b ≠ 0) (some (.int k (k.wrap (a.tdiv b)))):=by by_cases h : b = 0 <;> simp [eD,wC,h]
theorem I_rem : eD P .rem t (.int k a) (.int k b) = wC (b ≠ 0) (some (.int k (a.tmod b))):=by by_cases h : b = 0 <;> simp [eD,wC,h]
theorem I_shl : eD P .shl t (.int k a) (.int k b) = wC (0 ≤ b) (some (.int k (k.wrap (a * 2 ^ (min b.toNat k.bits))))):=by by_cases h : b < 0 <;> simp [eD,wC,h]
theorem I_eql : eD P .eql t (.int k a) (.int k b) = some (.bool (decide (a = b))):=by simp only [eD,if_true]; rfl
theorem I_neq : eD P .neq t (.int k a) (.int k b) = some (.bool (!decide (a = b))):=by simp only [eD,if_true]; rfl
theorem I_lss : eD P .lss t (.int k a) (.int k b) = some (.bool (decide (a < b))):=by simp [eD]
theorem I_leq : eD P .leq t (.int k a) (.int k b) = some (.bool (decide (a ≤ b))):=by simp [eD]
theorem I_gtr : eD P .gtr t (.int k a) (.int k b) = some (.bool (decide (b < a))):=by simp [eD]
theorem I_geq : eD P .geq t (.int k a) (.int k b) = some (.bool (decide (b ≤ a))):=by simp [eD]
theorem C_eql : eD P .eql t (.str x) (.str y) = some (.bool (x == y)):=rfl
theorem C_neq : eD P .neq t (.str x) (.str y) = some (.bool (!(x == y))):=rfl
theorem C_lss : eD P .lss t (.str x) (.str y) = some (.bool (Op.bytesLess x y)):=rfl
theorem C_leq : eD P .leq t (.str x) (.str y) = some (.bool (Op.bytesLess x y || x == y)):=rfl
theorem C_gtr : eD P .gtr t (.str x) (.str y) = some (.bool (!(Op.bytesLess x y || x == y))):=rfl
theorem C_geq : eD P .geq t (.str x) (.str y) = some (.bool (!(Op.bytesLess x y))):=rfl
end
section
variable {η : kB} {d : Nat}
theorem zhs {k : IntKind} {n : Int} : aC η (d + 1) (.int k n) = some (.int k n,[]):=rfl
theorem zfQ {s : List UInt8} : aC η (d + 1) (.str s) = some (.str s,[]):=rfl
theorem zn6 {b : Bool} : aC η (d + 1) (.bool b) = some (.bool b,[]):=rfl
theorem pur_pp {cs : List AV} : aC η (d + 1) (.pp cs) = some (.pp cs,[]):=rfl
theorem zig {z : Nat} {es : List (List AV)} : aC η (d + 1) (.psl z es) = some (.psl z es,[]):=rfl
theorem zhZ : aC η (d + 1) .nils = some (.nils,[]):=rfl
theorem zi4 : aC η (d + 1) .nilp = some (.nilp,[]):=rfl
theorem zf2 : aC η (d + 1) .nilf = some (.nilf,[]):=rfl
theorem zih {cs : List AV} : aC η (d + 1) (.agg cs) = Bd (Xa (aC.purs η d cs)) fun p=>some (.agg p.1,p.2):=by
  simp only [aC]; cases aC.purs η d cs <;> rfl
theorem pur_fn {f : FuncId} {a c : List AV} : aC η (d + 1) (.fn f a c) = Bd (Xa (aC.purs η d a)) fun p=>Bd (Xa (aC.purs η d c)) fun q=>some (.fn f p.1 q.1,p.2++q.2):=by
  simp only [aC]; cases aC.purs η d a <;> cases aC.purs η d c <;> rfl
theorem pur_sl {b g z off len : Nat} : aC η (d + 1) (.sl b g z off len) = Bd (Xa (η b)) fun blk=>wC (blk.sz = z ∧ blk.g = g ∧ off + len ≤ blk.es.length) (if blk.pure = true then some (.psl blk.sz ((blk.es.drop off).take len),[b]) else Bd (Xa (aI (aC.purs η d) ((blk.es.drop off).take len))) fun p=>some (.psl blk.sz p.1,b::p.2)):=by
  simp only [aC]
  cases η b with
  | none=>rfl
  | some blk => simp only [Bd, Xa, wC]; split
                · split
                  · rfl
                  · cases aI (aC.purs η d) ((blk.es.drop off).take len) <;> rfl
                · rfl
theorem zk4 : aC.purs η (d + 1) [] = some ([],[]):=rfl
theorem zg2 {v : AV} {vs : List AV} : aC.purs η (d + 1) (v::vs) = Bd (Xa (aC η d v)) fun p=>Bd (Xa (aC.purs η d vs)) fun q=>some (p.1::q.1,p.2++q.2):=by
  simp only [aC.purs]; cases aC η d v <;> cases aC.purs η d vs <;> rfl
end
end Go.AM
