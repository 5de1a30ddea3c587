/- Texts of the proof, joined by program. -/
import Derived.Test.YtaeifdlkolfdjaaGreatDoorKAmZo
set_option linter.unusedSimpArgs false
set_option linter.unusedVariables false
namespace Go.AM
open Go Go.RowKit
abbrev OpF:=Program->(Operand->AV)->Heap->Nat->Option Eff
abbrev IntF:=IntKind->Int->Int->Option AV
def iAdd:IntF:=λk a b=>some (.int k (k.wrap (a+b)))
def iSub:IntF:=λk a b=>some (.int k (k.wrap (a-b)))
def iMul:IntF:=λk a b=>some (.int k (k.wrap (a*b)))
def iQuo:IntF:=λk a b=>if b=0 then none else some (.int k (k.wrap (a.tdiv b)))
def iRem:IntF:=λk a b=>if b=0 then none else some (.int k (a.tmod b))
def iShl:IntF:=λk a b=>if b<0 then none else some (.int k (k.wrap (a*2^(min b.toNat k.bits))))
def iEql:IntF:=λ_ a b=>some (.bool (a==b))
def iNeq:IntF:=λ_ a b=>some (.bool (a !=b))
def iLss:IntF:=λ_ a b=>some (.bool (a<b))
def iLeq:IntF:=λ_ a b=>some (.bool (a<=b))
def iGtr:IntF:=λ_ a b=>some (.bool (a>b))
def iGeq:IntF:=λ_ a b=>some (.bool (a>=b))
def iNo:IntF:=λ_ _ _=>none
def intFn:BinOp->IntF|.add=>iAdd|.sub=>iSub|.mul=>iMul|.quo=>iQuo|.rem=>iRem|.shl=>iShl|.eql=>iEql|.neq=>iNeq|.lss=>iLss|.leq=>iLeq|.gtr=>iGtr|.geq=>iGeq|_=>iNo
theorem aBin_int(P:Program)(op:BinOp)(t:TypeId)(k k':IntKind)(a b:Int):aBin P op t (.int k a) (.int k' b)=if k=k' then intFn op k a b else none:=by
 unfold aBin;simp only;split;.cases op<;>rfl
 .rfl
def kBinT(P:Program)(op:BinOp)(t:TypeId):Bool:=match op,P.underlying t with|.eql,some (.interface _)=>true|.neq,some (.interface _)=>true|.eql,some (.slice _)=>true|.neq,some (.slice _)=>true|.eql,some (.pointer _)=>true|.neq,some (.pointer _)=>true|.eql,some (.map ..)=>true|.neq,some (.map ..)=>true|.eql,some (.func ..)=>true|.neq,some (.func ..)=>true|.shr,some (.int _)=>true|_,_=>false
theorem kBin_no{P:Program}{op:BinOp}{t:TypeId}(h:kBinT P op t=false)(x y:Operand)(a b:AV):kBin P op t x y a b=none:=by unfold kBinT at h;unfold kBin;split<;>simp_all
def fMove(x:Operand):OpF:=λ_ ρ _ _=>some ⟨ρ x,[],[]⟩
def fPick(c a b:Operand):OpF:=λ_ ρ _ _=>match ρ c with|.bool t=>some ⟨if t then ρ a else ρ b,[],[]⟩|_=>none
def fAlloc(t:TypeId):OpF:=λP _ _ nm=>match kAlloc P t nm with|some r=>some ⟨r.1,[r.2],[]⟩|none=>match tSize P t,tZero P t with|some n,some z=>if z.length=n then some ⟨.ref nm 0 0 0,[(nm,{g:=0,own:=true,pure:=AV.isP.isPs z,sz:=n,es:=[z]})],[]⟩else none|_,_=>none
def fBox(x:Operand):OpF:=λ_ ρ _ nm=>match(ρ x).cells with|some cs=>some ⟨.ref nm 0 0 0,[(nm,{g:=0,own:=true,pure:=AV.isP.isPs cs,sz:=cs.length,es:=[cs]})],[]⟩|none=>none
def fBuild(t:TypeId)(parts:Array (Nat×Operand)):OpF:=λP ρ _ _=>match kBuild P t (parts.toList.map λp=>(p.1,ρ p.2))with|some v=>some ⟨v,[],[]⟩|none=>match aBuild P t (parts.toList.map λp=>(p.1,ρ p.2))with|some v=>some ⟨v,[],[]⟩|none=>none
def fBuildSlice(t:TypeId)(len:Nat)(parts:Array (Nat×Operand)):OpF:=λP ρ _ nm=>match aBuildSlice P t len (parts.toList.map λp=>(p.1,ρ p.2)) nm with|some r=>some ⟨r.1,[r.2],[]⟩|none=>none
def fLoad(t:TypeId)(a:Operand):OpF:=λP ρ η _=>match aLoad P t (ρ a) η with|some r=>some ⟨r.1,[],r.2⟩|none=>match kLoad P t (ρ a)with|some v=>some ⟨v,[],[]⟩|none=>none
def fStore(t:TypeId)(a x:Operand):OpF:=λP ρ η _=>match aStore P t (ρ a) (ρ x) η with|some r=>some ⟨.tup [],[r],[r.1]⟩|none=>none
def fNil(x:Operand):OpF:=λ_ ρ _ _=>match ρ x with|.ref b g i j=>some ⟨.ref b g i j,[],[]⟩|.pp cs=>some ⟨.pp cs,[],[]⟩|.fn f a c=>some ⟨.fn f a c,[],[]⟩|_=>none
def oV(o:Option AV):Option Eff:=match o with|some v=>some ⟨v,[],[]⟩|none=>none
def fBinT(op:BinOp)(t:TypeId)(x y:Operand):OpF:=λP ρ _ _=>match kBin P op t x y (ρ x) (ρ y)with|some v=>some ⟨v,[],[]⟩|none=>oV (aBin P op t (wkx (ρ x)) (wkx (ρ y)))
def fBinI(op:BinOp)(t:TypeId)(x y:Operand):OpF:=λP ρ _ _=>match ρ x,ρ y with
 |.int k a,.int k' b=>match decide (k=k')with|true=>oV (intFn op k a b)|false=>none
 |u,v=>oV (aBin P op t (wkx u) (wkx v))
def fBin(op:BinOp)(t:TypeId)(x y:Operand):OpF:=λP ρ η nm=>match kBinT P op t with|true=>fBinT op t x y P ρ η nm|false=>fBinI op t x y P ρ η nm
def fMakeI(t:TypeId)(x:Operand):OpF:=λP ρ _ _=>match tConc P t with|true=>some ⟨.iface t (ρ x),[],[]⟩|false=>none
def fAssert(x:Operand)(t:TypeId)(ok:Bool):OpF:=λP ρ _ _=>if tConc P t then match ok,ρ x with|true,.iface u v=>if u=t then some ⟨.tup [v,.bool true],[],[]⟩else(tZeroV P t).map λz=>⟨.tup [z,.bool false],[],[]⟩|true,.nili=>(tZeroV P t).map λz=>⟨.tup [z,.bool false],[],[]⟩|false,.iface u v=>if u=t then some ⟨v,[],[]⟩else none|_,_=>none else none
def fUn(op:UnOp)(x:Operand):OpF:=λ_ ρ _ _=>oV (aUn op (ρ x))
def fConv(s d:TypeId)(x:Operand):OpF:=λP ρ η nm=>match ρ x with|.int k n=>oV (aConv P s d (.int k n))|v=>match kConv P s d v nm with|some r=>some ⟨r.1,[r.2],[]⟩|none=>match kConvS P s d v η with|some r=>some ⟨r.1,[],r.2⟩|none=>match kConvP P s d v η with|some r=>some ⟨r.1,[],r.2⟩|none=>oV (aConv P s d v)
def fFunc(fn:Fn)(first cap:Array Operand):OpF:=λ_ ρ _ _=>match fn with|.func f=>some ⟨.fn f (first.toList.map ρ) (cap.toList.map ρ),[],[]⟩|_=>none
def fMakeS(t:TypeId)(l c:Operand):OpF:=λP ρ _ nm=>match kMake P t (ρ l) (ρ c) nm with|some r=>some ⟨r.1,[r.2],[]⟩|none=>match aMakeSlice P t (ρ l) (ρ c) nm with|some r=>some ⟨r.1,[r.2],[]⟩|none=>none
def fSlice(t:TypeId)(x:Operand)(lo hi mx:Option Operand):OpF:=λP ρ η _=>match kSlice P t (ρ x) (lo.map ρ) (hi.map ρ) (mx.map ρ)with|some v=>some ⟨v,[],[]⟩|none=>match kSliceX P t (wkx (ρ x)) (lo.map ρ) (hi.map ρ) (mx.map ρ)with|some v=>some ⟨v,[],[]⟩|none=>match kArrSl P t (ρ x) (lo.map ρ) (hi.map ρ) (mx.map ρ) η with|some r=>some ⟨r.1,[],r.2⟩|none=>match isX (ρ x)with|true=>oV (aSlice P t (wkx (ρ x)) (lo.map λx=>wkx (ρ x)) (hi.map λx=>wkx (ρ x)) (mx.map λx=>wkx (ρ x)))|false=>oV (aSlice P t (ρ x) (lo.map ρ) (hi.map ρ) (mx.map ρ))
def fFieldAddr(t:TypeId)(x:Operand)(f:Nat):OpF:=λP ρ _ _=>match aFieldAddr P t (ρ x) f with|some v=>some ⟨v,[],[]⟩|none=>oV (kFieldAddr P t (ρ x) f)
def fField(t:TypeId)(x:Operand)(f:Nat):OpF:=λP ρ _ _=>match tField P t f,ρ x with|some (off,ty),.agg cs=>oV (aPart P ty cs off)|_,_=>none
def fIndexAddr(t:TypeId)(x i:Operand):OpF:=λP ρ _ _=>match kIndexAddr P t (ρ x) (ρ i)with|some v=>some ⟨v,[],[]⟩|none=>match isX (ρ x)with|true=>oV (aIndexAddr P t (wkx (ρ x)) (wkx (ρ i)))|false=>oV (aIndexAddr P t (ρ x) (ρ i))
def fIndex(t:TypeId)(x i:Operand):OpF:=λP ρ η nm=>match kIndex P t (ρ x) (ρ i)with|some v=>some ⟨v,[],[]⟩|none=>opSem P (.index t x i) ρ η nm
def fExtract(x:Operand)(i:Nat):OpF:=λ_ ρ _ _=>match ρ x with|.tup vs=>oV vs[i]?|_=>none
def fRest(o:Op):OpF:=λP ρ η nm=>opSemE true P o ρ η nm
def opFn(o:Op):OpF:=match o with|.move x=>fMove x|.assign x=>fMove x|.pick c a b=>fPick c a b|.alloc t=>fAlloc t|.box _ x=>fBox x|.store t a x=>fStore t a x|.nilCheck x=>fNil x|.binOp op t x y _=>fBin op t x y|.makeInterface t x=>fMakeI t x|.typeAssert x _ t ok=>fAssert x t ok|.unOp op _ x=>fUn op x|.convert s d x=>fConv s d x|.makeFunc fn first cap=>fFunc fn first cap|.field t x f=>fField t x f|.extract x i=>fExtract x i|.build t parts=>fBuild t parts|.buildSlice t len parts=>fBuildSlice t len parts|.makeSlice t l c=>fMakeS t l c|.slice t x lo hi mx=>fSlice t x lo hi mx|.indexAddr t x i=>fIndexAddr t x i|.index t x i=>fIndex t x i|.load t a=>fLoad t a|.fieldAddr t x f=>fFieldAddr t x f|o=>fRest o
section
theorem oV_map(o:Option AV):oV o=o.map λv=>(⟨v,[],[]⟩:Eff):=by cases o<;>rfl
theorem wkx_no{v:AV}(h:isX v=false):wkx v=v:=by cases v<;>first|rfl|simp[isX]at h
theorem opFn_eq(P:Program)(o:Op)(ρ:Operand->AV)(η:Heap)(nm:Nat):opFn o P ρ η nm=opSemE true P o ρ η nm:=by
 cases o with
  |move x=>rfl
  |assign x=>rfl
  |pick c a b=>rfl
  |alloc t=>simp only[opFn,fAlloc,opSemE,opSem2,hasX,opSem];cases kAlloc P t nm<;>rfl
  |box t x=>rfl
  |store t a x=>simp only[opFn,fStore,opSemE,opSem2,hasX,opSem];cases aStore P t (ρ a) (ρ x) η<;>rfl
  |nilCheck x=>rfl
  |unOp op t x=>simp only[opFn,fUn,opSemE,opSem2,hasX,opSem,oV_map]
  |convert s d x=>
   simp only[opFn,fConv,opSemE,opSem2,hasX,opSem,oV_map];split
   .rename_i k n hx;rw[hx]
    have h1:kConv P s d (.int k n) nm=none:=by
     unfold kConv;split;.simp_all
     .rfl
    have h2:kConvS P s d (.int k n) η=none:=by
     unfold kConvS;split
     .split;.simp[wkx,wk,aElems]
      .rfl
     .rfl
    have h3:kConvP P s d (.int k n) η=none:=rfl;rw[h1,h2,h3];rfl
   .cases kConv P s d (ρ x) nm<;>simp only;cases kConvS P s d (ρ x) η<;>simp only;cases kConvP P s d (ρ x) η<;>rfl
  |makeFunc fn first cap=>rfl
  |makeInterface t x=>simp only[opFn,fMakeI,opSemE,opSem2,hasX,opSem];cases tConc P t<;>rfl
  |typeAssert x xt t ok=>rfl
  |field t x f=>simp only[opFn,fField,opSemE,opSem2,hasX,opSem];split<;>simp_all[oV_map]
  |extract x i=>simp only[opFn,fExtract,opSemE,opSem2,hasX,opSem];split<;>simp_all[oV_map]
  |build t parts=>simp only[opFn,fBuild,opSemE,opSem2,hasX,opSem];cases kBuild P t _<;>simp only[Option.map_some,Option.map_none];cases aBuild P t _<;>rfl
  |buildSlice t len parts=>simp only[opFn,fBuildSlice,opSemE,opSem2,hasX,opSem];cases aBuildSlice P t len _ nm<;>rfl
  |makeSlice t l c=>simp only[opFn,fMakeS,opSemE,opSem2,hasX,opSem];cases kMake P t (ρ l) (ρ c) nm<;>simp only[Option.map_some,Option.map_none];cases aMakeSlice P t (ρ l) (ρ c) nm<;>rfl
  |slice t x lo hi mx=>simp only[opFn,fSlice,opSemE,opSem2,hasX,opSem,oV_map];cases kSlice P t (ρ x) (lo.map ρ) (hi.map ρ) (mx.map ρ)<;>simp only;cases kSliceX P t (wkx (ρ x)) (lo.map ρ) (hi.map ρ) (mx.map ρ)<;>simp only[];cases kArrSl P t (ρ x) (lo.map ρ) (hi.map ρ) (mx.map ρ) η<;>simp only[Option.map_some,Option.map_none];cases isX (ρ x)<;>rfl
  |indexAddr t x i=>simp only[opFn,fIndexAddr,opSemE,opSem2,hasX,opSem,oV_map];cases kIndexAddr P t (ρ x) (ρ i)<;>simp only[Option.map_some,Option.map_none];cases isX (ρ x)<;>rfl
  |index t x i=>simp only[opFn,fIndex,opSemE,opSem2,hasX];cases kIndex P t (ρ x) (ρ i)<;>simp only[Option.map_some,Option.map_none]
  |binOp op t x y yt=>
   have hb:opSemE true P (.binOp op t x y yt) ρ η nm=match kBin P op t x y (ρ x) (ρ y)with|some v=>some ⟨v,[],[]⟩|none=>oV (aBin P op t (wkx (ρ x)) (wkx (ρ y))):=by simp only[opSemE,opSem2,hasX,opSem,oV_map];cases kBin P op t x y (ρ x) (ρ y)with|some v=>rfl|none=>simp only[Option.map_none];cases h1:isX (ρ x)<;>cases h2:isX (ρ y)<;>simp[wkx_no,h1,h2]
   rw[hb];simp only[opFn,fBin]
   cases hk:kBinT P op t with
    |true=>rfl
    |false=>
     rw[kBin_no hk];simp only[fBinI];split
     .rename_i k a k' b hx hy;rw[hx,hy];show _=oV (aBin P op t (.int k a) (.int k' b));rw[aBin_int];by_cases e:k=k';.rw[if_pos e,decide_eq_true e]
      .rw[if_neg e,decide_eq_false e];rfl
     .rfl
  |load t a=>
   simp only[opFn,fLoad,opSemE,opSem2,hasX,opSem]
   cases ha:aLoad P t (ρ a) η with
    |some r=>
     have :kLoad P t (ρ a)=none:=by
      unfold kLoad;split;.rename_i e1 e2 hq;rw[hq]at ha;simp[aLoad,e1,e2]at ha
      .rfl
     rw[this];rfl
    |none=>cases kLoad P t (ρ a)<;>rfl
  |fieldAddr t x f=>
   simp only[opFn,fFieldAddr,opSemE,opSem2,hasX,opSem,oV_map]
   cases ha:aFieldAddr P t (ρ x) f with
    |some r=>
     have :kFieldAddr P t (ρ x) f=none:=by
      unfold kFieldAddr;split;.rename_i hq;rw[hq]at ha;simp[aFieldAddr]at ha
      .rfl
     rw[this];rfl
    |none=>cases kFieldAddr P t (ρ x) f<;>rfl
  |_=>rfl
end
end Go.AM
