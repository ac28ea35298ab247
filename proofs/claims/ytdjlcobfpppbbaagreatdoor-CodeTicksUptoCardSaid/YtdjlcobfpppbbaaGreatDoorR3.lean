/-
  Texts of one proof, one behind the other.
-/
import Derived.Test.YtdjlcobfpppbbaaGreatDoorR2
import Derived.Below
import Derived.Recover
import Derived.Orders
set_option linter.all false
section
namespace Go.Am
open Go
inductive Gh where
 |trim (k:Nat)
 |freeze (k:Nat)
 |adopt (kb j k sz:Nat)
 |rekey (k k2:Nat)
 |opn (k k2:Nat)
 |cls (k k2:Nat)
 |shut (k:Nat)
 |adoptV (kb j k:Nat)
abbrev bq:=FuncId→List AV→List aE→Option (Out×List (Nat×aE))
structure Ctx where
 P:Program
 gl:List (Nat×D)
 o6:FuncId→Nat→List Nat
 gh:FuncId→Nat→List Gh
 md:FuncId→Nat→Bool
 fp:FuncId→ay
 od:FuncId→Nat→List (List Nat)
 wU:FuncId→Option (List AV→Option AV)
 fl:FuncId→Nat→List (Nat×Nat)
 ov:Option bq
def gE(P:Program)(g:FuncId):Bool:=
 match P.funcs[g]? with
 |some fn=>fn.body.isSome&&!(fn.name == "runtime.NumGoroutine")
 |none=>false
mutual
def ptrKeys:AV→List Nat
 | .vec _ _ _ _=>[]
 | .ptr k _ _=>[k]
 | .cF k _ _ _=>[k]
 | .agg cs=>ptrsKeys cs
 | .fn _ cap=>avsKeys cap
 | .aW vs=>ptrsKeys vs
 |_=>[]
def ptrsKeys:List AV→List Nat
 |[]=>[]
 |x::r=>ptrKeys x++ptrsKeys r
end
mutual
def vecKeys:AV→List Nat
 | .vec k _ _ _=>[k]
 | .agg cs=>vecsKeys cs
 | .aW vs=>vecsKeys vs
 |_=>[]
def vecsKeys:List AV→List Nat
 |[]=>[]
 |x::r=>vecKeys x++vecsKeys r
end
def argKeys(mt:List Nat):Nat→List AV→List Nat
 |_,[]=>[]
 |i,x::r=>(match mt.contains i with|true=>avKeys x|false=>ptrKeys x)++argKeys mt (i+1) r
def argBor(mt:List Nat):Nat→List AV→List Nat
 |_,[]=>[]
 |i,x::r=>(match mt.contains i with|true=>[]|false=>vecKeys x)++argBor mt (i+1) r
structure fK where
 out:Out
 es:List cI
 ks:List Nat
def upO(ρ bs:List Nat):Out→Out
 | .ret x=>.ret (up ρ bs x)
 | .panic t x=>.panic t x
def plainO:Out→Bool
 | .ret x=>plainAV x
 | .panic _ x=>plainD x
def plainL:List (Nat×aE)→Bool
 |[]=>true
 |(_,c)::r=>plainC c&&plainL r
def frOk(m:Mem)(ρ:List Nat):List Nat→Bool
 |[]=>true
 |k::r=>(Mem.get m k).isSome&&!ρ.contains k&&frOk m ρ r
def callBack(m:Mem)(k0:Nat)(ρ B:List Nat):Option (Out×List (Nat×aE))→Option fK
 |some (out,l2)=>
  if (decide (ρ.length≤l2.length)&&frOk m ρ (List.range' (k0+1) (l2.length-ρ.length))&&(B.isEmpty||(plainO out&&plainL l2)))=true then
   some ⟨upO (ρ++List.range' (k0+1) (l2.length-ρ.length)) (base m 0 ρ++base m 1 (List.range' (k0+1) (l2.length-ρ.length))) out,
    backL (ρ++List.range' (k0+1) (l2.length-ρ.length)) (base m 0 ρ++base m 1 (List.range' (k0+1) (l2.length-ρ.length))) 0 l2,ρ++B++List.range' (k0+1) (l2.length-ρ.length)⟩
  else none
 |none=>none
def frzO(n0:Nat)(l2:List (Nat×aE)):Out→Out
 | .ret x=>.ret (vw (mkM 0 l2) (List.range n0) (fun _=>true) (fun _ v=>v) x).norm
 | .panic t x=>.panic t x
def frzR(n0:Nat)(b:Bool):Option (Out×List (Nat×aE))→Option (Out×List (Nat×aE))
 |some (out,l2)=>if (b&&decide (n0<l2.length))=true then some (frzO n0 l2 out,selL (mkM 0 l2) (List.range n0) (fun _=>true) (fun _ v=>v) 0 (List.range n0))else some (out,l2)
 |none=>none
def vwArgs(rw:Bool)(m:Mem)(ρ B:List Nat):List AV→List AV
 |[]=>[]
 |y::r=>nrm rw (vw m ρ (fun k=>B.contains k) nv0 y)::vwArgs rw m ρ B r
def conts:List (Nat×aE)→List aE
 |[]=>[]
 |(_,c)::r=>c::conts r
def callOp3(cl:bq)(m:Mem)(k0:Nat)(g:FuncId)(ys:List AV)(rw:Bool)(ρ B:List Nat):Option fK:=
 callBack m k0 ρ B (frzR ρ.length (Mem.get m (k0+1)).isNone (cl g (vwArgs rw m ρ B ys) (conts (selL m ρ (fun k=>B.contains k) nv0 0 ρ))))
def callOp2(cl:bq)(m:Mem)(k0:Nat)(g:FuncId)(ys:List AV)(mt ρ:List Nat):Option fK:=
 callOp3 cl m k0 g ys (mt.contains 1000) ρ ((argBor mt 0 ys).filter fun k=>!ρ.contains k)
def callOp(cl:bq)(m:Mem)(k0:Nat)(g:FuncId)(ys:List AV)(mt:List Nat):Option fK:=
 callOp2 cl m k0 g ys mt (collect m 64 (argKeys mt 0 ys) [])
def dg(S:St)(d:Option Nat):Option fK→Option (XE×St)
 |some ⟨.ret x,es,_⟩=>some (.normal,({S with mem:=putAll S.mem es}:St).put d true x)
 |some ⟨.panic t x,es,_⟩=>some (.panic t x,{S with mem:=putAll S.mem es})
 |none=>none
def argVals(S:St):List Operand→List AV
 |[]=>[]
 |x::r=>(S.opd x).2::argVals S r
def fnIdN(n g:Nat):FuncId:=
 match decide (n≤g)with
 |true=>g-n
 |false=>g
def fnId(g:FuncId):FuncId:=fnIdN bnB g
def fnArgsN(n g:Nat)(ys db:List AV):List AV:=
 match decide (n≤g)with
 |true=>db++ys
 |false=>ys++db
def fnArgs(g:FuncId)(ys db:List AV):List AV:=fnArgsN bnB g ys db
def callVal(X:Ctx)(cl:bq)(S:St)(o:Oper)(args:List Operand):Bool×AV→Option fK
 |(true,.fn g db)=>if okAll S args=true then callOp cl S.mem (keyOf o) (fnId g) (fnArgs g (argVals S args) db) (X.fp (fnId g)).vD else none
 |_=>none
def AG(S:St):Bool×AV→Option (XE×St)
 |(true,.gL t d)=>some (.panic t d,S)
 |_=>none
def qg(X:Ctx)(cl:bq)(S:St)(o:Oper):Option (XE×St):=
 match o.op with
 | .call {callee:=.value fv,args,..}=>dg S o.dst (callVal X cl S o args.toList (S.opd fv))
 | .panic x=>AG S (S.opd x)
 |_=>none
def gT(X:Ctx)(cl:bq)(S:St)(o:Oper):dk→Option (XE×St)
 | .val c x=>if (opOk S o&&c)=true then some (.normal,S.put o.dst true x)else none
 | .cZ c x e=>if (opOk S o&&c)=true then some (.normal,({S with mem:=Mem.set S.mem e}:St).put o.dst true x)else none
 | .no=>qg X cl S o
def nI(X:Ctx)(cl:bq)(S:St)(o:Oper)(b:Bool):dk→Option (XE×St)
 | .val c x=>if b=true→(opOk S o&&c)=true then some (.normal,S.put o.dst b x)else none
 |r=>if b=true then gT X cl S o r else some (.normal,S.put o.dst true .bf)
def St.cz(S:St)(d:Option Nat)(b:Bool):St:=S.put d true (.d (.bool b))
def dstAt(all:List Oper)(j:Nat):Option Nat:=
 match all[j]? with
 |some o=>o.dst
 |none=>none
inductive GV where
 |qN (t:Bool)
 |skip
 |bad
def gvD:D→GV
 | .bool t=>.qN t
 |_=>.bad
def gvT:List AV→GV
 |[]=>.skip
 |_::_=>.bad
def Rc:AV→GV
 | .d x=>gvD x
 | .aW vs=>gvT vs
 |_=>.bad
def oa:Option (Bool×AV)→GV
 |some (true,x)=>Rc x
 |_=>.bad
theorem GH{x:Option (Bool×AV)}{t:Bool}(h:oa x=.qN t):x=some (true,.d (.bool t)):=by
 rcases x with _|⟨g,y⟩
 ·cases h
 ·cases g
  ·cases h
  ·cases y with
   |d y=>cases y<;>simp_all [oa,Rc,gvD]
   |aW vs=>cases vs<;>simp_all [oa,Rc,gvT]
   |_=>cases h
theorem Eh{x:Option (Bool×AV)}(h:oa x=.skip):x=some (true,.aW []):=by
 rcases x with _|⟨g,y⟩
 ·cases h
 ·cases g
  ·cases h
  ·cases y with
   |d y=>cases y<;>simp_all [oa,Rc,gvD]
   |aW vs=>cases vs<;>simp_all [oa,Rc,gvT]
   |_=>cases h
def mj(X:Ctx)(cl:bq)(md:Bool)(all:List Oper)(S:St)(o:Oper):Option (XE×St):=
 match o.guard with
 |none=>gT X cl S o (stepv X.P S o)
 |some (j,want)=>match oa (grd all S j)with
  | .qN t=>match md with
   |false=>nI X cl S o (t == want) (stepv X.P S o)
   |true=>if (t == want)=true then gT X cl (S.cz (dstAt all j) want) o (stepv X.P (S.cz (dstAt all j) want) o)else some (.normal,(S.cz (dstAt all j) (!want)).put o.dst true (.aW []))
  | .skip=>some (.normal,S.put o.dst true (.aW []))
  | .bad=>none
def andThen(r:Option (XE×St))(k:St→Option (XE×St)):Option (XE×St):=
 match r with
 |some (.normal,S)=>k S
 |r=>r
def fo(X:Ctx)(cl:bq)(md:Bool)(all:List Oper):List Oper→St→Option (XE×St)
 |[],S=>some (.normal,S)
 |o::r,S=>andThen (mj X cl md all S o) (fo X cl md all r)
def pN(S:St)(o:Oper):Option fK→Option (St×aU)
 |some ⟨.ret x,es,ks⟩=>some ((⟨ks,es,true,x⟩:aU).app o S,⟨ks,es,true,x⟩)
 |_=>none
def kR(X:Ctx)(cl:bq)(S:St)(o:Oper):Option (St×aU):=
 match o.op with
 | .call {callee:=.value fv,args,..}=>pN S o (callVal X cl S o args.toList (S.opd fv))
 |_=>none
def dstep(X:Ctx)(cl:bq)(S:St)(o:Oper):dk→Option (St×aU)
 | .val c x=>if (opOk S o&&c)=true then some (S.put o.dst true x,⟨touch S o,[],true,x⟩)else none
 | .cZ c x e=>if (opOk S o&&c&&(touch S o).contains e.key)=true then some (({S with mem:=Mem.set S.mem e}:St).put o.dst true x,⟨touch S o,[e],true,x⟩)else none
 | .no=>kR X cl S o
def qh(X:Ctx)(cl:bq)(S:St)(o:Oper)(b:Bool):dk→Option (St×aU)
 | .val c x=>if b=true→(opOk S o&&c)=true then some (S.put o.dst b x,⟨touch S o,[],b,x⟩)else none
 |r=>if b=true then dstep X cl S o r else some (S.put o.dst true .bf,⟨[],[],true,.bf⟩)
def dZ(X:Ctx)(cl:bq)(md:Bool)(all:List Oper)(S:St)(o:Oper):Option (St×aU):=
 match o.guard with
 |none=>dstep X cl S o (stepv X.P S o)
 |some (j,want)=>match oa (grd all S j)with
  | .qN t=>match md with
   |false=>qh X cl S o (t == want) (stepv X.P S o)
   |true=>if (t == want)=true then dstep X cl (S.cz (dstAt all j) want) o (stepv X.P (S.cz (dstAt all j) want) o)else some ((S.cz (dstAt all j) (!want)).put o.dst true (.aW []),⟨[],[],true,.aW []⟩)
  | .skip=>some (S.put o.dst true (.aW []),⟨[],[],true,.aW []⟩)
  | .bad=>none
def vG(acc:List aU)(r:Option (St×aU))(k:St→List aU→Option (XE×St)):Option (XE×St):=
 match r with
 |some (S,p)=>k S (p::acc)
 |none=>none
structure GI where
 S:St
 t:TypeId
 x:D
 es:List cI
 ks:List Nat
def tR(S:St):Option fK→Option GI
 |some ⟨.panic t x,es,ks⟩=>some ⟨{S with mem:=putAll S.mem es},t,x,es,ks⟩
 |_=>none
def GJ(X:Ctx)(cl:bq)(S:St)(o:Oper):Option GI:=
 match o.op with
 | .call {callee:=.value fv,args,..}=>tR S (callVal X cl S o args.toList (S.opd fv))
 |_=>none
def AH(X:Ctx)(cl:bq)(S:St)(o:Oper):dk→Option GI
 | .no=>GJ X cl S o
 |_=>none
def kq(X:Ctx)(cl:bq)(S:St)(o:Oper):Option GI:=
 match o.guard with
 |none=>AH X cl S o (stepv X.P S o)
 |some _=>none
def qz(X:Ctx)(md:Bool)(all:List Oper)(js:List Nat):Nat→List Oper→St→List aU→Option (List aU)
 |_,[],_,acc=>some acc.reverse
 |i,o::r,S,acc=>match js.contains i with
  |true=>match dZ X (fun _ _ _=>none) md all S o with
   |some (S1,p)=>qz X md all js (i+1) r S1 (p::acc)
   |none=>none
  |false=>qz X md all js (i+1) r (S.put o.dst false .bf) (⟨[],[],false,.bf⟩::acc)
def pEnd(nd:Nat×List (List Nat))(js:List Nat)(t:TypeId)(x:D)(S:St):Option (List aU)→Option (XE×St)
 |some ps=>if (ordD nd.2 ps&&farJ ps js)=true then some (.panic t x,S.kill (nd.1+verSums ps+1))else none
 |none=>none
def panE(X:Ctx)(md:Bool)(nd:Nat×List (List Nat))(all r:List Oper)(d:Option Nat)(acc:List aU)(q:GI):Option (XE×St):=
 pEnd nd (nd.2.getD acc.length []) q.t q.x q.S (qz X md all (nd.2.getD acc.length []) (acc.length+1) r (q.S.put d true .bf) (⟨q.ks,q.es,true,.bf⟩::acc))
def mH(X:Ctx)(cl:bq)(md:Bool)(nd:Nat×List (List Nat))(all r:List Oper)(S:St)(o:Oper)(acc:List aU)(k:St→List aU→Option (XE×St)):Option GI→Option (XE×St)
 |some q=>panE X md nd all r o.dst acc q
 |none=>vG acc (dZ X cl md all S o) k
def iq(X:Ctx)(cl:bq)(md:Bool)(nd:Nat×List (List Nat))(all:List Oper):List Oper→St→List aU→Option (XE×St)
 |[],S,acc=>if ordD nd.2 acc.reverse=true then some (.normal,S)else none
 |o::r,S,acc=>mH X cl md nd all r S o acc (iq X cl md nd all r) (kq X cl S o)
structure Cl where
 k:Nat
 v:Nat
 j:Nat
 x:AV
 vv:Bool
def GK:AV→AV→Bool
 | .vec a b c d,.vec a' b' c' d'=>decide (a=a')&&decide (b=b')&&decide (c=c')&&decide (d=d')
 | .ptr a b c,.ptr a' b' c'=>decide (a=a')&&decide (b=b')&&decide (c=c')
 | .d (.int k n),.d (.int k' n')=>decide (k=k')&&decide (n=n')
 | .d (.bool b),.d (.bool b')=>decide (b=b')
 |_,_=>false
def eZ(m:Mem):List (Nat×Nat)→Option (List Cl)
 |[]=>some []
 |(k,j)::r=>match Mem.get m k,eZ m r with
  |some ⟨_,v,.box cs⟩,some l=>match cs[j]? with
   |some x=>some (⟨k,v,j,x,false⟩::l)
   |none=>none
  |some ⟨_,v,.vv rows (some x)⟩,some l=>some (⟨k,v,rows.length,x,true⟩::l)
  |_,_=>none
def Rd(q:Cl):Option AV→Bool
 |some x=>GK x q.x
 |none=>false
def J3(q:Cl)(v:Nat):aE→Bool
 | .box cs=>!q.vv&&decide (v=q.v)&&Rd q cs[q.j]?
 | .vv rows (some x)=>q.vv&&decide (v=q.v)&&decide (rows.length=q.j)&&GK x q.x
 |_=>false
def AI(e:cI):List Cl→Bool
 |[]=>true
 |q::r=>(match decide (e.key=q.k)with|true=>J3 q e.aj e.cont|false=>true)&&AI e r
def sW(LI:List Cl):List cI→Bool
 |[]=>true
 |e::r=>AI e LI&&sW LI r
def q8(b:Bool)(k v j:Nat):List Cl→Option AV
 |[]=>none
 |q::r=>match decide (b=q.vv)&&decide (k=q.k)&&decide (v=q.v)&&decide (j=q.j)with|true=>some q.x|false=>q8 b k v j r
def tS(b:Bool)(k v:Nat):List Cl→Bool
 |[]=>false
 |q::r=>match decide (b=q.vv)&&decide (k=q.k)&&decide (v=q.v)with|true=>true|false=>tS b k v r
def BZ(P:Program)(LI:List Cl)(t:TypeId):Bool×AV→Option AV
 |(true,.ptr k v off)=>match (tk P t).agg,decide (tk P t=.other)with
  |false,false=>q8 false k v off LI
  |_,_=>none
 |(true,.cF k v i j)=>match (tk P t).agg,decide (tk P t=.other),decide (j=0)with
  |false,false,true=>q8 true k v i LI
  |_,_,_=>none
 |_=>none
def B0(LI:List Cl):Option Nat→Bool×AV→Option AV
 |some n,(true,.ptr k v off)=>match tS false k v LI with|true=>some (.ptr k v (off+n))|false=>none
 |_,_=>none
def B1(LI:List Cl):Bool×AV→Option AV
 |(true,.ptr k v off)=>match tS false k v LI with|true=>some (.ptr k v off)|false=>none
 |_=>none
def B3(P:Program)(LI:List Cl):TK→Bool×AV→Bool×AV→Option AV
 | .slice e,(true,.vec k v off len),(true,.d (.int _ n))=>match decide (fi P e=some 1),tS true k v LI,decide (0≤n),decide (n.toNat<len)with
  |true,true,true,true=>some (.cF k v (off+n.toNat) 0)
  |_,_,_,_=>none
 |_,_,_=>none
def q9(P:Program)(LI:List Cl)(S:St):Op→Option AV
 | .load t x=>BZ P LI t (S.opd x)
 | .fieldAddr s x f=>B0 LI (vp P s f) (S.opd x)
 | .nilCheck x=>B1 LI (S.opd x)
 | .indexAddr t x i=>B3 P LI (tk P t) (S.opd x) (S.opd i)
 |_=>none
def ob(P:Program)(LI:List Cl)(S:St)(o:Oper):Option AV:=
 match o.guard with
 |none=>q9 P LI S o.op
 |some _=>none
def Di(LI:List Cl):Option (St×aU)→Option (St×aU)
 |some (S,p)=>if sW LI p.es=true then some (S,p)else none
 |none=>none
def nb(X:Ctx)(cl:bq)(md:Bool)(LI:List Cl)(all:List Oper)(S:St)(o:Oper):Option AV→Option (St×aU)
 |some x=>some (S.put o.dst true x,⟨[],[],true,x⟩)
 |none=>Di LI (dZ X cl md all S o)
def lP:List Nat→List Oper→Bool
 |[],[]=>true
 |_,_=>false
def GL(X:Ctx)(cl:bq)(md:Bool)(nd:List (List Nat))(all:List Oper)(S:St)(o:Oper)(acc:List aU):Option (XE×St):=
 if ordD nd acc.reverse=true then fo X cl md all [o] S else none
def mI(X:Ctx)(cl:bq)(md:Bool)(nd:List (List Nat))(LI:List Cl)(all:List Oper):List Oper→St→List aU→Option (XE×St)
 |[],S,acc=>if ordD nd acc.reverse=true then some (.normal,S)else none
 |o::r,S,acc=>match lP (nd.getD acc.length []) r with
  |true=>GL X cl md nd all S o acc
  |false=>vG acc (nb X cl md LI all S o (ob X.P LI S o)) (mI X cl md nd LI all r)
def Oq(X:Ctx)(cl:bq)(md:Bool)(nd:List (List Nat))(all:List Oper)(S:St):Option (List Cl)→Option (XE×St)
 |some LI=>mI X cl md nd LI all all S []
 |none=>none
def rZ(X:Ctx)(cl:bq)(md:Bool)(nd:List (List Nat))(all:List Oper)(S:St):List (Nat×Nat)→Option (XE×St)
 |[]=>iq X cl md (verSum S.mem,nd) all all S []
 |q::r=>Oq X cl md nd all S (eZ S.mem (q::r))
def St.adopt(S:St)(kb j k sz:Nat):St:=
 match Mem.get S.mem kb,Mem.get S.mem k with
 |some ⟨_,vb,.box cs⟩,some ⟨_,v,_⟩=>match cs[j]? with
  |some (.lit (.slice none 0 0))=>if kb=k then S else {S with mem:=Mem.set (Mem.set S.mem ⟨k,v+1,.vec sz []⟩) ⟨kb,vb,.box (cs.set j (.vec k (v+1) 0 0))⟩}
  |_=>S
 |_,_=>S
def rkAV(k v k2 v2:Nat):AV→AV
 | .vec k0 v0 o l=>if k0=k∧v0=v then .vec k2 v2 o l else .vec k0 v0 o l
 |x=>x
def mapB(τ:AV→AV):Mem→Mem
 |[]=>[]
 |e::r=>⟨e.key,e.aj,mapC τ e.cont⟩::mapB τ r
def St.rekey(S:St)(k k2:Nat):St:=
 match Mem.get S.mem k,Mem.get S.mem k2 with
 |some ⟨_,v,.vec sz rows⟩,some ⟨_,v2,_⟩=>if k=k2 then S else {S with env:=mapEnv (rkAV k v k2 (v2+1)) S.env,mem:=Mem.set (Mem.set (mapB (rkAV k v k2 (v2+1)) S.mem) ⟨k,v+1,.dead⟩) ⟨k2,v2+1,.vec sz rows⟩}
 |_,_=>S
def St.opn(S:St)(k k2:Nat):St:=
 match Mem.get S.mem k,Mem.get S.mem k2 with
 |some ⟨_,v,.vv rows none⟩,some ⟨_,v2,_⟩=>match rows.getLast? with
  |some xs=>if k=k2 then S else {S with mem:=Mem.set (Mem.set S.mem ⟨k,v,.vv rows.dropLast (some (.vec k2 (v2+1) 0 xs.length))⟩) ⟨k2,v2+1,.vec 1 xs⟩}
  |none=>S
 |_,_=>S
def St.cls(S:St)(k k2:Nat):St:=
 match Mem.get S.mem k,Mem.get S.mem k2 with
 |some ⟨_,v,.vv rows (some (.vec k3 v3 0 len))⟩,some ⟨_,v2,.vec 1 xs⟩=>if k=k2 then S else if k3=k2∧v3=v2∧len=xs.length then {S with mem:=Mem.set (Mem.set S.mem ⟨k,v,.vv (rows++[xs]) none⟩) ⟨k2,v2+1,.dead⟩} else S
 |_,_=>S
def St.shut(S:St)(k:Nat):St:=
 match Mem.get S.mem k with
 |some ⟨_,v,.vv rows (some _)⟩=>{S with mem:=Mem.set S.mem ⟨k,v,.vv rows none⟩}
 |_=>S
def St.adoptV(S:St)(kb j k:Nat):St:=
 match Mem.get S.mem kb,Mem.get S.mem k with
 |some ⟨_,vb,.box cs⟩,some ⟨_,v,_⟩=>match cs[j]? with
  |some (.lit (.slice none 0 0))=>if kb=k then S else {S with mem:=Mem.set (Mem.set S.mem ⟨kb,vb,.box (cs.set j (.vec k (v+1) 0 0))⟩) ⟨k,v+1,.vv [] none⟩}
  |_=>S
 |_,_=>S
def Gh.go(S:St):Gh→St
 | .opn k k2=>S.opn k k2
 | .cls k k2=>S.cls k k2
 | .shut k=>S.shut k
 | .adoptV kb j k=>S.adoptV kb j k
 | .trim k=>S.trim1 k
 | .freeze k=>S.freeze k
 | .adopt kb j k sz=>S.adopt kb j k sz
 | .rekey k k2=>S.rekey k k2
def ghs(S:St):List Gh→St
 |[]=>S
 |g::r=>ghs (g.go S) r
def tT(k:St→St):Option (XE×St)→Option (XE×St)
 |some (.normal,S)=>some (.normal,k S)
 |r=>r
def B4(id:Nat):Option (XE×St)→Option (XE×St)
 |some (.exit mA,S)=>if mA=id then some (.normal,S)else some (.exit mA,S)
 |r=>r
def iter(f:St→Option (XE×St)):Nat→St→Option (XE×St)
 |0,_=>none
 |n+1,S=>andThen (f S) (iter f n)
def B5(a b:Option (XE×St)):Bool×AV→Option (XE×St)
 |(true,.d (.bool t))=>if t=true then a else b
 |_=>none
def St.leave(X:Ctx)(f:FuncId)(id:Nat)(S:St):St:=ghs (S.prune (X.o6 f id)) (X.gh f id)
def den(X:Ctx)(f:FuncId)(cl:bq)(n:Nat):Code→St→Option (XE×St)
 | .skip,S=>some (.normal,S)
 | .region id ops draw,S=>match draw with
  |false=>tT (St.leave X f id) (fo X cl (X.md f id) ops.toList ops.toList S)
  |true=>tT (St.leave X f id) (rZ X cl (X.md f id) (X.od f id) ops.toList S (X.fl f id))
 | .seq a b,S=>andThen (den X f cl n a S) (den X f cl n b)
 | .cond c a b,S=>B5 (den X f cl n a S) (den X f cl n b S) (S.opd c)
 | .block id c,S=>B4 id (den X f cl n c S)
 | .loop c,S=>iter (den X f cl n c) n S
 | .exit id,S=>some (.exit id,ghs S (X.gh f (id+1000000)))
 | .ret,S=>some (.ret,S)
 |_,_=>none
def fin(P:Program)(p:ay)(n0:Nat)(rs:List ResultVar):Option (XE×St)→Option (Out×List (Nat×aE))
 |some (.normal,S)=>finish P p n0 rs S
 |some (.ret,S)=>finish P p n0 rs S
 |some (.panic t x,S)=>finPanic p n0 t x S
 |_=>none
def pO(X:Ctx)(f:FuncId)(cl:bq)(n:Nat)(fn:Func)(c:Code)(args:List AV)(cs:List aE):Option (Out×List (Nat×aE)):=
 if (decide (args.length≤fn.ntmps)&&decide (cs.length≤100)&&(X.fp f).sites.all (fun k=>decide (100≤k))&&decide (X.fp f).sites.Nodup)=true then
  fin X.P (X.fp f) cs.length fn.results.toList (den X f cl n c (entry fn.ntmps X.gl args cs (X.fp f).sites))
 else none
def emptyVec:Option (Out×List (Nat×aE))→Option Nat
 |some (.ret (.vec 0 0 0 0),[(0,.vec sz [])])=>some sz
 |_=>none
def splitRun(r1 r2:Option (Out×List (Nat×aE))):Option (Out×List (Nat×aE)):=
 match emptyVec r1,emptyVec r2 with
 |some a,some b=>if a=b then r1 else none
 |_,_=>none
def runSplit(run:List AV→Option (Out×List (Nat×aE)))(args:List AV):Bool→Option (Out×List (Nat×aE))
 |true=>match args with
  | .d (.list [])::r=>splitRun (run (.lit (.slice none 0 0)::r)) (run (.nn::r))
  |args=>run args
 |false=>run args
def orcAns(h:List AV→Option AV)(args:List AV):List aE→Option (Out×List (Nat×aE))
 |[]=>match h args with
  |some d=>some (.ret d,[])
  |none=>none
 |_::_=>none
def liftO(h:List D→Option D)(args:List AV):Option AV:=match gn args with
 |some ds=>(h ds).map .d
 |none=>none
abbrev DF:=FuncId×List AV
def dfv(S:St)(args:List Operand):Bool×AV→Option DF
 |(true,.fn g db)=>if (okAll S args&&decide (g<bnB))=true then some (g,argVals S args++db)else none
 |_=>none
def ml(S:St)(o:Oper):Option DF:=
 match o.guard,o.op with
 |none,.defer {callee:=.value fv,args,..}=>dfv S args.toList (S.opd fv)
 |_,_=>none
def J4(o:Oper):Bool:=
 match o.op with
 | .defer _=>true
 |_=>false
abbrev XD:=Option (XE×St×List DF)
def Fx(k:St→XD)(ds:List DF):Option (XE×St)→XD
 |some (.normal,S)=>k S
 |some (e,S)=>some (e,S,ds)
 |none=>none
def fC(X:Ctx)(cl:bq)(md:Bool)(all:List Oper):List Oper→St→List DF→XD
 |[],S,ds=>some (.normal,S,ds)
 |o::r,S,ds=>match ml S o with
  |some d=>fC X cl md all r (S.put o.dst true .bf) (d::ds)
  |none=>Fx (fun S1=>fC X cl md all r S1 ds) ds (mj X cl md all S o)
def xX(ops:List Oper):Bool:=ops.any J4
def xY(k:St→St):XD→XD
 |some (.normal,S,ds)=>some (.normal,k S,ds)
 |r=>r
def vH(ds:List DF):Option (XE×St)→XD
 |some (e,S)=>some (e,S,ds)
 |none=>none
def GM(k:St→List DF→XD):XD→XD
 |some (.normal,S,ds)=>k S ds
 |r=>r
def iG(X:Ctx)(f:FuncId)(cl:bq)(n:Nat):Code→St→List DF→XD
 | .seq a b,S,ds=>GM (iG X f cl n b) (iG X f cl n a S ds)
 | .region id ops draw,S,ds=>match !draw&&xX ops.toList with
  |true=>xY (St.leave X f id) (fC X cl (X.md f id) ops.toList ops.toList S ds)
  |false=>vH ds (den X f cl n (.region id ops draw) S)
 |c,S,ds=>vH ds (den X f cl n c S)
def sX(o:Oper):Bool:=
 match o.guard,o.op with
 |none,.call {callee:=.builtin .recover,args,..}=>args.toList.isEmpty
 |_,_=>false
def mJ(X:Ctx)(f:FuncId)(cl:bq)(n:Nat)(rv:AV):Code→St→Option (XE×St)
 | .seq a b,S=>andThen (mJ X f cl n rv a S) (den X f cl n b)
 | .region id ops draw,S=>match draw,ops.toList with
  |false,o::r=>if sX o=true then tT (St.leave X f id) (fo X cl (X.md f id) (o::r) r (S.put o.dst true rv))else none
  |_,_=>none
 |_,_=>none
def Ot(P:Program)(p:ay)(n0:Nat)(rs:List ResultVar):Option (XE×St)→Option (Out×List (Nat×aE))
 |some (.normal,S)=>finish P p n0 rs S
 |some (.ret,S)=>finish P p n0 rs S
 |_=>none
def uC(X:Ctx)(f:FuncId)(cl:bq)(n:Nat)(fn:Func)(c:Code)(args:List AV)(cs:List aE):Option (Out×List (Nat×aE)):=
 match args.getLast? with
 |some rv=>if (decide (args.dropLast.length≤fn.ntmps)&&decide (cs.length≤100)&&(X.fp f).sites.all (fun k=>decide (100≤k))&&decide (X.fp f).sites.Nodup)=true then
  Ot X.P (X.fp f) cs.length fn.results.toList (mJ X f cl n rv c (entry fn.ntmps X.gl args.dropLast cs (X.fp f).sites))
  else none
 |none=>none
def recA:XE→Option AV
 | .normal=>some (.lit .nilIface)
 | .ret=>some (.lit .nilIface)
 | .panic t x=>some (.gL t x)
 | .exit _=>none
def memC(S:St):Option fK→Option St
 |some ⟨.ret _,es,_⟩=>some {S with mem:=putAll S.mem es}
 |_=>none
def finM(X:Ctx)(p:ay)(n0:Nat)(rs:List ResultVar):Option St→Option (Out×List (Nat×aE))
 |some S=>finish X.P p n0 rs S
 |none=>none
def finD1(X:Ctx)(p:ay)(n0:Nat)(rs:List ResultVar)(sY:bq)(S:St)(d:DF):Option AV→Option (Out×List (Nat×aE))
 |some rv=>finM X p n0 rs (memC S (callOp sY S.mem 0 d.1 (d.2++[rv]) (X.fp d.1).vD))
 |none=>none
def tU(X:Ctx)(p:ay)(n0:Nat)(rs:List ResultVar)(sY:bq):XD→Option (Out×List (Nat×aE))
 |some (e,S,[])=>fin X.P p n0 rs (some (e,S))
 |some (e,S,[d])=>finD1 X p n0 rs sY S d (recA e)
 |_=>none
def uD(X:Ctx)(f:FuncId)(cl sY:bq)(n:Nat)(fn:Func)(c:Code)(args:List AV)(cs:List aE):Option (Out×List (Nat×aE)):=
 if (decide (args.length≤fn.ntmps)&&decide (cs.length≤100)&&(X.fp f).sites.all (fun k=>decide (100≤k))&&decide (X.fp f).sites.Nodup)=true then
  tU X (X.fp f) cs.length fn.results.toList sY (iG X f cl n c (entry fn.ntmps X.gl args cs (X.fp f).sites) [])
 else none
def vI:Code→Bool
 | .seq a b=>vI a||vI b
 | .region _ ops _=>xX ops.toList
 |_=>false
def mm(X:Ctx)(n:Nat)(cl:bq):bq:=fun g args cs=>
 match X.P.funcs[g]? with
 |some fn=>match fn.body with
  |some c=>uC X g cl n fn c args cs
  |none=>none
 |none=>none
def uE(X:Ctx)(f:FuncId)(cl:bq)(n:Nat)(fn:Func)(c:Code)(args:List AV)(cs:List aE):Bool→Option (Out×List (Nat×aE))
 |true=>uD X f cl (mm X n cl) n fn c args cs
 |false=>runSplit (fun args=>pO X f cl n fn c args cs) args (X.fp f).split
def aS(X:Ctx):Nat→bq
 |0,_,_,_=>none
 |n+1,f,args,cs=>match X.ov with
  |some cl=>cl f args cs
  |none=>match X.wU f with
   |some h=>orcAns h args cs
   |none=>match X.P.funcs[f]? with
    |some fn=>match fn.body with
     |some c=>uE X f (aS X n) n fn c args cs (vI c)
     |none=>none
    |none=>none
def jb(X:Ctx)(cl:bq):Prop:=∀g args cs out l,cl g args cs=some (out,l)→
 gE X.P g=true∧Ev X.P X.gl g args (inM 0 cs) fun o m=>o=out∧m=mkM 0 l
theorem r6{P:Program}{g:FuncId}{vs:Array Value}{w:World}(h:gE P g=true):(callFunc g vs).run P w=.ok (.enter g vs) w:=by
 unfold gE at h;split at h
 ·rename_i fn hf;simp only[Bool.and_eq_true,Bool.not_eq_true']at h;have h1:fn.body.isNone=false:=by
   have:=h.1;cases hb:fn.body<;>simp_all
  have h2:fn.name≠ "runtime.NumGoroutine" :=by simpa using h.2
  have h3:fn.body≠none:=by intro hb;simp[hb]at h1
  simp[callFunc,hf,h2,h3]
 ·cases h
theorem get_none{m:Mem}{k:Nat}:Mem.get m k=none↔k∉m.map (·.key):=by
 induction m with
 |nil=>simp[Mem.get]
 |cons e r ih=>
  simp only[Mem.get,List.map_cons,List.mem_cons,not_or];split
  ·rename_i h;simp[h]
  ·rename_i h;rw[ih];constructor
   ·exact fun hh=>⟨fun he=>h he.symm,hh⟩
   ·exact fun hh=>hh.2
theorem tV{m m':Mem}(hk:m'.map (·.key)=m.map (·.key))(k:Nat):(Mem.get m' k).isNone=(Mem.get m k).isNone:=by
 have:=get_none (m:=m) (k:=k);have h2:=get_none (m:=m') (k:=k);rw[hk,←this]at h2;cases h:Mem.get m k<;>cases h':Mem.get m' k<;>simp_all
theorem tW(m:Mem):∀(n:Nat)(todo acc:List Nat),∀k∈acc,k∈collect m n todo acc
 |0,todo,acc,k,h=>h
 |n+1,[],acc,k,h=>h
 |n+1,t::todo,acc,k,h=>by
  simp only[collect];split
  ·exact tW m n todo acc k h
  ·exact tW m n _ _ k (List.mem_append_left _ h)
theorem tX{m m':Mem}(hk:m'.map (·.key)=m.map (·.key)):∀(n:Nat)(todo acc:List Nat),(∀k∈collect m n todo acc,Mem.get m' k=Mem.get m k)→collect m' n todo acc=collect m n todo acc
 |0,todo,acc,_=>rfl
 |n+1,[],acc,_=>rfl
 |n+1,t::todo,acc,h=>by
  simp only[collect,tV hk t]at h⊢;split
  ·rename_i hc;rw[hc]at h;exact tX hk n todo acc h
  ·rename_i hc;rw[hc]at h;have e:Mem.get m' t=Mem.get m t:=h t (tW m n _ _ t (by simp));rw[e];exact tX hk n _ _ h
mutual
theorem GN{m m':Mem}{ρ:List Nat}{bor:Nat→Bool}{nv:Nat→Nat→Nat}(hk:m'.map (·.key)=m.map (·.key))(h:∀k,(k∈ρ∨bor k=true)→Mem.get m' k=Mem.get m k):∀y:AV,vw m' ρ bor nv y=vw m ρ bor nv y
 | .ptr k aj off=>by
  by_cases Ab:k∈ρ
  ·simp only[vw,h k (.inl Ab)]
  ·have h0:∀m0:Mem,vw m0 ρ bor nv (.ptr k aj off)=.bf:=by
    intro m0;simp only[vw,jw (ρ:=ρ) (k:=k) (j:=0) |>.2 Ab];cases Mem.get m0 k<;>rfl
   rw[h0,h0]
 | .vec k aj off len=>by
  by_cases Ab:k∈ρ∨bor k=true
  ·simp only[vw,h k Ab]
  ·simp only[not_or]at Ab;have h0:∀m0:Mem,vw m0 ρ bor nv (.vec k aj off len)=.bf:=by
    intro m0;simp only[vw,jw (ρ:=ρ) (k:=k) (j:=0) |>.2 Ab.1,Ab.2];cases Mem.get m0 k with
    |none=>rfl
    |some e=>
     obtain⟨_,_,c⟩:=e;cases c<;>simp
   rw[h0,h0]
 | .cF k aj i j=>by
  by_cases Ab:k∈ρ
  ·simp only[vw,h k (.inl Ab)]
  ·have h0:∀m0:Mem,vw m0 ρ bor nv (.cF k aj i j)=.bf:=by
    intro m0;simp only[vw,jw (ρ:=ρ) (k:=k) (j:=0) |>.2 Ab];cases Mem.get m0 k<;>rfl
   rw[h0,h0]
 | .agg cs=>by simp only[vw,uF hk h cs]
 | .fn f cap=>by simp only[vw,uF hk h cap]
 | .aW vs=>by simp only[vw,uF hk h vs]
 | .bf=>rfl
 | .d x=>rfl
 | .dL x j=>rfl
 | .gL t x=>rfl
 | .lit v=>rfl
 | .nn=>rfl
 | .err=>rfl
theorem uF{m m':Mem}{ρ:List Nat}{bor:Nat→Bool}{nv:Nat→Nat→Nat}(hk:m'.map (·.key)=m.map (·.key))(h:∀k,(k∈ρ∨bor k=true)→Mem.get m' k=Mem.get m k):∀l:List AV,vws m' ρ bor nv l=vws m ρ bor nv l
 |[]=>rfl
 |x::r=>by simp only[vws,GN hk h x,uF hk h r]
end
theorem GO{m m':Mem}{ρ:List Nat}{bor:Nat→Bool}{nv:Nat→Nat→Nat}(hk:m'.map (·.key)=m.map (·.key))(h:∀k,(k∈ρ∨bor k=true)→Mem.get m' k=Mem.get m k):
 ∀(l:List Nat)(i:Nat),(∀k∈l,k∈ρ)→selL m' ρ bor nv i l=selL m ρ bor nv i l
 |[],i,_=>rfl
 |k::r,i,hl=>by
  simp only[selL,h k (.inl (hl k (by simp))),GO hk h r (i+1) (fun x hx=>hl x (by simp[hx]))];congr 1;cases Mem.get m k with
  |none=>rfl
  |some e=>
   simp only[selE,Prod.mk.injEq,true_and];cases e.cont with
   |box cs=>simp only[selC,uF hk h cs]
   |vv rows y=>
    cases y with
    |none=>rfl
    |some x=>simp only[selC,Option.map_some,GN hk h x]
   |_=>rfl
theorem B6{b:Bool}{m m':Mem}{ρ B:List Nat}(hk:m'.map (·.key)=m.map (·.key))(h:∀k,(k∈ρ∨B.contains k=true)→Mem.get m' k=Mem.get m k):∀l:List AV,vwArgs b m' ρ B l=vwArgs b m ρ B l
 |[]=>rfl
 |x::r=>by simp only[vwArgs,GN (nv:=nv0) hk h x,B6 hk h r]
theorem AJ{m m':Mem}(d:Nat):∀(l:List Nat),(∀k∈l,Mem.get m' k=Mem.get m k)→base m' d l=base m d l
 |[],_=>rfl
 |k::r,h=>by simp only[base,h k (by simp),AJ d r (fun x hx=>h x (by simp[hx]))]
theorem GP{m m':Mem}(ρ:List Nat)(hk:m'.map (·.key)=m.map (·.key)):∀(l:List Nat),frOk m' ρ l=frOk m ρ l
 |[]=>rfl
 |k::r=>by
  have:(Mem.get m' k).isSome=(Mem.get m k).isSome:=by
   have:=tV hk k;cases h:Mem.get m k<;>cases h':Mem.get m' k<;>simp_all
  simp only[frOk,this,GP ρ hk r]
theorem B7{cl:bq}{m m':Mem}{k0:Nat}{g:FuncId}{ys:List AV}{mt:List Nat}{res:fK}(hk:m'.map (·.key)=m.map (·.key))(h:callOp cl m k0 g ys mt=some res)(hs:∀k∈res.ks,Mem.get m' k=Mem.get m k):
 callOp cl m' k0 g ys mt=some res:=by
 unfold callOp callOp2 callOp3 at h⊢;obtain⟨ρ,hρ⟩:∃ρ,ρ=collect m 64 (argKeys mt 0 ys) []:=⟨_,rfl⟩;rw[←hρ]at h;obtain⟨B,hB⟩:∃B,B=(argBor mt 0 ys).filter fun k=>!ρ.contains k:=⟨_,rfl⟩;rw[←hB]at h;have hU:∀k,k∈ρ∨B.contains k=true→Mem.get m' k=Mem.get m k:=by
  intro k cw;refine hs k ?_;unfold callBack at h;split at h
  ·split at h
   ·cases h;simp only[List.mem_append];rcases cw with h1|h1
    ·exact .inl (.inl h1)
    ·exact .inl (.inr (by simpa using h1))
   ·cases h
  ·cases h
 have e1:collect m' 64 (argKeys mt 0 ys) []=ρ:=by
  rw[hρ];exact tX hk 64 _ _ (fun k cw=>hU k (.inl (hρ▸cw)))
 rw[e1,←hB,B6 hk hU,GO hk hU ρ 0 (fun _ h=>h),tV hk];unfold callBack at h⊢;split
 ·rename_i out l2 aO;rw[aO]at h;simp only at h;rw[GP ρ hk];split
  ·rename_i hc;rw[if_pos hc]at h;cases h;have e2:∀d,base m' d ρ=base m d ρ:=fun d=>AJ d ρ (fun k cw=>hU k (.inl cw));have e3:∀d,base m' d (List.range' (k0+1) (l2.length-ρ.length))=base m d (List.range' (k0+1) (l2.length-ρ.length)):=fun d=>AJ d _ (fun k cw=>hs k (by simp only[List.mem_append];exact .inr cw));rw[e2,e3]
  ·rename_i hc;rw[if_neg hc]at h;cases h
 ·rename_i aO;rw[aO]at h;cases h
theorem tY(S:St):∀(l:List Operand)(i:Nat),(argVals S l)[i]?=(l[i]?).map fun x=>(S.opd x).2
 |[],i=>by simp[argVals]
 |x::r,i=>by cases i with|zero=>simp[argVals]|succ i=>simp[argVals,tY S r i]
theorem iU(S:St):∀(l:List Operand),(argVals S l).length=l.length
 |[]=>rfl
 |x::r=>by simp[argVals,iU S r]
theorem vJ(b m ρ B):∀(l:List AV)(i:Nat),(vwArgs b m ρ B l)[i]?=(l[i]?).map fun y=>nrm b (vw m ρ (fun k=>B.contains k) nv0 y)
 |[],i=>by simp[vwArgs]
 |x::r,i=>by cases i with|zero=>simp[vwArgs]|succ i=>simp[vwArgs,vJ b m ρ B r i]
theorem qA(b m ρ B):∀(l:List AV),(vwArgs b m ρ B l).length=l.length
 |[]=>rfl
 |x::r=>by simp[vwArgs,qA b m ρ B r]
theorem xZ(m ρ bor):∀(l:List Nat)(i j:Nat),inM i (conts (selL m ρ bor nv0 j l))=mkM i (selL m ρ bor nv0 j l)
 |[],i,j=>rfl
 |k::r,i,j=>by
  have:selE m ρ bor nv0 j (Mem.get m k)=(0,(selE m ρ bor nv0 j (Mem.get m k)).2):=by
   cases Mem.get m k<;>rfl
  simp only[selL];rw[this];simp only[conts,inM,mkM,xZ m ρ bor r (i+1) (j+1)]
theorem AK{m:Mem}{ρ:List Nat}:∀{l:List Nat},frOk m ρ l=true→∀k∈l,(Mem.get m k).isSome=true∧k∉ρ
 |[],_,k,hk=>by simp at hk
 |x::r,h,k,hk=>by
  simp only[frOk,Bool.and_eq_true,Bool.not_eq_true',List.contains_eq_mem,decide_eq_false_iff_not]at h;rcases List.mem_cons.1 hk with rfl|hk
  ·exact h.1
  ·exact AK h.2 k hk
theorem vK:∀{l:List (Nat×aE)},plainL l=true→∀e∈l,plainC e.2=true
 |[],_,e,he=>by simp at he
 |(v,c)::r,h,e,he=>by
  simp only[plainL,Bool.and_eq_true]at h;rcases List.mem_cons.1 he with rfl|he
  ·exact h.1
  ·exact vK h.2 e he
theorem uG:∀(l:List (Nat×aE))(i k:Nat),i≤k→k<i+l.length→(Mem.get (mkM i l) k).isSome=true
 |[],i,k,h1,h2=>by simp at h2;omega
 |(v,c)::r,i,k,h1,h2=>by
  simp only[mkM,Mem.get];split
  ·rfl
  ·rename_i bK;exact uG r (i+1) k (by have abC:i≠k:=bK;omega) (by simp at h2;omega)
theorem Ev.frz{P:Program}{gl f args}{cs:List aE}{out:Out}{l2:List (Nat×aE)}(h:Ev P gl f args (inM 0 cs) fun o m=>o=out∧m=mkM 0 l2)(hl:cs.length≤l2.length):
 Ev P gl f args (inM 0 cs) fun o m=>o=frzO cs.length l2 out∧m=mkM 0 (selL (mkM 0 l2) (List.range cs.length) (fun _=>true) (fun _ v=>v) 0 (List.range cs.length)):=by
 intro φ G w vs hm hg kr ha;refine (h φ G w vs hm hg kr ha).mono ?_;rintro e w' ⟨φ',m',iQ,⟨rfl,rfl⟩,dx,aN,fh⟩;obtain⟨s1,s2,s3⟩:=yU (G1:=G) (ρ:=List.range cs.length) (bor:=fun _=>true) (nv:=fun _ v=>v) dx List.nodup_range (fun k hk=>uG l2 0 k (Nat.zero_le _) (by simp at hk;omega)) (fun b h=>.inl h) (fun b h=>dx.j9 b h.own)
  (fun k e L b hg _ _ hL ho=>dx.j9 _ ⟨e,(Mem.get_mem hg).1,L,by rw[(Mem.get_mem hg).2];exact hL,ho⟩)
 refine⟨_,_,_,⟨rfl,rfl⟩,s1,⟨?_,aN.xh,?_,aN.size,aN.os,aN.tape,aN.output⟩,?_⟩
 ·intro k L hL;have hk:k<cs.length:=by
   have:=hm.oH k L hL;rw[Gx,o7]at this;simpa using this
  obtain⟨L',h1,h2,h3⟩:=aN.le k L hL;exact⟨L',by simp[bQ.hY,hk,h1],h2,h3⟩
 ·intro b hb ho;exact aN.own b hb ((uz (φ:=φ') (nv:=fun _ v=>v) (bor:=fun _=>true) (fun k hk=>uG l2 0 k (Nat.zero_le _) (by simp at hk;omega)) b).1 ho).own
 ·cases iQ with
  |ret x=>
   cases e with
   |returned v=>exact (s2 x v fh).norm
   |_=>exact fh.elim
  |panic t x=>
   cases e with
   |panicked chain=>
    obtain⟨v,hc,hx⟩:=fh;exact⟨v,hc,hx.mono (fun _ _ _=>rfl) (Nat.le_refl _) (fun b _=>s3 b)⟩
   |_=>exact fh.elim
theorem r9:∀(l:List (Nat×aE)),(conts l).length=l.length
 |[]=>rfl
 |(_,_)::r=>by simp[conts,r9 r]
theorem x8{n0:Nat}{b:Bool}{r:Option (Out×List (Nat×aE))}{out:Out}{l:List (Nat×aE)}(h:frzR n0 b r=some (out,l)):∃GQ l0,r=some (GQ,l0)∧
 ((out=GQ∧l=l0)∨(n0<l0.length∧out=frzO n0 l0 GQ∧l=selL (mkM 0 l0) (List.range n0) (fun _=>true) (fun _ v=>v) 0 (List.range n0))):=by
 cases r with
 |none=>cases h
 |some p=>
  obtain⟨o0,l0⟩:=p;refine⟨o0,l0,rfl,?_⟩;simp only[frzR]at h;split at h
  ·rename_i hc;simp only[Bool.and_eq_true,decide_eq_true_eq]at hc;simp only[Option.some.injEq,Prod.mk.injEq]at h;exact .inr ⟨hc.2,h.1.symm,h.2.symm⟩
  ·simp only[Option.some.injEq,Prod.mk.injEq]at h;exact .inl ⟨h.1.symm,h.2.symm⟩
theorem ZF{n g:Nat}(h:g<n):fnIdN n g=g:=by
 unfold fnIdN;rw[decide_eq_false (Nat.not_le.2 h)]
theorem Re{n g:Nat}(h:g<n)(ys db:List AV):fnArgsN n g ys db=ys++db:=by
 unfold fnArgsN;rw[decide_eq_false (Nat.not_le.2 h)]
theorem ZG(n g:Nat):fnIdN n (g+n)=g:=by
 unfold fnIdN;rw[decide_eq_true (Nat.le_add_left n g)];exact Nat.add_sub_cancel g n
theorem Rf(n g:Nat)(ys db:List AV):fnArgsN n (g+n) ys db=db++ys:=by
 unfold fnArgsN;rw[decide_eq_true (Nat.le_add_left n g)]
theorem abE{g:FuncId}(h:g<bnB):fnId g=g:=ZF h
theorem GR{g:FuncId}(h:g<bnB)(ys db:List AV):fnArgs g ys db=ys++db:=Re h ys db
theorem abF(g:FuncId):fnId (g+bnB)=g:=ZG bnB g
theorem GS(g:FuncId)(ys db:List AV):fnArgs (g+bnB) ys db=db++ys:=Rf bnB g ys db
theorem sZ{X:Ctx}{cl:bq}(aO:jb X cl){S:St}{o:Oper}{fv:Operand}{args:Array Operand}{hZ:Array TypeId}{g g0:FuncId}{db:List AV}{k0:Nat}{mt:List Nat}{res:fK}
 (ho:o.op=.call {callee:=.value fv,args,argTypes:=hZ}) (fY:S.opd fv=(true,.fn g0 db)) (J5:fnId g0=g) (cV:okAll S args.toList=true)
 (h:callOp cl S.mem k0 g (fnArgs g0 (argVals S args.toList) db) mt=some res) (cv:S.gl=X.gl) {φ G a w} (hr:Rel φ G S a w) {next:Act→World→Prop} {R:Exit→Act→World→Prop}
 (alc:∀x,res.out=.ret x→∀φ' w' v,Rel φ' G {S with mem:=putAll S.mem res.es} a w'→aP φ S.mem w φ' (putAll S.mem res.es) w'→aB φ' w' (Fo G φ' (putAll S.mem res.es)) x v→next (a.put o.dst v) w')
 (GG:∀t x,res.out=.panic t x→∀φ' w' v,Rel φ' G {S with mem:=putAll S.mem res.es} a w'→aP φ S.mem w φ' (putAll S.mem res.es) w'→aK w' (Fo G φ' (putAll S.mem res.es)) x v→R (.panic [{v:=.iface t v,recovered:=false}]) a w'):o.wp X.P a w next R:=by
 unfold callOp callOp2 callOp3 at h;obtain⟨ρ,hρ⟩:∃ρ,ρ=collect S.mem 64 (argKeys mt 0 (fnArgs g0 (argVals S args.toList) db)) []:=⟨_,rfl⟩;have GU:=nY S.mem 64 (argKeys mt 0 (fnArgs g0 (argVals S args.toList) db)) [] List.nodup_nil (by simp);rw[←hρ]at h GU;generalize (argBor mt 0 (fnArgs g0 (argVals S args.toList) db)).filter (fun k=>!ρ.contains k)=B at h;clear hρ;obtain⟨hn,dV⟩:=GU;unfold callBack at h;split at h
 ·rename_i out l2 ea;split at h
  ·rename_i hc;cases h;have abG:gE X.P g=true∧Ev X.P X.gl g (vwArgs (mt.contains 1000) S.mem ρ B (fnArgs g0 (argVals S args.toList) db)) (inM 0 (conts (selL S.mem ρ (fun k=>B.contains k) nv0 0 ρ))) fun o m=>o=out∧m=mkM 0 l2:=by
    obtain⟨GQ,l0,h0,h1⟩:=x8 ea;obtain⟨gR,GW⟩:=aO _ _ _ _ _ h0;refine⟨gR,?_⟩;rcases h1 with ⟨rfl,rfl⟩|⟨bz,rfl,rfl⟩
    ·exact GW
    ·have GX:(conts (selL S.mem ρ (fun k=>B.contains k) nv0 0 ρ)).length=ρ.length:=by rw[r9,pJ]
     have:=GW.frz (by rw[GX];omega);rw[GX]at this;exact this
   obtain⟨s4,bZ⟩:=abG;simp only[Bool.and_eq_true,Bool.or_eq_true,decide_eq_true_eq]at hc;obtain⟨⟨hlen,D4⟩,dF⟩:=hc;rw[xZ]at bZ;obtain⟨v1,v2,v3⟩:=D7 (B:=B) hr.mem hn dV;have wP:=hr.opd fv (by rw[fY]);rw[fY]at wP;generalize WK:a.eval fv=ald at wP;have sN:∃vs:Array Value,(execOp a.eval o).run X.P w=.ok (.enter g vs) w∧(fnArgs g0 (argVals S args.toList) db).length=vs.size∧∀(i:Nat) y v,(fnArgs g0 (argVals S args.toList) db)[i]?=some y→vs[i]?=some v→aB φ w (Fo G φ S.mem) y v:=by
    have kQ:∀(i:Nat) y v,(argVals S args.toList)[i]?=some y→(args.map a.eval)[i]?=some v→aB φ w (Fo G φ S.mem) y v:=by
     intro i y v hy hv;rw[tY]at hy;simp only[Array.getElem?_map,Option.map_eq_some_iff]at hv;obtain⟨z,hz,rfl⟩:=hv;obtain⟨z',sR,rfl⟩:=Option.map_eq_some_iff.1 hy;rw[Array.getElem?_toList,hz]at sR;cases sR;exact hr.opd z (sM cV z (by simpa using Array.mem_of_getElem? hz))
    have xC:(argVals S args.toList).length=(args.map a.eval).size:=by rw[iU];simp
    have abH:∀(l r:List AV)(la ra:Array Value),l.length=la.size→r.length=ra.size→(∀(i:Nat) y v,l[i]?=some y→la[i]?=some v→aB φ w (Fo G φ S.mem) y v)→(∀(i:Nat) y v,r[i]?=some y→ra[i]?=some v→aB φ w (Fo G φ S.mem) y v)→
     ∀(i:Nat) y v,(l++r)[i]?=some y→(la++ra)[i]?=some v→aB φ w (Fo G φ S.mem) y v:=by
     intro l r la ra h1 h2 h3 h4 i y v hy hv;by_cases hi:i<l.length
     ·rw[List.getElem?_append_left hi]at hy;rw[Array.getElem?_append_left (by omega)]at hv;exact h3 i y v hy hv
     ·rw[List.getElem?_append_right (by omega)]at hy;rw[Array.getElem?_append_right (by omega),←h1]at hv;exact h4 _ y v hy hv
    cases wP with
    |fn _ _ ca bz fX cd=>
     have e2:g0=g:=by rw[←J5,abE bz]
     subst e2;refine⟨args.map a.eval++ca,by simp[execOp,ho,resolve,WK,Deferred.ofValue,invoke,r6 s4],?_,?_⟩
     ·rw[GR bz,List.length_append,xC,fX,Array.size_append]
     ·rw[GR bz];exact abH _ _ _ _ xC fX kQ cd
    |qG f _ ca fX cd=>
     have e2:f=g:=by rw[←J5,abF]
     subst e2;refine⟨ca++args.map a.eval,by simp[execOp,ho,resolve,WK,Deferred.ofValue,invoke,r6 s4],?_,?_⟩
     ·rw[GS,List.length_append,xC,fX,Array.size_append]
     ·rw[GS];exact abH _ _ _ _ fX xC cd kQ
   obtain⟨vs,bP,Ou,ep⟩:=sN
   ·unfold Oper.wp;rw[bP];have af7:(vwArgs (mt.contains 1000) S.mem ρ B (fnArgs g0 (argVals S args.toList) db)).length=vs.size:=by
     rw[qA];exact Ou
    have b7:∀(i:Nat) x v,(vwArgs (mt.contains 1000) S.mem ρ B (fnArgs g0 (argVals S args.toList) db))[i]?=some x→vs[i]?=some v→aB (φ.hY ρ nv0) w (Fo (kP φ G S.mem ρ B) (φ.hY ρ nv0) (mkM 0 (selL S.mem ρ (fun k=>B.contains k) nv0 0 ρ))) x v:=by
     intro i x v hx hv;rw[vJ]at hx;obtain⟨y,hy,rfl⟩:=Option.map_eq_some_iff.1 hx;exact (v2 y v (ep i y v hy hv)).nrm
    have oc:eK w (Fo (kP φ G S.mem ρ B) (φ.hY ρ nv0) (mkM 0 (selL S.mem ρ (fun k=>B.contains k) nv0 0 ρ))) X.gl:=by
     rw[←cv];exact hr.ka.mono (fun _ _ _=>rfl) (Nat.le_refl _) (fun b _=>v3 b)
    refine (bZ (φ.hY ρ nv0) (kP φ G S.mem ρ B) w _ v1 oc af7 b7).mono ?_;rintro e w' ⟨φ2,m2,iQ,⟨rfl,rfl⟩,jx,cw,fh⟩;have AL:B=[]∨(plainO iQ=true∧plainL l2=true):=dF.imp (by simp) id;obtain⟨φ',dx,aN,qL⟩:=D8 (B:=B) hr.mem hn dV (fr:=List.range' (k0+1) (l2.length-ρ.length)) List.nodup_range' (AK D4) jx cw (by simp;omega) (AL.imp id fun hp=>vK hp.2);have b9:=hr.xk dx aN;cases iQ with
    |ret x=>
     cases e with
     |returned v=>exact alc _ rfl φ' w' v b9 aN (qL x v (AL.imp id fun hp=>hp.1) fh)
     |_=>exact fh.elim
    |panic t x=>
     cases e with
     |panicked chain=>
      obtain⟨v,rfl,hx⟩:=fh;have:=qL (.d x) v (AL.imp id fun hp=>hp.1) (.d _ _ hx);cases this with
      |d _ _ hd=>exact GG t x rfl φ' w' v b9 aN hd
     |_=>exact fh.elim
  ·cases h
 ·cases h
abbrev Is(e:XE)(S':St):XE→St→Prop:=fun e' Gt=>e'=e∧Gt=S'
def J6(P:Program)(S:St)(o:Oper)(e:XE)(S':St):Prop:=
 S'.n=S.n∧S'.gl=S.gl∧(e=.normal∨∃t x,e=.panic t x)∧∀φ G a w,Rel φ G S a w→∀(next:Act→World→Prop)(R:Exit→Act→World→Prop),
  (e=.normal→∀φ' a' w',Rel φ' G S' a' w'→aP φ S.mem w φ' S'.mem w'→next a' w')→
  (∀t x,e=.panic t x→∀φ' a' w' v,Rel φ' G S' a' w'→aP φ S.mem w φ' S'.mem w'→aK w' (Fo G φ' S'.mem) x v→R (.panic [{v:=.iface t v,recovered:=false}]) a' w')→o.wp P a w next R
theorem kZ(S:St)(d g x):(S.put d g x).gl=S.gl:=by cases d<;>rfl
section
variable {X:Ctx} {cl:bq} {S S':St} {o:Oper} {e:XE}
theorem yY{c:Bool}{x:AV}{gb:Bool}(hs:stepv X.P S o=.val c x)(cV:(opOk S o&&c)=true)(hd:∀t,o.dst=some t→t<S.n):J6 X.P S o .normal (S.put o.dst gb x):=by
 simp only[Bool.and_eq_true]at cV;have:=Gp X.P S o cV.1;rw[hs]at this;refine⟨lD ..,kZ ..,.inl rfl,fun φ G a w hr next R hn _=>?_⟩;exact Un this cV.2 hr hd (fun a' w' b9 aN=>hn rfl φ a' w' b9 (by rw[ff];exact aN))
theorem J7{c:Bool}{x:AV}{Ei:cI}(hs:stepv X.P S o=.cZ c x Ei)(cV:(opOk S o&&c)=true)(hd:∀t,o.dst=some t→t<S.n):J6 X.P S o .normal (({S with mem:=Mem.set S.mem Ei}:St).put o.dst true x):=by
 simp only[Bool.and_eq_true]at cV;have:=Gp X.P S o cV.1;rw[hs]at this;refine⟨lD ..,kZ ..,.inl rfl,fun φ G a w hr next R hn _=>?_⟩;exact Uo this cV.2 hr hd (fun φ' a' w' b9 aN=>hn rfl φ' a' w' b9 (by rw[ff];exact aN))
theorem lQ{args:List Operand}{fv:Bool×AV}{res:fK}(h:callVal X cl S o args fv=some res):∃g db,fv=(true,.fn g db)∧okAll S args=true∧callOp cl S.mem (keyOf o) (fnId g) (fnArgs g (argVals S args) db) (X.fp (fnId g)).vD=some res:=by
 unfold callVal at h;split at h
 ·rename_i g db;split at h
  ·rename_i cV;exact⟨g,db,rfl,cV,h⟩
  ·cases h
 ·cases h
theorem UC(aO:jb X cl){fv:Operand}{args:Array Operand}{hZ:Array TypeId}(ho:o.op=.call {callee:=.value fv,args,argTypes:=hZ})(cv:S.gl=X.gl)(hd:∀t,o.dst=some t→t<S.n)
 (h:dg S o.dst (callVal X cl S o args.toList (S.opd fv))=some (e,S')):J6 X.P S o e S':=by
 cases mQ:callVal X cl S o args.toList (S.opd fv)with
 |none=>rw[mQ]at h;cases h
 |some res=>
  rw[mQ]at h;obtain⟨g,db,fY,cV,ea⟩:=lQ mQ;obtain⟨out,es,ks⟩:=res;cases out with
  |ret x=>
   simp only[dg,Option.some.injEq,Prod.mk.injEq]at h;obtain⟨rfl,rfl⟩:=h;refine⟨lD ..,kZ ..,.inl rfl,fun φ G a w hr next R hn _=>?_⟩;refine sZ aO ho fY rfl cV ea cv hr (fun x' hx φ' w' v b9 aN hv=>?_) (fun t x' hx=>by cases hx);cases hx;exact hn rfl φ' _ w' (b9.put o.dst hd true x v (fun _=>hv)) (by rw[ff];exact aN)
  |panic t x=>
   simp only[dg,Option.some.injEq,Prod.mk.injEq]at h;obtain⟨rfl,rfl⟩:=h;refine⟨rfl,rfl,.inr ⟨t,x,rfl⟩,fun φ G a w hr next R _ hp=>?_⟩;refine sZ aO ho fY rfl cV ea cv hr (fun x' hx=>by cases hx) (fun t' x' hx φ' w' v b9 aN hv=>?_);cases hx;exact hp t x rfl φ' a w' v b9 aN hv
theorem Rg{x:Operand}(ho:o.op=.panic x)(h:AG S (S.opd x)=some (e,S')):J6 X.P S o e S':=by
 cases hx:S.opd x with
 |mk g y=>
  rw[hx]at h;unfold AG at h;split at h
  ·rename_i t d heq;cases heq;simp only[Option.some.injEq,Prod.mk.injEq]at h;obtain⟨rfl,rfl⟩:=h;refine⟨rfl,rfl,.inr ⟨t,d,rfl⟩,fun φ G a w hr next R _ hp=>?_⟩;have hv:=hr.opd x (by rw[hx]);rw[hx]at hv;generalize bZ:a.eval x=u at hv;cases hv with
   |gL _ _ v hd=>
    have bP:(execOp a.eval o).run X.P w=.halt (.panic (.iface t v)) w:=by
     simp[execOp,ho,bZ,Instr.panic]
    unfold Oper.wp;rw[bP];exact hp t d rfl φ a w v hr (aP.refl ..) hd
  ·cases h
theorem yb(aO:jb X cl)(cv:S.gl=X.gl)(hd:∀t,o.dst=some t→t<S.n)(h:gT X cl S o (stepv X.P S o)=some (e,S')):J6 X.P S o e S':=by
 generalize hs:stepv X.P S o=r at h;cases r with
 |val c x=>
  simp only[gT]at h;split at h
  ·rename_i cV;cases h;exact yY hs cV hd
  ·cases h
 |cZ c x Ei=>
  simp only[gT]at h;split at h
  ·rename_i cV;cases h;exact J7 hs cV hd
  ·cases h
 |no=>
  simp only[gT,qg]at h;split at h
  ·rename_i fv args hZ ho;exact UC aO ho cv hd h
  ·rename_i x ho;exact Rg ho h
  ·cases h
def yc(P:Program)(all:List Oper)(S:St)(o:Oper)(e:XE)(S':St):Prop:=
 S'.n=S.n∧S'.gl=S.gl∧(e=.normal∨∃t x,e=.panic t x)∧∀φ G a w,Rel φ G S a w→∀(next:Act→World→Prop)(R:Exit→Act→World→Prop),
  (e=.normal→∀φ' a' w',Rel φ' G S' a' w'→aP φ S.mem w φ' S'.mem w'→next a' w')→
  (∀t x,e=.panic t x→∀φ' a' w' v,Rel φ' G S' a' w'→aP φ S.mem w φ' S'.mem w'→aK w' (Fo G φ' S'.mem) x v→R (.panic [{v:=.iface t v,recovered:=false}]) a' w')→
  if Region.wanted o (yielded all.toArray a.tmps)then o.wp P a w next R else next (a.put o.dst undef) w
theorem yZ{all:List Oper}(h:J6 X.P S o e S')(hw:∀φ G a w,Rel φ G S a w→Region.wanted o (yielded all.toArray a.tmps)=true):yc X.P all S o e S':=by
 obtain⟨h1,h2,h3,h4⟩:=h;refine⟨h1,h2,h3,fun φ G a w hr next R hn hp=>?_⟩;rw[if_pos (hw φ G a w hr)];exact h4 φ G a w hr next R hn hp
theorem yd{φ:bQ}{w:World}{F:Nat→Prop}{x:AV}(hx:x=.bf∨x=.aW []):aB φ w F x undef:=by
 rcases hx with rfl|rfl
 ·exact .bf _
 ·exact .aW [] #[] rfl (fun i c v h=>by simp at h)
theorem B8{all:List Oper}{j:Nat}{φ G a w}(h:Rel φ G S a w)(hg:grd all S j=some (true,.aW [])):yielded all.toArray a.tmps j=none:=by
 unfold grd at hg;split at hg
 ·rename_i o ho;split at hg
  ·rename_i t ht;have h1:=h.env t _ hg;unfold yielded;simp only[List.getElem?_toArray,ho,Option.bind_some,ht];rw[Array.getD_eq_getD_getElem?]at h1;cases hq:a.tmps[t]? with
   |none=>rfl
   |some v=>
    rw[hq]at h1;simp only[Option.getD_some]at h1;cases h1;rfl
  ·cases hg
 ·cases hg
theorem GY{all:List Oper}{gb:Bool}{x:AV}(hx:gb=true→x=.bf∨x=.aW [])(hd:∀t,o.dst=some t→t<S.n)(hw:∀φ G a w,Rel φ G S a w→Region.wanted o (yielded all.toArray a.tmps)=false):yc X.P all S o .normal (S.put o.dst gb x):=by
 refine⟨lD ..,kZ ..,.inl rfl,fun φ G a w hr next R hn _=>?_⟩;rw[if_neg (by rw[hw φ G a w hr];simp)];exact hn rfl φ _ w (hr.put o.dst hd gb x undef (fun hg=>yd (hx hg))) (by rw[ff];exact aP.refl ..)
theorem Ej{all:List Oper}{j:Nat}{want t:Bool}(hg:o.guard=some (j,want))(gf:grd all S j=some (true,.d (.bool t))){φ G a w}(hr:Rel φ G S a w):Region.wanted o (yielded all.toArray a.tmps)=(t == want):=by
 have hy:=QV hr gf;simp only[Region.wanted,hg,hy];cases t<;>cases want<;>rfl
theorem AM(S:St)(d b):(S.cz d b).n=S.n:=lD ..
theorem y9(S:St)(d b):(S.cz d b).gl=S.gl:=kZ ..
theorem B9(S:St)(d b):(S.cz d b).mem=S.mem:=ff ..
theorem WL{all:List Oper}{S:St}{j:Nat}{t b:Bool}(gf:grd all S j=some (true,.d (.bool t)))(hb:t=b)(u:Nat):Env.lk (S.cz (dstAt all j) b).env u=Env.lk S.env u:=by
 subst hb;unfold grd at gf;unfold St.cz dstAt;split at gf
 ·rename_i oj hj;split at gf
  ·rename_i d hd;simp only[hj,hd,St.put,Env.lk];split
   ·rename_i hu;subst hu;exact gf.symm
   ·rfl
  ·cases gf
 ·cases gf
theorem abI{all:List Oper}{S:St}{j:Nat}{t b:Bool}(gf:grd all S j=some (true,.d (.bool t)))(hb:t=b){φ G a w}(hr:Rel φ G S a w):Rel φ G (S.cz (dstAt all j) b) a w:=
 Rel.eqv hr ⟨(AM ..).symm,(y9 ..).symm,(B9 ..).symm,fun u=>(WL gf hb u).symm⟩
theorem sc{all:List Oper}(aO:jb X cl)(cv:S.gl=X.gl)(hd:∀t,o.dst=some t→t<S.n){md:Bool}(h:mj X cl md all S o=some (e,S')):yc X.P all S o e S':=by
 unfold mj at h;split at h
 ·rename_i hg;exact yZ (yb aO cv hd h) (fun _ _ _ _ _=>by simp[Region.wanted,hg])
 ·rename_i j want hg;split at h
  ·rename_i t gf;replace gf:=GH gf;have hw:∀φ G a w,Rel φ G S a w→Region.wanted o (yielded all.toArray a.tmps)=(t == want):=fun φ G a w hr=>Ej hg gf hr;have other:∀{r:dk},stepv X.P S o=r→(if (t == want)=true then gT X cl S o r else some (.normal,S.put o.dst true .bf))=some (e,S')→yc X.P all S o e S':=by
    intro r hs h;split at h
    ·rename_i hb;exact yZ (yb aO cv hd (by rw[hs];exact h)) (fun φ G a w hr=>by rw[hw φ G a w hr];exact hb)
    ·rename_i hb;cases h;exact GY (fun _=>.inl rfl) hd (fun φ G a w hr=>by rw[hw φ G a w hr];simpa using hb)
   cases md with
   |true=>
    simp only at h;have hcz:∀b,t=b→∀φ G a w,Rel φ G S a w→Rel φ G (S.cz (dstAt all j) b) a w:=fun b hb φ G a w hr=>abI gf hb hr;split at h
    ·rename_i hb;have p4:t=want:=by simpa using hb
     have:=yb (S:=S.cz (dstAt all j) want) aO (by rw[y9];exact cv) (fun t ht=>by rw[AM];exact hd t ht) h;obtain⟨h1,h2,h3,h4⟩:=this;refine yZ ⟨by rw[h1,AM],by rw[h2,y9],h3,fun φ G a w hr next R hn hp=>?_⟩ (fun φ G a w hr=>by rw[hw φ G a w hr];exact hb);have h5:=h4 φ G a w (hcz want p4 φ G a w hr) next R
     rw[B9]at h5;exact h5 hn hp
    ·rename_i hb;have p4:t=!want:=by cases t<;>cases want<;>simp_all
     cases h;refine⟨by rw[lD,AM],by rw[kZ,y9],.inl rfl,fun φ G a w hr next R hn _=>?_⟩;rw[if_neg (by rw[hw φ G a w hr];simpa using hb)];exact hn rfl φ _ w ((hcz _ p4 φ G a w hr).put o.dst (fun t ht=>by rw[AM];exact hd t ht) true (.aW []) undef (fun _=>yd (.inr rfl))) (by rw[ff,B9];exact aP.refl ..)
   |false=>
   simp only at h;unfold nI at h;split at h
   ·rename_i c x hs;split at h
    ·rename_i hc;cases h;cases hb:(t == want)
     ·exact GY (by simp) hd (fun φ G a w hr=>by rw[hw φ G a w hr];exact hb)
     ·exact yZ (yY hs (hc hb) hd) (fun φ G a w hr=>by rw[hw φ G a w hr];exact hb)
    ·cases h
   ·rename_i r hr;exact other rfl h
  ·rename_i gf;replace gf:=Eh gf;cases h;exact GY (fun _=>.inr rfl) hd (fun φ G a w hr=>by
    simp only[Region.wanted,hg,B8 hr gf];cases want<;>rfl)
  ·cases h
theorem gF{r:Option (XE×St)}{k:St→Option (XE×St)}{y:XE×St}(h:andThen r k=some y):(∃S1,r=some (.normal,S1)∧k S1=some y)∨(r=some y∧y.1≠.normal):=by
 unfold andThen at h;split at h
 ·rename_i S1;exact .inl ⟨S1,rfl,h⟩
 ·rename_i hr;refine .inr ⟨h,fun he=>?_⟩;obtain⟨e,S1⟩:=y;simp only at he;subst he;exact hr S1 h
theorem aP.post{n:Nat}{φ φ':bQ}{G:Fr}{m:Mem}{w w':World}{e:XE}{S':St}{a':Act}(hn:S'.n=n)(hr:Rel φ' G S' a' w')(hk:aP φ m w φ' S'.mem w')(he:e=.normal):mG n φ G m w (Is e S') .normal a' w':=
 ⟨φ',S',hn,⟨he.symm,rfl⟩,hr,hk⟩
theorem ye{md:Bool}{all:List Oper}(aO:jb X cl):∀(ops:List Oper)(S:St)(e:XE)(S':St),fo X cl md all ops S=some (e,S')→S.gl=X.gl→jv S.n ops=true→
 S'.n=S.n∧S'.gl=S.gl∧∀φ G a w,Rel φ G S a w→∀Q:Exit→Act→World→Prop,(∀e' a' w',mG S.n φ G S.mem w (Is e S') e' a' w'→Q e' a' w')→wpList X.P all.toArray Q ops a w
 |[],S,e,S',h,cv,hd=>by
  simp only[fo,Option.some.injEq,Prod.mk.injEq]at h;obtain⟨rfl,rfl⟩:=h;exact⟨rfl,rfl,fun φ G a w hr Q hQ=>hQ _ _ _ (aP.post rfl hr (aP.refl ..) rfl)⟩
 |o::rest,S,e,S',h,cv,hd=>by
  simp only[jv,List.all_cons,Bool.and_eq_true]at hd;obtain⟨qi,hd⟩:=hd;have qO:∀t,o.dst=some t→t<S.n:=fun t ht=>by rw[ht]at qi;simpa using qi
  simp only[fo]at h;rcases gF h with ⟨S1,h1,h2⟩|⟨h1,h2⟩
  ·obtain⟨dP,eU,_,cU⟩:=sc aO cv qO h1;obtain⟨qK,mB,Ca⟩:=ye aO rest S1 e S' h2 (eU.trans cv) (by rw[dP];exact hd);refine⟨qK.trans dP,mB.trans eU,fun φ G a w hr Q hQ=>?_⟩;have:=cU φ G a w hr (wpList X.P all.toArray Q rest) Q
    (fun _ φ' a' w' b9 aN=>Ca φ' G a' w' b9 Q (fun e' a2 w2 hp=>hQ e' a2 w2 (by rw[←dP];exact hp.weaken aN))) (fun t x he=>by cases he)
   unfold wpList;split
   ·rename_i hw;rw[if_pos hw]at this;exact .inl this
   ·rename_i hw;rw[if_neg hw]at this;exact this
  ·obtain⟨dP,eU,hee,cU⟩:=sc aO cv qO h1;refine⟨dP,eU,fun φ G a w hr Q hQ=>?_⟩;have:=cU φ G a w hr (wpList X.P all.toArray Q rest) Q
    (fun he=>absurd he h2) (fun t x he φ' a' w' v b9 aN hv=>hQ _ _ _ ⟨φ',S',t,x,v,rfl,hv,dP,⟨he.symm,rfl⟩,b9,aN⟩)
   unfold wpList;split
   ·rename_i hw;rw[if_pos hw]at this;exact .inl this
   ·rename_i hw;rw[if_neg hw]at this;exact this
theorem qj{all:List Oper}{ks:List Nat}{S' S:St}(h:j0 all o ks S' S){x:Operand}(hx:x∈o.op.operands.toList):S'.opd x=S.opd x:=by
 cases x with
 |tmp t=>
  simp only[St.opd];rw[h.env t (by simp only[looks,List.mem_append,List.mem_filterMap];exact .inl ⟨.tmp t,hx,rfl⟩)]
 |global g=>simp only[St.opd,h.gl]
 |_=>rfl
theorem Ek{all:List Oper}{ks:List Nat}{S' S:St}(h:j0 all o ks S' S){j want}(hg:o.guard=some (j,want)):Am.grd all S' j=Am.grd all S j:=by
 unfold Am.grd;split
 ·rename_i oj hj;split
  ·rename_i t ht;exact h.env t (by simp only[looks,List.mem_append,hg,WI,hj,ht];exact .inr (by simp))
  ·rfl
 ·rfl
theorem s5{S' S:St}:∀{l:List Operand},(∀x∈l,S'.opd x=S.opd x)→okAll S' l=okAll S l
 |[],_=>rfl
 |x::r,h=>by simp only[okAll,h x (by simp),s5 (l:=r) (fun y hy=>h y (List.mem_cons_of_mem _ hy))]
theorem tZ{S' S:St}:∀{l:List Operand},(∀x∈l,S'.opd x=S.opd x)→argVals S' l=argVals S l
 |[],_=>rfl
 |x::r,h=>by simp only[argVals,h x (by simp),tZ (l:=r) (fun y hy=>h y (List.mem_cons_of_mem _ hy))]
theorem GZ{S' S:St}(h:∀x∈o.op.operands.toList,S'.opd x=S.opd x):opOk S' o=opOk S o:=by
 unfold opOk;split
 ·rfl
 ·exact s5 h
theorem El{all:List Oper}{c:Bool}{x:AV}{gb:Bool}(hd:∀t,o.dst=some t→t<S.n)(hs:stepv X.P S o=.val c x)(cV:(opOk S o&&c)=true)
 (hw:∀S',j0 all o (touch S o) S' S→∀φ G a w,Rel φ G S' a w→Region.wanted o (yielded all.toArray a.tmps)=true):j6 X.P all S o ⟨touch S o,[],gb,x⟩:=by
 intro S' ha φ G a w hr next R hn
 rw[if_pos (hw S' ha φ G a w hr)];have hx:∀x∈o.op.operands.toList,S'.opd x=S.opd x:=fun x hx=>qj ha hx;have pU:stepv X.P S' o=.val c x:=by rw[Ec hx ha.mem];exact hs
 obtain⟨_,_,_,h4⟩:=yY (gb:=gb) pU (by rw[GZ hx];exact cV) (fun t ht=>by rw[ha.n];exact hd t ht);exact h4 φ G a w hr next R (fun _ φ' a' w' b9 aN=>hn φ' a' w' b9 aN) (fun t x he=>by cases he)
theorem Rh{all:List Oper}{c:Bool}{x:AV}{Ei:cI}(hd:∀t,o.dst=some t→t<S.n)(hs:stepv X.P S o=.cZ c x Ei)(cV:(opOk S o&&c)=true)
 (hw:∀S',j0 all o (touch S o) S' S→∀φ G a w,Rel φ G S' a w→Region.wanted o (yielded all.toArray a.tmps)=true):j6 X.P all S o ⟨touch S o,[Ei],true,x⟩:=by
 intro S' ha φ G a w hr next R hn
 rw[if_pos (hw S' ha φ G a w hr)];have hx:∀x∈o.op.operands.toList,S'.opd x=S.opd x:=fun x hx=>qj ha hx;have pU:stepv X.P S' o=.cZ c x Ei:=by rw[Ec hx ha.mem];exact hs
 obtain⟨_,_,_,h4⟩:=J7 pU (by rw[GZ hx];exact cV) (fun t ht=>by rw[ha.n];exact hd t ht);exact h4 φ G a w hr next R (fun _ φ' a' w' b9 aN=>hn φ' a' w' b9 aN) (fun t x he=>by cases he)
theorem rb{all:List Oper}{ks:List Nat}{gb:Bool}{x:AV}(hd:∀t,o.dst=some t→t<S.n)(hx:gb=true→x=.bf∨x=.aW [])
 (hw:∀S',j0 all o ks S' S→∀φ G a w,Rel φ G S' a w→Region.wanted o (yielded all.toArray a.tmps)=false):j6 X.P all S o ⟨ks,[],gb,x⟩:=by
 intro S' ha φ G a w hr next R hn
 rw[if_neg (by rw[hw S' ha φ G a w hr];simp)];exact hn φ _ w (hr.put o.dst (fun t ht=>by rw[ha.n];exact hd t ht) gb x undef (fun hg=>yd (hx hg))) (by simp only[aU.app,ff];exact aP.refl ..)
theorem Ov{all:List Oper}(aO:jb X cl)(cv:S.gl=X.gl)(hd:∀t,o.dst=some t→t<S.n){fv:Operand}{args:Array Operand}{hZ:Array TypeId}(ho:o.op=.call {callee:=.value fv,args,argTypes:=hZ})
 {x:AV} {es:List cI} {ks:List Nat} (h:callVal X cl S o args.toList (S.opd fv)=some ⟨.ret x,es,ks⟩)
 (hw:∀S',j0 all o ks S' S→∀φ G a w,Rel φ G S' a w→Region.wanted o (yielded all.toArray a.tmps)=true):j6 X.P all S o ⟨ks,es,true,x⟩:=by
 intro S' ha φ G a w hr next R hn
 rw[if_pos (hw S' ha φ G a w hr)];have hx:∀x∈o.op.operands.toList,S'.opd x=S.opd x:=fun x hx=>qj ha hx;have Ri:∀x∈args.toList,S'.opd x=S.opd x:=fun x gr=>hx x (by simp[ho,Op.operands,Call.operands];exact .inr (by simpa using gr));obtain⟨g,db,fY,cV,ea⟩:=lQ h;have AN:S'.opd fv=(true,.fn g db):=by rw[hx fv (by simp[ho,Op.operands,Call.operands])];exact fY
 have G2:callOp cl S'.mem (keyOf o) (fnId g) (fnArgs g (argVals S' args.toList) db) (X.fp (fnId g)).vD=some ⟨.ret x,es,ks⟩:=by
  rw[tZ Ri];exact B7 ha.keys ea (fun k hk=>ha.mem k hk)
 refine sZ aO ho AN rfl (by rw[s5 Ri];exact cV) G2 (ha.gl.trans cv) hr (fun x' nB φ' w' v b9 aN hv=>?_) (fun t x' nB=>by cases nB);cases nB;exact hn φ' _ w' (b9.put o.dst (fun t ht=>by show t<S'.n;rw[ha.n];exact hd t ht) true x v (fun _=>hv)) (by simp only[aU.app,ff];exact aN)
theorem G3{all:List Oper}{S1:St}{p:aU}(aO:jb X cl)(cv:S.gl=X.gl)(hd:∀t,o.dst=some t→t<S.n){r:dk}(hs:stepv X.P S o=r)(h:dstep X cl S o r=some (S1,p))
 (hw:∀(ks:List Nat) S',j0 all o ks S' S→∀φ G a w,Rel φ G S' a w→Region.wanted o (yielded all.toArray a.tmps)=true):S1=p.app o S∧(∀e∈p.es,e.key∈p.ks)∧j6 X.P all S o p:=by
 cases r with
 |val c x=>
  simp only[dstep]at h;split at h
  ·rename_i cV;cases h;exact⟨rfl,by simp,El hd hs cV (hw _)⟩
  ·cases h
 |cZ c x Ei=>
  simp only[dstep]at h;split at h
  ·rename_i cV;cases h;simp only[Bool.and_eq_true,List.contains_eq_mem,decide_eq_true_eq]at cV;exact⟨rfl,by simpa using cV.2,Rh hd hs (by simpa using cV.1) (hw _)⟩
  ·cases h
 |no=>
  simp only[dstep,kR]at h;split at h
  ·rename_i fv args hZ ho;cases mQ:callVal X cl S o args.toList (S.opd fv)with
   |none=>rw[mQ]at h;cases h
   |some res=>
    rw[mQ]at h;obtain⟨out,es,ks⟩:=res;cases out with
    |panic=>cases h
    |ret x=>
     cases h;refine⟨rfl,?_,Ov aO cv hd ho mQ (hw _)⟩;obtain⟨g,db,fY,cV,ea⟩:=lQ mQ;unfold callOp callOp2 callOp3 callBack at ea;split at ea
     ·rename_i out l2 _;split at ea
      ·rename_i hc;simp only[Bool.and_eq_true,decide_eq_true_eq]at hc;simp only[Option.some.injEq,fK.mk.injEq]at ea;obtain⟨_,rfl,rfl⟩:=ea;intro e he;obtain⟨j,v,c,hj,rfl⟩:=p9.1 he;have gS:=(List.getElem?_eq_some_iff.1 hj).1;simp only[Nat.zero_add];generalize collect S.mem 64 (argKeys (X.fp (fnId g)).vD 0 (fnArgs g (argVals S args.toList) db)) []=ρ at hc gS⊢;have bz:j<(ρ++List.range' (keyOf o+1) (l2.length-ρ.length)).length:=by simp;omega
       have hm:=List.getElem_mem bz;have e2:(ρ++List.range' (keyOf o+1) (l2.length-ρ.length)).getD j 0=(ρ++List.range' (keyOf o+1) (l2.length-ρ.length))[j]:=by
        rw[List.getD_eq_getElem?_getD,List.getElem?_eq_getElem bz];rfl
       rw[e2];rcases List.mem_append.1 hm with h1|h1
       ·exact List.mem_append_left _ (List.mem_append_left _ h1)
       ·exact List.mem_append_right _ h1
      ·cases ea
     ·cases ea
  ·cases h
theorem gD.refl(S:St):gD S S:=⟨rfl,rfl,rfl,fun _=>rfl⟩
theorem gD.symm{S S':St}(h:gD S S'):gD S' S:=⟨h.n.symm,h.gl.symm,h.mem.symm,fun t=>(h.env t).symm⟩
theorem gD.trans{S S' Gt:St}(h:gD S S')(k:gD S' Gt):gD S Gt:=⟨h.n.trans k.n,h.gl.trans k.gl,h.mem.trans k.mem,fun t=>(h.env t).trans (k.env t)⟩
theorem gD.app{S S':St}(h:gD S S')(p:aU)(o:Oper):gD (p.app o S) (p.app o S'):=
 ⟨by rw[sU,sU,h.n],by rw[qc,qc,h.gl],by simp only[aU.app,ff,h.mem],fun t=>by rw[rY,rY,h.env]⟩
theorem j0.eqv{all:List Oper}{ks:List Nat}{S' S S0:St}(h:j0 all o ks S' S)(he:gD S S0):j0 all o ks S' S0:=
 ⟨h.n.trans he.n,h.gl.trans he.gl,by rw[h.keys,he.mem],fun t ht=>(h.env t ht).trans (he.env t),fun k hk=>by rw[h.mem k hk,he.mem]⟩
theorem j6.eqv{P:Program}{all:List Oper}{S S0:St}{p:aU}(h:j6 P all S o p)(he:gD S S0):j6 P all S0 o p:=fun S' ha=>h S' (ha.eqv he.symm)
theorem q0.eqv{P:Program}{I:Mem→Prop}{all:List Oper}{S S0:St}{p:aU}(h:q0 P I all S o p)(he:gD S S0):q0 P I all S0 o p:=fun S' ha=>h S' (ha.eqv he.symm)
theorem AO{P:Program}{I:Mem→Prop}{all ops:List Oper}{S S1:St}{ps:List aU}(h:Cert P I all ops S ps S1):∀{S0:St},gD S S0→∃S2,Cert P I all ops S0 ps S2∧gD S1 S2:=by
 induction h with
 |nil S=>exact fun he=>⟨_,.nil _,he⟩
 |cons o rest S p ps S1 hk hI h hr ih=>
  intro S0 he;obtain⟨S2,h2,h3⟩:=ih (he.app p o);exact⟨S2,.cons o rest S0 p ps S2 hk hI (h.eqv he) h2,h3⟩
theorem Rj{all:List Oper}{S:St}{j:Nat}{t b:Bool}(gf:grd all S j=some (true,.d (.bool t)))(hb:t=b):gD (S.cz (dstAt all j) b) S:=
 ⟨AM ..,y9 ..,B9 ..,fun u=>WL gf hb u⟩
theorem yf{md:Bool}{all:List Oper}{S1:St}{p:aU}(aO:jb X cl)(cv:S.gl=X.gl)(hd:∀t,o.dst=some t→t<S.n)(h:dZ X cl md all S o=some (S1,p)):gD S1 (p.app o S)∧(∀e∈p.es,e.key∈p.ks)∧j6 X.P all S o p:=by
 have yes:∀{r:dk},stepv X.P S o=r→dstep X cl S o r=some (S1,p)→(∀(ks:List Nat) S',j0 all o ks S' S→∀φ G a w,Rel φ G S' a w→Region.wanted o (yielded all.toArray a.tmps)=true)→gD S1 (p.app o S)∧(∀e∈p.es,e.key∈p.ks)∧j6 X.P all S o p:=by
  intro r hs h hw;obtain⟨h1,h2,h3⟩:=G3 aO cv hd hs h hw;exact⟨by rw[h1];exact gD.refl _,h2,h3⟩
 unfold dZ at h;split at h
 ·rename_i hg;exact yes rfl h (fun _ _ _ _ _ _ _ _=>by simp[Region.wanted,hg])
 ·rename_i j want hg;split at h
  ·rename_i t gf;replace gf:=GH gf;have hw:∀(ks:List Nat) S',j0 all o ks S' S→∀φ G a w,Rel φ G S' a w→Region.wanted o (yielded all.toArray a.tmps)=(t == want):=
    fun ks S' ha φ G a w hr=>Ej hg (by rw[Ek ha hg];exact gf) hr
   have other:∀{r:dk},stepv X.P S o=r→(if (t == want)=true then dstep X cl S o r else some (S.put o.dst true .bf,⟨[],[],true,.bf⟩))=some (S1,p)→gD S1 (p.app o S)∧(∀e∈p.es,e.key∈p.ks)∧j6 X.P all S o p:=by
    intro r hs h;split at h
    ·rename_i hb;exact yes hs h (fun ks S' ha φ G a w hr=>by rw[hw ks S' ha φ G a w hr];exact hb)
    ·rename_i hb;cases h;exact⟨gD.refl _,by simp,rb hd (fun _=>.inl rfl) (fun S' ha φ G a w hr=>by rw[hw _ S' ha φ G a w hr];simpa using hb)⟩
   cases md with
   |true=>
    simp only at h;split at h
    ·rename_i hb;have p4:t=want:=by simpa using hb
     have he:=Rj gf p4;obtain⟨h1,h2,h3⟩:=G3 (S:=S.cz (dstAt all j) want) aO (by rw[y9];exact cv) (fun t ht=>by rw[AM];exact hd t ht) rfl h
      (fun ks S' ha φ G a w hr=>by rw[hw ks S' (ha.eqv he) φ G a w hr];exact hb)
     exact⟨by rw[h1];exact he.app p o,h2,h3.eqv he⟩
    ·rename_i hb;have p4:t=!want:=by cases t<;>cases want<;>simp_all
     cases h;have he:=Rj gf p4;exact⟨he.app ⟨[],[],true,.aW []⟩ o,by simp,rb hd (fun _=>.inr rfl) (fun S' ha φ G a w hr=>by rw[hw _ S' ha φ G a w hr];simpa using hb)⟩
   |false=>
   simp only at h;unfold qh at h;split at h
   ·rename_i c x hs;split at h
    ·rename_i hc;cases h;refine⟨gD.refl _,by simp,?_⟩;cases hb:(t == want)
     ·exact rb hd (by simp) (fun S' ha φ G a w hr=>by rw[hw _ S' ha φ G a w hr];exact hb)
     ·exact El hd hs (hc hb) (fun S' ha φ G a w hr=>by rw[hw _ S' ha φ G a w hr];exact hb)
    ·cases h
   ·exact other rfl h
  ·rename_i gf;replace gf:=Eh gf;cases h;exact⟨gD.refl _,by simp,rb hd (fun _=>.inr rfl) (fun S' ha φ G a w hr=>by
    have:=B8 hr (by rw[Ek ha hg];exact gf);simp only[Region.wanted,hg,this];cases want<;>rfl)⟩
  ·cases h
inductive jB(T:Nat→St→Oper→aU→Prop):Nat→List Oper→St→List aU→Prop
 |nil (i S):jB T i [] S []
 |cons (i o rest S p ps) (h:T i S o p) (hr:jB T (i+1) rest (p.app o S) ps):jB T i (o::rest) S (p::ps)
theorem jB.eqv{T:Nat→St→Oper→aU→Prop}(hT:∀i S S0 o p,gD S S0→T i S o p→T i S0 o p){i:Nat}{ops:List Oper}{S:St}{ps:List aU}(h:jB T i ops S ps):∀{S0:St},gD S S0→jB T i ops S0 ps:=by
 induction h with
 |nil i S=>exact fun _=>.nil _ _
 |cons i o rest S p ps h hr ih=>exact fun he=>.cons _ _ _ _ _ _ (hT _ _ _ _ _ he h) (ih (he.app p o))
theorem jB.mono{T T':Nat→St→Oper→aU→Prop}{i:Nat}{ops:List Oper}{S:St}{ps:List aU}(h:jB T i ops S ps):(∀k S o p,i≤k→T k S o p→T' k S o p)→jB T' i ops S ps:=by
 induction h with
 |nil i S=>exact fun _=>.nil _ _
 |cons i o rest S p ps h hr ih=>exact fun hk=>.cons _ _ _ _ _ _ (hk _ _ _ _ (Nat.le_refl _) h) (ih fun k S o p hi=>hk k S o p (by omega))
theorem jB.len{T:Nat→St→Oper→aU→Prop}{i:Nat}{ops:List Oper}{S:St}{ps:List aU}(h:jB T i ops S ps):ps.length=ops.length:=by
 induction h with
 |nil i S=>rfl
 |cons i o rest S p ps h hr ih=>simp[ih]
theorem jB.at{T:Nat→St→Oper→aU→Prop}{all:List Oper}{ps:List aU}{i:Nat}{rest:List Oper}{S0 S:St}{qs:List aU}(h:jB T i rest S qs):∀(pre:List Oper)(pp:List aU),pre.length=i→pre.length=pp.length→all=pre++rest→ps=pp++qs→aG all ps S0 (List.range pre.length)=S→
 ∀j o p,pre.length≤j→all[j]?=some o→ps[j]?=some p→T j (aG all ps S0 (List.range j)) o p:=by
 induction h with
 |nil i S=>
  intro pre pp hi hl ha jW hS j o p hj ho;simp only[List.append_nil]at ha;subst ha;rw[List.getElem?_eq_none (by omega)]at ho;cases ho
 |cons i o rest S p qs hT hr ih=>
  intro pre pp hi hl ha jW hS j o' p' hj cq lE;have e1:all[pre.length]?=some o:=by rw[ha];simp
  have e2:ps[pre.length]?=some p:=by rw[jW,hl];simp
  rcases Nat.eq_or_lt_of_le hj with rfl|hj
  ·rw[e1]at cq;rw[e2]at lE;cases cq;cases lE;rw[hS,hi];exact hT
  ·exact ih (pre++[o]) (pp++[p]) (by simp[hi]) (by simp[hl]) (by rw[ha];simp) (by rw[jW];simp) (by
    rw[List.length_append,List.length_singleton,List.range_succ,m9,hS];simp[aG,e1,e2]) j o' p' (by simp;omega) cq lE
theorem yX.eqv{P:Program}{all:List Oper}{S S0:St}{p:aU}{t:TypeId}{x:D}(h:yX P all S o p t x)(he:gD S S0):yX P all S0 o p t x:=fun S' ha=>h S' (ha.eqv he.symm)
def TT(P:Program)(all:List Oper)(j:Nat)(js:List Nat)(t:TypeId)(x:D)(N:Nat)(S1:St)(i:Nat)(S:St)(o:Oper)(p:aU):Prop:=
 (∀e∈p.es,e.key∈p.ks)∧(i≠j→(i<j∨js.contains i=true)→j6 P all S o p)∧(i=j→yX P all S o p t x∧S1.n=S.n∧S1.gl=S.gl∧S1.mem=killM N (putAll S.mem p.es))
theorem TT.eqv{P:Program}{all:List Oper}{j:Nat}{js:List Nat}{t:TypeId}{x:D}{N:Nat}{S1:St}(i:Nat)(S S0:St)(o:Oper)(p:aU)(he:gD S S0)(h:TT P all j js t x N S1 i S o p):TT P all j js t x N S1 i S0 o p:=
 ⟨h.1,fun a b=>(h.2.1 a b).eqv he,fun a=>⟨(h.2.2 a).1.eqv he,(h.2.2 a).2.1.trans he.n,(h.2.2 a).2.2.1.trans he.gl,by rw[←he.mem];exact (h.2.2 a).2.2.2⟩⟩
theorem abJ{X:Ctx}:jb X (fun _ _ _=>none):=fun g args cs out l h=>by cases h
theorem yg{md:Bool}{all:List Oper}{js:List Nat}:∀(ops:List Oper)(i:Nat)(S:St)(acc qs:List aU),qz X md all js i ops S acc=some qs→S.gl=X.gl→jv S.n ops=true→
 ∃ps,qs=acc.reverse++ps∧jB (fun i S o p=>(∀e∈p.es,e.key∈p.ks)∧(js.contains i=true→j6 X.P all S o p)) i ops S ps
 |[],i,S,acc,qs,h,cv,hd=>by
  simp only[qz,Option.some.injEq]at h;exact⟨[],by simp[h],.nil _ _⟩
 |o::rest,i,S,acc,qs,h,cv,hd=>by
  simp only[jv,List.all_cons,Bool.and_eq_true]at hd;obtain⟨qi,hd⟩:=hd;have qO:∀t,o.dst=some t→t<S.n:=fun t ht=>by rw[ht]at qi;simpa using qi
  simp only[qz]at h;cases hj:js.contains i with
  |true=>
   rw[hj]at h;simp only at h;cases hg:dZ X (fun _ _ _=>none) md all S o with
   |none=>rw[hg]at h;cases h
   |some q=>
    obtain⟨S2,p⟩:=q;rw[hg]at h;simp only at h;obtain⟨heq,hU,de⟩:=yf abJ cv qO hg;obtain⟨ps,h1,h2⟩:=yg rest (i+1) S2 (p::acc) qs h (by rw[heq.gl,qc];exact cv) (by rw[heq.n,sU];exact hd);exact⟨p::ps,by rw[h1];simp,.cons _ _ _ _ _ _ ⟨hU,fun _=>de⟩ (h2.eqv (fun _ _ _ _ _ he h=>⟨h.1,fun a=>(h.2 a).eqv he⟩) heq)⟩
  |false=>
   rw[hj]at h;simp only at h;obtain⟨ps,h1,h2⟩:=yg rest (i+1) (S.put o.dst false .bf) _ qs h (by rw[kZ];exact cv) (by rw[lD];exact hd);exact⟨⟨[],[],false,.bf⟩::ps,by rw[h1];simp,.cons _ _ _ _ _ _ ⟨by simp,fun hh=>by rw[hj]at hh;cases hh⟩ h2⟩
theorem Em{q:GI}(h:kq X cl S o=some q):o.guard=none∧stepv X.P S o=.no∧∃fv args hZ,o.op=.call {callee:=.value fv,args,argTypes:=hZ}∧callVal X cl S o args.toList (S.opd fv)=some ⟨.panic q.t q.x,q.es,q.ks⟩∧q.S={S with mem:=putAll S.mem q.es}:=by
 unfold kq at h;split at h
 ·rename_i hg;unfold AH at h;split at h
  ·rename_i hs;refine⟨hg,hs,?_⟩;unfold GJ at h;split at h
   ·rename_i fv args hZ ho;unfold tR at h;split at h
    ·rename_i t x es ks hc;cases h;exact⟨fv,args,hZ,ho,hc,rfl⟩
    ·cases h
   ·cases h
  ·cases h
 ·cases h
theorem G4{args:List Operand}{fv:Bool×AV}{out:Out}{es:List cI}{ks:List Nat}(mQ:callVal X cl S o args fv=some ⟨out,es,ks⟩):∀e∈es,e.key∈ks:=by
 obtain⟨g,db,fY,cV,ea⟩:=lQ mQ;unfold callOp callOp2 callOp3 callBack at ea;split at ea
 ·rename_i out l2 _;split at ea
  ·rename_i hc;simp only[Bool.and_eq_true,decide_eq_true_eq]at hc;simp only[Option.some.injEq,fK.mk.injEq]at ea;obtain⟨_,rfl,rfl⟩:=ea;intro e he;obtain⟨j,v,c,hj,rfl⟩:=p9.1 he;have gS:=(List.getElem?_eq_some_iff.1 hj).1;simp only[Nat.zero_add];generalize collect S.mem 64 (argKeys (X.fp (fnId g)).vD 0 (fnArgs g (argVals S args) db)) []=ρ at hc gS⊢;have bz:j<(ρ++List.range' (keyOf o+1) (l2.length-ρ.length)).length:=by simp;omega
   have hm:=List.getElem_mem bz;have e2:(ρ++List.range' (keyOf o+1) (l2.length-ρ.length)).getD j 0=(ρ++List.range' (keyOf o+1) (l2.length-ρ.length))[j]:=by
    rw[List.getD_eq_getElem?_getD,List.getElem?_eq_getElem bz];rfl
   rw[e2];rcases List.mem_append.1 hm with h1|h1
   ·exact List.mem_append_left _ (List.mem_append_left _ h1)
   ·exact List.mem_append_right _ h1
  ·cases ea
 ·cases ea
theorem Ow{all:List Oper}(aO:jb X cl)(cv:S.gl=X.gl){fv:Operand}{args:Array Operand}{hZ:Array TypeId}(hg:o.guard=none)(ho:o.op=.call {callee:=.value fv,args,argTypes:=hZ})
 {t:TypeId} {x:D} {es:List cI} {ks:List Nat} (h:callVal X cl S o args.toList (S.opd fv)=some ⟨.panic t x,es,ks⟩):yX X.P all S o ⟨ks,es,true,.bf⟩ t x:=by
 intro S' ha φ G a w hr next R hn
 rw[if_pos (by simp[Region.wanted,hg])];have hx:∀x∈o.op.operands.toList,S'.opd x=S.opd x:=fun x hx=>qj ha hx;have Ri:∀x∈args.toList,S'.opd x=S.opd x:=fun x gr=>hx x (by simp[ho,Op.operands,Call.operands];exact .inr (by simpa using gr));obtain⟨g,db,fY,cV,ea⟩:=lQ h;have AN:S'.opd fv=(true,.fn g db):=by rw[hx fv (by simp[ho,Op.operands,Call.operands])];exact fY
 have G2:callOp cl S'.mem (keyOf o) (fnId g) (fnArgs g (argVals S' args.toList) db) (X.fp (fnId g)).vD=some ⟨.panic t x,es,ks⟩:=by
  rw[tZ Ri];exact B7 ha.keys ea (fun k hk=>ha.mem k hk)
 refine sZ aO ho AN rfl (by rw[s5 Ri];exact cV) G2 (ha.gl.trans cv) hr (fun x' nB=>by cases nB) (fun t' x' nB φ' w' v b9 aN hv=>?_);cases nB;exact hn φ' a w' v b9 aN hv
theorem Ac{md:Bool}{nd:Nat×List (List Nat)}{all:List Oper}(aO:jb X cl):∀(ops:List Oper)(S:St)(acc:List aU)(e:XE)(S1:St),iq X cl md nd all ops S acc=some (e,S1)→S.gl=X.gl→jv S.n ops=true→
 (e=.normal∧∃ps S2,Cert X.P (fun _=>True) all ops S ps S2∧gD S1 S2∧ordD nd.2 (acc.reverse++ps)=true)∨
 (∃t x j ps,e=.panic t x∧acc.length≤j∧j<acc.length+ops.length∧jB (TT X.P all j (nd.2.getD j []) t x (nd.1+verSums (acc.reverse++ps)+1) S1) acc.length ops S ps∧ordD nd.2 (acc.reverse++ps)=true∧farJ (acc.reverse++ps) (nd.2.getD j [])=true∧S1.env=[])
 |[],S,acc,e,S1,h,cv,hd=>by
  simp only[iq]at h;split at h
  ·rename_i cH;cases h;exact .inl ⟨rfl,[],S,.nil S,gD.refl _,by simpa using cH⟩
  ·cases h
 |o::rest,S,acc,e,S1,h,cv,hd=>by
  have zQ:=hd;simp only[jv,List.all_cons,Bool.and_eq_true]at hd;obtain⟨qi,hd⟩:=hd;have qO:∀t,o.dst=some t→t<S.n:=fun t ht=>by rw[ht]at qi;simpa using qi
  simp only[iq]at h;cases hp:kq X cl S o with
  |some q=>
   right;rw[hp]at h;simp only[mH,panE]at h;obtain⟨hg,hs,fv,args,hZ,ho,hc,hqS⟩:=Em hp;obtain⟨qS,t,x,es,ks⟩:=q;simp only at hc hqS h;subst hqS;cases hpo:qz X md all (nd.2.getD acc.length []) (acc.length+1) rest (({S with mem:=putAll S.mem es}:St).put o.dst true .bf) (⟨ks,es,true,.bf⟩::acc)with
   |none=>rw[hpo]at h;cases h
   |some qs=>
    rw[hpo]at h;simp only[pEnd]at h;split at h
    ·rename_i J8;simp only[Bool.and_eq_true]at J8;obtain⟨rfl,rfl⟩:XE.panic t x=e∧St.kill {S with mem:=putAll S.mem es} (nd.1+verSums qs+1)=S1:=by simpa using h
     obtain⟨ps,rfl,af8⟩:=yg rest (acc.length+1) _ _ _ hpo (by rw[kZ];exact cv) (by rw[lD];exact hd);have e1:(⟨ks,es,true,.bf⟩::acc:List aU).reverse++ps=acc.reverse++(⟨ks,es,true,.bf⟩::ps):=by simp
     rw[e1]at J8⊢;refine⟨t,x,acc.length,⟨ks,es,true,.bf⟩::ps,rfl,Nat.le_refl _,by simp,.cons _ _ _ _ _ _ ⟨G4 hc,fun hh=>absurd rfl hh,fun _=>⟨Ow aO cv hg ho hc,rfl,rfl,rfl⟩⟩ (af8.mono fun k S o p hk hT=>?_),J8.1,J8.2,rfl⟩;exact⟨hT.1,fun _ hh=>hT.2 (hh.resolve_left (by omega)),fun hh=>by omega⟩
    ·cases h
  |none=>
   rw[hp]at h;simp only[mH]at h;cases hg:dZ X cl md all S o with
   |none=>rw[hg]at h;cases h
   |some q=>
    obtain⟨S2,p⟩:=q;rw[hg]at h;simp only[vG]at h;obtain⟨heq,hU,de⟩:=yf aO cv qO hg;rcases Ac aO rest S2 (p::acc) e S1 h (by rw[heq.gl,qc];exact cv) (by rw[heq.n,sU];exact hd)with ⟨he,ps,S3,hc,he3,cH⟩|⟨t,x,j,ps,he,En,Aa,hc,cH,tQ,G5⟩
    ·left;obtain⟨S4,Rk,Rl⟩:=AO hc heq;exact⟨he,p::ps,S4,.cons o rest S p ps S4 hU (fun _ _=>trivial) de.toI Rk,he3.trans Rl,by simpa using cH⟩
    ·right;have e1:(p::acc).reverse++ps=acc.reverse++(p::ps):=by simp
     rw[e1]at cH tQ hc;simp only[List.length_cons]at En Aa hc;exact⟨t,x,j,p::ps,he,by omega,by simp;omega,.cons _ _ _ _ _ _ ⟨hU,fun _ _=>de,fun hh=>by omega⟩ (hc.eqv TT.eqv heq),cH,tQ,G5⟩
def cellOf:Bool→aE→Nat→Option AV
 |false,.box cs,j=>cs[j]?
 |true,.vv rows (some x),j=>if rows.length=j then some x else none
 |_,_,_=>none
def qB(LI:List Cl)(m:Mem):Prop:=∀q∈LI,∃c,Mem.get m q.k=some ⟨q.k,q.v,c⟩∧cellOf q.vv c q.j=some q.x
theorem Ox{c:aE}{j:Nat}{x:AV}(h:cellOf false c j=some x):∃cs,c=.box cs∧cs[j]?=some x:=by
 cases c with
 |box cs=>exact⟨cs,rfl,h⟩
 |dead=>cases h
 |vec _ _=>cases h
 |vv _ _=>cases h
theorem Rn{c:aE}{j:Nat}{x:AV}(h:cellOf true c j=some x):∃rows,c=.vv rows (some x)∧rows.length=j:=by
 cases c with
 |box cs=>cases h
 |dead=>cases h
 |vec _ _=>cases h
 |vv rows y=>
  cases y with
  |none=>cases h
  |some y=>
   simp only[cellOf]at h;split at h
   ·rename_i hj;cases h;exact⟨rows,rfl,hj⟩
   ·cases h
theorem Ro:∀{x y:AV},GK x y=true→x=y:=by
 intro x y h;unfold GK at h;split at h
 ·simp only[Bool.and_eq_true,decide_eq_true_eq]at h;obtain⟨⟨⟨rfl,rfl⟩,rfl⟩,rfl⟩:=h;rfl
 ·simp only[Bool.and_eq_true,decide_eq_true_eq]at h;obtain⟨⟨rfl,rfl⟩,rfl⟩:=h;rfl
 ·simp only[Bool.and_eq_true,decide_eq_true_eq]at h;obtain⟨rfl,rfl⟩:=h;rfl
 ·simp only[decide_eq_true_eq]at h;subst h;rfl
 ·cases h
theorem vL{m:Mem}:∀{fl:List (Nat×Nat)}{LI:List Cl},eZ m fl=some LI→qB LI m
 |[],LI,h=>by simp[eZ]at h;subst h;exact fun q hq=>by simp at hq
 |(k,j)::r,LI,h=>by
  unfold eZ at h;split at h
  ·rename_i key v cs l hg hl;split at h
   ·rename_i x hx;cases h;have hk:key=k:=(Mem.get_mem hg).2;subst hk;intro q hq;rcases List.mem_cons.1 hq with rfl|hq
    ·exact⟨.box cs,hg,hx⟩
    ·exact vL hl q hq
   ·cases h
  ·rename_i key v rows x l hg hl;cases h;have hk:key=k:=(Mem.get_mem hg).2;subst hk;intro q hq;rcases List.mem_cons.1 hq with rfl|hq
   ·exact⟨.vv rows (some x),hg,by simp[cellOf]⟩
   ·exact vL hl q hq
  ·cases h
theorem UD{q:Cl}{v:Nat}{c:aE}(h:J3 q v c=true):v=q.v∧cellOf q.vv c q.j=some q.x:=by
 unfold J3 at h;split at h
 ·rename_i cs;simp only[Bool.and_eq_true,decide_eq_true_eq,Bool.not_eq_true']at h;obtain⟨⟨h1,h2⟩,h3⟩:=h;refine⟨h2,?_⟩;rw[h1];simp only[cellOf];unfold Rd at h3;split at h3
  ·rename_i x hx;rw[hx,Ro h3]
  ·cases h3
 ·rename_i rows x;simp only[Bool.and_eq_true,decide_eq_true_eq]at h;obtain⟨⟨⟨h1,h2⟩,h3⟩,h4⟩:=h;refine⟨h2,?_⟩;rw[h1];simp only[cellOf,h3,if_true,Ro h4]
 ·cases h
theorem G6{e:cI}:∀{LI:List Cl},AI e LI=true→∀q∈LI,e.key=q.k→∃c,e=⟨q.k,q.v,c⟩∧cellOf q.vv c q.j=some q.x
 |[],_,q,hq,_=>by simp at hq
 |p::r,h,q,hq,hk=>by
  simp only[AI,Bool.and_eq_true]at h;rcases List.mem_cons.1 hq with rfl|hq
  ·have h1:=h.1;simp only[hk,decide_true]at h1;obtain⟨key,aj,cont⟩:=e;simp only at hk h1;subst hk;obtain⟨rfl,h2⟩:=UD h1;exact⟨cont,rfl,h2⟩
  ·exact G6 h.2 q hq hk
theorem Eo{LI:List Cl}:∀{es:List cI},sW LI es=true→∀m,qB LI m→qB LI (putAll m es)
 |[],_,m,hm=>hm
 |e::r,h,m,hm=>by
  simp only[sW,Bool.and_eq_true]at h;refine Eo h.2 _ (fun q hq=>?_);obtain⟨cs,h1,h2⟩:=hm q hq;by_cases hk:e.key=q.k
  ·obtain⟨lB,he,hx⟩:=G6 h.1 q hq hk;refine⟨lB,?_,hx⟩;have cD:e.key∈m.map (·.key):=by
    obtain⟨h3,h4⟩:=Mem.get_mem h1;rw[hk];exact List.mem_map_of_mem h3
   rw[←hk,Mem.nQ cD,he]
  ·exact⟨cs,by rw[Mem.nR hk];exact h1,h2⟩
theorem yh{b:Bool}{k v j:Nat}{x:AV}:∀{LI:List Cl},q8 b k v j LI=some x→∃q∈LI,q.vv=b∧q.k=k∧q.v=v∧q.j=j∧q.x=x
 |[],h=>by simp[q8]at h
 |q::r,h=>by
  unfold q8 at h;split at h
  ·rename_i hb;simp only[Bool.and_eq_true,decide_eq_true_eq]at hb;cases h;exact⟨q,by simp,hb.1.1.1.symm,hb.1.1.2.symm,hb.1.2.symm,hb.2.symm,rfl⟩
  ·obtain⟨q',h1,h2⟩:=yh h;exact⟨q',by simp[h1],h2⟩
theorem vM{b:Bool}{k v:Nat}:∀{LI:List Cl},tS b k v LI=true→∃q∈LI,q.vv=b∧q.k=k∧q.v=v
 |[],h=>by simp[tS]at h
 |q::r,h=>by
  unfold tS at h;split at h
  ·rename_i hb;simp only[Bool.and_eq_true,decide_eq_true_eq]at hb;exact⟨q,by simp,hb.1.1.symm,hb.1.2.symm,hb.2.symm⟩
  ·obtain⟨q',h1,h2⟩:=vM h;exact⟨q',by simp[h1],h2⟩
theorem Dj{LI:List Cl}{m:Mem}(hm:qB LI m){q:Cl}(hq:q∈LI)(hv:q.vv=false):∃cs,Mem.get m q.k=some ⟨q.k,q.v,.box cs⟩∧cs[q.j]?=some q.x:=by
 obtain⟨c,h1,h2⟩:=hm q hq;rw[hv]at h2;obtain⟨cs,rfl,h3⟩:=Ox h2;exact⟨cs,h1,h3⟩
theorem Rp{LI:List Cl}{m:Mem}(hm:qB LI m){q:Cl}(hq:q∈LI)(hv:q.vv=true):∃rows,Mem.get m q.k=some ⟨q.k,q.v,.vv rows (some q.x)⟩∧rows.length=q.j:=by
 obtain⟨c,h1,h2⟩:=hm q hq;rw[hv]at h2;obtain⟨cs,rfl,h3⟩:=Rn h2;exact⟨cs,h1,h3⟩
theorem UE{P:Program}{LI:List Cl}{S:St}{x:AV}(h:q9 P LI S o.op=some x)(hm:qB LI S.mem):∃c,stepv P S o=.val c x∧(opOk S o&&c)=true:=by
 unfold q9 at h;split at h
 ·rename_i t y ho;unfold BZ at h;split at h
  ·rename_i k v off heq;split at h
   ·rename_i kg pe;obtain⟨q,hq,Cb,rfl,rfl,rfl,rfl⟩:=yh h;obtain⟨cs,h1,h2⟩:=Dj hm hq Cb;have bz:q.j<cs.length:=(List.getElem?_eq_some_iff.1 h2).1;refine⟨true,?_,by simp[opOk,ho,okAll,Op.operands,heq]⟩;unfold stepv;rw[ho];simp only[heq,loadR,h1,kg,h2,Option.getD_some];simp only[decide_eq_false_iff_not]at pe;simp[pe,bz]
   ·cases h
  ·rename_i k v i j heq;split at h
   ·rename_i kg pe hj;obtain⟨q,hq,Cb,rfl,rfl,rfl,rfl⟩:=yh h;obtain⟨rows,h1,h2⟩:=Rp hm hq Cb;simp only[decide_eq_true_eq]at hj;subst hj;refine⟨true,?_,by simp[opOk,ho,okAll,Op.operands,heq]⟩;unfold stepv;rw[ho];simp only[heq,loadR,h1,kg];simp only[decide_eq_false_iff_not]at pe;simp[pe,h2]
   ·cases h
  ·cases h
 ·rename_i s y f ho;unfold B0 at h;split at h
  ·rename_i n k v off hn heq;split at h
   ·rename_i hc;cases h;obtain⟨q,hq,Cb,rfl,rfl⟩:=vM hc;obtain⟨cs,h1,h2⟩:=Dj hm hq Cb;refine⟨true,?_,by simp[opOk,ho,okAll,Op.operands,heq]⟩;unfold stepv;rw[ho];simp[heq,fieldRm,hn,h1]
   ·cases h
  ·cases h
 ·rename_i y ho;unfold B1 at h;split at h
  ·rename_i k v off heq;split at h
   ·rename_i hc;cases h;obtain⟨q,hq,Cb,rfl,rfl⟩:=vM hc;obtain⟨cs,h1,h2⟩:=Dj hm hq Cb;refine⟨true,?_,by simp[opOk,ho,okAll,Op.operands,heq]⟩;unfold stepv;rw[ho];simp[heq,nilCheckR,h1]
   ·cases h
  ·cases h
 ·rename_i t y z ho;unfold B3 at h;split at h
  ·rename_i e k v off len kd n nz heq abM;split at h
   ·rename_i bV hc fm xn;cases h;simp only[decide_eq_true_eq]at bV fm xn;obtain⟨q,hq,Cb,rfl,rfl⟩:=vM hc;obtain⟨rows,h1,h2⟩:=Rp hm hq Cb;refine⟨true,?_,by simp[opOk,ho,okAll,Op.operands,heq,abM]⟩;unfold stepv;rw[ho];simp[heq,abM,indexR,nz,bV,h1,fm,xn]
   ·cases h
  ·cases h
 ·cases h
theorem Rq{P:Program}{LI:List Cl}{S' S:St}(h:∀x∈o.op.operands.toList,S'.opd x=S.opd x):q9 P LI S' o.op=q9 P LI S o.op:=by
 unfold q9;split
 ·rename_i t y ho;rw[h y (by simp[ho,Op.operands])]
 ·rename_i s y f ho;rw[h y (by simp[ho,Op.operands])]
 ·rename_i y ho;rw[h y (by simp[ho,Op.operands])]
 ·rename_i t y z ho;rw[h y (by simp[ho,Op.operands]),h z (by simp[ho,Op.operands])]
 ·rfl
theorem Oy{all:List Oper}{LI:List Cl}{x:AV}(hd:∀t,o.dst=some t→t<S.n)(h:ob X.P LI S o=some x):q0 X.P (qB LI) all S o ⟨[],[],true,x⟩:=by
 intro S' ha hI φ G a w hr next R hn
 unfold ob at h;split at h
 ·rename_i hg;rw[if_pos (by simp[Region.wanted,hg])];have hx:∀x∈o.op.operands.toList,S'.opd x=S.opd x:=fun x hx=>qj ha hx;obtain⟨c,pU,cV⟩:=UE (by rw[Rq hx];exact h) hI;obtain⟨_,_,_,h4⟩:=yY (gb:=true) pU cV (fun t ht=>by rw[ha.n];exact hd t ht);exact h4 φ G a w hr next R (fun _ φ' a' w' b9 aN=>hn φ' a' w' b9 aN) (fun t x he=>by cases he)
 ·cases h
theorem Jt{l:List Nat}{r:List Oper}(h:lP l r=true):l=[]∧r=[]:=by
 cases l<;>cases r<;>simp_all [lP]
theorem UF{all:List Oper}{nd:List (List Nat)}{ps:List aU}(hs:AE all nd=true)(hl:ps.length+1=all.length)(hn:nd.getD (all.length-1) []=[])(hd:ordD nd ps=true):mg all (ps++[z8])=true:=by
 have xS:=z7 hs hn;unfold mg;refine List.all_eq_true.2 fun j hj=>?_;have h1:=List.all_eq_true.1 hs j hj;have oJ:j<all.length:=List.mem_range.1 hj;unfold xR at h1;unfold Fu;have sS:(ps++[z8])[j]?=some ((ps++[z8])[j]'(by simp;omega)):=by simp[hl,oJ]
 rw[sS];cases ho:all[j]? with
 |none=>rw[ho]at h1;cases h1
 |some o=>
  rw[ho]at h1;simp only[Bool.and_eq_true,List.all_eq_true,decide_eq_true_eq,Bool.or_eq_true,List.mem_range]at h1⊢;refine⟨h1.1,fun i hi=>?_⟩;by_cases gS:j+1=all.length
  ·left;have:=xS i (by omega);rw[←gS]at this;simpa using this
  ·rcases h1.2 i hi with h2|h2
   ·exact .inl h2
   ·right;have qe:j<ps.length:=by omega
    have jz:(ps++[z8])[i]?=some (ps[i]'(by omega)):=by rw[List.getElem?_append_left (by omega)];simp[show i<ps.length by omega]
    have ale:(ps++[z8])[j]'(by simp;omega)=ps[j]'qe:=List.getElem_append_left qe
    rw[ale];cases ib:all[i]? with
    |none=>rw[ib]at h2;cases h2
    |some o'=>
     rw[ib]at h2;rw[jz];simp only[Bool.and_eq_true]at h2;simp only[xL];have e1:=vF (pc hd i _ (List.getElem?_eq_getElem (show i<ps.length by omega))) j (by simpa using h2.2.1) _ (List.getElem?_eq_getElem qe);have e2:=vF (pc hd j _ (List.getElem?_eq_getElem qe)) i (by simpa using h2.2.2) _ (List.getElem?_eq_getElem (show i<ps.length by omega));have e3:=h2.1;simp only[AD,Bool.and_eq_true]at e3;simp only[Bool.and_eq_true];exact⟨⟨e3,e1⟩,e2⟩
def Rr(P:Program)(I:Mem→Prop)(nd:List (List Nat))(all ops:List Oper)(S:St)(acc:List aU)(e:XE)(S1:St):Prop:=
 (e=.normal∧∃ps S2,Cert P I all ops S ps S2∧gD S1 S2∧ordD nd (acc.reverse++ps)=true)∨
  (∃init ol ps S2,ops=init++[ol]∧Cert P I all init S ps S2∧nd.getD (all.length-1) []=[]∧ordD nd (acc.reverse++ps)=true∧yc P all S2 ol e S1)
theorem yc.eqv{P:Program}{all:List Oper}{S S0 S1:St}{e:XE}(h:yc P all S o e S1)(he:gD S S0):yc P all S0 o e S1:=by
 obtain⟨h1,h2,h3,h4⟩:=h;refine⟨h1.trans he.n,h2.trans he.gl,h3,fun φ G a w hr next R hn hp=>?_⟩;have:=h4 φ G a w (hr.eqv he.symm) next R
 rw[he.mem]at this;exact this hn hp
theorem Ep{md:Bool}{nd:List (List Nat)}{LI:List Cl}{all:List Oper}(aO:jb X cl):∀(ops:List Oper)(S:St)(acc:List aU)(e:XE)(S1:St),acc.length+ops.length=all.length→mI X cl md nd LI all ops S acc=some (e,S1)→S.gl=X.gl→jv S.n ops=true→
 Rr X.P (qB LI) nd all ops S acc e S1
 |[],S,acc,e,S1,_,h,cv,hd=>by
  simp only[mI]at h;split at h
  ·rename_i cH;cases h;exact .inl ⟨rfl,[],S,.nil S,gD.refl _,by simpa using cH⟩
  ·cases h
 |o::rest,S,acc,e,S1,hlen,h,cv,hd=>by
  have zQ:=hd;simp only[jv,List.all_cons,Bool.and_eq_true]at hd;obtain⟨qi,hd⟩:=hd;have qO:∀t,o.dst=some t→t<S.n:=fun t ht=>by rw[ht]at qi;simpa using qi
  simp only[List.length_cons]at hlen;simp only[mI]at h;cases iA:lP (nd.getD acc.length []) rest with
  |true=>
   rw[iA]at h;simp only[GL]at h;obtain⟨xN,rfl⟩:=Jt iA;split at h
   ·rename_i cH;right;refine⟨[],o,[],S,rfl,.nil S,?_,by simpa using cH,?_⟩
    ·have:all.length-1=acc.length:=by simp at hlen;omega
     rw[this];exact xN
    ·simp only[fo]at h;rcases gF h with ⟨S3,h1,h2⟩|⟨h1,h2⟩
     ·cases h2;exact sc aO cv qO h1
     ·exact sc aO cv qO h1
   ·cases h
  |false=>
  rw[iA]at h;simp only at h;have glue:∀(p:aU)(S':St),(∀e∈p.es,e.key∈p.ks)→(∀m,qB LI m→qB LI (putAll m p.es))→q0 X.P (qB LI) all S o p→gD S' (p.app o S)→mI X cl md nd LI all rest S' (p::acc)=some (e,S1)→Rr X.P (qB LI) nd all (o::rest) S acc e S1:=by
   intro p S' hk hI de heq bP;rcases Ep aO rest S' (p::acc) e S1 (by simp;omega) bP (by rw[heq.gl,qc];exact cv) (by rw[heq.n,sU];exact hd)with ⟨he,ps,S3,hc,he3,cH⟩|⟨init,ol,ps,S3,hr,hc,hn,cH,jA⟩
   ·obtain⟨S4,Rk,Rl⟩:=AO hc heq;exact .inl ⟨he,p::ps,S4,.cons o rest S p ps S4 hk hI de Rk,he3.trans Rl,by simpa using cH⟩
   ·obtain⟨S4,Rk,Rl⟩:=AO hc heq;exact .inr ⟨o::init,ol,p::ps,S4,by rw[hr];rfl,.cons o init S p ps S4 hk hI de Rk,hn,by simpa using cH,jA.eqv Rl⟩
  cases hl:ob X.P LI S o with
  |some x=>
   rw[hl]at h;simp only[nb,vG]at h;exact glue ⟨[],[],true,x⟩ _ (by simp) (fun _ h=>h) (Oy (X:=X) (all:=all) qO hl) (gD.refl _) h
  |none=>
   rw[hl]at h;simp only[nb]at h;cases hg:dZ X cl md all S o with
   |none=>rw[hg]at h;cases h
   |some q=>
    obtain⟨S2,p⟩:=q;rw[hg]at h;simp only[Di]at h;split at h
    ·rename_i hinv;simp only[vG]at h;obtain⟨heq,hU,de⟩:=yf aO cv qO hg;exact glue p S2 hU (Eo hinv) de.toI heq h
    ·cases h
end
theorem bm.UG{φ:bQ}{G:Fr}{m:Mem}{w:World}(h:bm φ G m w){e1 e2 e1' e2':cI}(FN:e1∈m)(wK:e2∈m)(bK:e1.key≠e2.key){L1 L2 L1' L2':Loc}(Q7:φ e1.key=some L1)(dX:φ e2.key=some L2)
 (gu:e1'.key=e1.key) (cw:e2'.key=e2.key) (Wq:L1.aj≤L1'.aj) (rG:L2.aj≤L2'.aj) (pY:L1'.aj=L1.aj→L1'={L1 with cO:=L1'.cO}) (qH:L2'.aj=L2.aj→L2'={L2 with cO:=L2'.cO})
 (oM:L1'.aj=e1'.aj) (hw2:L2'.aj=e2'.aj) (ho1:∀b,e1'.cont.cP L1' b→e1.cont.cP L1 b∨e2.cont.cP L2 b) (BW:∀b,e2'.cont.cP L2' b→e1.cont.cP L1 b∨e2.cont.cP L2 b)
 (WJ:∀b,e1'.cont.cP L1' b→e2'.cont.cP L2' b→False)
 (hc:∀(φ':bQ)(F':Nat→Prop),φ.le φ'→φ' e1.key=some L1'→φ' e2.key=some L2'→(∀b,F' b→Fo G φ m b)→dU φ' w F' L1' e1'.cont∧dU φ' w F' L2' e2'.cont):
 ∃φ',bm φ' G (Mem.set (Mem.set m e1') e2') w∧aP φ m w φ' (Mem.set (Mem.set m e1') e2') w:=by
 obtain⟨m',dx⟩:∃m',m'=Mem.set (Mem.set m e1') e2':=⟨_,rfl⟩;rw[←dx];have dP:((Mem.set m e1').map (·.key)).Nodup:=by rw[Mem.gx];exact h.nodup
 have mi:m'.map (·.key)=m.map (·.key):=by rw[dx,Mem.gx,Mem.gx]
 have fa:∀y,y∈m'→y=e2'∨y=e1'∨(y∈m∧y.key≠e1.key∧y.key≠e2.key):=by
  intro y hy;rw[dx]at hy;rcases (Mem.mem_set dP).1 hy with ⟨h1,_⟩|⟨h1,h2⟩
  ·exact .inl h1
  ·rcases (Mem.mem_set h.nodup).1 h1 with ⟨h1,_⟩|⟨h1,h3⟩
   ·exact .inr (.inl h1)
   ·exact .inr (.inr ⟨h1,by rw[←gu];exact h3,by rw[←cw];exact h2⟩)
 obtain⟨φ',jj⟩:∃φ':bQ,φ'=fun j=>if j=e1.key then some L1' else if j=e2.key then some L2' else φ j:=⟨_,rfl⟩
 have f1:φ' e1.key=some L1':=by simp[jj]
 have f2:φ' e2.key=some L2':=by simp[jj,show ¬e2.key=e1.key from fun h=>bK h.symm]
 have f3:∀j,j≠e1.key→j≠e2.key→φ' j=φ j:=fun j h1 h2=>by simp[jj,h1,h2]
 have hle:φ.le φ':=by
  intro j L0 h0;by_cases h1:j=e1.key
  ·subst h1;rw[Q7]at h0;cases h0;exact⟨_,f1,Wq,pY⟩
  ·by_cases h2:j=e2.key
   ·subst h2;rw[dX]at h0;cases h0;exact⟨_,f2,rG,qH⟩
   ·exact⟨L0,by rw[f3 j h1 h2];exact h0,Nat.le_refl _,fun _=>rfl⟩
 have kQ:∀b,e1.cont.cP L1 b∨e2.cont.cP L2 b→iy φ m b:=fun b hb=>hb.elim (fun hb=>⟨e1,FN,L1,Q7,hb⟩) (fun hb=>⟨e2,wK,L2,dX,hb⟩);have fB:∀b,iy φ' m' b→iy φ m b:=by
  rintro b ⟨y,hy,Ly,dE,gM⟩;rcases fa y hy with rfl|rfl|⟨h1,h2,h3⟩
  ·rw[cw,f2]at dE;cases dE;exact kQ b (BW b gM)
  ·rw[gu,f1]at dE;cases dE;exact kQ b (ho1 b gM)
  ·rw[f3 _ h2 h3]at dE;exact⟨y,h1,Ly,dE,gM⟩
 have hF:∀b,Fo G φ' m' b→Fo G φ m b:=fun b=>Or.imp id (fB b);have eT:=hc φ' (Fo G φ' m') hle f1 f2 hF;have pe:∀y∈m,y.key≠e1.key→y.key≠e2.key→∀Ly,φ y.key=some Ly→∀b,y.cont.cP Ly b→e1.cont.cP L1 b∨e2.cont.cP L2 b→False:=by
  intro y hy h2 h3 Ly dE b gM hb;rcases hb with hb|hb
  ·exact h2 (h.apart y hy e1 FN Ly L1 dE Q7 ⟨b,gM,hb⟩)
  ·exact h3 (h.apart y hy e2 wK Ly L2 dE dX ⟨b,gM,hb⟩)
 refine⟨φ',⟨by rw[mi];exact h.nodup,?_,?_,?_,fun b hb=>h.j9 b (fB b hb),h.bound⟩,⟨hle,fun _ _ _=>rfl,fun b _ hb=>fB b hb,Nat.le_refl _,rfl,rfl,rfl⟩⟩
 ·intro j L0 h0;rw[mi];by_cases h1:j=e1.key
  ·subst h1;exact List.mem_map_of_mem FN
  ·by_cases h2:j=e2.key
   ·subst h2;exact List.mem_map_of_mem wK
   ·rw[f3 j h1 h2]at h0;exact h.oH j L0 h0
 ·intro y hy;rcases fa y hy with rfl|rfl|⟨h1,h2,h3⟩
  ·exact⟨L2',by rw[cw];exact f2,hw2,eT.2⟩
  ·exact⟨L1',by rw[gu];exact f1,oM,eT.1⟩
  ·obtain⟨Ly,dE,Q0,kW⟩:=h.eZ y h1;exact⟨Ly,by rw[f3 _ h2 h3];exact dE,Q0,kW.mono hle (fun _ _ _=>rfl) (Nat.le_refl _) (fun b _=>hF b) (fun _ _=>rfl)⟩
 ·rintro y hy z hz Ly Lz dE iK ⟨b,gM,nF⟩;rcases fa y hy with rfl|rfl|⟨h1,h2,h3⟩
  ·rw[cw,f2]at dE;cases dE;rcases fa z hz with rfl|rfl|⟨g1,g2,g3⟩
   ·rfl
   ·rw[gu,f1]at iK;cases iK;exact (WJ b nF gM).elim
   ·rw[f3 _ g2 g3]at iK;exact (pe z g1 g2 g3 Lz iK b nF (BW b gM)).elim
  ·rw[gu,f1]at dE;cases dE;rcases fa z hz with rfl|rfl|⟨g1,g2,g3⟩
   ·rw[cw,f2]at iK;cases iK;exact (WJ b gM nF).elim
   ·rfl
   ·rw[f3 _ g2 g3]at iK;exact (pe z g1 g2 g3 Lz iK b nF (ho1 b gM)).elim
  ·rw[f3 _ h2 h3]at dE;rcases fa z hz with rfl|rfl|⟨g1,g2,g3⟩
   ·rw[cw,f2]at iK;cases iK;exact (pe y h1 h2 h3 Ly dE b gM (BW b nF)).elim
   ·rw[gu,f1]at iK;cases iK;exact (pe y h1 h2 h3 Ly dE b gM (ho1 b nF)).elim
   ·rw[f3 _ g2 g3]at iK;exact h.apart y h1 z g1 Ly Lz dE iK ⟨b,gM,nF⟩
theorem Oz(S:St)(kb j k sz:Nat):dY S (S.adopt kb j k sz):=by
 unfold St.adopt;split
 ·rename_i key vb cs dW v cont hgb hg;split
  ·rename_i hj;split
   ·exact dY.refl S
   ·rename_i bK;refine⟨rfl,rfl,fun φ G a w hr=>?_⟩;obtain⟨hm,hk,L,hL,aA,cd⟩:=hr.mem.get hg;simp only at hk aA;subst hk;obtain⟨φ1,rW,gu,hφ1,eA⟩:=hr.mem.cZ (e':=⟨dW,v+1,.vec sz []⟩) hm hL rfl (L':=⟨v+1,0,sz,0,0,[]⟩) (by simp only;omega) (fun hh=>by simp only at hh;omega) rfl
     (w':=w) (fun _ _ _=>rfl) (Nat.le_refl _) (fun _ ho=>absurd ho.1 (by simp)) rfl rfl rfl (fun φ' jj ll=>⟨rfl,by simp,by simp,fun hc=>by simp at hc⟩)
    have alf:Mem.get (Mem.set S.mem ⟨dW,v+1,.vec sz []⟩) kb=some ⟨key,vb,.box cs⟩:=by
     rw[Mem.nR (by simpa using fun h=>bK h.symm)];exact hgb
    obtain⟨WM,G7,Lb,WN,Cc,UH⟩:=rW.get alf;simp only at G7 Cc;subst G7;obtain⟨φ2,jx,cw,hφ2,awj⟩:=rW.cZ (e':=⟨key,vb,.box (cs.set j (.vec dW (v+1) 0 0))⟩) WM WN rfl (L':=Lb) (Nat.le_refl _) (fun _=>rfl) Cc
     (w':=w) (fun _ _ _=>rfl) (Nat.le_refl _) (fun _ ho=>.inl ho) rfl rfl rfl (fun φ' jj ll=>by
      obtain⟨g0,arr,elem,g1,g2,g3,g4⟩:=UH;have J0:∀b,Fo G φ' (Mem.set (Mem.set S.mem ⟨dW,v+1,.vec sz []⟩) ⟨key,vb,.box (cs.set j (.vec dW (v+1) 0 0))⟩) b→Fo G φ1 (Mem.set S.mem ⟨dW,v+1,.vec sz []⟩) b:=by
       rintro b (h|⟨x,hx,Lx,ew,iz⟩)
       ·exact .inl h
       ·right;rcases (Mem.mem_set rW.nodup).1 hx with ⟨rfl,_⟩|⟨gr,hxk⟩
        ·simp only[jj,if_true]at ew;cases ew;exact⟨_,WM,Lb,WN,iz⟩
        ·simp only[jj,hxk,if_false]at ew;exact⟨x,gr,Lx,ew,iz⟩
      refine⟨by simpa using g0,arr,elem,g1,by simp[g2],g3,fun i c u hc hu=>?_⟩;rw[List.getElem?_set]at hc;split at hc
      ·rename_i kj;subst kj;split at hc
       ·cases hc;have:=g4 j _ u hj hu;cases this;refine .vec dW (v+1) 0 0 _ ⟨v+1,0,sz,0,0,[]⟩ ?_ (Nat.le_refl _) (fun _=>⟨_,_,rfl,by simp,fun h=>by omega⟩) rfl;rw[jj];simp only
        rw[if_neg (fun h=>bK h.symm)];exact hφ1
       ·cases hc
      ·exact (g4 i c u hc hu).mono ll (fun _ _ _=>rfl) (Nat.le_refl _) (fun b _=>J0 b))
    have nE:=gu.trans cw;exact⟨φ2,hr.xk jx nE,nE⟩
  ·exact dY.refl S
 ·exact dY.refl S
theorem yi(τ:AV→AV):∀m:Mem,(mapB τ m).map (·.key)=m.map (·.key)
 |[]=>rfl
 |e::r=>by simp[mapB,yi τ r]
theorem G8{τ:AV→AV}:∀{m:Mem}{x:cI},x∈mapB τ m↔∃e∈m,x=⟨e.key,e.aj,mapC τ e.cont⟩
 |[],x=>by simp[mapB]
 |e::r,x=>by simp[mapB,G8 (m:=r)]
theorem OA(S:St)(k k2:Nat):dY S (S.rekey k k2):=by
 unfold St.rekey;split
 ·rename_i key v sz rows dW v2 cont hg mB;split
  ·exact dY.refl S
  ·rename_i bK;refine⟨rfl,rfl,fun φ G a w hr=>?_⟩;obtain⟨hm,hk,L,hL,aA,cd⟩:=hr.mem.get hg;obtain⟨jx,cw,L2,dX,za,_⟩:=hr.mem.get mB;simp only at hk aA cw za;subst hk;subst cw;have abC:¬dW=key:=fun h=>bK h.symm;obtain⟨τ,hτ⟩:∃τ,τ=rkAV key v dW (v2+1):=⟨_,rfl⟩;rw[←hτ];obtain⟨m1,rW⟩:∃m1,m1=Mem.set (mapB τ S.mem) ⟨key,v+1,.dead⟩:=⟨_,rfl⟩;have fm:((mapB τ S.mem).map (·.key)).Nodup:=by rw[yi];exact hr.mem.nodup
   have dP:(m1.map (·.key)).Nodup:=by rw[rW,Mem.gx];exact fm
   obtain⟨m',dx⟩:∃m',m'=Mem.set m1 ⟨dW,v2+1,.vec sz rows⟩:=⟨_,rfl⟩;rw[←rW,←dx];have mi:m'.map (·.key)=S.mem.map (·.key):=by rw[dx,Mem.gx,rW,Mem.gx,yi]
   have fa:∀y,y∈m'→y=⟨dW,v2+1,.vec sz rows⟩∨y=⟨key,v+1,.dead⟩∨(∃z∈S.mem,y=⟨z.key,z.aj,mapC τ z.cont⟩∧z.key≠key∧z.key≠dW):=by
    intro y hy;rw[dx]at hy;rcases (Mem.mem_set dP).1 hy with ⟨h,_⟩|⟨h,h2⟩
    ·exact .inl h
    ·rw[rW]at h;rcases (Mem.mem_set fm).1 h with ⟨h,_⟩|⟨h,h3⟩
     ·exact .inr (.inl h)
     ·obtain⟨z,hz,rfl⟩:=G8.1 h;exact .inr (.inr ⟨z,hz,rfl,h3,h2⟩)
   obtain⟨φ',jj⟩:∃φ':bQ,φ'=fun j=>if j=key then some {L with aj:=v+1} else if j=dW then some {L with aj:=v2+1} else φ j:=⟨_,rfl⟩
   have f1:φ' key=some {L with aj:=v+1}:=by simp[jj]
   have f2:φ' dW=some {L with aj:=v2+1}:=by simp[jj,abC]
   have f3:∀j,j≠key→j≠dW→φ' j=φ j:=fun j h1 h2=>by simp[jj,h1,h2]
   have hle:φ.le φ':=by
    intro j L0 h0;by_cases h1:j=key
    ·subst h1;rw[hL]at h0;cases h0;exact⟨_,f1,by simp only;omega,fun hh=>by simp only at hh;omega⟩
    ·by_cases h2:j=dW
     ·subst h2;rw[dX]at h0;cases h0;exact⟨_,f2,by simp only;omega,fun hh=>by simp only at hh;omega⟩
     ·exact⟨L0,by rw[f3 j h1 h2];exact h0,Nat.le_refl _,fun _=>rfl⟩
   have fB:∀b,iy φ' m' b→iy φ S.mem b:=by
    rintro b ⟨y,hy,Ly,dE,gM⟩;rcases fa y hy with rfl|rfl|⟨y0,h1,rfl,h2,h3⟩
    ·simp only at dE;rw[f2]at dE;cases dE;exact⟨_,hm,L,hL,gM⟩
    ·exact gM.elim
    ·simp only at dE;rw[f3 _ h2 h3]at dE;exact⟨y0,h1,Ly,dE,kK.1 gM⟩
   have hF:∀b,Fo G φ' m' b→Fo G φ S.mem b:=fun b=>Or.imp id (fB b);have b7:∀x u,aB φ w (Fo G φ S.mem) x u→aB φ' w (Fo G φ' m') (τ x) u:=by
    intro y u h0;have n6:=h0.mono (φ':=φ') (F':=Fo G φ' m') hle (fun _ _ _=>rfl) (Nat.le_refl _) (fun b _=>hF b);rw[hτ];unfold rkAV;split
    ·rename_i k0 v0 o l;split
     ·rename_i hh;obtain⟨rfl,rfl⟩:=hh;cases h0 with
      |vec _ _ _ _ _ L' bU _ h h1=>
       rw[hL]at bU;cases bU;exact .vec dW (v2+1) o l _ _ f2 (Nat.le_refl _) (fun _=>h aA.symm) h1
     ·exact n6
    ·exact n6
   refine⟨φ',⟨hr.size,hr.defers,?_,⟨?_,?_,?_,?_,?_,?_⟩,hr.ka.mono (fun _ _ _=>rfl) (Nat.le_refl _) (fun b _=>hF b)⟩,Gu fB hle⟩
   ·intro t x hx;obtain⟨y,hy,rfl⟩:=xI _ S.env t true x hx;exact b7 _ _ (hr.env t y hy)
   ·show (m'.map (·.key)).Nodup;rw[mi];exact hr.mem.nodup
   ·intro j L0 h0;show j∈m'.map (·.key);rw[mi];by_cases h1:j=key
    ·subst h1;exact List.mem_map_of_mem hm
    ·by_cases h2:j=dW
     ·subst h2;exact List.mem_map_of_mem jx
     ·rw[f3 j h1 h2]at h0;exact hr.mem.oH j L0 h0
   ·intro y hy;rcases fa y hy with rfl|rfl|⟨y0,h1,rfl,h2,h3⟩
    ·refine⟨_,f2,rfl,?_⟩;have:=cd.mono (φ':=φ') (F':=Fo G φ' m') hle (fun _ _ _=>rfl) (Nat.le_refl _) (fun b _=>hF b) (fun _ _=>rfl);exact this
    ·exact⟨_,f1,rfl,trivial⟩
    ·obtain⟨Ly,dE,Q0,kW⟩:=hr.mem.eZ y0 h1;refine⟨Ly,by simp only;rw[f3 _ h2 h3];exact dE,Q0,?_⟩;cases mV:y0.cont with
     |dead=>trivial
     |box cs=>
      rw[mV]at kW;obtain⟨g0,arr,elem,g1,g2,g3,g4⟩:=kW;refine⟨by simpa using g0,arr,elem,g1,by simp[g2],g3,fun i c u sP hu=>?_⟩;rw[List.getElem?_map]at sP;obtain⟨x,hx,rfl⟩:=Option.map_eq_some_iff.1 sP;exact b7 x u (g4 i x u hx hu)
     |vec sz1 af9=>
      rw[mV]at kW;exact kW.mono hle (fun _ _ _=>rfl) (Nat.le_refl _) (fun b _=>hF b) (fun _ _=>rfl)
     |vv af9 y1=>
      rw[mV]at kW;exact j8.mono τ kW (fun _ _ _ _ u hu=>hu.mono (fun _ _ _=>rfl) (Nat.le_refl _) (fun b _=>hF b)) (fun x _ v hx=>b7 x v hx) (fun _ _=>rfl)
   ·rintro y hy z hz Ly Lz dE iK ⟨b,gM,nF⟩;rcases fa y hy with rfl|rfl|⟨y0,h1,rfl,h2,h3⟩
    ·rcases fa z hz with rfl|rfl|⟨z0,g1,rfl,g2,g3⟩
     ·rfl
     ·exact nF.elim
     ·simp only at dE;rw[f2]at dE;cases dE;simp only at iK;rw[f3 _ g2 g3]at iK;exact absurd (hr.mem.apart _ hm z0 g1 L Lz hL iK ⟨b,gM,kK.1 nF⟩).symm g2
    ·exact gM.elim
    ·rcases fa z hz with rfl|rfl|⟨z0,g1,rfl,g2,g3⟩
     ·simp only at iK;rw[f2]at iK;cases iK;simp only at dE;rw[f3 _ h2 h3]at dE;exact absurd (hr.mem.apart y0 h1 _ hm Ly L dE hL ⟨b,kK.1 gM,nF⟩) h2
     ·exact nF.elim
     ·simp only at dE iK;rw[f3 _ h2 h3]at dE;rw[f3 _ g2 g3]at iK;exact hr.mem.apart y0 h1 z0 g1 Ly Lz dE iK ⟨b,kK.1 gM,kK.1 nF⟩
   ·intro b hb;exact hr.mem.j9 b (fB b hb)
   ·exact hr.mem.bound
 ·exact dY.refl S
theorem Rs{α:Type}{l:List α}{n:Nat}(h:l.length=n+1):∃(r:List α)(o:α),l=r++[o]∧r.length=n:=by
 refine⟨l.dropLast,l.getLast (by intro hh;simp[hh]at h),(List.dropLast_concat_getLast _).symm,by simp[h]⟩
theorem UI(S:St)(k k2:Nat):dY S (S.opn k k2):=by
 unfold St.opn;split
 ·rename_i key v rows dW v2 cont hg mB;split
  ·rename_i xs mU;split
   ·exact dY.refl S
   ·rename_i bK;refine⟨rfl,rfl,fun φ G a w hr=>?_⟩;obtain⟨hm,hk,L,hL,aA,cd⟩:=hr.mem.get hg;obtain⟨jx,cw,L2,dX,za,_⟩:=hr.mem.get mB;simp only at hk aA cw za;subst hk;subst cw;have jt:rows=rows.dropLast++[xs]:=by
     rcases List.eq_nil_or_concat rows with rfl|⟨r,x,rfl⟩
     ·simp at mU
     ·simp at mU;subst mU;simp
    obtain⟨r,QC⟩:∃r,r=rows.dropLast:=⟨_,rfl⟩;rw[←QC]at jt⊢;subst jt;obtain⟨⟨h0,h1,h2⟩,h3,h4,h5⟩:j8 φ w (Fo G φ S.mem) L (r++[xs]) none:=cd;simp only[List.length_append,List.length_singleton,Option.toList_none,List.length_nil,Nat.add_zero]at h1 h2;obtain⟨arr,elem,g1,g2,g3,g4,_⟩:=h5 (by omega);obtain⟨cO,o,eQ,lC⟩:=Rs h2;have jA:=g4 r.length xs o (by simp) (by rw[eQ,←lC];simp);have cD:∀b,some b∈cO→some b∈L.cO:=fun b hb=>by rw[eQ];simp[hb]
    have ny:∀(i:Nat)(x:Option Nat),cO[i]?=some x→L.cO[i]?=some x:=fun i x hx=>by
     rw[eQ,List.getElem?_append_left (List.getElem?_eq_some_iff.1 hx).1];exact hx
    have alg:∀b,o=some b→some b∉cO:=fun b hb hm=>by
     obtain⟨i,hi⟩:=List.getElem?_of_mem hm;have bz:=(List.getElem?_eq_some_iff.1 hi).1;have:=h3 i r.length b (ny i _ hi) (by rw[eQ,←lC,←hb];simp);omega
    have base:∀(L2':Loc)(x:Value),(L2'.aj=v2+1∧L2'.sz=1)→arr[L.base+r.length]?=some x→(∀(φ':bQ)(F':Nat→Prop),φ' dW=some L2'→aB φ' w F' (.vec dW (v2+1) 0 xs.length) x)→
     (∀b,0<L2'.cap→L2'.dz=b→o=some b)→
     (∀(φ':bQ)(F':Nat→Prop),φ.le φ'→(∀b,F' b→Fo G φ S.mem b)→dU φ' w F' L2' (.vec 1 xs))→
     ∃φ',Rel φ' G {S with mem:=Mem.set (Mem.set S.mem ⟨key,v,.vv r (some (.vec dW (v2+1) 0 xs.length))⟩) ⟨dW,v2+1,.vec 1 xs⟩} a w∧aP φ S.mem w φ' (Mem.set (Mem.set S.mem ⟨key,v,.vv r (some (.vec dW (v2+1) 0 xs.length))⟩) ⟨dW,v2+1,.vec 1 xs⟩) w:=by
     intro L2' x Dh hx b7 mE aga;have sJ:∀(φ':bQ)(F':Nat→Prop),φ.le φ'→φ' dW=some L2'→(∀b,F' b→Fo G φ S.mem b)→dU φ' w F' {L with cO:=cO} (.vv r (some (.vec dW (v2+1) 0 xs.length))):=by
      intro φ' F' hle f2 hF;refine⟨⟨h0,by simp;omega,lC⟩,fun i j b hi hj=>h3 i j b (ny _ _ hi) (ny _ _ hj),fun b hb=>h4 b (cD b hb),fun _=>⟨arr,elem,g1,g2,g3,fun i BD o' hi ho=>?_,fun y hy=>?_⟩⟩
      ·have iA:=(List.getElem?_eq_some_iff.1 hi).1;exact (g4 i BD o' (by rw[List.getElem?_append_left iA];exact hi) (ny _ _ ho)).mono (fun d u _ hu=>hu.mono (fun _ _ _=>rfl) (Nat.le_refl _) (fun b _=>hF b)) (fun _ _=>rfl)
      ·cases hy;exact⟨x,hx,b7 φ' F' f2⟩
     obtain⟨φ',dx,aN⟩:=hr.mem.UG (e1':=⟨key,v,.vv r (some (.vec dW (v2+1) 0 xs.length))⟩) (e2':=⟨dW,v2+1,.vec 1 xs⟩) hm jx bK hL dX (L1':={L with cO:=cO}) (L2':=L2') rfl rfl (Nat.le_refl _) (by rw[Dh.1];omega)
      (fun _=>rfl) (fun hh=>by rw[Dh.1]at hh;omega) aA Dh.1 (fun b hb=>.inl (by
       rcases hb with hb|hb
       ·exact .inl hb
       ·exact .inr (cD b hb))) (fun b hb=>.inl (.inr (by rw[eQ,mE b hb.1 hb.2];simp))) (fun b aR aV=>by
       have JZ:=mE b aV.1 aV.2;rcases aR with ⟨_,aR⟩|aR
       ·exact (h4 b (by rw[eQ,JZ];simp)).2 aR.symm
       ·exact alg b JZ aR) (fun φ' F' hle f1 f2 hF=>⟨sJ φ' F' hle f2 hF,aga φ' F' hle hF⟩)
     exact⟨φ',hr.xk dx aN,aN⟩
    cases o with
    |none=>
     obtain⟨rfl,b,hv⟩:=jA;exact base ⟨v2+1,0,1,0,0,[]⟩ _ ⟨rfl,rfl⟩ hv (fun φ' F' hf=>.vec dW _ 0 0 _ _ hf (Nat.le_refl _) (fun _=>⟨_,_,rfl,by simp,fun h=>by omega⟩) rfl) (fun b hb=>by simp at hb) (fun φ' F' hle hF=>⟨rfl,by simp,by simp,fun hc=>by simp at hc⟩)
    |some b=>
     obtain⟨row,re,off,cap,q1,q2,q3,q4,q5,q6,q7⟩:=jA;refine base ⟨v2+1,b,1,row.size-off,off,[]⟩ _ ⟨rfl,rfl⟩ q1 (fun φ' F' hf=>.vec dW _ 0 _ _ _ hf (Nat.le_refl _) (fun _=>⟨_,cap,rfl,q3,fun h=>⟨by simp,by simp only;omega⟩⟩) rfl) (fun b' _ hb=>by simp only at hb;rw[hb]) (fun φ' F' hle hF=>?_);refine⟨rfl,by simp only;omega,fun d hd=>?_,fun hc=>⟨row,re,q5,by simp only;omega,q6,fun i d hi=>?_⟩⟩
     ·obtain⟨i,hi⟩:=List.getElem?_of_mem hd;exact (q7 i d hi).1
     ·obtain⟨_,u,hu,hj⟩:=q7 i d hi;exact⟨u,hu.mono (fun _ _ _=>rfl) (Nat.le_refl _) (fun b _=>hF b),hj⟩
  ·exact dY.refl S
 ·exact dY.refl S
theorem UJ(S:St)(k k2:Nat):dY S (S.cls k k2):=by
 unfold St.cls;split
 ·rename_i key v rows k3 v3 len dW v2 xs hg mB;split
  ·exact dY.refl S
  ·rename_i bK;split
   ·rename_i agb;obtain⟨rfl,rfl,rfl⟩:=agb;refine⟨rfl,rfl,fun φ G a w hr=>?_⟩;obtain⟨hm,hk,L,hL,aA,cd⟩:=hr.mem.get hg;obtain⟨jx,cw,L2,dX,za,alh⟩:=hr.mem.get mB;simp only at hk aA cw za;subst hk;subst cw;obtain⟨⟨h0,h1,h2⟩,h3,h4,h5⟩:j8 φ w (Fo G φ S.mem) L rows (some (.vec dW v3 0 xs.length)):=cd;simp only[Option.toList_some,List.length_singleton]at h1;obtain⟨arr,elem,g1,g2,g3,g4,g5⟩:=h5 (by omega);obtain⟨y,gy,gav⟩:=g5 _ rfl;obtain⟨z0,z1,z2,z3⟩:=alh;have fh:∀b,0<L2.cap→L2.dz=b→(L.dz=b∨some b∈L.cO)→False:=by
     intro b hc hb hh;refine bK (hr.mem.apart _ hm _ jx L L2 hL dX ⟨b,?_,⟨hc,hb⟩⟩);rcases hh with hh|hh
     ·exact .inl ⟨by omega,hh⟩
     ·exact .inr hh
    have base:∀(o:Option Nat),(∀b,o=some b→0<L2.cap∧L2.dz=b)→(∀F':Nat→Prop,(∀b,F' b→Fo G φ S.mem b)→xg w F' (some y) xs o)→
     ∃φ',Rel φ' G {S with mem:=Mem.set (Mem.set S.mem ⟨key,v,.vv (rows++[xs]) none⟩) ⟨dW,v3+1,.dead⟩} a w∧aP φ S.mem w φ' (Mem.set (Mem.set S.mem ⟨key,v,.vv (rows++[xs]) none⟩) ⟨dW,v3+1,.dead⟩) w:=by
     intro o ho JU;have Ra:∀(i b:Nat),(L.cO++[o])[i]?=some (some b)→(L.cO[i]?=some (some b)∧i<L.cO.length)∨(i=L.cO.length∧o=some b):=by
      intro i b hi;rcases Nat.lt_trichotomy i L.cO.length with bz|heq|FU
      ·rw[List.getElem?_append_left bz]at hi;exact .inl ⟨hi,bz⟩
      ·subst heq;simp at hi;exact .inr ⟨rfl,hi⟩
      ·rw[List.getElem?_append_right (by omega)]at hi;have:i-L.cO.length=(i-L.cO.length-1)+1:=by omega
       rw[this]at hi;simp at hi
     have sJ:∀(φ':bQ)(F':Nat→Prop),(∀b,F' b→Fo G φ S.mem b)→dU φ' w F' {L with cO:=L.cO++[o]} (.vv (rows++[xs]) none):=by
      intro φ' F' hF;refine⟨⟨h0,by simp;omega,by simp[h2]⟩,fun i j b hi hj=>?_,fun b hb=>?_,fun _=>⟨arr,elem,g1,g2,g3,fun i BD o' hi cq=>?_,fun y hy=>by cases hy⟩⟩
      ·rcases Ra i b hi with ⟨ny,iA⟩|⟨hi0,ny⟩<;>rcases Ra j b hj with ⟨En,gS⟩|⟨QQ,En⟩
       ·exact h3 i j b ny En
       ·exact (fh b (ho b En).1 (ho b En).2 (.inr (List.mem_of_getElem? ny))).elim
       ·exact (fh b (ho b ny).1 (ho b ny).2 (.inr (List.mem_of_getElem? En))).elim
       ·rw[hi0,QQ]
      ·simp only[List.mem_append,List.mem_singleton]at hb;refine⟨by simp only;omega,?_⟩;rcases hb with hb|hb
       ·exact (h4 b hb).2
       ·exact fun hh=>fh b (ho b hb.symm).1 (ho b hb.symm).2 (.inl hh.symm)
      ·rcases Nat.lt_or_ge i rows.length with bz|xj
       ·rw[List.getElem?_append_left bz]at hi;rw[List.getElem?_append_left (by omega)]at cq;exact (g4 i BD o' hi cq).mono (fun d u _ hu=>hu.mono (fun _ _ _=>rfl) (Nat.le_refl _) (fun b _=>hF b)) (fun _ _=>rfl)
       ·have zR:i=rows.length:=by have:=(List.getElem?_eq_some_iff.1 hi).1;simp at this;omega
        subst zR;simp at hi;subst hi;rw[←h2]at cq;simp at cq;subst cq;simp only
        rw[gy];exact JU F' hF
     obtain⟨φ',dx,aN⟩:=hr.mem.UG (e1':=⟨key,v,.vv (rows++[xs]) none⟩) (e2':=⟨dW,v3+1,.dead⟩) hm jx bK hL dX (L1':={L with cO:=L.cO++[o]}) (L2':={L2 with aj:=v3+1}) rfl rfl (Nat.le_refl _) (by simp only;omega)
      (fun _=>rfl) (fun hh=>by simp only at hh;omega) aA rfl (fun b hb=>by
       rcases hb with hb|hb
       ·exact .inl (.inl hb)
       ·simp only[List.mem_append,List.mem_singleton]at hb;rcases hb with hb|hb
        ·exact .inl (.inr hb)
        ·exact .inr (ho b hb.symm)) (fun b hb=>hb.elim) (fun b _ aV=>aV) (fun φ' F' hle f1 f2 hF=>⟨sJ φ' F' hF,trivial⟩)
     exact⟨φ',hr.xk dx aN,aN⟩
    cases gav with
    |vec _ _ _ _ _ L' bU sE hq sJ=>
     rw[dX]at bU;cases bU;obtain⟨ad,cap,rfl,fX,di⟩:=hq za.symm;by_cases Ad:0<cap
     ·obtain⟨rfl,aO⟩:=di Ad;obtain⟨ali,e2,t1,t2,t3,t4⟩:=z3 (by omega);refine base (some L2.dz) (fun b hb=>by cases hb;exact⟨by omega,rfl⟩) (fun F' hF=>⟨ali,e2,L2.base,cap,by simp,Ad,fX,by rw[t2,z0];omega,t1,t3,fun i d hd=>?_⟩);obtain⟨u,hu,hj⟩:=t4 i d hd;rw[z0]at hj;exact⟨by rw[z2 d (List.mem_of_getElem? hd),z0],u,hu.mono (fun _ _ _=>rfl) (Nat.le_refl _) (fun b _=>hF b),hj⟩
     ·have fH:xs=[]:=List.length_eq_zero_iff.1 (by omega);have gR:cap=0:=by omega
      subst gR;refine base none (fun b hb=>by cases hb) (fun F' hF=>⟨fH,ad,by rw[fH];rfl⟩)
   ·exact dY.refl S
 ·exact dY.refl S
theorem Rt(S:St)(k:Nat):dY S (S.shut k):=by
 unfold St.shut;split
 ·rename_i key v rows y hg;refine⟨rfl,rfl,fun φ G a w hr=>?_⟩;obtain⟨hm,hk,L,hL,aA,cd⟩:=hr.mem.get hg;simp only at hk aA;subst hk;obtain⟨φ',dx,aN,_,_⟩:=hr.mem.cZ (e':=⟨key,v,.vv rows none⟩) hm hL rfl (L':=L) (Nat.le_refl _) (fun _=>rfl) aA
   (w':=w) (fun _ _ _=>rfl) (Nat.le_refl _) (fun _ ho=>.inl ho) rfl rfl rfl (fun φ' jj ll=>by
    obtain⟨⟨h0,h1,h2⟩,h3,h4,h5⟩:j8 φ w (Fo G φ S.mem) L rows (some y):=cd;refine⟨⟨h0,by simp at h1⊢;omega,h2⟩,h3,h4,fun hc=>?_⟩;obtain⟨arr,elem,g1,g2,g3,g4,g5⟩:=h5 hc;refine⟨arr,elem,g1,g2,g3,fun i xs o hi ho=>(g4 i xs o hi ho).mono (fun d u _ hu=>hu.mono (fun _ _ _=>rfl) (Nat.le_refl _) (fun b _ hb=>?_)) (fun _ _=>rfl),fun y hy=>by cases hy⟩;rcases hb with hb|⟨x,hx,Lx,ew,iz⟩
    ·exact .inl hb
    ·right;rcases (Mem.mem_set hr.mem.nodup).1 hx with ⟨rfl,_⟩|⟨gr,hxk⟩
     ·simp only[jj,if_true]at ew;cases ew;exact⟨_,hm,L,hL,iz⟩
     ·simp only[jj,hxk,if_false]at ew;exact⟨x,gr,Lx,ew,iz⟩)
  exact⟨φ',hr.xk dx aN,aN⟩
 ·exact dY.refl S
theorem Ju(S:St)(kb j k:Nat):dY S (S.adoptV kb j k):=by
 unfold St.adoptV;split
 ·rename_i key vb cs dW v cont hgb hg;split
  ·rename_i hj;split
   ·exact dY.refl S
   ·rename_i bK;refine⟨rfl,rfl,fun φ G a w hr=>?_⟩;obtain⟨WM,G7,Lb,WN,Cc,UH⟩:=hr.mem.get hgb;obtain⟨hm,hk,L,hL,aA,cd⟩:=hr.mem.get hg;simp only at G7 Cc hk aA;subst G7;subst hk;have sJ:∀(φ':bQ)(F':Nat→Prop),φ.le φ'→φ' dW=some ⟨v+1,0,1,0,0,[]⟩→(∀b,F' b→Fo G φ S.mem b)→dU φ' w F' Lb (.box (cs.set j (.vec dW (v+1) 0 0))):=by
     intro φ' F' hle f2 hF;obtain⟨g0,arr,elem,g1,g2,g3,g4⟩:=UH;refine⟨by simpa using g0,arr,elem,g1,by simp[g2],g3,fun i c u hc hu=>?_⟩;rw[List.getElem?_set]at hc;split at hc
     ·rename_i kj;subst kj;split at hc
      ·cases hc;have:=g4 j _ u hj hu;cases this;exact .vec dW (v+1) 0 0 _ _ f2 (Nat.le_refl _) (fun _=>⟨_,_,rfl,by simp,fun h=>by omega⟩) rfl
      ·cases hc
     ·exact (g4 i c u hc hu).mono hle (fun _ _ _=>rfl) (Nat.le_refl _) (fun b _=>hF b)
    obtain⟨φ',dx,aN⟩:=hr.mem.UG (e1':=⟨key,vb,.box (cs.set j (.vec dW (v+1) 0 0))⟩) (e2':=⟨dW,v+1,.vv [] none⟩) WM hm bK WN hL (L1':=Lb) (L2':=⟨v+1,0,1,0,0,[]⟩) rfl rfl (Nat.le_refl _) (by simp only;omega)
     (fun _=>rfl) (fun hh=>by simp only at hh;omega) Cc rfl (fun b hb=>.inl hb) (fun b hb=>by
      rcases hb with ⟨hb,_⟩|hb
      ·simp at hb
      ·simp at hb) (fun b _ hb=>by
      rcases hb with ⟨hb,_⟩|hb
      ·simp at hb
      ·simp at hb) (fun φ' F' hle f1 f2 hF=>⟨sJ φ' F' hle f2 hF,⟨⟨rfl,by simp,rfl⟩,fun i j b hi=>by simp at hi,fun b hb=>by simp at hb,fun hc=>by simp at hc⟩⟩)
    exact⟨φ',hr.xk dx aN,aN⟩
  ·exact dY.refl S
 ·exact dY.refl S
theorem ZH(S:St)(g:Gh):dY S (g.go S):=by
 cases g with
 |trim k=>exact BO S k
 |freeze k=>exact Jn S k
 |adopt kb j k sz=>exact Oz S kb j k sz
 |rekey k k2=>exact OA S k k2
 |opn k k2=>exact UI S k k2
 |cls k k2=>exact UJ S k k2
 |shut k=>exact Rt S k
 |adoptV kb j k=>exact Ju S kb j k
theorem AP:∀(l:List Gh)(S:St),dY S (ghs S l)
 |[],S=>dY.refl S
 |g::r,S=>(ZH S g).trans (AP r _)
theorem rf(X:Ctx)(f:FuncId)(id:Nat)(S:St):dY S (S.leave X f id):=(N9 S _).trans (AP _ _)
def eB(X:Ctx)(f:FuncId)(n:Nat):Code→Bool
 | .region id ops draw=>jv n ops.toList&&(!draw||AE ops.toList (X.od f id))
 | .seq a b=>eB X f n a&&eB X f n b
 | .cond _ a b=>eB X f n a&&eB X f n b
 | .block _ c=>eB X f n c
 | .loop c=>eB X f n c
 |_=>true
structure jC(X:Ctx):Prop where
 ov:X.ov=none
 names:∀(g:FuncId)(fn:Func),X.P.funcs[g]?=some fn→fn.name≠ "runtime.NumGoroutine"
 UK:∀(g:FuncId)(fn:Func)(c:Code),X.P.funcs[g]?=some fn→fn.body=some c→eB X g fn.ntmps c=true
 mixed:X.P.follows .mixedOrders=true
 wU:∀(g:FuncId)(h:List AV→Option AV),X.wU g=some h→gE X.P g=true∧∀(Cd:List AV)(a:AV),h Cd=some a→∀(φ:bQ)(F:Nat→Prop)(w:World)(vs:Array Value),eK w F X.gl→(∀b,F b→b<w.heap.size)→Cd.length=vs.size→
  (∀(i:Nat) x v,Cd[i]?=some x→vs[i]?=some v→aB φ w F x v)→Calls X.P g vs w fun e w'=>∃v,e=.returned v∧Go.RowKit.Below w.heap.size w w'∧aB φ w' F a v
theorem mG.is{n:Nat}{φ:bQ}{G:Fr}{m:Mem}{w:World}{e:XE}{S':St}{e':Exit}{a':Act}{w':World}(h:mG n φ G m w (Is e S') e' a' w'):
 ∃φ',S'.n=n∧Rel φ' G S' a' w'∧aP φ m w φ' S'.mem w'∧(match e' with
  | .normal=>e=.normal
  | .exit id=>e=.exit id
  | .ret=>e=.ret
  | .panic chain=>∃t x v,e=.panic t x∧chain=[{v:=.iface t v,recovered:=false}]∧aK w' (Fo G φ' S'.mem) x v
  |_=>False):=by
 cases e' with
 |normal=>obtain⟨φ',S2,hn,⟨h1,rfl⟩,h2,h3⟩:=h;exact⟨φ',hn,h2,h3,h1.symm⟩
 |exit id=>obtain⟨φ',S2,hn,⟨h1,rfl⟩,h2,h3⟩:=h;exact⟨φ',hn,h2,h3,h1.symm⟩
 |ret=>obtain⟨φ',S2,hn,⟨h1,rfl⟩,h2,h3⟩:=h;exact⟨φ',hn,h2,h3,h1.symm⟩
 |panic chain=>obtain⟨φ',S2,t,x,v,hc,hd,hn,⟨h1,rfl⟩,h2,h3⟩:=h;exact⟨φ',hn,h2,h3,t,x,v,h1.symm,hc,hd⟩
 |_=>exact h.elim
section
variable {X:Ctx} {cl:bq} {f:FuncId} {n:Nat}
theorem G9{P:Program}{S:St}{e:XE}{c:Code}{k:St→St}(hk:∀S,dY S (k S)){r:Option (XE×St)}{S':St}(h:tT k r=some (e,S'))
 (hr:∀e1 S1,r=some (e1,S1)→S1.n=S.n∧S1.gl=S.gl∧nD P c S (Is e1 S1)):S'.n=S.n∧S'.gl=S.gl∧nD P c S (Is e S'):=by
 unfold tT at h;split at h
 ·rename_i S1;cases h;obtain⟨h1,h2,h3⟩:=hr _ _ rfl;obtain⟨t1,t2,t3⟩:=hk S1;refine⟨t1.trans h1,t2.trans h2,fun φ G a w ep=>wp_mono (h3 φ G a w ep) fun e' a' w' hp=>?_⟩;obtain⟨φ',hn,b9,aN,he⟩:=hp.is;cases e' with
  |normal=>
   obtain⟨φ2,iS,cw⟩:=t3 φ' G a' w' b9;exact⟨φ2,k S1,t1.trans hn,⟨rfl,rfl⟩,iS,aN.trans cw⟩
  |exit id=>cases he
  |ret=>cases he
  |panic chain=>obtain⟨t,x,v,h4,_⟩:=he;cases h4
  |_=>exact he.elim
 ·exact hr _ _ h
theorem ZI{P:Program}{I:Mem→Prop}{all:List Oper}{ops:List Oper}{S:St}{ps:List aU}{S1:St}(h:Cert P I all ops S ps S1):S1.n=S.n∧S1.gl=S.gl:=by
 induction h with
 |nil S=>exact⟨rfl,rfl⟩
 |cons o rest S p ps S1 _ _ _ _ ih=>exact⟨ih.1.trans (sU ..),ih.2.trans (qc ..)⟩
theorem Ha{P:Program}{I:Mem→Prop}{all:List Oper}:∀{ops:List Oper}{S:St}{ps:List aU}{S1:St},Cert P I all ops S ps S1→ps.length=ops.length:=by
 intro ops S ps S1 h;induction h with
 |nil S=>rfl
 |cons o rest S p ps S1 _ _ _ _ ih=>simp[ih]
theorem Es:∀{es:List cI},farE es=true→∀e∈es,100≤e.key
 |_::r,h,e,he=>by
  simp only[farE,Bool.and_eq_true,decide_eq_true_eq]at h;rcases List.mem_cons.1 he with rfl|he
  ·exact h.1
  ·exact Es h.2 e he
theorem Et{ps:List aU}:∀{js:List Nat},farJ ps js=true→∀i∈js,∀p,ps[i]?=some p→∀e∈p.es,100≤e.key
 |k::r,h,i,hi,p,hp,e,he=>by
  simp only[farJ,Bool.and_eq_true]at h;rcases List.mem_cons.1 hi with rfl|hi
  ·have:=h.1;rw[hp]at this;exact Es this e he
  ·exact Et h.2 i hi p hp e he
theorem yj{all:List Oper}{nd:List (List Nat)}(h:AE all nd=true){i j:Nat}(kj:i<j)(hj:j<all.length)(hn:i∉(gC all []).getD j []):(nd.getD i []).contains j=true∧(nd.getD j []).contains i=true:=by
 have h1:=List.all_eq_true.1 h j (List.mem_range.2 hj);unfold xR at h1;rw[List.getElem?_eq_getElem hj]at h1;simp only[Bool.and_eq_true,List.all_eq_true,Bool.or_eq_true,List.mem_range]at h1;rcases h1.2 i kj with h2|h2
 ·exact absurd (by simpa using h2) hn
 ·rw[List.getElem?_eq_getElem (by omega)]at h2;simp only[Bool.and_eq_true]at h2;exact h2.2
theorem OB{P:Program}{S S1:St}{id:Nat}{ops:List Oper}{nd:List (List Nat)}{ps:List aU}{j N:Nat}{t:TypeId}{x:D}(hm:P.follows .mixedOrders=true)(rh:AE ops nd=true)
 (hc:jB (TT P ops j (nd.getD j []) t x N S1) 0 ops S ps) (agc:ordD nd ps=true) (tQ:farJ ps (nd.getD j [])=true) (G5:S1.env=[]) (gS:j<ops.length) (hN:N=verSum S.mem+verSums ps+1):
 S1.n=S.n∧S1.gl=S.gl∧∀{φ:bQ}{G:Fr}{a:Act}{w:World},Rel φ G S a w→∀{Q:Exit→Act→World→Prop},
 (∀φ' a' w' v,Rel φ' G S1 a' w'→aP φ S.mem w φ' S1.mem w'→aK w' (Fo G φ' S1.mem) x v→Q (.panic [{v:=.iface t v,recovered:=false}]) a' w')→(Code.region id ops.toArray true).wp P Q a w:=by
 have hlen:=hc.len;have gi:=jB.at (ps:=ps) (S0:=S) hc [] [] rfl rfl rfl rfl rfl;have cH:=Q9 rh agc hlen;obtain⟨oj,GF⟩:∃oj,ops[j]?=some oj:=⟨ops[j],by simp[gS]⟩;obtain⟨pj,sS⟩:∃pj,ps[j]?=some pj:=⟨ps[j]'(by omega),by simp[show j<ps.length by omega]⟩
 obtain⟨GG,dP,eU,rW⟩:=(gi j oj pj (by simp) GF sS).2.2 rfl;rw[nk]at dP;rw[lN]at eU;refine⟨dP,eU,fun {φ G a w} hr {Q} hQ=>wp_region_any hm ?_⟩;have hU:∀(i:Nat)(p:aU),ps[i]?=some p→∀e∈p.es,e.key∈p.ks:=fun i p hp=>by
  have iA:i<ps.length:=(List.getElem?_eq_some_iff.1 hp).1;exact (gi i (ops[i]'(by omega)) p (by simp) (by simp[show i<ops.length by omega]) hp).1
 have iY:Rel φ G S a {w with drawn:=w.drawn+1}:=hr.grow (fun _ _=>rfl) (Nat.le_refl _);have cf:(ia ops.length fun i=>(Array.replicate ops.length false).getD i false)=[]:=by
  rw[ia,List.filter_eq_nil_iff];intro i hi;simp[Array.getD_eq_getD_getElem?,List.mem_range.1 hi]
 refine Rb (S0:=S) (S1:=S1) (φ0:=φ) (w0:=w) (G:=G) (j:=j) hlen cH hr.mem.nodup hU ?_ GF sS GG ?_ dP eU G5 (by rw[rW,hN];rfl) (fun φ' a' w' v b9 aN hv=>hQ φ' a' w' v b9 aN hv) _ _ φ a _ (by simp) ?_ ?_ ?_ ?_ ?_
 ·intro i o p ho hp kj qe;have iA:i<ops.length:=(List.getElem?_eq_some_iff.1 ho).1;refine (gi i o p (by simp) ho hp).2.1 kj ?_;rcases Nat.lt_or_ge i j with h|h
  ·exact .inl h
  ·exact .inr (yj rh (by omega) iA qe).1
 ·intro i p hp kj hi qe e he;have iA:i<ops.length:=by have:=(List.getElem?_eq_some_iff.1 hp).1;omega
  have cD:(nd.getD j []).contains i=true:=by
   rcases Nat.lt_or_ge i j with h|h
   ·exact (yj rh h gS hi).2
   ·exact (yj rh (by omega) iA qe).1
  exact Et tQ i (by simpa using cD) p hp e he
 ·intro j o _ hj;exfalso;simp only[Array.getD_eq_getD_getElem?]at hj;by_cases h:j<ops.length
  ·simp[h]at hj
  ·simp[h]at hj
 ·simp only[Array.getD_eq_getD_getElem?];simp[gS]
 ·simp only[List.size_toArray];rw[cf];exact iY
 ·simp only[List.size_toArray];rw[cf];exact aP.grow (fun _ _=>rfl) (Nat.le_refl _) rfl rfl rfl
 ·simp only[List.size_toArray];exact Nat.le_trans (List.length_filter_le _ _) (by simp)
theorem Hb(hX:jC X)(aO:jb X cl):∀(c:Code)(S:St)(e:XE)(S':St),den X f cl n c S=some (e,S')→S.gl=X.gl→eB X f S.n c=true→
 S'.n=S.n∧S'.gl=S.gl∧nD X.P c S (Is e S'):=by
 intro c;induction c with
 |skip=>
  intro S e S' h cv hd;simp only[den,Option.some.injEq,Prod.mk.injEq]at h;obtain⟨rfl,rfl⟩:=h;exact⟨rfl,rfl,Up ⟨rfl,rfl⟩⟩
 |region id ops draw=>
  intro S e S' h cv hd;simp only[den]at h;simp only[eB,Bool.and_eq_true]at hd;cases draw with
  |false=>
   refine G9 (rf X f id) h (fun e1 S1 h1=>?_);obtain⟨h2,h3,h4⟩:=ye aO ops.toList S e1 S1 h1 cv hd.1;exact⟨h2,h3,fun φ G a w hr=>wp_region_lit (h4 φ G a w hr _ (fun _ _ _ h=>h))⟩
  |true=>
   refine G9 (rf X f id) h (fun e1 S1 h1=>?_);have rh:AE ops.toList (X.od f id)=true:=by simpa using hd.2
   have key:(∃I:Mem→Prop,I S.mem∧e1=.normal∧∃ps S2,Cert X.P I ops.toList ops.toList S ps S2∧gD S1 S2∧ordD (X.od f id) ps=true)∨
    (S1.n=S.n∧S1.gl=S.gl∧∀φ G a w,Rel φ G S a w→∀Q:Exit→Act→World→Prop,(e1=.normal→∀φ' a' w',Rel φ' G S1 a' w'→aP φ S.mem w φ' S1.mem w'→Q .normal a' w')→
     (∀t x,e1=.panic t x→∀φ' a' w' v,Rel φ' G S1 a' w'→aP φ S.mem w φ' S1.mem w'→aK w' (Fo G φ' S1.mem) x v→Q (.panic [{v:=.iface t v,recovered:=false}]) a' w')→(Code.region id ops true).wp X.P Q a w)∧(e1=.normal∨∃t x,e1=.panic t x):=by
    cases iJ:X.fl f id with
    |nil=>
     rw[iJ]at h1;simp only[rZ]at h1;rcases Ac aO ops.toList S [] e1 S1 h1 cv hd.1 with ⟨he,ps,S2,hc,heq,cH⟩|⟨t,x,j,ps,he,En,Aa,hc,cH,tQ,G5⟩
     ·exact .inl ⟨_,trivial,he,ps,S2,hc,heq,by simpa using cH⟩
     ·right;obtain⟨h2,h3,h4⟩:=OB (id:=id) hX.mixed rh hc (by simpa using cH) (by simpa using tQ) G5 (by simpa using Aa) rfl;exact⟨⟨h2,h3,fun φ G a w hr Q _ hQ=>h4 hr (fun φ' a' w' v h5 h6 h7=>hQ t x he φ' a' w' v h5 h6 h7)⟩,.inr ⟨t,x,he⟩⟩
    |cons q r=>
     rw[iJ]at h1;simp only[rZ]at h1;cases WO:eZ S.mem (q::r)with
     |none=>rw[WO]at h1;cases h1
     |some LI=>
      rw[WO]at h1;simp only[Oq]at h1;rcases Ep aO ops.toList S [] e1 S1 (by simp) h1 cv hd.1 with ⟨he,ps,S2,hc,heq,cH⟩|⟨init,ol,ps,S2,dV,hc,hn,cH,h2,h3,h4,h5⟩
      ·exact .inl ⟨_,vL WO,he,ps,S2,hc,heq,by simpa using cH⟩
      ·obtain⟨qK,mB⟩:=ZI hc;refine .inr ⟨⟨h2.trans qK,h3.trans mB,fun φ G a w hr Q hQn hQp=>?_⟩,h4⟩;have hlen:ps.length+1=ops.toList.length:=by
        have:=Ha hc;rw[dV];simp[this]
       refine Jr (ops:=ops.toList) dV (z7 rh hn) (vL WO) hX.mixed hc (UF rh hlen hn (by simpa using cH)) hr (fun φ' a' w' b9 aN next hnx=>?_);exact h5 φ' G a' w' b9 next Q (fun he φ2 a2 w2 iS cw=>hnx a2 w2 (hQn he φ2 a2 w2 iS (aN.trans cw))) (fun t x he φ2 a2 w2 v iS cw hv=>hQp t x he φ2 a2 w2 v iS (aN.trans cw) hv)
   rcases key with ⟨I,hI,rfl,ps,S2,hc,heq,cH⟩|⟨⟨dP,eU,WQ⟩,_⟩;rotate_left
   ·exact⟨dP,eU,fun φ G a w hr=>WQ φ G a w hr _ (fun he φ' a' w' b9 aN=>⟨φ',S1,dP,⟨he.symm,rfl⟩,b9,aN⟩) (fun t x he φ' a' w' v b9 aN hv=>⟨φ',S1,t,x,v,rfl,hv,dP,⟨he.symm,rfl⟩,b9,aN⟩)⟩
   obtain⟨dP,eU⟩:=abx hc;have cH:=Q9 rh cH (Ha hc);refine⟨heq.n.trans dP,heq.gl.trans eU,fun φ G a w hr=>?_⟩;exact Jq (ops:=ops.toList) hI hX.mixed hc cH hr (fun φ' a' w' b9 aN=>⟨φ',S1,heq.n.trans dP,⟨rfl,rfl⟩,b9.eqv heq.symm,by rw[heq.mem];exact aN⟩)
 |seq a b qk uH=>
  intro S e S' h cv hd;simp only[eB,Bool.and_eq_true]at hd;simp only[den]at h;rcases gF h with ⟨S1,h1,h2⟩|⟨h1,h2⟩
  ·obtain⟨dP,eU,oQ⟩:=qk S _ S1 h1 cv hd.1;obtain⟨qK,mB,nJ⟩:=uH S1 e S' h2 (eU.trans cv) (by rw[dP];exact hd.2);refine⟨qK.trans dP,mB.trans eU,JX (oQ.mono fun e1 S2 hq=>?_)⟩;obtain⟨rfl,rfl⟩:=hq;exact nJ
  ·obtain⟨dP,eU,oQ⟩:=qk S _ S' h1 cv hd.1;refine⟨dP,eU,JX (oQ.mono fun e1 S2 hq=>?_)⟩;obtain⟨rfl,rfl⟩:=hq;cases e1 with
   |normal=>exact absurd rfl h2
   |_=>exact⟨rfl,rfl⟩
 |cond c a b qk uH=>
  intro S e S' h cv hd;simp only[eB,Bool.and_eq_true]at hd;simp only[den]at h;cases hc:S.opd c with
  |mk g y=>
   rw[hc]at h;unfold B5 at h;split at h
   ·rename_i t heq;cases heq;cases t with
    |true=>
     obtain⟨h1,h2,h3⟩:=qk S e S' (by simpa using h) cv hd.1;exact⟨h1,h2,Gq hc (fun _=>h3) (fun hf=>by cases hf)⟩
    |false=>
     obtain⟨h1,h2,h3⟩:=uH S e S' (by simpa using h) cv hd.2;exact⟨h1,h2,Gq hc (fun hf=>by cases hf) (fun _=>h3)⟩
   ·cases h
 |block id c ih=>
  intro S e S' h cv hd;simp only[den]at h;unfold B4 at h;split at h
  ·rename_i mA S1 h1;obtain⟨hn,hg,ht⟩:=ih S _ S1 h1 cv hd;split at h
   ·rename_i hid;cases h;refine⟨hn,hg,xG (ht.mono fun e1 S2 hq=>?_)⟩;obtain⟨rfl,rfl⟩:=hq;simp only[hid,if_true];exact⟨rfl,rfl⟩
   ·rename_i hid;cases h;refine⟨hn,hg,xG (ht.mono fun e1 S2 hq=>?_)⟩;obtain⟨rfl,rfl⟩:=hq;simp only[hid,if_false];exact⟨rfl,rfl⟩
  ·rename_i bK;obtain⟨hn,hg,ht⟩:=ih S _ S' h cv hd;refine⟨hn,hg,xG (ht.mono fun e1 S2 hq=>?_)⟩;obtain⟨rfl,rfl⟩:=hq;cases e1 with
   |exit mA=>exact absurd h (bK mA S2)
   |_=>exact⟨rfl,rfl⟩
 |loop c ih=>
  intro S e S' h cv hd;simp only[den]at h;simp only[eB]at hd;have cD:∀(k:Nat)(S1:St),iter (den X f cl n c) k S1=some (e,S')→S1.gl=X.gl→eB X f S1.n c=true→S'.n=S1.n∧S'.gl=S1.gl:=by
   intro k;induction k with
   |zero=>intro S1 h1;cases h1
   |succ k ihk=>
    intro S1 h1 eU wV;simp only[iter]at h1;rcases gF h1 with ⟨S2,h2,h3⟩|⟨h2,h3⟩
    ·obtain⟨a1,a2,_⟩:=ih S1 _ S2 h2 eU wV;obtain⟨b1,b2⟩:=ihk S2 h3 (a2.trans eU) (by rw[a1];exact wV);exact⟨b1.trans a1,b2.trans a2⟩
    ·obtain⟨a1,a2,_⟩:=ih S1 _ S' h2 eU wV;exact⟨a1,a2⟩
  obtain⟨hn,hg⟩:=cD n S h cv hd;refine⟨hn,hg,?_⟩;refine Ur (α:=Nat×St) (fun x=>x.2) (fun x=>iter (den X f cl n c) x.1 x.2=some (e,S')∧x.2.gl=X.gl∧eB X f x.2.n c=true) (fun x=>x.1) (n,S) rfl ⟨h,cv,hd⟩ ?_;rintro ⟨k,S1⟩ ⟨h1,eU,wV⟩;simp only at h1 eU wV⊢;cases k with
  |zero=>cases h1
  |succ k=>
   simp only[iter]at h1;rcases gF h1 with ⟨S2,h2,h3⟩|⟨h2,h3⟩
   ·obtain⟨a1,a2,ht⟩:=ih S1 _ S2 h2 eU wV;refine ht.mono fun e1 S3 hq=>?_;obtain⟨rfl,rfl⟩:=hq;exact⟨(k,S3),rfl,⟨h3,a2.trans eU,by rw[a1];exact wV⟩,Nat.lt_succ_self k⟩
   ·obtain⟨a1,a2,ht⟩:=ih S1 _ S' h2 eU wV;refine ht.mono fun e1 S3 hq=>?_;obtain⟨rfl,rfl⟩:=hq;cases e1 with
    |normal=>exact absurd rfl h3
    |_=>exact⟨rfl,rfl⟩
 |exit id=>
  intro S e S' h cv hd;simp only[den,Option.some.injEq,Prod.mk.injEq]at h;obtain⟨rfl,rfl⟩:=h;obtain⟨t1,t2,t3⟩:=AP (X.gh f (id+1000000)) S;refine⟨t1,t2,fun φ G a w ep=>wp_mono ((Uq (Q:=Is (.exit id) S) ⟨rfl,rfl⟩:nD X.P (.exit id) S (Is (.exit id) S)) φ G a w ep) fun e' a' w' hp=>?_⟩;obtain⟨φ',hn,b9,aN,he⟩:=hp.is;cases e' with
  |exit mA=>
   cases he;obtain⟨φ2,iS,cw⟩:=t3 φ' G a' w' b9;exact⟨φ2,_,t1.trans hn,⟨rfl,rfl⟩,iS,aN.trans cw⟩
  |normal=>cases he
  |ret=>cases he
  |panic chain=>obtain⟨t,x,v,h4,_⟩:=he;cases h4
  |_=>exact he.elim
 |ret=>
  intro S e S' h cv hd;simp only[den,Option.some.injEq,Prod.mk.injEq]at h;obtain⟨rfl,rfl⟩:=h;exact⟨rfl,rfl,ZD ⟨rfl,rfl⟩⟩
 |rangeFunc _ _ _ _=>intro S e S' h;simp[den]at h
 |scope _ _=>intro S e S' h;simp[den]at h
 |label _=>intro S e S' h;simp[den]at h
 |goto _=>intro S e S' h;simp[den]at h
 |refuse _=>intro S e S' h;simp[den]at h
theorem AQ:∀(cs:List aE)(i:Nat),(inM i cs).map (·.key)=List.range' i cs.length
 |[],i=>rfl
 |c::r,i=>by simp[inM,AQ r,List.range'_succ]
theorem Dk:∀(cs:List aE)(i:Nat)(e:cI),e∈inM i cs→e.aj=0
 |[],i,e,he=>by simp[inM]at he
 |c::r,i,e,he=>by
  simp only[inM,List.mem_cons]at he;rcases he with rfl|he
  ·rfl
  ·exact Dk r (i+1) e he
theorem bm.dv{φ:bQ}{G:Fr}{m:Mem}{w:World}(h:bm φ G m w)(dv:List Deferred):bm φ ⟨G.g,dv⟩ m w:=
 ⟨h.nodup,h.oH,h.eZ,h.apart,h.j9,h.bound⟩
theorem Ev.dv{P:Program}{gl f args m K}(h:∀φ G w (vs:Array Value),G.dv=[]→bm φ G m w→eK w (Fo G φ m) gl→args.length=vs.size→(∀(i:Nat) x v,args[i]?=some x→vs[i]?=some v→aB φ w (Fo G φ m) x v)→
 Calls P f vs w fun e w'=>∃φ' m' out,K out m'∧bm φ' G m' w'∧aP φ m w φ' m' w'∧mS φ' w' (Fo G φ' m') out e):Ev P gl f args m K:=by
 intro φ G w vs hm hg hl ha;refine (h φ ⟨G.g,[]⟩ w vs rfl (hm.dv []) hg hl ha).mono ?_;rintro e w' ⟨φ',m',out,h1,h2,h3,h4⟩;exact⟨φ',m',out,h1,h2.dv G.dv,h3,h4⟩
theorem vN(hX:jC X)(aO:jb X cl){fn:Func}{c:Code}{args:List AV}{cs:List aE}{out:Out}{l:List (Nat×aE)}(hf:X.P.funcs[f]?=some fn)(hb:fn.body=some c)
 (h:pO X f cl n fn c args cs=some (out,l)):Ev X.P X.gl f args (inM 0 cs) fun o m=>o=out∧m=mkM 0 l:=by
 unfold pO at h;split at h
 ·rename_i hc;simp only[Bool.and_eq_true,decide_eq_true_eq,List.all_eq_true]at hc;obtain⟨⟨⟨xC,kX⟩,pY⟩,qH⟩:=hc;refine Ev.dv ?_;intro φ G w vs qM hm oc kr b7;have mi:∀k,k∈(inM 0 cs).map (·.key)↔k<cs.length:=fun k=>by rw[AQ];simp
  have AR:∀k∈(X.fp f).sites,k∉(inM 0 cs).map (·.key):=by
   intro k hk uB;have h1:=pY k hk;have h2:=(mi k).1 uB;omega
  have pa:∀k L,φ k=some L→k<cs.length∧L.aj=0:=fun k L hL=>by
   have hk:=hm.oH k L hL;obtain⟨e,he,rfl⟩:=List.mem_map.1 hk;obtain⟨L',bU,aA,_⟩:=hm.eZ e he;rw[hL]at bU;cases bU;exact⟨(mi _).1 hk,by rw[aA];exact Dk cs 0 e he⟩
  have Rv:=hm.add qH AR;have sd:aP φ (inM 0 cs) w (φ.add (X.fp f).sites) (inM 0 cs++(X.fp f).sites.map dead) w:=⟨Gw hm AR,fun _ _ _=>rfl,fun b _ ho=>(yV AR b).1 ho,Nat.le_refl _,rfl,rfl,rfl⟩;refine calls_of_wp hf hb ?_;obtain⟨S0,Rx⟩:∃S0,S0=entry fn.ntmps X.gl args cs (X.fp f).sites:=⟨_,rfl⟩;have hr:Rel (φ.add (X.fp f).sites) G S0 {tmps:=vs++Array.replicate (fn.ntmps-vs.size) undef,defers:=[]} w:=by
   rw[Rx];refine⟨by simp[entry];omega,qM.symm,fun t x hx=>?_,Rv,?_⟩
   ·obtain⟨j,rfl,hj⟩:=vC 0 args t _ hx;have gS:j<vs.size:=by rw[←kr];exact (List.getElem?_eq_some_iff.1 hj).1
    have e:(vs++Array.replicate (fn.ntmps-vs.size) undef).getD (0+j) undef=vs[j]:=by
     simp only[Nat.zero_add,Array.getD_eq_getD_getElem?];rw[Array.getElem?_append_left gS];simp[gS]
    rw[e];exact sd.av (b7 j x _ hj (by simp[gS]))
   ·exact sd.ka oc
  rw[←Rx]at h;cases UL:den X f cl n c S0 with
  |none=>rw[UL]at h;cases h
  |some q=>
   obtain⟨e,S'⟩:=q;rw[UL]at h;obtain⟨sK,rV,ht⟩:=Hb hX aO c S0 e S' UL (by rw[Rx];rfl) (by rw[Rx];exact hX.UK f fn c hf hb);refine wp_mono (ht _ G _ w hr) fun e' a' w' hp=>?_;obtain⟨φ',_,b9,aN,he⟩:=hp.is;have nG:aP φ (inM 0 cs) w φ' S'.mem w':=by
    have:S0.mem=inM 0 cs++(X.fp f).sites.map dead:=by rw[Rx];rfl
    rw[this]at aN;exact sd.trans aN
   have Hc:finish X.P (X.fp f) cs.length fn.results.toList S'=some (out,l)→
    a'.defers=[]∧∃v,(results fn a'.tmps).run X.P w'=.ok v w'∧∃my m' iQ,(iQ=out∧m'=mkM 0 l)∧bm my G m' w'∧aP φ (inM 0 cs) w my m' w'∧mS my w' (Fo G my m') iQ (.returned v):=by
    intro eS;unfold finish at eS;split at eS
    ·rename_i cc xs mU;split at eS
     ·rename_i eT;obtain⟨vl,h1,h2,h3⟩:=vB b9 fn.results.toList cc xs mU eT;obtain⟨φ2,ys,rfl,g1,g2,g3,g4,_⟩:=qZ eS b9.mem b9.ka h2 h3 nG pa;have Hd:(results fn a'.tmps).run X.P w'=.ok (if h:vl.toArray.size=1 then vl.toArray[0]else .tuple vl.toArray) w':=by
       have e:results fn a'.tmps=(do let vs ←fn.results.mapM (xK a'.tmps);pure (if h:vs.size=1 then vs[0]else .tuple vs)):=by
        unfold results;congr 1
       rw[e,Array.mapM_eq_mapM_toList];simp only[Sem.run_bind,Sem.run_map,h1,Result.andThen_ok,Sem.run_pure]
      refine⟨b9.defers.trans qM,_,Hd,φ2,_,_,⟨rfl,rfl⟩,g1,g2,?_⟩;show aB φ2 w' _ (oneOf ys) _;by_cases kQ:vl.length=1
      ·obtain⟨v,rfl⟩:∃v,vl=[v]:=by
        cases vl with
        |nil=>simp at kQ
        |cons v r=>exact⟨v,by cases r with|nil=>rfl|cons _ _=>simp at kQ⟩
       obtain⟨y,rfl⟩:∃y,ys=[y]:=by
        cases ys with
        |nil=>simp at g3
        |cons v r=>exact⟨v,by cases r with|nil=>rfl|cons _ _=>simp at g3⟩
       simpa [oneOf]using g4 0 y v (by simp) (by simp)
      ·have e:oneOf ys=.aW ys:=by
        cases ys with
        |nil=>rfl
        |cons y r=>cases r with|nil=>simp at g3;omega|cons _ _=>rfl
       rw[e,dif_neg (by simpa using kQ)];exact .aW ys vl.toArray (by simpa using g3) (fun i y v h h'=>g4 i y v h (by simpa using h'))
     ·cases eS
    ·cases eS
   cases e' with
   |normal=>cases he;exact Hc h
   |ret=>cases he;exact Hc h
   |exit id=>cases he;cases h
   |panic chain=>
    obtain⟨t,x,v,rfl,rfl,hd⟩:=he;have h':finVals (X.fp f) cs.length S' [] (fun _=>.panic t x)=some (out,l):=h;obtain⟨φ2,ys,rfl,g1,g2,_,_,g5⟩:=qZ (vs:=[]) h' b9.mem b9.ka rfl (by simp) nG pa;exact⟨b9.defers.trans qM,φ2,_,_,⟨rfl,rfl⟩,g1,g2,v,rfl,hd.mono (fun _ _ _=>rfl) (Nat.le_refl _) (fun b _=>g5 b)⟩
   |_=>exact he.elim
 ·cases h
theorem Ev.split{P:Program}{gl f r m K}(h1:Ev P gl f (.lit (.slice none 0 0)::r) m K)(h2:Ev P gl f (.nn::r) m K):Ev P gl f (.d (.list [])::r) m K:=by
 intro φ G w vs hm hg hl ha;have go:∀y,(∀v,vs[0]?=some v→aB φ w (Fo G φ m) y v)→∀(i:Nat) x v,(y::r)[i]?=some x→vs[i]?=some v→aB φ w (Fo G φ m) x v:=by
  intro y hy i x v hx hv;cases i with
  |zero=>simp at hx;subst hx;exact hy v hv
  |succ i=>exact ha (i+1) x v (by simpa using hx) hv
 have bV:0<vs.size:=by rw[←hl];simp
 have h0:=ha 0 (.d (.list [])) vs[0] (by simp) (by simp[bV]);generalize D3:vs[0]=v0 at h0;have oY:vs[0]?=some v0:=by rw[←D3];simp[bV]
 cases h0 with
 |d _ _ hd=>
  cases hd with
  |nil a cap hn=>
   cases a with
   |none=>
    have:=hn rfl;subst this;exact h1 φ G w vs hm hg (by simpa using hl) (go _ (fun v hv=>by rw[oY]at hv;cases hv;exact .lit _ rfl))
   |some a=>exact h2 φ G w vs hm hg (by simpa using hl) (go _ (fun v hv=>by rw[oY]at hv;cases hv;exact .nn a cap))
  |list _ b off cap sz WR=>exact h2 φ G w vs hm hg (by simpa using hl) (go _ (fun v hv=>by rw[oY]at hv;cases hv;exact .nn _ cap))
theorem fw{r:Option (Out×List (Nat×aE))}{sz:Nat}(h:emptyVec r=some sz):r=some (.ret (.vec 0 0 0 0),[(0,.vec sz [])]):=by
 unfold emptyVec at h;split at h
 ·cases h;rfl
 ·cases h
theorem Jv{h:List AV→Option AV}{args:List AV}{cs:List aE}{r:Out×List (Nat×aE)}(hr:orcAns h args cs=some r):cs=[]∧∃d,h args=some d∧r=(.ret d,[]):=by
 unfold orcAns at hr;split at hr
 ·split at hr
  ·rename_i d hd;cases hr;exact⟨rfl,d,hd,rfl⟩
  ·cases hr
 ·cases hr
theorem J9:∀{args:List AV}{ds:List D},gn args=some ds→args=ds.map .d
 |[],ds,h=>by
  simp only[gn,Option.some.injEq]at h;subst h;rfl
 |y::r,ds,h=>by
  cases hr:gn r with
  |none=>unfold gn at h;rw[hr]at h;cases y<;>cases h
  |some ys=>
   unfold gn at h;rw[hr]at h;cases y<;>cases h;rw[J9 hr];rfl
theorem abQ(hX:jC X){g:FuncId}{h:List AV→Option AV}(hg:X.wU g=some h){args:List AV}{cs:List aE}{out:Out}{l:List (Nat×aE)}(hr:orcAns h args cs=some (out,l)):
 gE X.P g=true∧Ev X.P X.gl g args (inM 0 cs) fun o m=>o=out∧m=mkM 0 l:=by
 obtain⟨hc,bZ⟩:=hX.wU g h hg;refine⟨hc,?_⟩;obtain⟨rfl,d,hd,he⟩:=Jv hr;cases he;intro φ G w vs hm cv hl ha;have hO:∀b,iy φ (inM 0 []) b→False:=by
  rintro b ⟨e,he,_⟩;simp[inM]at he
 refine (bZ args d hd φ (Fo G φ (inM 0 [])) w vs cv (fun b hb=>hb.elim (hm.bound b) fun h=>(hO b h).elim) hl ha).mono ?_;rintro e w' ⟨v,rfl,hb,qM⟩;refine⟨φ,inM 0 [],.ret d,⟨rfl,rfl⟩,⟨hm.nodup,hm.oH,fun e he=>by simp[inM]at he,fun e he=>by simp[inM]at he,fun b hb=>(hO b hb).elim,fun b p4=>Nat.lt_of_lt_of_le (hm.bound b p4) hb.size⟩,⟨bQ.le_refl _,fun b bz _=>hb.block b bz,fun b _ ho=>ho,hb.size,hb.os,hb.tape,hb.output⟩,?_⟩;exact qM
end
def agd(φ:bQ)(w:World)(F:Nat→Prop)(x:DF)(d:Deferred):Prop:=
 ∃ca:Array Value,d.target=.fn (.func x.1) ca∧x.2.length=(d.args++ca).size∧∀(i:Nat) y v,x.2[i]?=some y→(d.args++ca)[i]?=some v→aB φ w F y v
def mW(φ:bQ)(w:World)(F:Nat→Prop):List DF→List Deferred→Prop
 |[],[]=>True
 |x::xs,d::ds=>agd φ w F x d∧mW φ w F xs ds
 |_,_=>False
theorem mW.keeps{φ m w φ' m' w'}{G:Fr}(h:aP φ m w φ' m' w'):∀{xs:List DF}{ds:List Deferred},mW φ w (Fo G φ m) xs ds→mW φ' w' (Fo G φ' m') xs ds
 |[],[],_=>trivial
 |x::xs,d::ds,⟨⟨ca,h1,h2,h3⟩,h4⟩=>⟨⟨ca,h1,h2,fun i y v hy hv=>h.av (h3 i y v hy hv)⟩,mW.keeps h h4⟩
 |[],_::_,hx=>hx.elim
 |_::_,[],hx=>hx.elim
def vO(n:Nat)(φ:bQ)(g:Nat→Prop)(m:Mem)(w:World)(e:XE)(S':St)(ja:List DF)(e':Exit)(a':Act)(w':World):Prop:=
 ∃φ' s6,S'.n=n∧Rel φ' ⟨g,s6⟩ S' a' w'∧aP φ m w φ' S'.mem w'∧mW φ' w' (Fo ⟨g,s6⟩ φ' S'.mem) ja s6∧(match e' with
  | .normal=>e=.normal
  | .exit id=>e=.exit id
  | .ret=>e=.ret
  | .panic chain=>∃t x v,e=.panic t x∧chain=[{v:=.iface t v,recovered:=false}]∧aK w' (Fo ⟨g,s6⟩ φ' S'.mem) x v
  |_=>False)
theorem vO.weaken{n:Nat}{φ φ1:bQ}{g:Nat→Prop}{m m1:Mem}{w w1:World}{e S' ja e' a' w'}(h:vO n φ1 g m1 w1 e S' ja e' a' w')(hk:aP φ m w φ1 m1 w1):vO n φ g m w e S' ja e' a' w':=by
 obtain⟨φ',s6,h1,h2,h3,h4,h5⟩:=h;exact⟨φ',s6,h1,h2,hk.trans h3,h4,h5⟩
theorem He{S:St}{o:Oper}{d:DF}(h:ml S o=some d):o.guard=none∧∃c fv args hZ g db,o.op=.defer c∧c={callee:=.value fv,args,argTypes:=hZ}∧S.opd fv=(true,.fn g db)∧g<bnB∧okAll S args.toList=true∧d=(g,argVals S args.toList++db):=by
 unfold ml at h;split at h
 ·rename_i fv args hZ hg ho;unfold dfv at h;split at h
  ·rename_i g db fY;split at h
   ·rename_i cV;cases h;simp only[Bool.and_eq_true,decide_eq_true_eq]at cV;exact⟨hg,_,fv,args,hZ,g,db,ho,rfl,fY,cV.2,cV.1,rfl⟩
   ·cases h
  ·cases h
 ·cases h
section
variable {X:Ctx} {cl:bq} {f:FuncId} {n:Nat}
theorem vP{md:Bool}{all:List Oper}(aO:jb X cl):∀(ops:List Oper)(S:St)(ds:List DF)(e:XE)(S':St)(ja:List DF),fC X cl md all ops S ds=some (e,S',ja)→S.gl=X.gl→jv S.n ops=true→
 S'.n=S.n∧S'.gl=S.gl∧∀φ g dv a w,Rel φ ⟨g,dv⟩ S a w→mW φ w (Fo ⟨g,dv⟩ φ S.mem) ds dv→∀Q:Exit→Act→World→Prop,(∀e' a' w',vO S.n φ g S.mem w e S' ja e' a' w'→Q e' a' w')→wpList X.P all.toArray Q ops a w
 |[],S,ds,e,S',ja,h,cv,hd=>by
  simp only[fC,Option.some.injEq,Prod.mk.injEq]at h;obtain⟨rfl,rfl,rfl⟩:=h;exact⟨rfl,rfl,fun φ g dv a w hr jc Q hQ=>hQ .normal _ _ ⟨φ,dv,rfl,hr,aP.refl ..,jc,rfl⟩⟩
 |o::rest,S,ds,e,S',ja,h,cv,hd=>by
  simp only[jv,List.all_cons,Bool.and_eq_true]at hd;obtain⟨qi,hd⟩:=hd;have qO:∀t,o.dst=some t→t<S.n:=fun t ht=>by rw[ht]at qi;simpa using qi
  simp only[fC]at h;cases se:ml S o with
  |some d=>
   rw[se]at h;simp only at h;obtain⟨hg,c,fv,args,hZ,g0,db,ho,hc,fY,J5,cV,rfl⟩:=He se;obtain⟨qK,mB,Ca⟩:=vP aO rest (S.put o.dst true .bf) _ e S' ja h ((kZ ..).trans cv) (by rw[lD];exact hd);refine⟨qK.trans (lD ..),mB.trans (kZ ..),fun φ g dv a w hr jc Q hQ=>?_⟩;have wP:=hr.opd fv (by rw[fY]);rw[fY]at wP;generalize WK:a.eval fv=ald at wP;cases wP with
   |qG _ _ ca fX cd=>exact absurd J5 (Nat.not_lt.2 (Nat.le_add_left _ _))
   |fn _ _ ca bz fX cd=>
    have bP:(execOp a.eval o).run X.P w=.ok (.defer {target:=.fn (.func g0) ca,args:=args.map a.eval}) w:=by
     simp[execOp,ho,hc,resolve,WK,Deferred.ofValue]
    have hw:Region.wanted o (yielded all.toArray a.tmps)=true:=by simp[Region.wanted,hg]
    unfold wpList;rw[if_pos hw];left;unfold Oper.wp;rw[bP,Oper.upon_defer];have rT:Rel φ ⟨g,{target:=.fn (.func g0) ca,args:=args.map a.eval}::dv⟩ S {a with defers:={target:=.fn (.func g0) ca,args:=args.map a.eval}::a.defers} w:=
     ⟨hr.size,by rw[hr.defers],hr.env,hr.mem.dv _,hr.ka⟩
    have iS:=rT.put o.dst qO true .bf undef (fun _=>.bf _);refine Ca φ g _ _ w iS ⟨⟨ca,rfl,?_,?_⟩,?_⟩ Q (fun e' a2 w2 hp=>hQ e' a2 w2 ?_)
    ·rw[List.length_append,iU];simp[fX]
    ·intro i y v hy hv;rw[ff];by_cases hi:i<args.size
     ·rw[List.getElem?_append_left (by rw[iU];simpa using hi),tY]at hy;rw[Array.getElem?_append_left (by simpa using hi)]at hv;simp only[Array.getElem?_map,Option.map_eq_some_iff]at hv;obtain⟨z,hz,rfl⟩:=hv;obtain⟨z',sR,rfl⟩:=Option.map_eq_some_iff.1 hy;rw[Array.getElem?_toList,hz]at sR;cases sR;exact hr.opd z (sM cV z (by simpa using Array.mem_of_getElem? hz))
     ·rw[List.getElem?_append_right (by rw[iU];simpa using hi),iU]at hy;rw[Array.getElem?_append_right (by simpa using hi)]at hv;simp only[Array.size_map,Array.length_toList]at hy hv;exact cd _ _ v hy hv
    ·rw[ff];exact jc
    ·rw[lD,ff]at hp;exact hp
  |none=>
   rw[se]at h;simp only at h;cases hgs:mj X cl md all S o with
   |none=>rw[hgs]at h;cases h
   |some p=>
    obtain⟨e1,S1⟩:=p;rw[hgs]at h;obtain⟨dP,eU,hee,cU⟩:=sc aO cv qO hgs;rcases hee with rfl|⟨t0,x0,rfl⟩
    ·simp only[Fx]at h;obtain⟨qK,mB,Ca⟩:=vP aO rest S1 ds e S' ja h (eU.trans cv) (by rw[dP];exact hd);refine⟨qK.trans dP,mB.trans eU,fun φ g dv a w hr jc Q hQ=>?_⟩;have:=cU φ ⟨g,dv⟩ a w hr (wpList X.P all.toArray Q rest) Q
      (fun _ φ' a' w' b9 aN=>Ca φ' g dv a' w' b9 (jc.keeps aN) Q (fun e' a2 w2 hp=>hQ e' a2 w2 (by rw[←dP];exact hp.weaken aN))) (fun t x he=>by cases he)
     unfold wpList;split
     ·rename_i hw;rw[if_pos hw]at this;exact .inl this
     ·rename_i hw;rw[if_neg hw]at this;exact this
    ·simp only[Fx,Option.some.injEq,Prod.mk.injEq]at h;obtain⟨rfl,rfl,rfl⟩:=h;refine⟨dP,eU,fun φ g dv a w hr jc Q hQ=>?_⟩;have:=cU φ ⟨g,dv⟩ a w hr (wpList X.P all.toArray Q rest) Q
      (fun he=>by cases he) (fun t x he φ' a' w' v b9 aN hv=>hQ (.panic _) a' w' ⟨φ',dv,dP,b9,aN,jc.keeps aN,t,x,v,he,rfl,hv⟩)
     unfold wpList;split
     ·rename_i hw;rw[if_pos hw]at this;exact .inl this
     ·rename_i hw;rw[if_neg hw]at this;exact this
theorem Ka(hX:jC X)(aO:jb X cl){c:Code}{S:St}{ds:List DF}{e:XE}{S':St}{ja:List DF}(h:vH ds (den X f cl n c S)=some (e,S',ja))(cv:S.gl=X.gl)(hd:eB X f S.n c=true):
 S'.n=S.n∧S'.gl=S.gl∧∀φ g dv a w,Rel φ ⟨g,dv⟩ S a w→mW φ w (Fo ⟨g,dv⟩ φ S.mem) ds dv→c.wp X.P (vO S.n φ g S.mem w e S' ja) a w:=by
 cases hq:den X f cl n c S with
 |none=>rw[hq]at h;cases h
 |some p=>
  obtain⟨e1,S1⟩:=p;rw[hq]at h;simp only[vH,Option.some.injEq,Prod.mk.injEq]at h;obtain⟨rfl,rfl,rfl⟩:=h;obtain⟨h1,h2,h3⟩:=Hb hX aO c S e1 S1 hq cv hd;refine⟨h1,h2,fun φ g dv a w hr jc=>wp_mono (h3 φ ⟨g,dv⟩ a w hr) fun e' a' w' hp=>?_⟩;obtain⟨φ',sK,b9,aN,he⟩:=hp.is;exact⟨φ',dv,sK,b9,aN,jc.keeps aN,by cases e'<;>exact he⟩
theorem ZJ(hX:jC X)(aO:jb X cl)(c:Code):∀(S:St)(ds:List DF)(e:XE)(S':St)(ja:List DF),iG X f cl n c S ds=some (e,S',ja)→S.gl=X.gl→eB X f S.n c=true→
 S'.n=S.n∧S'.gl=S.gl∧∀φ g dv a w,Rel φ ⟨g,dv⟩ S a w→mW φ w (Fo ⟨g,dv⟩ φ S.mem) ds dv→c.wp X.P (vO S.n φ g S.mem w e S' ja) a w:=by
 induction c with
 |seq a b qk uH=>
  intro S ds e S' ja h cv hd;simp only[eB,Bool.and_eq_true]at hd;simp only[iG]at h;cases hq:iG X f cl n a S ds with
  |none=>rw[hq]at h;cases h
  |some p=>
   obtain⟨e1,S1,s7⟩:=p;obtain⟨dP,eU,oQ⟩:=qk S ds e1 S1 s7 hq cv hd.1;have stop:e1≠.normal→e=e1∧S'=S1∧ja=s7:=fun he=>by
    rw[hq]at h;cases e1 with
    |normal=>exact absurd rfl he
    |_=>simp only[GM,Option.some.injEq,Prod.mk.injEq]at h;exact⟨h.1.symm,h.2.1.symm,h.2.2.symm⟩
   by_cases he:e1=.normal
   ·subst he;rw[hq]at h;simp only[GM]at h;obtain⟨qK,mB,nJ⟩:=uH S1 s7 e S' ja h (eU.trans cv) (by rw[dP];exact hd.2);refine⟨qK.trans dP,mB.trans eU,fun φ g dv ac w hr jc=>wp_seq (wp_mono (oQ φ g dv ac w hr jc) fun e' a' w' hp=>?_)⟩;obtain⟨φ',s6,h1,h2,h3,h4,h5⟩:=hp;cases e' with
    |normal=>exact wp_mono (nJ φ' g s6 a' w' h2 h4) fun e2 a2 w2 zV=>by rw[dP]at zV;exact zV.weaken h3
    |exit id=>cases h5
    |ret=>cases h5
    |panic chain=>obtain⟨t,x,v,h6,_⟩:=h5;cases h6
    |_=>exact h5.elim
   ·obtain⟨rfl,rfl,rfl⟩:=stop he;refine⟨dP,eU,fun φ g dv ac w hr jc=>wp_seq (wp_mono (oQ φ g dv ac w hr jc) fun e' a' w' hp=>?_)⟩;cases e' with
    |normal=>obtain⟨_,_,_,_,_,_,h5⟩:=hp;exact absurd h5 he
    |_=>exact hp
 |region id ops draw=>
  intro S ds e S' ja h cv hd;simp only[iG]at h;split at h
  ·rename_i hb;simp only[Bool.and_eq_true,Bool.not_eq_true']at hb;obtain⟨rfl,_⟩:=hb;simp only[eB,Bool.and_eq_true]at hd;have Ry:jv S.n ops.toList=true:=hd.1;cases hq:fC X cl (X.md f id) ops.toList ops.toList S ds with
   |none=>rw[hq]at h;cases h
   |some p=>
    obtain⟨e1,S1,s7⟩:=p;rw[hq]at h;obtain⟨dP,eU,oQ⟩:=vP aO ops.toList S ds e1 S1 s7 hq cv Ry;have WQ:∀φ g dv a w,Rel φ ⟨g,dv⟩ S a w→mW φ w (Fo ⟨g,dv⟩ φ S.mem) ds dv→(Code.region id ops false).wp X.P (vO S.n φ g S.mem w e1 S1 s7) a w:=
     fun φ g dv a w hr jc=>wp_region_lit (oQ φ g dv a w hr jc _ (fun _ _ _ h=>h))
    by_cases he:e1=.normal
    ·subst he;simp only[xY,Option.some.injEq,Prod.mk.injEq]at h;obtain⟨rfl,rfl,rfl⟩:=h;obtain⟨t1,t2,t3⟩:=rf X f id S1;refine⟨t1.trans dP,t2.trans eU,fun φ g dv a w hr jc=>wp_mono (WQ φ g dv a w hr jc) fun e' a' w' hp=>?_⟩;obtain⟨φ',s6,h1,h2,h3,h4,h5⟩:=hp;cases e' with
     |normal=>
      obtain⟨φ2,iS,cw⟩:=t3 φ' ⟨g,s6⟩ a' w' h2;exact⟨φ2,s6,t1.trans h1,iS,h3.trans cw,h4.keeps cw,rfl⟩
     |exit id=>cases h5
     |ret=>cases h5
     |panic chain=>obtain⟨t,x,v,h6,_⟩:=h5;cases h6
     |_=>exact h5.elim
    ·have:e=e1∧S'=S1∧ja=s7:=by
      cases e1 with
      |normal=>exact absurd rfl he
      |_=>simp only[xY,Option.some.injEq,Prod.mk.injEq]at h;exact⟨h.1.symm,h.2.1.symm,h.2.2.symm⟩
     obtain⟨rfl,rfl,rfl⟩:=this;exact⟨dP,eU,WQ⟩
  ·exact Ka hX aO h cv hd
 |_=>intro S ds e S' ja h cv hd;exact Ka hX aO (by simpa only[iG]using h) cv hd
end
abbrev Ru:=FuncId→Array Value→World→(Ending→World→Prop)→Prop
def Hf(C:Ru):Prop:=∀f vs w R R',C f vs w R→(∀e w',R e w'→R' e w')→C f vs w R'
def Hg(C:Ru)(gl:List (Nat×D))(f:FuncId)(args:List AV)(m:Mem)(K:Out→Mem→Prop):Prop:=
 ∀φ G w (vs:Array Value),bm φ G m w→eK w (Fo G φ m) gl→args.length=vs.size→(∀(i:Nat) x v,args[i]?=some x→vs[i]?=some v→aB φ w (Fo G φ m) x v)→
  C f vs w fun e w'=>∃φ' m' out,K out m'∧bm φ' G m' w'∧aP φ m w φ' m' w'∧mS φ' w' (Fo G φ' m') out e
theorem Hg.frz{C:Ru}(hC:Hf C){gl f args}{cs:List aE}{out:Out}{l2:List (Nat×aE)}(h:Hg C gl f args (inM 0 cs) fun o m=>o=out∧m=mkM 0 l2)(hl:cs.length≤l2.length):
 Hg C gl f args (inM 0 cs) fun o m=>o=frzO cs.length l2 out∧m=mkM 0 (selL (mkM 0 l2) (List.range cs.length) (fun _=>true) (fun _ v=>v) 0 (List.range cs.length)):=by
 intro φ G w vs hm hg kr ha;refine hC _ _ _ _ _ (h φ G w vs hm hg kr ha) ?_;rintro e w' ⟨φ',m',iQ,⟨rfl,rfl⟩,dx,aN,fh⟩;obtain⟨s1,s2,s3⟩:=yU (G1:=G) (ρ:=List.range cs.length) (bor:=fun _=>true) (nv:=fun _ v=>v) dx List.nodup_range (fun k hk=>uG l2 0 k (Nat.zero_le _) (by simp at hk;omega)) (fun b h=>.inl h) (fun b h=>dx.j9 b h.own)
  (fun k e L b hg _ _ hL ho=>dx.j9 _ ⟨e,(Mem.get_mem hg).1,L,by rw[(Mem.get_mem hg).2];exact hL,ho⟩)
 refine⟨_,_,_,⟨rfl,rfl⟩,s1,⟨?_,aN.xh,?_,aN.size,aN.os,aN.tape,aN.output⟩,?_⟩
 ·intro k L hL;have hk:k<cs.length:=by
   have:=hm.oH k L hL;rw[Gx,o7]at this;simpa using this
  obtain⟨L',h1,h2,h3⟩:=aN.le k L hL;exact⟨L',by simp[bQ.hY,hk,h1],h2,h3⟩
 ·intro b hb ho;exact aN.own b hb ((uz (φ:=φ') (nv:=fun _ v=>v) (bor:=fun _=>true) (fun k hk=>uG l2 0 k (Nat.zero_le _) (by simp at hk;omega)) b).1 ho).own
 ·cases iQ with
  |ret x=>
   cases e with
   |returned v=>exact (s2 x v fh).norm
   |_=>exact fh.elim
  |panic t x=>
   cases e with
   |panicked chain=>
    obtain⟨v,hc,hx⟩:=fh;exact⟨v,hc,hx.mono (fun _ _ _=>rfl) (Nat.le_refl _) (fun b _=>s3 b)⟩
   |_=>exact fh.elim
theorem Jw{C:Ru}(hC:Hf C){gl:List (Nat×D)}{cl:bq}(aO:∀g args cs out l,cl g args cs=some (out,l)→Hg C gl g args (inM 0 cs) fun o m=>o=out∧m=mkM 0 l)
 {m:Mem} {k0:Nat} {g:FuncId} {ys:List AV} {mt:List Nat} {res:fK} (h:callOp cl m k0 g ys mt=some res) {φ:bQ} {G:Fr} {w:World} (hm:bm φ G m w) (cv:eK w (Fo G φ m) gl)
 {vs:Array Value} (hl:ys.length=vs.size) (b7:∀(i:Nat) x v,ys[i]?=some x→vs[i]?=some v→aB φ w (Fo G φ m) x v):
 C g vs w fun e w'=>∃φ',bm φ' G (putAll m res.es) w'∧aP φ m w φ' (putAll m res.es) w'∧mS φ' w' (Fo G φ' (putAll m res.es)) res.out e:=by
 unfold callOp callOp2 callOp3 at h;obtain⟨ρ,hρ⟩:∃ρ,ρ=collect m 64 (argKeys mt 0 ys) []:=⟨_,rfl⟩;have GU:=nY m 64 (argKeys mt 0 ys) [] List.nodup_nil (by simp);rw[←hρ]at h GU;generalize (argBor mt 0 ys).filter (fun k=>!ρ.contains k)=B at h;clear hρ;obtain⟨hn,dV⟩:=GU;unfold callBack at h;split at h
 ·rename_i out l2 ea;split at h
  ·rename_i hc;cases h;have bZ:Hg C gl g (vwArgs (mt.contains 1000) m ρ B ys) (inM 0 (conts (selL m ρ (fun k=>B.contains k) nv0 0 ρ))) fun o m=>o=out∧m=mkM 0 l2:=by
    obtain⟨GQ,l0,h0,h1⟩:=x8 ea;have GW:=aO _ _ _ _ _ h0;rcases h1 with ⟨rfl,rfl⟩|⟨bz,rfl,rfl⟩
    ·exact GW
    ·have GX:(conts (selL m ρ (fun k=>B.contains k) nv0 0 ρ)).length=ρ.length:=by rw[r9,pJ]
     have:=GW.frz hC (by rw[GX];omega);rw[GX]at this;exact this
   simp only[Bool.and_eq_true,Bool.or_eq_true,decide_eq_true_eq]at hc;obtain⟨⟨hlen,D4⟩,dF⟩:=hc;rw[xZ]at bZ;obtain⟨v1,v2,v3⟩:=D7 (B:=B) hm hn dV;have alj:∀(i:Nat) x v,(vwArgs (mt.contains 1000) m ρ B ys)[i]?=some x→vs[i]?=some v→aB (φ.hY ρ nv0) w (Fo (kP φ G m ρ B) (φ.hY ρ nv0) (mkM 0 (selL m ρ (fun k=>B.contains k) nv0 0 ρ))) x v:=by
    intro i x v hx hv;rw[vJ]at hx;obtain⟨y,hy,rfl⟩:=Option.map_eq_some_iff.1 hx;exact (v2 y v (b7 i y v hy hv)).nrm
   have oc:eK w (Fo (kP φ G m ρ B) (φ.hY ρ nv0) (mkM 0 (selL m ρ (fun k=>B.contains k) nv0 0 ρ))) gl:=
    cv.mono (fun _ _ _=>rfl) (Nat.le_refl _) (fun b _=>v3 b)
   refine hC _ _ _ _ _ (bZ (φ.hY ρ nv0) (kP φ G m ρ B) w _ v1 oc (by rw[qA];exact hl) alj) ?_;rintro e w' ⟨φ2,m2,iQ,⟨rfl,rfl⟩,jx,cw,fh⟩;have AL:B=[]∨(plainO iQ=true∧plainL l2=true):=dF.imp (by simp) id;obtain⟨φ',dx,aN,qL⟩:=D8 (B:=B) hm hn dV (fr:=List.range' (k0+1) (l2.length-ρ.length)) List.nodup_range' (AK D4) jx cw (by simp;omega) (AL.imp id fun hp=>vK hp.2);refine⟨φ',dx,aN,?_⟩;cases iQ with
   |ret x=>
    cases e with
    |returned v=>exact qL x v (AL.imp id fun hp=>hp.1) fh
    |_=>exact fh.elim
   |panic t x=>
    cases e with
    |panicked chain=>
     obtain⟨v,rfl,hx⟩:=fh;have:=qL (.d x) v (AL.imp id fun hp=>hp.1) (.d _ _ hx);cases this with
     |d _ _ hd=>exact⟨v,rfl,hd⟩
    |_=>exact fh.elim
  ·cases h
 ·cases h
theorem Eu{P:Program}{ops:Array Oper}{Q:Exit→Act→List Frame→World→Prop}{cs:List Frame}(zW:∀a w,¬Q .outgrown a cs w):∀(l:List Nat)(a:Act)(w:World),
 wpOps P ops (fun e a w=>Q e a cs w) l a w→wpOpsS P ops Q l a cs w
 |[],a,w,h=>h
 |i::rest,a,w,h=>by
  have ih:=Eu (P:=P) (ops:=ops) zW rest;unfold wpOps at h;unfold wpOpsS;split at h
  ·rename_i ho;simp only[ho];exact ih a w h
  ·rename_i o ho;simp only[ho];split at h
   ·rename_i hw;rw[if_pos hw];rcases h with h|⟨_,a0,w0,h⟩
    ·have h2:=Oper.wp_mono (K':=fun a' w'=>wpOpsS P ops Q rest a' cs w') ih h;unfold Oper.wp at h2;split
     ·rename_i w' hr;rw[hr]at h2;exact h2.elim
     ·exact h2
    ·exact absurd h (zW a0 w0)
   ·rename_i hw;rw[if_neg hw];exact ih _ w h
def OC(c0:Frame)(iL:List Frame)(v:Value)(u':FrameMode):Prop:=
 recoverD (c0::iL)=some (v,{c0 with mode:=u'}::iL)∨(recoverD (c0::iL)=none∧v=.nilIface∧u'=c0.mode)
theorem Dl{o:Oper}(h:sX o=true):o.guard=none∧∃hZ,o.op=.call {callee:=.builtin .recover,args:=#[],argTypes:=hZ}:=by
 unfold sX at h;split at h
 ·rename_i args hZ hg ho;refine⟨hg,hZ,?_⟩;rw[ho];have:args=#[]:=by
   cases args with
   |mk l=>cases l with
    |nil=>rfl
    |cons a r=>simp at h
  rw[this]
 ·cases h
abbrev Fy(c0:Frame)(iL:List Frame)(u':FrameMode)(n:Nat)(φ:bQ)(G:Fr)(m:Mem)(w:World)(e:XE)(S':St):Exit→Act→List Frame→World→Prop:=
 fun e' a' lB w'=>lB={c0 with mode:=u'}::iL∧mG n φ G m w (Is e S') e' a' w'
theorem vQ{P:Program}{c:Code}{Q Q':Exit→Act→List Frame→World→Prop}{a:Act}{cs:List Frame}{w:World}(h:c.wpS P Q a cs w)(hq:∀e a cs w,Q e a cs w→Q' e a cs w):c.wpS P Q' a cs w:=
 fun b k hb hr=>let ⟨e,a',lB,w',q,r⟩:=h b k hb hr;⟨e,a',lB,w',hq _ _ _ _ q,r⟩
section
variable {X:Ctx} {cl:bq} {f:FuncId} {n:Nat}
theorem ZK(hX:jC X)(aO:jb X cl)(rv:AV)(c:Code):∀(S:St)(e:XE)(S':St),mJ X f cl n rv c S=some (e,S')→S.gl=X.gl→eB X f S.n c=true→
 S'.n=S.n∧S'.gl=S.gl∧∀φ G a w c0 iL v u',OC c0 iL v u'→aB φ w (Fo G φ S.mem) rv v→Rel φ G S a w→c.wpS X.P (Fy c0 iL u' S.n φ G S.mem w e S') a (c0::iL) w:=by
 induction c with
 |seq a b qk uH=>
  intro S e S' h cv hd;simp only[eB,Bool.and_eq_true]at hd;simp only[mJ]at h;rcases gF h with ⟨S1,h1,h2⟩|⟨h1,h2⟩
  ·obtain⟨dP,eU,oQ⟩:=qk S .normal S1 h1 cv hd.1;obtain⟨qK,mB,nJ⟩:=Hb hX aO b S1 e S' h2 (eU.trans cv) (by rw[dP];exact hd.2);refine⟨qK.trans dP,mB.trans eU,fun φ G ac w c0 iL v u' pf hv hr=>wpS_seq (vQ (oQ φ G ac w c0 iL v u' pf hv hr) ?_)⟩;rintro e' a' lB w' ⟨rfl,hp⟩;obtain⟨φ',sK,b9,aN,he⟩:=hp.is;cases e' with
   |normal=>
    refine wpS_of_wp (wp_mono (nJ φ' G a' w' b9) fun e2 a2 w2 zV=>⟨rfl,?_⟩);rw[dP]at zV;exact zV.weaken aN
   |exit id=>cases he
   |ret=>cases he
   |panic chain=>obtain⟨t,x,v,h6,_⟩:=he;cases h6
   |_=>exact he.elim
  ·obtain⟨dP,eU,oQ⟩:=qk S e S' h1 cv hd.1;refine⟨dP,eU,fun φ G ac w c0 iL v u' pf hv hr=>wpS_seq (vQ (oQ φ G ac w c0 iL v u' pf hv hr) ?_)⟩;rintro e' a' lB w' ⟨rfl,hp⟩;cases e' with
   |normal=>obtain⟨φ',_,_,_,he⟩:=hp.is;exact absurd he h2
   |_=>exact⟨rfl,hp⟩
 |region id ops draw=>
  intro S e S' h cv hd;simp only[mJ]at h;split at h
  ·rename_i o r abS;split at h
   ·rename_i age;obtain⟨hg,hZ,ho⟩:=Dl age;simp only[eB,Bool.and_eq_true]at hd;have Ry:jv S.n ops.toList=true:=hd.1;rw[abS]at Ry;simp only[jv,List.all_cons,Bool.and_eq_true]at Ry;obtain⟨qi,wV⟩:=Ry;have qO:∀t,o.dst=some t→t<S.n:=fun t ht=>by rw[ht]at qi;simpa using qi
    have Fz:(o::r).toArray=ops:=by rw[←abS]
    have key:∀e1 S1,fo X cl (X.md f id) (o::r) r (S.put o.dst true rv)=some (e1,S1)→S1.n=S.n∧S1.gl=S.gl∧∀φ G a w c0 iL v u',OC c0 iL v u'→aB φ w (Fo G φ S.mem) rv v→Rel φ G S a w→
     (Code.region id ops false).wpS X.P (Fy c0 iL u' S.n φ G S.mem w e1 S1) a (c0::iL) w:=by
     intro e1 S1 h1;obtain⟨dP,eU,oQ⟩:=ye aO r (S.put o.dst true rv) e1 S1 h1 ((kZ ..).trans cv) (by rw[lD];exact wV);rw[lD]at dP oQ;rw[kZ]at eU;rw[ff]at oQ;refine⟨dP,eU,fun φ G a w c0 iL v u' pf hv hr=>wpS_region ?_⟩;have bV:List.range ops.size=0::List.range' 1 r.length:=by
      rw[←Fz];simp[List.range_eq_range',List.range'_succ]
     have h0:ops[0]?=some o:=by rw[←Fz];simp
     have bP:(execOp a.eval o).run X.P w=.ok .recover w:=by
      simp[execOp,ho,resolve,Deferred.ofValue,invoke,builtin]
     have rT:=hr.put o.dst qO true rv v (fun _=>hv);have WS:=oQ φ G _ w rT (fun e a w'=>Fy c0 iL u' S.n φ G S.mem w e1 S1 e a ({c0 with mode:=u'}::iL) w') (fun e' a' w' hp=>⟨rfl,hp⟩);rw[Fz,←wpOps_eq_wpList r 1 (fun j=>by rw[←Fz];simp[Nat.add_comm])]at WS;have hS:=Eu (Q:=Fy c0 iL u' S.n φ G S.mem w e1 S1) (cs:={c0 with mode:=u'}::iL) (fun _ _ hh=>hh.2) _ _ _ WS;rw[bV];unfold wpOpsS;simp only[h0];rw[if_pos (by simp[Region.wanted,hg])];simp only[bP];rcases pf with pf|⟨pf,rfl,rfl⟩
     ·rw[pf];exact hS
     ·rw[pf];exact hS
    unfold tT at h;split at h
    ·rename_i S1 h1;cases h;obtain⟨dP,eU,oQ⟩:=key _ _ h1;obtain⟨t1,t2,t3⟩:=rf X f id S1;refine⟨t1.trans dP,t2.trans eU,fun φ G a w c0 iL v u' pf hv hr=>vQ (oQ φ G a w c0 iL v u' pf hv hr) ?_⟩;rintro e' a' lB w' ⟨rfl,hp⟩;refine⟨rfl,?_⟩;obtain⟨φ',sK,b9,aN,he⟩:=hp.is;cases e' with
     |normal=>
      obtain⟨φ2,iS,cw⟩:=t3 φ' G a' w' b9;exact⟨φ2,_,t1.trans sK,⟨rfl,rfl⟩,iS,aN.trans cw⟩
     |exit id=>cases he
     |ret=>cases he
     |panic chain=>obtain⟨t,x,v,h4,_⟩:=he;cases h4
     |_=>exact he.elim
    ·exact key _ _ h
   ·cases h
  ·cases h
 |_=>intro S e S' h;simp[mJ]at h
end
section
variable {X:Ctx} {cl:bq} {f:FuncId} {n:Nat}
theorem Hh{fn:Func}{args:List AV}{cs:List aE}(xC:args.length≤fn.ntmps)(kX:cs.length≤100)(pY:∀k∈(X.fp f).sites,100≤k)(qH:(X.fp f).sites.Nodup)
 {φ:bQ} {G:Fr} {w:World} {vs:Array Value} (qM:G.dv=[]) (hm:bm φ G (inM 0 cs) w) (oc:eK w (Fo G φ (inM 0 cs)) X.gl) (kr:args.length=vs.size)
 (b7:∀(i:Nat) x v,args[i]?=some x→vs[i]?=some v→aB φ w (Fo G φ (inM 0 cs)) x v):
 Rel (φ.add (X.fp f).sites) G (entry fn.ntmps X.gl args cs (X.fp f).sites) {tmps:=vs++Array.replicate (fn.ntmps-vs.size) undef,defers:=[]} w∧
  aP φ (inM 0 cs) w (φ.add (X.fp f).sites) (entry fn.ntmps X.gl args cs (X.fp f).sites).mem w∧(∀k L,φ k=some L→k<cs.length∧L.aj=0):=by
 have mi:∀k,k∈(inM 0 cs).map (·.key)↔k<cs.length:=fun k=>by rw[AQ];simp
 have AR:∀k∈(X.fp f).sites,k∉(inM 0 cs).map (·.key):=by
  intro k hk uB;have h1:=pY k hk;have h2:=(mi k).1 uB;omega
 have pa:∀k L,φ k=some L→k<cs.length∧L.aj=0:=fun k L hL=>by
  have hk:=hm.oH k L hL;obtain⟨e,he,rfl⟩:=List.mem_map.1 hk;obtain⟨L',bU,aA,_⟩:=hm.eZ e he;rw[hL]at bU;cases bU;exact⟨(mi _).1 hk,by rw[aA];exact Dk cs 0 e he⟩
 have Rv:=hm.add qH AR;have sd:aP φ (inM 0 cs) w (φ.add (X.fp f).sites) (inM 0 cs++(X.fp f).sites.map dead) w:=⟨Gw hm AR,fun _ _ _=>rfl,fun b _ ho=>(yV AR b).1 ho,Nat.le_refl _,rfl,rfl,rfl⟩;refine⟨⟨by simp[entry];omega,qM.symm,fun t x hx=>?_,Rv,sd.ka oc⟩,sd,pa⟩;obtain⟨j,rfl,hj⟩:=vC 0 args t _ hx;have gS:j<vs.size:=by rw[←kr];exact (List.getElem?_eq_some_iff.1 hj).1
 have e:(vs++Array.replicate (fn.ntmps-vs.size) undef).getD (0+j) undef=vs[j]:=by
  simp only[Nat.zero_add,Array.getD_eq_getD_getElem?];rw[Array.getElem?_append_left gS];simp[gS]
 rw[e];exact sd.av (b7 j x _ hj (by simp[gS]))
theorem Ew{fn:Func}{cs:List aE}{out:Out}{l:List (Nat×aE)}{φ φ':bQ}{G:Fr}{S':St}{a':Act}{w w':World}(b9:Rel φ' G S' a' w')(nG:aP φ (inM 0 cs) w φ' S'.mem w')
 (pa:∀k L,φ k=some L→k<cs.length∧L.aj=0) (eS:finish X.P (X.fp f) cs.length fn.results.toList S'=some (out,l)):
 ∃v,(results fn a'.tmps).run X.P w'=.ok v w'∧∃my m' iQ,(iQ=out∧m'=mkM 0 l)∧bm my G m' w'∧aP φ (inM 0 cs) w my m' w'∧mS my w' (Fo G my m') iQ (.returned v):=by
 unfold finish at eS;split at eS
 ·rename_i cc xs mU;split at eS
  ·rename_i eT;obtain⟨vl,h1,h2,h3⟩:=vB b9 fn.results.toList cc xs mU eT;obtain⟨φ2,ys,rfl,g1,g2,g3,g4,_⟩:=qZ eS b9.mem b9.ka h2 h3 nG pa;have Hd:(results fn a'.tmps).run X.P w'=.ok (if h:vl.toArray.size=1 then vl.toArray[0]else .tuple vl.toArray) w':=by
    have e:results fn a'.tmps=(do let vs ←fn.results.mapM (xK a'.tmps);pure (if h:vs.size=1 then vs[0]else .tuple vs)):=by
     unfold results;congr 1
    rw[e,Array.mapM_eq_mapM_toList];simp only[Sem.run_bind,Sem.run_map,h1,Result.andThen_ok,Sem.run_pure]
   refine⟨_,Hd,φ2,_,_,⟨rfl,rfl⟩,g1,g2,?_⟩;show aB φ2 w' _ (oneOf ys) _;by_cases kQ:vl.length=1
   ·obtain⟨v,rfl⟩:∃v,vl=[v]:=by
     cases vl with
     |nil=>simp at kQ
     |cons v r=>exact⟨v,by cases r with|nil=>rfl|cons _ _=>simp at kQ⟩
    obtain⟨y,rfl⟩:∃y,ys=[y]:=by
     cases ys with
     |nil=>simp at g3
     |cons v r=>exact⟨v,by cases r with|nil=>rfl|cons _ _=>simp at g3⟩
    simpa [oneOf]using g4 0 y v (by simp) (by simp)
   ·have e:oneOf ys=.aW ys:=by
     cases ys with
     |nil=>rfl
     |cons y r=>cases r with|nil=>simp at g3;omega|cons _ _=>rfl
    rw[e,dif_neg (by simpa using kQ)];exact .aW ys vl.toArray (by simpa using g3) (fun i y v h h'=>g4 i y v h (by simpa using h'))
  ·cases eS
 ·cases eS
def Rz(u:FrameMode)(v:Value):Prop:=(v=.nilIface∧u=.returning)∨∃t x,v=.iface t x∧u=.panicking [{v:=.iface t x,recovered:=false}]
def RuR(P:Program):Ru:=fun f vs w R=>∀u v,vs.back?=some v→Rz u v→CallsD P f vs.pop u w fun e u' w'=>settle u'=.returning∧R e w'
theorem UM(P:Program):Hf (RuR P):=fun f vs w R R' h hr u v hv hm=>(h u v hv hm).mono fun e u' w' hh=>⟨hh.1,hr e w' hh.2⟩
theorem RA(hX:jC X)(aO:jb X cl){fn:Func}{c:Code}{args:List AV}{cs:List aE}{out:Out}{l:List (Nat×aE)}(hf:X.P.funcs[f]?=some fn)(hb:fn.body=some c)
 (h:uC X f cl n fn c args cs=some (out,l)):Hg (RuR X.P) X.gl f args (inM 0 cs) fun o m=>o=out∧m=mkM 0 l:=by
 unfold uC at h;split at h
 ·rename_i rv jA;split at h
  ·rename_i hc;simp only[Bool.and_eq_true,decide_eq_true_eq,List.all_eq_true]at hc;obtain⟨⟨⟨xC,kX⟩,pY⟩,qH⟩:=hc;intro φ G0 w vs Rv oc kr b7 u v hv OD;obtain⟨G,hG⟩:∃G:Fr,G=⟨G0.g,[]⟩:=⟨_,rfl⟩;have qM:G.dv=[]:=by rw[hG]
   have hm:bm φ G (inM 0 cs) w:=by rw[hG];exact Rv.dv []
   have cv:eK w (Fo G φ (inM 0 cs)) X.gl:=by rw[hG];exact oc
   have abU:∀(i:Nat) x v,args[i]?=some x→vs[i]?=some v→aB φ w (Fo G φ (inM 0 cs)) x v:=by rw[hG];exact b7
   have bK:args≠[]:=by rintro rfl;cases jA
   have ni:0<args.length:=List.length_pos_iff.2 bK;have alk:args.dropLast.length=vs.pop.size:=by simp;omega
   obtain⟨e1,e2,pa⟩:=Hh (fn:=fn) xC kX pY qH qM hm cv alk (fun i x v hx hv=>by
    have hi:i<args.length-1:=by have:=(List.getElem?_eq_some_iff.1 hx).1;simpa using this
    refine abU i x v ?_ ?_
    ·rw[List.dropLast_eq_take,List.getElem?_take_of_lt (by omega)]at hx;exact hx
    ·rw[Array.getElem?_pop]at hv;rw[if_pos (by omega)]at hv;exact hv)
   have JM:aB (φ.add (X.fp f).sites) w (Fo G (φ.add (X.fp f).sites) (entry fn.ntmps X.gl args.dropLast cs (X.fp f).sites).mem) rv v:=by
    refine e2.av (abU (args.length-1) rv v ?_ ?_)
    ·rw[←List.getLast?_eq_getElem?];exact jA
    ·rw[Array.back?]at hv;rw[kr];exact hv
   cases hq:mJ X f cl n rv c (entry fn.ntmps X.gl args.dropLast cs (X.fp f).sites)with
   |none=>rw[hq]at h;cases h
   |some p=>
    obtain⟨e,S'⟩:=p;rw[hq]at h;obtain⟨sK,rV,ht⟩:=ZK hX aO rv c _ e S' hq rfl (hX.UK f fn c hf hb);refine callsD_of_wpS hf hb fun c0 iL hu=>?_;obtain⟨u',pf,jM⟩:∃u',OC c0 iL v u'∧settle u'=.returning:=by
     rcases OD with ⟨rfl,rfl⟩|⟨t,x,rfl,rfl⟩
     ·exact⟨.returning,.inr ⟨by simp[recoverD,hu],rfl,hu.symm⟩,rfl⟩
     ·exact⟨.panicking [{v:=.iface t x,recovered:=true}],.inl (by simp[recoverD,hu]),by simp[settle]⟩
    refine vQ (ht _ G _ w c0 iL v u' pf JM e1) ?_;rintro e' a' lB w' ⟨rfl,hp⟩;obtain⟨φ',_,b9,aN,he⟩:=hp.is;have nG:=e2.trans aN;have Hc:finish X.P (X.fp f) cs.length fn.results.toList S'=some (out,l)→a'.defers=[]∧∃u2,({c0 with mode:=u'}::iL)={c0 with mode:=u2}::iL∧∃v,(results fn a'.tmps).run X.P w'=.ok v w'∧(settle u2=.returning∧
     ∃my m' iQ,(iQ=out∧m'=mkM 0 l)∧bm my G0 m' w'∧aP φ (inM 0 cs) w my m' w'∧mS my w' (Fo G0 my m') iQ (.returned v)):=by
     intro eS;obtain⟨v,h1,φ2,m2,o2,h2,h3,h4,h5⟩:=Ew b9 nG pa eS;subst hG;exact⟨b9.defers,u',rfl,v,h1,jM,φ2,m2,o2,h2,h3.dv G0.dv,h4,h5⟩
    cases e' with
    |normal=>cases he;exact Hc h
    |ret=>cases he;exact Hc h
    |exit id=>cases he;cases h
    |panic chain=>obtain⟨t,x,v,rfl,_⟩:=he;cases h
    |_=>exact he.elim
  ·cases h
 ·cases h
end
def WT(X:Ctx)(sY:bq):Prop:=∀g args cs out l,sY g args cs=some (out,l)→gE X.P g=true∧Hg (RuR X.P) X.gl g args (inM 0 cs) fun o m=>o=out∧m=mkM 0 l
theorem Fk{cl:bq}{m:Mem}{k0:Nat}{g:FuncId}{ys:List AV}{mt:List Nat}{res:fK}(h:callOp cl m k0 g ys mt=some res):∃args cs out l,cl g args cs=some (out,l):=by
 unfold callOp callOp2 callOp3 callBack at h;split at h
 ·rename_i out l2 ea;obtain⟨o0,l0,h0,_⟩:=x8 ea;exact⟨_,_,_,_,h0⟩
 ·cases h
section
variable {X:Ctx} {cl sY:bq} {f:FuncId} {n:Nat}
theorem RB(hX:jC X)(aO:jb X cl)(abV:WT X sY){fn:Func}{c:Code}{args:List AV}{cs:List aE}{out:Out}{l:List (Nat×aE)}(hf:X.P.funcs[f]?=some fn)(hb:fn.body=some c)
 (h:uD X f cl sY n fn c args cs=some (out,l)):Ev X.P X.gl f args (inM 0 cs) fun o m=>o=out∧m=mkM 0 l:=by
 unfold uD at h;split at h
 ·rename_i hc;simp only[Bool.and_eq_true,decide_eq_true_eq,List.all_eq_true]at hc;obtain⟨⟨⟨xC,kX⟩,pY⟩,qH⟩:=hc;refine Ev.dv ?_;intro φ G w vs qM hm oc kr b7;obtain⟨e1,e2,pa⟩:=Hh (fn:=fn) xC kX pY qH qM hm oc kr b7;obtain⟨g,dv0⟩:=G;simp only at qM;subst qM;cases hq:iG X f cl n c (entry fn.ntmps X.gl args cs (X.fp f).sites) []with
  |none=>rw[hq]at h;cases h
  |some p=>
   obtain⟨e,S',ja⟩:=p;rw[hq]at h;obtain⟨sK,rV,ht⟩:=ZJ hX aO c _ _ e S' ja hq rfl (hX.UK f fn c hf hb);refine calls_of_wp_defers hf hb (wp_mono (ht _ g [] _ w e1 trivial) fun e' a' w' hp=>?_);obtain⟨φ',s6,_,b9,aN,jc,he⟩:=hp;have nG:=e2.trans aN;have agf:S'.gl=X.gl:=rV;have back:∀{φ2:bQ}{S2:St}{w2:World},Rel φ2 ⟨g,s6⟩ S2 a' w2→aP φ (inM 0 cs) w φ2 S2.mem w2→finish X.P (X.fp f) cs.length fn.results.toList S2=some (out,l)→
    ∃v,(results fn a'.tmps).run X.P w2=.ok v w2∧∃my m' iQ,(iQ=out∧m'=mkM 0 l)∧bm my ⟨g,[]⟩ m' w2∧aP φ (inM 0 cs) w my m' w2∧mS my w2 (Fo ⟨g,[]⟩ my m') iQ (.returned v):=by
    intro φ2 S2 w2 iS cw eS;obtain⟨v,h1,φ3,m3,o3,h2,h3,h4,h5⟩:=Ew iS cw pa eS;exact⟨v,h1,φ3,m3,o3,h2,h3.dv [],h4,h5⟩
   match ja,s6,jc with
   |[],[],_=>
    have se:a'.defers=[]:=b9.defers;simp only[tU]at h;cases e' with
    |normal=>cases he;show Leaves _ _ _ _ a'.defers _ _;rw[se];exact back b9 nG h
    |ret=>cases he;show Leaves _ _ _ _ a'.defers _ _;rw[se];exact back b9 nG h
    |exit id=>cases he;cases h
    |panic chain=>
     obtain⟨t,x,v,rfl,rfl,hd⟩:=he;have h':finVals (X.fp f) cs.length S' [] (fun _=>.panic t x)=some (out,l):=h;obtain⟨φ2,ys,rfl,g1,g2,_,_,g5⟩:=qZ (vs:=[]) h' b9.mem b9.ka rfl (by simp) nG pa;show Leaves _ _ _ _ a'.defers _ _;rw[se];exact⟨φ2,_,_,⟨rfl,rfl⟩,g1,g2,v,rfl,hd.mono (fun _ _ _=>rfl) (Nat.le_refl _) (fun b _=>g5 b)⟩
    |_=>exact he.elim
   |[d],[dd],⟨wV,_⟩=>
    have se:a'.defers=[dd]:=b9.defers;simp only[tU]at h;have one:∀u rv RC,u≠FrameMode.run→Rz u RC→aB φ' w' (Fo ⟨g,[dd]⟩ φ' S'.mem) rv RC→recA e=some rv→
     Leaves X.P fn a'.tmps (fun e w'=>∃φ' m' iQ,(iQ=out∧m'=mkM 0 l)∧bm φ' ⟨g,[]⟩ m' w'∧aP φ (inM 0 cs) w φ' m' w'∧mS φ' w' (Fo ⟨g,[]⟩ φ' m') iQ e) [dd] u w':=by
     intro u rv RC hu OD JM hre;rw[hre]at h;simp only[finD1]at h;cases ea:callOp sY S'.mem 0 d.1 (d.2++[rv]) (X.fp d.1).vD with
     |none=>rw[ea]at h;cases h
     |some res=>
      rw[ea]at h;obtain⟨ca,Ce,hlen,sN⟩:=wV;obtain⟨_,_,_,_,alm⟩:=Fk ea;have s4:=(abV _ _ _ _ _ alm).1;have agh:=Jw (UM X.P) (gl:=X.gl) (fun g args cs out l hh=>(abV g args cs out l hh).2) ea (φ:=φ') (G:=⟨g,[dd]⟩) (w:=w') (vs:=(dd.args++ca).push RC) b9.mem (by rw[←agf];exact b9.ka)
       (by simp[hlen];omega) (fun i x v hx hv=>by
        by_cases hi:i<d.2.length
        ·rw[List.getElem?_append_left hi]at hx;rw[Array.getElem?_push,if_neg (by omega)]at hv;exact sN i x v hx hv
        ·have:i=d.2.length:=by
          have:=(List.getElem?_eq_some_iff.1 hx).1;simp at this;omega
         subst this;rw[List.getElem?_append_right (Nat.le_refl _)]at hx;simp at hx;subst hx;rw[Array.getElem?_push,if_pos hlen]at hv;cases hv;exact JM)
      have hD:=agh u RC (by simp) OD;rw[Array.pop_push]at hD;refine⟨hu,.func d.1,ca,d.1,dd.args++ca,Ce,by rw[Ce];simp[invoke,r6 s4],hD.mono ?_⟩;rintro e2 u2 w2 ⟨jM,φ2,jx,cw,fh⟩;unfold memC at h;split at h
      ·rename_i x es ks heq;cases heq;cases e2 with
       |returned v2=>
        show Leaves _ _ _ _ [] (settle u2) w2;rw[jM];exact back (b9.xk jx cw) (nG.trans cw) h
       |_=>exact fh.elim
      ·cases h
    cases e' with
    |normal=>cases he;show Leaves _ _ _ _ a'.defers _ _;rw[se];exact one .returning _ .nilIface (by simp) (.inl ⟨rfl,rfl⟩) (.lit _ rfl) rfl
    |ret=>cases he;show Leaves _ _ _ _ a'.defers _ _;rw[se];exact one .returning _ .nilIface (by simp) (.inl ⟨rfl,rfl⟩) (.lit _ rfl) rfl
    |exit id=>cases he;cases h
    |panic chain=>
     obtain⟨t,x,v,rfl,rfl,hd⟩:=he;show Leaves _ _ _ _ a'.defers _ _;rw[se];exact one (.panicking [{v:=.iface t v,recovered:=false}]) _ (.iface t v) (by simp) (.inr ⟨t,v,rfl,rfl⟩) (.gL _ _ _ hd) rfl
    |_=>exact he.elim
   |_::_::_,_,_=>cases h
 ·cases h
theorem UN(hX:jC X)(aO:jb X cl):WT X (mm X n cl):=by
 intro g args cs out l h;unfold mm at h;split at h
 ·rename_i fn hf;split at h
  ·rename_i c hb;refine⟨?_,RA hX aO hf hb h⟩;unfold gE;rw[hf];simp[hb,hX.names g fn hf]
  ·cases h
 ·cases h
theorem Hi(hX:jC X):∀n,jb X (aS X n)
 |0=>fun g args cs out l h=>by cases h
 |n+1=>fun g args cs out l h=>by
  have ih:=Hi hX n;simp only[aS,hX.ov]at h;split at h
  ·rename_i h0 J5;exact abQ hX J5 h
  split at h
  ·rename_i fn hf;split at h
   ·rename_i c hb;have ea:gE X.P g=true:=by
     unfold gE;rw[hf];simp[hb,hX.names g fn hf]
    refine⟨ea,?_⟩;cases jc:vI c with
    |true=>
     rw[jc]at h;exact RB hX ih (UN hX ih) hf hb h
    |false=>
    rw[jc]at h;simp only[uE]at h;unfold runSplit at h;split at h
    ·split at h
     ·rename_i r;unfold splitRun at h;split at h
      ·rename_i a b ha aV;split at h
       ·rename_i sQ;subst sQ;have e1:=fw ha;have e2:=fw aV;rw[e1]at h;cases h;exact Ev.split (vN hX ih hf hb e1) (vN hX ih hf hb e2)
       ·cases h
      ·cases h
     ·exact vN hX ih hf hb h
    ·exact vN hX ih hf hb h
   ·cases h
  ·cases h
end
def aJ{α:Type}(f:Nat→Option α):Prop:=∀n r,f n=some r→f (n+1)=some r
theorem aJ.le{α:Type}{f:Nat→Option α}(h:aJ f){n m:Nat}(hnm:n≤m){r:α}(hr:f n=some r):f m=some r:=by
 induction hnm with
 |refl=>exact hr
 |step _ ih=>exact h _ _ ih
theorem aJ.const{α:Type}(x:Option α):aJ fun _=>x:=fun _ _ h=>h
theorem aJ.bind{α β:Type}{f:Nat→Option α}{g:α→Nat→Option β}(hf:aJ f)(hg:∀x,aJ (g x)):aJ fun n=>(f n).bind fun x=>g x n:=by
 intro n r h;obtain⟨x,hx,hr⟩:=Option.bind_eq_some_iff.1 h;simp only[hf n x hx,Option.bind_some];exact hg x n r hr
open Classical in
noncomputable def gv{α:Type}(f:Nat→Option α):Option α:=if h:∃n,(f n).isSome=true then f (Classical.choose h)else none
theorem dD{α:Type}{f:Nat→Option α}(hf:aJ f){r:α}:gv f=some r↔∃n,f n=some r:=by
 unfold gv;constructor
 ·intro h;split at h
  ·exact⟨_,h⟩
  ·cases h
 ·rintro ⟨n,hn⟩;have hex:∃n,(f n).isSome=true:=⟨n,by rw[hn];rfl⟩;rw[dif_pos hex];have hc:=Classical.choose_spec hex;obtain⟨r',b9⟩:=Option.isSome_iff_exists.1 hc;rw[b9];rcases Nat.le_total n (Classical.choose hex)with h1|h1
  ·rw[←b9];exact hf.le h1 hn
  ·have:=hf.le h1 b9;rw[this]at hn;exact hn
theorem aQ{α:Type}(x:Option α):gv (fun _=>x)=x:=by
 cases x with
 |some r=>exact (dD (aJ.const _)).2 ⟨0,rfl⟩
 |none=>unfold gv;rw[dif_neg];rintro ⟨_,h⟩;cases h
theorem ek{α β:Type}{f:Nat→Option α}{g:α→Nat→Option β}(hf:aJ f)(hg:∀x,aJ (g x)):gv (fun n=>(f n).bind fun x=>g x n)=(gv f).bind fun x=>gv (g x):=by
 apply Option.ext;intro r;rw[dD (hf.bind hg),Option.bind_eq_some_iff];constructor
 ·rintro ⟨n,hn⟩;obtain⟨x,hx,hr⟩:=Option.bind_eq_some_iff.1 hn;exact⟨x,(dD hf).2 ⟨n,hx⟩,(dD (hg x)).2 ⟨n,hr⟩⟩
 ·rintro ⟨x,hx,hr⟩;obtain⟨n,hn⟩:=(dD hf).1 hx;obtain⟨m,hm⟩:=(dD (hg x)).1 hr;exact⟨max n m,by rw[hf.le (Nat.le_max_left n m) hn];exact (hg x).le (Nat.le_max_right n m) hm⟩
theorem s8{α:Type}{f:Nat→Option α}(hf:aJ f):gv (fun n=>f (n+1))=gv f:=by
 have WU:aJ fun n=>f (n+1):=fun n r h=>hf (n+1) r h;apply Option.ext;intro r;rw[dD WU,dD hf];exact⟨fun ⟨n,h⟩=>⟨n+1,h⟩,fun ⟨n,h⟩=>⟨n,hf n r h⟩⟩
def aT(k:St→Option (XE×St)):XE×St→Option (XE×St)
 |(.normal,S)=>k S
 |r=>some r
theorem vR(r:Option (XE×St))(k:St→Option (XE×St)):andThen r k=r.bind (aT k):=by
 rcases r with _|⟨e,S⟩
 ·rfl
 ·cases e<;>rfl
def mT(k:St→St):XE×St→Option (XE×St)
 |(.normal,S)=>some (.normal,k S)
 |r=>some r
theorem pg(k:St→St)(r:Option (XE×St)):tT k r=r.bind (mT k):=by
 rcases r with _|⟨e,S⟩
 ·rfl
 ·cases e<;>rfl
def bT(id:Nat):XE×St→Option (XE×St)
 |(.exit mA,S)=>if mA=id then some (.normal,S)else some (.exit mA,S)
 |r=>some r
theorem Hj(id:Nat)(r:Option (XE×St)):B4 id r=r.bind (bT id):=by
 rcases r with _|⟨e,S⟩
 ·rfl
 ·cases e<;>rfl
def cT(m:Mem)(k0:Nat)(ρ B:List Nat)(n0:Nat)(b:Bool)(p:Out×List (Nat×aE)):Option fK:=callBack m k0 ρ B (frzR n0 b (some p))
theorem ub(m:Mem)(k0:Nat)(ρ B:List Nat)(n0:Nat)(b:Bool)(r:Option (Out×List (Nat×aE))):callBack m k0 ρ B (frzR n0 b r)=r.bind (cT m k0 ρ B n0 b):=by cases r<;>rfl
theorem Dm(S:St)(d:Option Nat)(r:Option fK):dg S d r=r.bind fun c=>dg S d (some c):=by cases r<;>rfl
theorem AS(S:St)(o:Oper)(r:Option fK):pN S o r=r.bind fun c=>pN S o (some c):=by cases r<;>rfl
theorem lR(acc:List aU)(r:Option (St×aU))(k:St→List aU→Option (XE×St)):vG acc r k=r.bind fun p=>k p.1 (p.2::acc):=by cases r<;>rfl
theorem Hk(P:Program)(p:ay)(n0:Nat)(rs:List ResultVar)(r:Option (XE×St)):fin P p n0 rs r=r.bind fun q=>fin P p n0 rs (some q):=by cases r<;>rfl
def eH(C:Nat→bq):Prop:=∀g a c,aJ fun k=>C k g a c
section
variable {X:Ctx} {C:Nat→bq} {S:St} {o:Oper} {md:Bool}
theorem pP(hC:eH C)(m:Mem)(k0:Nat)(g:FuncId)(ys:List AV)(mt:List Nat):aJ (fun k=>callOp (C k) m k0 g ys mt):=by
 unfold callOp callOp2 callOp3;simp only[ub];exact (hC _ _ _).bind fun _=>aJ.const _
theorem ku(hC:eH C)(args:List Operand)(fv:Bool×AV):aJ (fun k=>callVal X (C k) S o args fv):=by
 unfold callVal;split
 ·split
  ·exact pP hC _ _ _ _ _
  ·exact aJ.const _
 ·exact aJ.const _
theorem Jx(hC:eH C):aJ (fun k=>qg X (C k) S o):=by
 unfold qg;split
 ·rename_i fv args hZ ho;have h1:(fun k=>dg S o.dst (callVal X (C k) S o args.toList (S.opd fv)))=fun k=>(callVal X (C k) S o args.toList (S.opd fv)).bind fun c=>dg S o.dst (some c):=by
   funext k;exact Dm ..
  rw[h1];exact (ku hC args.toList (S.opd fv)).bind (fun _=>aJ.const _)
 ·exact aJ.const _
 ·exact aJ.const _
theorem uc(hC:eH C)(r:dk):aJ (fun k=>gT X (C k) S o r):=by
 cases r with
 |no=>exact Jx hC
 |val c x=>exact aJ.const _
 |cZ c x e=>exact aJ.const _
theorem Hl(hC:eH C)(b:Bool)(r:dk):aJ (fun k=>nI X (C k) S o b r):=by
 have other:∀r,aJ (fun k=>if b=true then gT X (C k) S o r else some (.normal,S.put o.dst true .bf)):=by
  intro r;split
  ·exact uc hC r
  ·exact aJ.const _
 cases r with
 |no=>exact other .no
 |val c x=>exact aJ.const _
 |cZ c x e=>exact other (.cZ c x e)
theorem ri(hC:eH C)(all:List Oper):aJ (fun k=>mj X (C k) md all S o):=by
 unfold mj;split
 ·exact uc hC _
 ·split
  ·split
   ·exact Hl hC _ _
   ·split
    ·exact uc hC _
    ·exact aJ.const _
  ·exact aJ.const _
  ·exact aJ.const _
theorem oe{F:Nat→Option (XE×St)}{K:St→Nat→Option (XE×St)}(hF:aJ F)(hK:∀S,aJ (K S)):aJ (fun n=>andThen (F n) (fun S=>K S n)):=by
 simp only[vR];refine hF.bind (g:=fun x n=>aT (fun S=>K S n) x) fun x=>?_;obtain⟨e,S⟩:=x;cases e with
 |normal=>exact hK S
 |_=>exact aJ.const _
theorem jP(hC:eH C)(all:List Oper):∀(ops:List Oper)(S:St),aJ (fun k=>fo X (C k) md all ops S)
 |[],S=>aJ.const _
 |o::r,S=>oe (ri hC all) (fun S'=>jP hC all r S')
theorem OE(hC:eH C):aJ (fun k=>kR X (C k) S o):=by
 unfold kR;split
 ·rename_i fv args hZ ho;have h1:(fun k=>pN S o (callVal X (C k) S o args.toList (S.opd fv)))=fun k=>(callVal X (C k) S o args.toList (S.opd fv)).bind fun c=>pN S o (some c):=by
   funext k;exact AS ..
  rw[h1];exact (ku hC args.toList (S.opd fv)).bind (fun _=>aJ.const _)
 ·exact aJ.const _
theorem vS(hC:eH C)(r:dk):aJ (fun k=>dstep X (C k) S o r):=by
 cases r with
 |no=>exact OE hC
 |val c x=>exact aJ.const _
 |cZ c x e=>exact aJ.const _
theorem Jy(hC:eH C)(b:Bool)(r:dk):aJ (fun k=>qh X (C k) S o b r):=by
 have other:∀r,aJ (fun k=>if b=true then dstep X (C k) S o r else some (S.put o.dst true .bf,⟨[],[],true,.bf⟩)):=by
  intro r;split
  ·exact vS hC r
  ·exact aJ.const _
 cases r with
 |no=>exact other .no
 |val c x=>exact aJ.const _
 |cZ c x e=>exact other (.cZ c x e)
theorem lg(hC:eH C)(all:List Oper):aJ (fun k=>dZ X (C k) md all S o):=by
 unfold dZ;split
 ·exact vS hC _
 ·split
  ·split
   ·exact Jy hC _ _
   ·split
    ·exact vS hC _
    ·exact aJ.const _
  ·exact aJ.const _
  ·exact aJ.const _
theorem Dp(S:St)(r:Option fK):tR S r=r.bind fun c=>tR S (some c):=by cases r<;>rfl
theorem Ey(hC:eH C):aJ (fun k=>kq X (C k) S o):=by
 unfold kq;split
 ·unfold AH;split
  ·unfold GJ;split
   ·rename_i fv args hZ ho;have h1:(fun k=>tR S (callVal X (C k) S o args.toList (S.opd fv)))=fun k=>(callVal X (C k) S o args.toList (S.opd fv)).bind fun c=>tR S (some c):=by
     funext k;exact Dp ..
    rw[h1];exact (ku hC args.toList (S.opd fv)).bind (fun _=>aJ.const _)
   ·exact aJ.const _
  ·exact aJ.const _
 ·exact aJ.const _
theorem AT{cl:bq}{all:List Oper}{q:St×aU}(h:dZ X cl md all S o=some q):kq X cl S o=none:=by
 cases hp:kq X cl S o with
 |none=>rfl
 |some p=>
  obtain⟨hg,hs,fv,args,hZ,ho,hc,_⟩:=Em hp;unfold dZ at h;rw[hg]at h;simp only[dstep,kR,hs,ho,hc]at h;cases h
theorem RD(hC:eH C)(nd:Nat×List (List Nat))(all r:List Oper)(acc:List aU){K:Nat→St→List aU→Option (XE×St)}(hK:∀S acc,aJ fun k=>K k S acc):aJ (fun k=>mH X (C k) md nd all r S o acc (K k) (kq X (C k) S o)):=by
 intro n y h;simp only at h⊢;cases hp:kq X (C n) S o with
 |some q=>
  rw[hp]at h;have lE:kq X (C (n+1)) S o=some q:=Ey hC n q hp;rw[lE];exact h
 |none=>
  rw[hp]at h;simp only[mH,lR]at h;cases hg:dZ X (C n) md all S o with
  |none=>rw[hg]at h;cases h
  |some p=>
   have rV:dZ X (C (n+1)) md all S o=some p:=lg hC all n p hg;rw[AT rV];simp only[mH,lR];rw[hg]at h;rw[rV];exact hK _ _ n y h
theorem mX(hC:eH C)(nd:Nat×List (List Nat))(all:List Oper):∀(ops:List Oper)(S:St)(acc:List aU),aJ (fun k=>iq X (C k) md nd all ops S acc)
 |[],S,acc=>aJ.const _
 |o::r,S,acc=>RD hC nd all r acc fun S acc=>mX hC nd all r S acc
def OF(LI:List Cl)(p:St×aU):Option (St×aU):=if sW LI p.2.es=true then some p else none
theorem Kb(LI:List Cl)(r:Option (St×aU)):Di LI r=r.bind (OF LI):=by
 rcases r with _|⟨S,p⟩<;>rfl
theorem s9(hC:eH C)(nd:List (List Nat))(LI:List Cl)(all:List Oper):∀(ops:List Oper)(S:St)(acc:List aU),aJ (fun k=>mI X (C k) md nd LI all ops S acc)
 |[],S,acc=>aJ.const _
 |o::r,S,acc=>by
  simp only[mI,lR];cases lP (nd.getD acc.length []) r with
  |true=>
   simp only[GL];split
   ·exact jP hC all [o] S
   ·exact aJ.const _
  |false=>
  simp only
  cases ob X.P LI S o with
  |some x=>
   simp only[nb,Option.bind_some];exact s9 hC nd LI all r _ _
  |none=>
   simp only[nb,Kb];exact ((lg hC all).bind (g:=fun p _=>OF LI p) fun p=>aJ.const _).bind (g:=fun p n=>mI X (C n) md nd LI all r p.1 (p.2::acc)) fun p=>s9 hC nd LI all r p.1 (p.2::acc)
theorem Ez(hC:eH C)(nd:List (List Nat))(all:List Oper)(S:St)(fl:List (Nat×Nat)):aJ (fun k=>rZ X (C k) md nd all S fl):=by
 cases fl with
 |nil=>exact mX hC _ all all S []
 |cons q r=>
  simp only[rZ];cases eZ S.mem (q::r)with
  |none=>exact aJ.const _
  |some LI=>exact s9 hC nd LI all all S []
theorem EA(f:St→Option (XE×St)):∀(j:Nat)(S:St)(r:XE×St),iter f j S=some r→iter f (j+1) S=some r
 |0,S,r,h=>by cases h
 |j+1,S,r,h=>by
  simp only[iter]at h;rw[iter];rcases gF h with ⟨S1,h1,h2⟩|⟨h1,h2⟩
  ·rw[h1];exact EA f j S1 r h2
  ·rw[h1];obtain⟨e,S1⟩:=r;cases e with
   |normal=>exact absurd rfl h2
   |_=>rfl
theorem sf(f:St→Option (XE×St)){j k:Nat}(h:j≤k){S:St}{r:XE×St}(hr:iter f j S=some r):iter f k S=some r:=by
 induction h with
 |refl=>exact hr
 |step _ ih=>exact EA f _ S r ih
theorem ta{F:Nat→St→Option (XE×St)}(hF:∀S,aJ (fun k=>F k S)):∀(j:Nat)(S:St),aJ (fun k=>iter (F k) j S)
 |0,S=>aJ.const _
 |j+1,S=>oe (hF S) (fun S'=>ta hF j S')
theorem vT(hC:eH C)(f:FuncId){m:Nat→Nat}(hm:∀k,m k≤m (k+1)):∀(c:Code)(S:St),aJ (fun k=>den X f (C k) (m k) c S):=by
 intro c;induction c with
 |region id ops draw=>
  intro S;cases draw with
  |false=>
   simp only[den,pg];exact (jP hC _ _ _).bind fun _=>aJ.const _
  |true=>
   simp only[den,pg];exact (Ez hC _ _ _ _).bind fun _=>aJ.const _
 |seq a b qk uH=>intro S;exact oe (qk S) (fun S'=>uH S')
 |cond c a b qk uH=>
  intro S;simp only[den];unfold B5;split
  ·split
   ·exact qk S
   ·exact uH S
  ·exact aJ.const _
 |block id c ih=>
  intro S;simp only[den,Hj];exact (ih S).bind fun _=>aJ.const _
 |loop c ih=>
  intro S n r h;simp only[den]at h⊢;have h1:=ta (F:=fun k=>den X f (C k) (m k) c) ih (m n) S n r h;exact sf _ (hm n) h1
 |skip=>intro S;exact aJ.const _
 |exit id=>intro S;exact aJ.const _
 |ret=>intro S;exact aJ.const _
 |rangeFunc _ _ _ _=>intro S;exact aJ.const _
 |scope _ _=>intro S;exact aJ.const _
 |label _=>intro S;exact aJ.const _
 |goto _=>intro S;exact aJ.const _
 |refuse _=>intro S;exact aJ.const _
theorem Cf(hC:eH C)(f:FuncId){m:Nat→Nat}(hm:∀k,m k≤m (k+1))(fn:Func)(c:Code)(args:List AV)(cs:List aE):aJ (fun k=>pO X f (C k) (m k) fn c args cs):=by
 unfold pO;split
 ·simp only[Hk X.P (X.fp f) cs.length fn.results.toList (den _ _ _ _ _ _)];exact (vT hC f hm c _).bind fun _=>aJ.const _
 ·exact aJ.const _
theorem wW{F G:Nat→Option (Out×List (Nat×aE))}(hF:aJ F)(hG:aJ G):aJ (fun n=>splitRun (F n) (G n)):=by
 intro n r h;replace h:splitRun (F n) (G n)=some r:=h;show splitRun (F (n+1)) (G (n+1))=some r;unfold splitRun at h;split at h
 ·rename_i a b ha hb;have e1:=fw ha;have e2:=fw hb;have f1:=hF n _ e1;have f2:=hG n _ e2;rw[e1]at h;rw[f1,f2];simp only[splitRun,emptyVec];exact h
 ·cases h
theorem Fl{R:Nat→List AV→Option (Out×List (Nat×aE))}(hR:∀a,aJ (fun n=>R n a))(args:List AV)(b:Bool):aJ (fun n=>runSplit (R n) args b):=by
 unfold runSplit;split
 ·split
  ·exact wW (hR _) (hR _)
  ·exact hR _
 ·exact hR _
def nT(k:St→XD)(ds:List DF):XE×St→XD
 |(.normal,S)=>k S
 |(e,S)=>some (e,S,ds)
theorem AU(k:St→XD)(ds:List DF)(r:Option (XE×St)):Fx k ds r=r.bind (nT k ds):=by
 rcases r with _|⟨e,S⟩
 ·rfl
 ·cases e<;>rfl
def lT(k:St→St):XE×St×List DF→XD
 |(.normal,S,ds)=>some (.normal,k S,ds)
 |r=>some r
theorem yk(k:St→St)(r:XD):xY k r=r.bind (lT k):=by
 rcases r with _|⟨e,S,ds⟩
 ·rfl
 ·cases e<;>rfl
def dT(ds:List DF)(p:XE×St):XD:=some (p.1,p.2,ds)
theorem Dq(ds:List DF)(r:Option (XE×St)):vH ds r=r.bind (dT ds):=by
 rcases r with _|⟨e,S⟩<;>rfl
def sT(k:St→List DF→XD):XE×St×List DF→XD
 |(.normal,S,ds)=>k S ds
 |r=>some r
theorem Kc(k:St→List DF→XD)(r:XD):GM k r=r.bind (sT k):=by
 rcases r with _|⟨e,S,ds⟩
 ·rfl
 ·cases e<;>rfl
theorem lS(hC:eH C)(all:List Oper):∀(ops:List Oper)(S:St)(ds:List DF),aJ (fun k=>fC X (C k) md all ops S ds)
 |[],S,ds=>aJ.const _
 |o::r,S,ds=>by
  simp only[fC];cases ml S o with
  |some d=>exact lS hC all r _ _
  |none=>
   simp only[AU];refine (ri hC all).bind (g:=fun x n=>nT (fun S1=>fC X (C n) md all r S1 ds) ds x) fun x=>?_;obtain⟨e,S1⟩:=x;cases e with
   |normal=>exact lS hC all r S1 ds
   |_=>exact aJ.const _
theorem EB(hC:eH C)(f:FuncId){m:Nat→Nat}(hm:∀k,m k≤m (k+1)):∀(c:Code)(S:St)(ds:List DF),aJ (fun k=>iG X f (C k) (m k) c S ds):=by
 have add:∀(c:Code)(S:St)(ds:List DF),aJ (fun k=>vH ds (den X f (C k) (m k) c S)):=fun c S ds=>by
  simp only[Dq];exact (vT hC f hm c S).bind fun _=>aJ.const _
 intro c;induction c with
 |seq a b qk uH=>
  intro S ds;simp only[iG,Kc];refine (qk S ds).bind (g:=fun x n=>sT (iG X f (C n) (m n) b) x) fun x=>?_;obtain⟨e,S1,s7⟩:=x;cases e with
  |normal=>exact uH S1 s7
  |_=>exact aJ.const _
 |region id ops draw=>
  intro S ds;simp only[iG];split
  ·simp only[yk];exact (lS hC _ _ _ _).bind fun _=>aJ.const _
  ·exact add _ _ _
 |_=>intro S ds;simp only[iG];exact add _ _ _
theorem yl(hC:eH C)(f:FuncId){m:Nat→Nat}(hm:∀k,m k≤m (k+1))(rv:AV):∀(c:Code)(S:St),aJ (fun k=>mJ X f (C k) (m k) rv c S):=by
 intro c;induction c with
 |seq a b qk uH=>intro S;exact oe (qk S) (fun S'=>vT hC f hm b S')
 |region id ops draw=>
  intro S;simp only[mJ];split
  ·split
   ·simp only[pg];exact (jP hC _ _ _).bind fun _=>aJ.const _
   ·exact aJ.const _
  ·exact aJ.const _
 |_=>intro S;simp only[mJ];exact aJ.const _
theorem Ke(P:Program)(p:ay)(n0:Nat)(rs:List ResultVar)(r:Option (XE×St)):Ot P p n0 rs r=r.bind fun q=>Ot P p n0 rs (some q):=by cases r<;>rfl
theorem Jz(hC:eH C)(f:FuncId){m:Nat→Nat}(hm:∀k,m k≤m (k+1))(fn:Func)(c:Code)(args:List AV)(cs:List aE):aJ (fun k=>uC X f (C k) (m k) fn c args cs):=by
 unfold uC;split
 ·split
  ·simp only[Ke X.P (X.fp f) cs.length fn.results.toList (mJ _ _ _ _ _ _ _)];exact (yl hC f hm _ c _).bind fun _=>aJ.const _
  ·exact aJ.const _
 ·exact aJ.const _
theorem Cg(hC:eH C){m:Nat→Nat}(hm:∀k,m k≤m (k+1)):eH (fun k=>mm X (m k) (C k)):=by
 intro g args cs;simp only[mm];split
 ·split
  ·exact Jz hC g hm _ _ _ _
  ·exact aJ.const _
 ·exact aJ.const _
theorem Kf(S:St)(r:Option fK):memC S r=r.bind fun c=>memC S (some c):=by cases r<;>rfl
theorem Kg(X:Ctx)(p:ay)(n0:Nat)(rs:List ResultVar)(r:Option St):finM X p n0 rs r=r.bind fun S=>finish X.P p n0 rs S:=by cases r<;>rfl
theorem Kh(X:Ctx)(p:ay)(n0:Nat)(rs:List ResultVar)(sY:bq)(r:XD):tU X p n0 rs sY r=r.bind fun q=>tU X p n0 rs sY (some q):=by cases r<;>rfl
theorem OG{CR:Nat→bq}(hC:eH CR)(p:ay)(n0:Nat)(rs:List ResultVar)(S:St)(d:DF)(rv:Option AV):aJ (fun k=>finD1 X p n0 rs (CR k) S d rv):=by
 cases rv with
 |none=>exact aJ.const _
 |some rv=>
  simp only[finD1,Kg,Kf S (callOp _ _ _ _ _ _)];exact ((pP hC _ _ _ _ _).bind (g:=fun c _=>memC S (some c)) fun _=>aJ.const _).bind (g:=fun S _=>finish X.P p n0 rs S) fun _=>aJ.const _
theorem Ch{CR:Nat→bq}(hC:eH CR)(p:ay)(n0:Nat)(rs:List ResultVar)(q:XE×St×List DF):aJ (fun k=>tU X p n0 rs (CR k) (some q)):=by
 obtain⟨e,S,ds⟩:=q;match ds with
 |[]=>exact aJ.const _
 |[d]=>exact OG hC p n0 rs S d (recA e)
 |_::_::_=>exact aJ.const _
theorem JA(hC:eH C){CR:Nat→bq}(hR:eH CR)(f:FuncId){m:Nat→Nat}(hm:∀k,m k≤m (k+1))(fn:Func)(c:Code)(args:List AV)(cs:List aE):aJ (fun k=>uD X f (C k) (CR k) (m k) fn c args cs):=by
 unfold uD;split
 ·simp only[Kh X (X.fp f) cs.length fn.results.toList _ (iG _ _ _ _ _ _ _)];exact (EB hC f hm c _ _).bind (g:=fun q n=>tU X (X.fp f) cs.length fn.results.toList (CR n) (some q)) fun q=>Ch hR _ _ _ q
 ·exact aJ.const _
theorem Ci(X:Ctx):∀n g a c r,aS X n g a c=some r→aS X (n+1) g a c=some r
 |0,g,a,c,r,h=>by cases h
 |n+1,g,a,c,r,h=>by
  have ih:=Ci X n;have hC:eH fun k=>if k=0 then aS X n else aS X (n+1):=by
   intro g a c k r h;by_cases hk:k=0
   ·subst hk;exact ih g a c r h
   ·simp only[hk,if_false]at h;simpa using h
  have hm:∀k,(if k=0 then n else n+1)≤(if k+1=0 then n else n+1):=by
   intro k;by_cases hk:k=0<;>simp[hk]
  cases uI:X.ov with
  |some c0=>simp only[aS,uI]at h⊢;exact h
  |none=>
  cases rN:X.wU g with
  |some h0=>simp only[aS,uI,rN]at h⊢;exact h
  |none=>
  cases hf:X.P.funcs[g]? with
  |none=>simp only[aS,uI,rN,hf]at h;cases h
  |some fn=>
   cases hb:fn.body with
   |none=>simp only[aS,uI,rN,hf,hb]at h;cases h
   |some code=>
    have e1:∀k,aS X (k+1) g a c=uE X g (aS X k) k fn code a c (vI code):=by
     intro k;simp only[aS,uI,rN,hf,hb]
    rw[e1]at h⊢;cases jc:vI code with
    |true=>
     rw[jc]at h;exact JA (X:=X) (C:=fun k=>if k=0 then aS X n else aS X (n+1)) (CR:=fun k=>mm X (if k=0 then n else n+1) (if k=0 then aS X n else aS X (n+1))) hC (Cg hC hm) g hm fn code a c 0 r h
    |false=>
    rw[jc]at h;exact Fl (R:=fun k args=>pO X g ((fun k=>if k=0 then aS X n else aS X (n+1)) k) ((fun k=>if k=0 then n else n+1) k) fn code args c) (fun args=>Cf hC g hm fn code args c) a _ 0 r h
theorem bF(X:Ctx):eH (aS X):=fun g a c n r h=>Ci X n g a c r h
end
noncomputable def ai(X:Ctx):bq:=fun g a c=>gv fun k=>aS X k g a c
noncomputable def fT(X:Ctx)(f:FuncId)(c:Code)(S:St):Option (XE×St):=gv fun k=>den X f (aS X k) k c S
theorem bB{X:Ctx}{g a c r}(n:Nat)(h:aS X n g a c=some r):ai X g a c=some r:=(dD (bF X g a c)).2 ⟨n,h⟩
theorem UO{X:Ctx}(hX:jC X):jb X (ai X):=fun g args cs out l h=>by
 obtain⟨n,hn⟩:=(dD (bF X g args cs)).1 h;exact Hi hX n g args cs out l hn
section
variable {X:Ctx} {S:St} {o:Oper} {f:FuncId} {md:Bool}
theorem dm(c:Code)(S:St):aJ (fun k=>den X f (aS X k) k c S):=vT (bF X) f (m:=fun k=>k) (fun k=>Nat.le_succ k) c S
theorem OH(m:Mem)(k0:Nat)(g:FuncId)(ys:List AV)(mt:List Nat):gv (fun k=>callOp (aS X k) m k0 g ys mt)=callOp (ai X) m k0 g ys mt:=by
 unfold callOp callOp2 callOp3;simp only[ub];rw[ek (bF X _ _ _) (fun _=>aJ.const _)];simp only[aQ];rfl
theorem ud(args:List Operand)(fv:Bool×AV):gv (fun k=>callVal X (aS X k) S o args fv)=callVal X (ai X) S o args fv:=by
 unfold callVal;split
 ·split
  ·exact OH ..
  ·exact aQ _
 ·exact aQ _
theorem OI:gv (fun k=>qg X (aS X k) S o)=qg X (ai X) S o:=by
 unfold qg;split
 ·rename_i fv args hZ ho;have h1:(fun k=>dg S o.dst (callVal X (aS X k) S o args.toList (S.opd fv)))=fun k=>(callVal X (aS X k) S o args.toList (S.opd fv)).bind fun c=>dg S o.dst (some c):=by
   funext k;exact Dm ..
  rw[h1,ek (ku (bF X) _ _) (fun _=>aJ.const _),ud,Dm];simp only[aQ]
 ·exact aQ _
 ·exact aQ _
theorem vU(r:dk):gv (fun k=>gT X (aS X k) S o r)=gT X (ai X) S o r:=by
 cases r with
 |no=>exact OI
 |val c x=>exact aQ _
 |cZ c x e=>exact aQ _
theorem JB(b:Bool)(r:dk):gv (fun k=>nI X (aS X k) S o b r)=nI X (ai X) S o b r:=by
 have other:∀r,gv (fun k=>if b=true then gT X (aS X k) S o r else some (.normal,S.put o.dst true .bf))=if b=true then gT X (ai X) S o r else some (.normal,S.put o.dst true .bf):=by
  intro r;split
  ·exact vU r
  ·exact aQ _
 cases r with
 |no=>exact other .no
 |val c x=>exact aQ _
 |cZ c x e=>exact other (.cZ c x e)
theorem EC(all:List Oper):gv (fun k=>mj X (aS X k) md all S o)=mj X (ai X) md all S o:=by
 unfold mj;split
 ·exact vU _
 ·split
  ·split
   ·exact JB _ _
   ·split
    ·exact vU _
    ·exact aQ _
  ·exact aQ _
  ·exact aQ _
theorem ue{F:Nat→Option (XE×St)}{K:St→Nat→Option (XE×St)}(hF:aJ F)(hK:∀S,aJ (K S)):gv (fun n=>andThen (F n) (fun S=>K S n))=andThen (gv F) (fun S=>gv (K S)):=by
 simp only[vR];rw[ek (g:=fun x n=>aT (fun S=>K S n) x) hF (fun x=>by
  obtain⟨e,S⟩:=x;cases e with
  |normal=>exact hK S
  |_=>exact aJ.const _)]
 congr 1;funext x;obtain⟨e,S⟩:=x;cases e<;>first|rfl|exact aQ _
theorem rj(all:List Oper):∀(ops:List Oper)(S:St),gv (fun k=>fo X (aS X k) md all ops S)=fo X (ai X) md all ops S
 |[],S=>aQ _
 |o::r,S=>by
  simp only[fo];have:=ue (F:=fun k=>mj X (aS X k) md all S o) (K:=fun S' k=>fo X (aS X k) md all r S') (ri (bF X) all) (fun S'=>jP (bF X) all r S');rw[EC]at this;simp only[rj all r]at this;exact this
theorem RE:gv (fun k=>kR X (aS X k) S o)=kR X (ai X) S o:=by
 unfold kR;split
 ·rename_i fv args hZ ho;have h1:(fun k=>pN S o (callVal X (aS X k) S o args.toList (S.opd fv)))=fun k=>(callVal X (aS X k) S o args.toList (S.opd fv)).bind fun c=>pN S o (some c):=by
   funext k;exact AS ..
  rw[h1,ek (ku (bF X) _ _) (fun _=>aJ.const _),ud,AS];simp only[aQ]
 ·exact aQ _
theorem ym(r:dk):gv (fun k=>dstep X (aS X k) S o r)=dstep X (ai X) S o r:=by
 cases r with
 |no=>exact RE
 |val c x=>exact aQ _
 |cZ c x e=>exact aQ _
theorem OJ(b:Bool)(r:dk):gv (fun k=>qh X (aS X k) S o b r)=qh X (ai X) S o b r:=by
 have other:∀r,gv (fun k=>if b=true then dstep X (aS X k) S o r else some (S.put o.dst true .bf,(⟨[],[],true,.bf⟩:aU)))=if b=true then dstep X (ai X) S o r else some (S.put o.dst true .bf,⟨[],[],true,.bf⟩):=by
  intro r;split
  ·exact ym r
  ·exact aQ _
 cases r with
 |no=>exact other .no
 |val c x=>exact aQ _
 |cZ c x e=>exact other (.cZ c x e)
theorem Cj(all:List Oper):gv (fun k=>dZ X (aS X k) md all S o)=dZ X (ai X) md all S o:=by
 unfold dZ;split
 ·exact ym _
 ·split
  ·split
   ·exact OJ _ _
   ·split
    ·exact ym _
    ·exact aQ _
  ·exact aQ _
  ·exact aQ _
theorem UP:gv (fun k=>kq X (aS X k) S o)=kq X (ai X) S o:=by
 unfold kq;split
 ·unfold AH;split
  ·unfold GJ;split
   ·rename_i fv args hZ ho;have h1:(fun k=>tR S (callVal X (aS X k) S o args.toList (S.opd fv)))=fun k=>(callVal X (aS X k) S o args.toList (S.opd fv)).bind fun c=>tR S (some c):=by
     funext k;exact Dp ..
    rw[h1,ek (ku (bF X) _ _) (fun _=>aJ.const _),ud,Dp];simp only[aQ]
   ·exact aQ _
  ·exact aQ _
 ·exact aQ _
theorem Ck(nd:Nat×List (List Nat))(all:List Oper):∀(ops:List Oper)(S:St)(acc:List aU),gv (fun k=>iq X (aS X k) md nd all ops S acc)=iq X (ai X) md nd all ops S acc
 |[],S,acc=>aQ _
 |o::r,S,acc=>by
  have hp:∀q,kq X (ai X) S o=some q↔∃k,kq X (aS X k) S o=some q:=fun q=>by rw[←UP];exact dD (Ey (bF X))
  have hg:∀q,dZ X (ai X) md all S o=some q↔∃k,dZ X (aS X k) md all S o=some q:=fun q=>by rw[←Cj];exact dD (lg (bF X) all)
  have hr:∀S acc y,iq X (ai X) md nd all r S acc=some y↔∃k,iq X (aS X k) md nd all r S acc=some y:=fun S acc y=>by rw[←Ck nd all r S acc];exact dD (mX (bF X) nd all r S acc)
  apply Option.ext;intro y;rw[dD (mX (bF X) nd all (o::r) S acc)];simp only[iq];constructor
  ·rintro ⟨k,hk⟩;cases hpk:kq X (aS X k) S o with
   |some q=>
    rw[hpk]at hk;rw[(hp q).2 ⟨k,hpk⟩];exact hk
   |none=>
    rw[hpk]at hk;simp only[mH,lR]at hk;cases hgk:dZ X (aS X k) md all S o with
    |none=>rw[hgk]at hk;cases hk
    |some p=>
     rw[hgk]at hk;have Ki:=(hg p).2 ⟨k,hgk⟩;rw[AT Ki];simp only[mH,lR,Ki,Option.bind_some]at hk⊢;exact (hr _ _ y).2 ⟨k,hk⟩
  ·intro h;cases hpT:kq X (ai X) S o with
   |some q=>
    rw[hpT]at h;obtain⟨k,hk⟩:=(hp q).1 hpT;exact⟨k,by rw[hk];exact h⟩
   |none=>
    rw[hpT]at h;simp only[mH,lR]at h;cases Ki:dZ X (ai X) md all S o with
    |none=>rw[Ki]at h;cases h
    |some p=>
     rw[Ki]at h;simp only[Option.bind_some]at h;obtain⟨k1,gu⟩:=(hg p).1 Ki;obtain⟨k2,cw⟩:=(hr _ _ y).1 h;refine⟨max k1 k2,?_⟩;have mB:=(lg (X:=X) (S:=S) (o:=o) (md:=md) (bF X) all).le (Nat.le_max_left k1 k2) gu;have iS:=(mX (X:=X) (md:=md) (bF X) nd all r p.1 (p.2::acc)).le (Nat.le_max_right k1 k2) cw;rw[AT mB];simp only[mH,lR,mB,Option.bind_some];exact iS
theorem AW(nd:List (List Nat))(LI:List Cl)(all:List Oper):∀(ops:List Oper)(S:St)(acc:List aU),gv (fun k=>mI X (aS X k) md nd LI all ops S acc)=mI X (ai X) md nd LI all ops S acc
 |[],S,acc=>aQ _
 |o::r,S,acc=>by
  simp only[mI,lR];cases lP (nd.getD acc.length []) r with
  |true=>
   simp only[GL];split
   ·exact rj all [o] S
   ·exact aQ _
  |false=>
  simp only
  cases ob X.P LI S o with
  |some x=>
   simp only[nb,Option.bind_some];exact AW nd LI all r _ _
  |none=>
   simp only[nb,Kb];rw[ek (g:=fun p n=>mI X (aS X n) md nd LI all r p.1 (p.2::acc)) ((lg (bF X) all).bind (g:=fun p _=>OF LI p) fun p=>aJ.const _) (fun p=>s9 (bF X) nd LI all r p.1 (p.2::acc)),
    ek (g:=fun p _=>OF LI p) (lg (bF X) all) (fun p=>aJ.const _),Cj]
   simp only[AW nd LI all r,aQ]
theorem UQ(nd:List (List Nat))(all:List Oper)(S:St)(fl:List (Nat×Nat)):gv (fun k=>rZ X (aS X k) md nd all S fl)=rZ X (ai X) md nd all S fl:=by
 cases fl with
 |nil=>exact Ck _ all all S []
 |cons q r=>
  simp only[rZ];cases eZ S.mem (q::r)with
  |none=>exact aQ _
  |some LI=>exact AW nd LI all all S []
theorem RG:fT X f .skip S=some (.normal,S):=aQ _
theorem RH{id:Nat}:fT X f (.exit id) S=some (.exit id,ghs S (X.gh f (id+1000000))):=aQ _
theorem UR:fT X f .ret S=some (.ret,S):=aQ _
theorem US{a b:Code}:fT X f (.seq a b) S=andThen (fT X f a S) (fT X f b):=ue (dm a S) (fun S'=>dm b S')
theorem RI{c:Operand}{a b:Code}:fT X f (.cond c a b) S=B5 (fT X f a S) (fT X f b S) (S.opd c):=by
 unfold fT;simp only[den];unfold B5;split
 ·split<;>rfl
 ·exact aQ _
theorem OK{id:Nat}{c:Code}:fT X f (.block id c) S=B4 id (fT X f c S):=by
 unfold fT;simp only[den,Hj];rw[ek (dm c S) (fun _=>aJ.const _)];simp only[aQ]
theorem JC{id:Nat}{ops:Array Oper}:fT X f (.region id ops false) S=tT (St.leave X f id) (fo X (ai X) (X.md f id) ops.toList ops.toList S):=by
 unfold fT;simp only[den,pg];rw[ek (jP (bF X) _ _ _) (fun _=>aJ.const _),rj];simp only[aQ]
theorem RJ{id:Nat}{ops:Array Oper}:fT X f (.region id ops true) S=tT (St.leave X f id) (rZ X (ai X) (X.md f id) (X.od f id) ops.toList S (X.fl f id)):=by
 unfold fT;simp only[den,pg];rw[ek (Ez (bF X) _ _ _ _) (fun _=>aJ.const _),UQ];simp only[aQ]
theorem RL{c:Code}:fT X f (.loop c) S=andThen (fT X f c S) (fT X f (.loop c)):=by
 apply Option.ext;intro r;have hl:∀S r,fT X f (.loop c) S=some r↔∃k,iter (den X f (aS X k) k c) k S=some r:=fun S r=>dD (dm (.loop c) S);have hi:∀{k j i:Nat}{S r},k≤j→i≤j→iter (den X f (aS X k) k c) i S=some r→iter (den X f (aS X j) j c) j S=some r:=by
  intro k j i S r hk kj h;exact sf _ kj ((ta (F:=fun k=>den X f (aS X k) k c) (fun S=>dm c S) i S).le hk h)
 rw[hl];constructor
 ·rintro ⟨k,hk⟩;cases k with
  |zero=>cases hk
  |succ k=>
   simp only[iter]at hk;rcases gF hk with ⟨S1,h1,h2⟩|⟨h1,h2⟩
   ·have:fT X f c S=some (.normal,S1):=(dD (dm c S)).2 ⟨k+1,h1⟩;rw[this];exact (hl S1 r).2 ⟨k+1,hi (Nat.le_refl _) (Nat.le_succ k) h2⟩
   ·have:fT X f c S=some r:=(dD (dm c S)).2 ⟨k+1,h1⟩;rw[this];obtain⟨e,S1⟩:=r;cases e with
    |normal=>exact absurd rfl h2
    |_=>rfl
 ·intro h;rcases gF h with ⟨S1,h1,h2⟩|⟨h1,h2⟩
  ·obtain⟨k,hk⟩:=(dD (dm c S)).1 h1;obtain⟨j,hj⟩:=(hl S1 r).1 h2;refine⟨max k j+1,?_⟩;rw[iter,(dm c S).le (show k≤max k j+1 by omega) hk];have:=(ta (F:=fun k=>den X f (aS X k) k c) (fun S=>dm c S) j S1).le (show j≤max k j+1 by omega) hj;exact sf _ (show j≤max k j by omega) this
  ·obtain⟨k,hk⟩:=(dD (dm c S)).1 h1;refine⟨k+1,?_⟩;rw[iter,(dm c S).le (Nat.le_succ k) hk];obtain⟨e,S1⟩:=r;cases e with
   |normal=>exact absurd rfl h2
   |_=>rfl
noncomputable def Cm(X:Ctx)(f:FuncId)(fn:Func)(c:Code)(cs:List aE)(args:List AV):Option (Out×List (Nat×aE)):=
 if (decide (args.length≤fn.ntmps)&&decide (cs.length≤100)&&(X.fp f).sites.all (fun k=>decide (100≤k))&&decide (X.fp f).sites.Nodup)=true then
  fin X.P (X.fp f) cs.length fn.results.toList (fT X f c (entry fn.ntmps X.gl args cs (X.fp f).sites))
 else none
theorem yn{h:List AV→Option AV}{args:List AV}{cs:List aE}(uI:X.ov=none)(rN:X.wU f=some h):ai X f args cs=orcAns h args cs:=by
 unfold ai;rw[←s8 (bF X f args cs)];have:(fun n=>aS X (n+1) f args cs)=fun _=>orcAns h args cs:=by funext n;simp only[aS,uI,rN]
 rw[this,aQ]
theorem UT{fn:Func}{c:Code}{args:List AV}{cs:List aE}(uI:X.ov=none)(rN:X.wU f=none)(hf:X.P.funcs[f]?=some fn)(hb:fn.body=some c)(jc:vI c=false):
 ai X f args cs=runSplit (Cm X f fn c cs) args (X.fp f).split:=by
 have hm:∀args,aJ (fun k=>pO X f (aS X k) k fn c args cs):=fun args=>Cf (bF X) f (m:=fun k=>k) (fun k=>Nat.le_succ k) fn c args cs;have hr:∀args,gv (fun k=>pO X f (aS X k) k fn c args cs)=Cm X f fn c cs args:=by
  intro args;unfold pO Cm;split
  ·rename_i h;have h1:(fun k=>fin X.P (X.fp f) cs.length fn.results.toList (den X f (aS X k) k c (entry fn.ntmps X.gl args cs (X.fp f).sites)))=fun k=>(den X f (aS X k) k c (entry fn.ntmps X.gl args cs (X.fp f).sites)).bind fun q=>fin X.P (X.fp f) cs.length fn.results.toList (some q):=by
    funext k;exact Hk ..
   rw[h1,ek (dm c _) (fun _=>aJ.const _),Hk];simp only[aQ];rfl
  ·exact aQ _
 have e1:ai X f args cs=gv (fun k=>runSplit (fun args=>pO X f (aS X k) k fn c args cs) args (X.fp f).split):=by
  unfold ai;rw[←s8 (bF X f args cs)];congr 1;funext k;rw[aS,uI,rN,hf];simp only[hb,jc,uE]
 rw[e1];unfold runSplit;split
 ·split
  ·rename_i r;apply Option.ext;intro y;rw[dD (wW (hm _) (hm _)),←hr,←hr];constructor
   ·rintro ⟨n,hn⟩;unfold splitRun at hn⊢;split at hn
    ·rename_i a b ha aV;have f1:=(dD (hm _)).2 ⟨n,fw ha⟩;have f2:=(dD (hm _)).2 ⟨n,fw aV⟩;rw[f1,f2];rw[fw ha]at hn;exact hn
    ·cases hn
   ·intro h;unfold splitRun at h;split at h
    ·rename_i a b ha aV;obtain⟨n,hn⟩:=(dD (hm _)).1 (fw ha);obtain⟨m,jx⟩:=(dD (hm _)).1 (fw aV);refine⟨max n m,?_⟩;rw[(hm _).le (Nat.le_max_left n m) hn,(hm _).le (Nat.le_max_right n m) jx];rw[fw ha]at h;exact h
    ·cases h
  ·exact hr _
 ·exact hr _
end
abbrev bS:=Option (Out×List (Nat×aE))
abbrev Kt:=XE→St→bS
noncomputable def aI(X:Ctx)(f:FuncId)(c:Code)(S:St)(k:Kt):bS:=(fT X f c S).bind fun p=>k p.1 p.2
noncomputable def runK(X:Ctx)(md:Bool)(all ops:List Oper)(S:St)(k:Kt):bS:=(fo X (ai X) md all ops S).bind fun p=>k p.1 p.2
noncomputable def ky(X:Ctx)(md:Bool)(nd:Nat×List (List Nat))(all ops:List Oper)(S:St)(acc:List aU)(k:Kt):bS:=(iq X (ai X) md nd all ops S acc).bind fun p=>k p.1 p.2
noncomputable def yo(X:Ctx)(f:FuncId)(b:Code)(k:Kt):Kt
 | .normal,S=>aI X f b S k
 |e,S=>k e S
def AX(id:Nat)(k:Kt):Kt
 | .exit mA,S=>if mA=id then k .normal S else k (.exit mA) S
 |e,S=>k e S
noncomputable def Cn(X:Ctx)(f:FuncId)(c:Code)(k:Kt):Kt
 | .normal,S=>aI X f (.loop c) S k
 |e,S=>k e S
def yp(X:Ctx)(f:FuncId)(id:Nat)(k:Kt):Kt
 | .normal,S=>k .normal (S.leave X f id)
 |e,S=>k e S
def AY(P:Program)(p:ay)(n0:Nat)(rs:List ResultVar):Kt
 | .normal,S=>finish P p n0 rs S
 | .ret,S=>finish P p n0 rs S
 | .panic t x,S=>finPanic p n0 t x S
 | .exit _,_=>none
def isB:Bool×AV→Bool
 |(true,.d (.bool _))=>true
 |_=>false
def boolOf:Bool×AV→Bool
 |(_,.d (.bool b))=>b
 |_=>false
def Env.kn:Env→Nat→Bool→Env
 |[],_,_=>[]
 |(t,x)::r,c,b=>if t=c then (t,true,.d (.bool b))::r else (t,x)::Env.kn r c b
def St.kn(S:St)(c:Nat)(b:Bool):St:={S with env:=Env.kn S.env c b}
section
variable {X:Ctx} {f:FuncId} {S:St} {k:Kt}
theorem sg(r:Option (XE×St))(g:St→Option (XE×St)):(andThen r g).bind (fun p=>k p.1 p.2)=r.bind fun p=>match p with
 |(.normal,S)=>(g S).bind fun p=>k p.1 p.2
 |(e,S)=>k e S:=by
 rcases r with _|⟨e,S⟩
 ·rfl
 ·cases e<;>rfl
theorem denK_skip:aI X f .skip S k=k .normal S:=by simp only[aI,RG,Option.bind_some]
theorem denK_exit{id:Nat}:aI X f (.exit id) S k=k (.exit id) (ghs S (X.gh f (id+1000000))):=by simp only[aI,RH,Option.bind_some]
theorem denK_ret:aI X f .ret S k=k .ret S:=by simp only[aI,UR,Option.bind_some]
theorem denK_seq{a b:Code}:aI X f (.seq a b) S k=aI X f a S (yo X f b k):=by
 simp only[aI,US,sg];congr 1;funext p;obtain⟨e,S⟩:=p;cases e<;>rfl
theorem ah{c:Code}:aI X f (.loop c) S k=aI X f c S (Cn X f c k):=by
 rw[aI,RL,sg,aI];congr 1;funext p;obtain⟨e,S⟩:=p;cases e<;>rfl
theorem denK_block{id:Nat}{c:Code}:aI X f (.block id c) S k=aI X f c S (AX id k):=by
 simp only[aI,OK];rcases fT X f c S with _|⟨e,S⟩
 ·rfl
 ·cases e with
  |exit mA=>
   simp only[B4,Option.bind_some,AX];split<;>rfl
  |_=>rfl
theorem ED{c:Operand}{a b:Code}:aI X f (.cond c a b) S k=if isB (S.opd c)=true then (if boolOf (S.opd c)=true then aI X f a S k else aI X f b S k)else none:=by
 simp only[aI,RI];generalize S.opd c=v;obtain⟨g,x⟩:=v;cases g with
 |false=>rfl
 |true=>
  cases x with
  |d x=>
   cases x with
   |bool t=>cases t<;>rfl
   |_=>rfl
  |_=>rfl
theorem WV{b:Bool}:∀{env:Env}{c:Nat},Env.lk env c=some (true,.d (.bool b))→Env.kn env c b=env
 |[],c,h=>by cases h
 |(t,x)::r,c,h=>by
  simp only[Env.lk]at h;simp only[Env.kn];split
  ·rename_i ht;rw[if_pos ht]at h;cases h;rfl
  ·rename_i ht;rw[if_neg ht]at h;rw[WV h]
theorem abZ{c:Tmp}{b:Bool}(h:S.opd (.tmp c)=(true,.d (.bool b))):Env.lk S.env c=some (true,.d (.bool b)):=by
 simp only[St.opd]at h;cases hl:Env.lk S.env c with
 |none=>rw[hl]at h;simp at h
 |some x=>rw[hl]at h;simp only[Option.getD_some]at h;rw[h]
theorem denK_condT{c:Tmp}{a b:Code}:aI X f (.cond (.tmp c) a b) S k=if isB (S.opd (.tmp c))=true then (if boolOf (S.opd (.tmp c))=true then aI X f a (S.kn c true) k else aI X f b (S.kn c false) k)else none:=by
 rw[ED];generalize hv:S.opd (.tmp c)=v;obtain⟨g,x⟩:=v;cases g with
 |false=>rfl
 |true=>
  cases x with
  |d x=>
   cases x with
   |bool t=>
    have:S.kn c t=S:=by
     unfold St.kn;rw[WV (abZ hv)]
    cases t with
    |true=>rw[this];rfl
    |false=>rw[this];rfl
   |_=>rfl
  |_=>rfl
theorem denK_condC{v:Value}{a b:Code}:aI X f (.cond (.const v) a b) S k=if isB (S.opd (.const v))=true then (if boolOf (S.opd (.const v))=true then aI X f a S k else aI X f b S k)else none:=ED
theorem denK_region{id:Nat}{l:List Oper}:aI X f (.region id ⟨l⟩ false) S k=runK X (X.md f id) l l S (yp X f id k):=by
 simp only[aI,JC,runK];rcases fo X (ai X) (X.md f id) l l S with _|⟨e,S⟩
 ·rfl
 ·cases e<;>rfl
noncomputable def zb(X:Ctx)(md:Bool)(nd:List (List Nat))(l:List Oper)(S:St)(k:Kt):List (Nat×Nat)→bS
 |[]=>ky X md (verSum S.mem,nd) l l S [] k
 |q::r=>(Oq X (ai X) md nd l S (eZ S.mem (q::r))).bind fun p=>k p.1 p.2
theorem denK_draw{id:Nat}{l:List Oper}:aI X f (.region id ⟨l⟩ true) S k=zb X (X.md f id) (X.od f id) l S (yp X f id k) (X.fl f id):=by
 simp only[aI,RJ];cases X.fl f id with
 |nil=>
  simp only[rZ,zb,ky];rcases iq X (ai X) (X.md f id) (verSum S.mem,X.od f id) l l S []with _|⟨e,S⟩
  ·rfl
  ·cases e<;>rfl
 |cons q r=>
  simp only[rZ,zb];rcases Oq X (ai X) (X.md f id) (X.od f id) l S (eZ S.mem (q::r))with _|⟨e,S⟩
  ·rfl
  ·cases e<;>rfl
noncomputable def zc(X:Ctx)(md:Bool)(nd:List (List Nat))(LI:List Cl)(all ops:List Oper)(S:St)(acc:List aU)(k:Kt):bS:=(mI X (ai X) md nd LI all ops S acc).bind fun p=>k p.1 p.2
noncomputable def FA(X:Ctx)(md:Bool)(nd:List (List Nat))(LI:List Cl)(all r:List Oper)(acc:List aU)(k:Kt):Option (St×aU)→bS
 |some (S,p)=>zc X md nd LI all r S (p::acc) k
 |none=>none
theorem drwKA_n{md:Bool}{nd:List (List Nat)}{l:List Oper}:zb X md nd l S k []=ky X md (verSum S.mem,nd) l l S [] k:=rfl
noncomputable def FB(X:Ctx)(md:Bool)(nd:List (List Nat))(l:List Oper)(S:St)(k:Kt):Option (List Cl)→bS
 |some LI=>zc X md nd LI l l S [] k
 |none=>none
theorem Dr{md:Bool}{nd:List (List Nat)}{l:List Oper}{q:Nat×Nat}{r:List (Nat×Nat)}:zb X md nd l S k (q::r)=FB X md nd l S k (eZ S.mem (q::r)):=by
 simp only[zb];cases eZ S.mem (q::r)<;>rfl
noncomputable def ze(X:Ctx)(md:Bool)(nd:List (List Nat))(LI:List Cl)(all r:List Oper)(S:St)(o:Oper)(acc:List aU)(k:Kt):Bool→bS
 |true=>if ordD nd acc.reverse=true then runK X md all [o] S k else none
 |false=>FA X md nd LI all r acc k (nb X (ai X) md LI all S o (ob X.P LI S o))
theorem vV{md:Bool}{nd:List (List Nat)}{LI:List Cl}{all r:List Oper}{o:Oper}{acc:List aU}:zc X md nd LI all (o::r) S acc k=ze X md nd LI all r S o acc k (lP (nd.getD acc.length []) r):=by
 simp only[zc,mI];cases lP (nd.getD acc.length []) r with
 |true=>
  simp only[GL,ze];split
  ·rfl
  ·rfl
 |false=>
  simp only[ze];rcases nb X (ai X) md LI all S o (ob X.P LI S o)with _|⟨S1,p⟩<;>rfl
theorem seqK_n{b:Code}:yo X f b k .normal S=aI X f b S k:=rfl
theorem seqK_x{b:Code}{id:Nat}:yo X f b k (.exit id) S=k (.exit id) S:=rfl
theorem seqK_r{b:Code}:yo X f b k .ret S=k .ret S:=rfl
theorem seqK_p{b:Code}{t:TypeId}{x:D}:yo X f b k (.panic t x) S=k (.panic t x) S:=rfl
theorem blkK_n{id:Nat}:AX id k .normal S=k .normal S:=rfl
theorem blkK_x{id mA:Nat}:AX id k (.exit mA) S=if mA=id then k .normal S else k (.exit mA) S:=rfl
theorem blkK_r{id:Nat}:AX id k .ret S=k .ret S:=rfl
theorem blkK_p{id:Nat}{t:TypeId}{x:D}:AX id k (.panic t x) S=k (.panic t x) S:=rfl
theorem loopK_n{c:Code}:Cn X f c k .normal S=aI X f (.loop c) S k:=rfl
theorem loopK_x{c:Code}{id:Nat}:Cn X f c k (.exit id) S=k (.exit id) S:=rfl
theorem loopK_r{c:Code}:Cn X f c k .ret S=k .ret S:=rfl
theorem loopK_p{c:Code}{t:TypeId}{x:D}:Cn X f c k (.panic t x) S=k (.panic t x) S:=rfl
theorem leaveK_n{id:Nat}:yp X f id k .normal S=k .normal (S.leave X f id):=rfl
theorem leaveK_p{id:Nat}{t:TypeId}{x:D}:yp X f id k (.panic t x) S=k (.panic t x) S:=rfl
theorem finK_n{P:Program}{p:ay}{n0:Nat}{rs:List ResultVar}:AY P p n0 rs .normal S=finish P p n0 rs S:=rfl
theorem finK_r{P:Program}{p:ay}{n0:Nat}{rs:List ResultVar}:AY P p n0 rs .ret S=finish P p n0 rs S:=rfl
theorem finK_p{P:Program}{p:ay}{n0:Nat}{rs:List ResultVar}{t:TypeId}{x:D}:AY P p n0 rs (.panic t x) S=finPanic p n0 t x S:=rfl
end
def gdst(all:List Oper)(o:Oper):Option Nat:=
 match o.guard with
 |some (j,_)=>dstAt all j
 |none=>none
noncomputable def callK(X:Ctx)(md:Bool)(S:St)(d:Option Nat)(all r:List Oper)(k:Kt):Option fK→bS
 |some ⟨.ret x,es,_⟩=>runK X md all r (({S with mem:=putAll S.mem es}:St).put d true x) k
 |some ⟨.panic t x,es,_⟩=>k (.panic t x) {S with mem:=putAll S.mem es}
 |none=>none
def panicK(S:St)(k:Kt):Bool×AV→bS
 |(true,.gL t d)=>k (.panic t d) S
 |_=>none
noncomputable def specK(X:Ctx)(md:Bool)(S:St)(o:Oper)(all r:List Oper)(k:Kt):Op→bS
 | .call {callee:=.value fv,args,..}=>callK X md S o.dst all r k (callVal X (ai X) S o args.toList (S.opd fv))
 | .panic x=>panicK S k (S.opd x)
 |_=>none
noncomputable def stepK(X:Ctx)(md:Bool)(S:St)(o:Oper)(all r:List Oper)(k:Kt):dk→bS
 | .val c x=>if (opOk S o&&c)=true then runK X md all r (S.put o.dst true x) k else none
 | .cZ c x e=>if (opOk S o&&c)=true then runK X md all r (({S with mem:=Mem.set S.mem e}:St).put o.dst true x) k else none
 | .no=>specK X md S o all r k o.op
noncomputable def guardK(X:Ctx)(md:Bool)(S:St)(o:Oper)(all r:List Oper)(k:Kt)(b:Bool):dk→bS
 | .val c x=>if b=true→(opOk S o&&c)=true then runK X md all r (S.put o.dst b x) k else none
 | .cZ c x e=>if b=true then stepK X md S o all r k (.cZ c x e)else runK X md all r (S.put o.dst true .bf) k
 | .no=>if b=true then specK X md S o all r k o.op else runK X md all r (S.put o.dst true .bf) k
noncomputable def forkK(X:Ctx)(S:St)(o:Oper)(all r:List Oper)(k:Kt)(want t:Bool):Bool→bS
 |false=>guardK X false S o all r k (t == want) (stepv X.P S o)
 |true=>if (t == want)=true then stepK X true (S.cz (gdst all o) want) o all r k (stepv X.P (S.cz (gdst all o) want) o)else runK X true all r ((S.cz (gdst all o) (!want)).put o.dst true (.aW [])) k
noncomputable def grdK(X:Ctx)(md:Bool)(S:St)(o:Oper)(all r:List Oper)(k:Kt)(want:Bool):GV→bS
 | .qN t=>forkK X S o all r k want t md
 | .skip=>runK X md all r (S.put o.dst true (.aW [])) k
 | .bad=>none
section
variable {X:Ctx} {f:FuncId} {S:St} {k:Kt} {all r:List Oper} {md:Bool}
theorem vW(o:Oper)(res:dk):(andThen (gT X (ai X) S o res) (fo X (ai X) md all r)).bind (fun p=>k p.1 p.2)=stepK X md S o all r k res:=by
 cases res with
 |val c x=>simp only[gT,stepK];split<;>rfl
 |cZ c x e=>simp only[gT,stepK];split<;>rfl
 |no=>
  simp only[gT,stepK,qg];split
  ·rename_i fv args hZ ho;rw[ho];simp only[specK];rcases callVal X (ai X) S o args.toList (S.opd fv)with _|⟨out,es,ks⟩
   ·rfl
   ·cases out<;>rfl
  ·rename_i x ho;rw[ho];simp only[specK];generalize S.opd x=v;obtain⟨g,y⟩:=v;cases g<;>cases y<;>rfl
  ·rename_i h1 h2;unfold specK;split
   ·rename_i heq;exact absurd heq (h1 _ _ _)
   ·rename_i heq;exact absurd heq (h2 _)
   ·rfl
theorem runK_nil:runK X md all [] S k=k .normal S:=rfl
theorem runK_cons{d:Option Tmp}{op:Op}{ty:TypeId}{pos:String}{af:Array Edge}:runK X md all (⟨d,op,ty,pos,af,none⟩::r) S k=stepK X md S ⟨d,op,ty,pos,af,none⟩ all r k (stepv X.P S ⟨d,op,ty,pos,af,none⟩):=
 vW _ _
theorem runK_guard{d:Option Tmp}{op:Op}{ty:TypeId}{pos:String}{af:Array Edge}{j:Nat}{w:Bool}:runK X md all (⟨d,op,ty,pos,af,some (j,w)⟩::r) S k=grdK X md S ⟨d,op,ty,pos,af,some (j,w)⟩ all r k w (oa (grd all S j)):=by
 simp only[runK,fo,mj];generalize oa (grd all S j)=g;cases g with
 |skip=>rfl
 |bad=>rfl
 |qN t=>
  simp only[grdK];cases md with
  |true=>
   simp only[forkK,gdst];split
   ·exact vW _ _
   ·rfl
  |false=>
  simp only[forkK];generalize hs:stepv X.P S _=res;cases res with
  |val c x=>simp only[nI,guardK];split<;>rfl
  |cZ c x e=>
   simp only[nI,guardK];split
   ·exact vW _ (.cZ c x e)
   ·rfl
  |no=>
   simp only[nI,guardK];split
   ·exact vW _ .no
   ·rfl
theorem callK_ite{d:Option Nat}{c:Prop}[Decidable c]{a b:Option fK}:callK X md S d all r k (if c then a else b)=if c then callK X md S d all r k a else callK X md S d all r k b:=by split<;>rfl
end
theorem callBack_ite{m:Mem}{k0:Nat}{ρ B:List Nat}{c:Prop}[Decidable c]{a b:Option (Out×List (Nat×aE))}:callBack m k0 ρ B (if c then a else b)=if c then callBack m k0 ρ B a else callBack m k0 ρ B b:=by split<;>rfl
noncomputable def dcallK(X:Ctx)(md:Bool)(nd:Nat×List (List Nat))(S:St)(d:Option Nat)(all r:List Oper)(acc:List aU)(k:Kt):Option fK→bS
 |some ⟨.ret x,es,ks⟩=>ky X md nd all r (({S with mem:=putAll S.mem es}:St).put d true x) (⟨ks,es,true,x⟩::acc) k
 |some ⟨.panic t x,es,ks⟩=>(panE X md nd all r d acc ⟨{S with mem:=putAll S.mem es},t,x,es,ks⟩).bind fun p=>k p.1 p.2
 |none=>none
noncomputable def dspecK(X:Ctx)(md:Bool)(nd:Nat×List (List Nat))(S:St)(o:Oper)(all r:List Oper)(acc:List aU)(k:Kt):Op→bS
 | .call {callee:=.value fv,args,..}=>dcallK X md nd S o.dst all r acc k (callVal X (ai X) S o args.toList (S.opd fv))
 |_=>none
noncomputable def dstepK(X:Ctx)(md:Bool)(nd:Nat×List (List Nat))(S:St)(o:Oper)(all r:List Oper)(acc:List aU)(k:Kt):dk→bS
 | .val c x=>if (opOk S o&&c)=true then ky X md nd all r (S.put o.dst true x) (⟨touch S o,[],true,x⟩::acc) k else none
 | .cZ c x e=>if (opOk S o&&c&&(touch S o).contains e.key)=true then ky X md nd all r (({S with mem:=Mem.set S.mem e}:St).put o.dst true x) (⟨touch S o,[e],true,x⟩::acc) k else none
 | .no=>dspecK X md nd S o all r acc k o.op
noncomputable def dcallG(X:Ctx)(md:Bool)(nd:Nat×List (List Nat))(S:St)(d:Option Nat)(all r:List Oper)(acc:List aU)(k:Kt):Option fK→bS
 |some ⟨.ret x,es,ks⟩=>ky X md nd all r (({S with mem:=putAll S.mem es}:St).put d true x) (⟨ks,es,true,x⟩::acc) k
 |_=>none
noncomputable def dspecG(X:Ctx)(md:Bool)(nd:Nat×List (List Nat))(S:St)(o:Oper)(all r:List Oper)(acc:List aU)(k:Kt):Op→bS
 | .call {callee:=.value fv,args,..}=>dcallG X md nd S o.dst all r acc k (callVal X (ai X) S o args.toList (S.opd fv))
 |_=>none
noncomputable def dstepG(X:Ctx)(md:Bool)(nd:Nat×List (List Nat))(S:St)(o:Oper)(all r:List Oper)(acc:List aU)(k:Kt):dk→bS
 | .val c x=>if (opOk S o&&c)=true then ky X md nd all r (S.put o.dst true x) (⟨touch S o,[],true,x⟩::acc) k else none
 | .cZ c x e=>if (opOk S o&&c&&(touch S o).contains e.key)=true then ky X md nd all r (({S with mem:=Mem.set S.mem e}:St).put o.dst true x) (⟨touch S o,[e],true,x⟩::acc) k else none
 | .no=>dspecG X md nd S o all r acc k o.op
noncomputable def dguardK(X:Ctx)(md:Bool)(nd:Nat×List (List Nat))(S:St)(o:Oper)(all r:List Oper)(acc:List aU)(k:Kt)(b:Bool):dk→bS
 | .val c x=>if b=true→(opOk S o&&c)=true then ky X md nd all r (S.put o.dst b x) (⟨touch S o,[],b,x⟩::acc) k else none
 | .cZ c x e=>if b=true then dstepG X md nd S o all r acc k (.cZ c x e)else ky X md nd all r (S.put o.dst true .bf) (⟨[],[],true,.bf⟩::acc) k
 | .no=>if b=true then dspecG X md nd S o all r acc k o.op else ky X md nd all r (S.put o.dst true .bf) (⟨[],[],true,.bf⟩::acc) k
noncomputable def dforkK(X:Ctx)(nd:Nat×List (List Nat))(S:St)(o:Oper)(all r:List Oper)(acc:List aU)(k:Kt)(want t:Bool):Bool→bS
 |false=>dguardK X false nd S o all r acc k (t == want) (stepv X.P S o)
 |true=>if (t == want)=true then dstepG X true nd (S.cz (gdst all o) want) o all r acc k (stepv X.P (S.cz (gdst all o) want) o)else ky X true nd all r ((S.cz (gdst all o) (!want)).put o.dst true (.aW [])) (⟨[],[],true,.aW []⟩::acc) k
noncomputable def dgrdK(X:Ctx)(md:Bool)(nd:Nat×List (List Nat))(S:St)(o:Oper)(all r:List Oper)(acc:List aU)(k:Kt)(want:Bool):GV→bS
 | .qN t=>dforkK X nd S o all r acc k want t md
 | .skip=>ky X md nd all r (S.put o.dst true (.aW [])) (⟨[],[],true,.aW []⟩::acc) k
 | .bad=>none
section
variable {X:Ctx} {f:FuncId} {S:St} {k:Kt} {all r:List Oper} {md:Bool} {nd:Nat×List (List Nat)} {acc:List aU}
theorem ql(o:Oper)(res:dk):(vG acc (dstep X (ai X) S o res) (iq X (ai X) md nd all r)).bind (fun p=>k p.1 p.2)=dstepG X md nd S o all r acc k res:=by
 cases res with
 |val c x=>simp only[dstep,dstepG];split<;>rfl
 |cZ c x e=>simp only[dstep,dstepG];split<;>rfl
 |no=>
  simp only[dstep,dstepG,kR];split
  ·rename_i fv args hZ ho;rw[ho];simp only[dspecG];rcases callVal X (ai X) S o args.toList (S.opd fv)with _|⟨out,es,ks⟩
   ·rfl
   ·cases out<;>rfl
  ·rename_i h1;unfold dspecG;split
   ·rename_i heq;exact absurd heq (h1 _ _ _)
   ·rfl
def revA:List aU→List aU→List aU
 |[],r=>r
 |x::l,r=>revA l (x::r)
theorem zh:∀(l r:List aU),revA l r=l.reverse++r
 |[],_=>rfl
 |x::l,r=>by rw[revA,zh l];simp
theorem yq{nd:List (List Nat)}{LI:List Cl}:zc X md nd LI all [] S acc k=if ordD nd (revA acc [])=true then k .normal S else none:=by
 simp only[zc,mI];rw[zh,List.append_nil];split<;>rfl
theorem aq:ky X md nd all [] S acc k=if ordD nd.2 (revA acc [])=true then k .normal S else none:=by
 rw[zh,List.append_nil];simp only[ky,iq];split<;>rfl
theorem drwK_cons{d:Option Tmp}{op:Op}{ty:TypeId}{pos:String}{af:Array Edge}:ky X md nd all (⟨d,op,ty,pos,af,none⟩::r) S acc k=dstepK X md nd S ⟨d,op,ty,pos,af,none⟩ all r acc k (stepv X.P S ⟨d,op,ty,pos,af,none⟩):=by
 simp only[ky,iq,kq];generalize ho:(⟨d,op,ty,pos,af,none⟩:Oper)=o;have hg:o.guard=none:=by subst ho;rfl
 have hd:dZ X (ai X) md all S o=dstep X (ai X) S o (stepv X.P S o):=by unfold dZ;rw[hg]
 generalize hs:stepv X.P S o=res;rw[hs]at hd;cases res with
 |val c x=>simp only[AH,mH,hd,dstepK];exact ql _ (.val c x)
 |cZ c x e=>simp only[AH,mH,hd,dstepK];exact ql _ (.cZ c x e)
 |no=>
  simp only[AH,GJ,dstepK];split
  ·rename_i fv args hZ cU;rw[cU];simp only[dspecK];cases hc:callVal X (ai X) S o args.toList (S.opd fv)with
   |none=>
    simp only[tR,mH,hd,dstep,kR,cU,hc,dcallK];rfl
   |some res=>
    obtain⟨out,es,ks⟩:=res;cases out with
    |ret x=>
     simp only[tR,mH,hd,dstep,kR,cU,hc,dcallK];rfl
    |panic t x=>rfl
  ·rename_i h1;simp only[mH,hd,dstep,kR];unfold dspecK;split
   ·rename_i heq;exact absurd heq (h1 _ _ _)
   ·rfl
theorem drwK_guard{d:Option Tmp}{op:Op}{ty:TypeId}{pos:String}{af:Array Edge}{j:Nat}{w:Bool}:ky X md nd all (⟨d,op,ty,pos,af,some (j,w)⟩::r) S acc k=dgrdK X md nd S ⟨d,op,ty,pos,af,some (j,w)⟩ all r acc k w (oa (grd all S j)):=by
 simp only[ky,iq,kq,mH,dZ];generalize oa (grd all S j)=g;cases g with
 |skip=>rfl
 |bad=>rfl
 |qN t=>
  simp only[dgrdK];cases md with
  |true=>
   simp only[dforkK,gdst];split
   ·exact ql _ _
   ·rfl
  |false=>
  simp only[dforkK];generalize hs:stepv X.P S _=res;cases res with
  |val c x=>simp only[qh,dguardK];split<;>rfl
  |cZ c x e=>
   simp only[qh,dguardK];split
   ·exact ql _ (.cZ c x e)
   ·rfl
  |no=>
   simp only[qh,dguardK];split
   ·exact ql _ .no
   ·rfl
theorem dcallK_ite{d:Option Nat}{c:Prop}[Decidable c]{a b:Option fK}:dcallK X md nd S d all r acc k (if c then a else b)=if c then dcallK X md nd S d all r acc k a else dcallK X md nd S d all r acc k b:=by split<;>rfl
theorem dcallG_ite{d:Option Nat}{c:Prop}[Decidable c]{a b:Option fK}:dcallG X md nd S d all r acc k (if c then a else b)=if c then dcallG X md nd S d all r acc k a else dcallG X md nd S d all r acc k b:=by split<;>rfl
end
def callOk(n:Nat)(p:ay)(args:List AV)(cs:List aE):Bool:=
 decide (args.length≤n)&&decide (cs.length≤100)&&p.sites.all (fun k=>decide (100≤k))&&decide p.sites.Nodup
theorem ax{X:Ctx}{f:FuncId}{fn:Func}{c:Code}{args:List AV}{cs:List aE}{n:Nat}{rs:List ResultVar}{p:ay}(uI:X.ov=none)(rN:X.wU f=none)(hf:X.P.funcs[f]?=some fn)(hb:fn.body=some c)(jc:vI c=false)(hn:fn.ntmps=n)(lI:fn.results.toList=rs)
 (hp:X.fp f=p) (hs:p.split=false) (cV:callOk n p args cs=true):ai X f args cs=aI X f c (entry n X.gl args cs p.sites) (AY X.P p cs.length rs):=by
 subst hp;rw[UT uI rN hf hb jc,hs];simp only[runSplit,Cm];subst hn;subst lI;rw[if_pos (by simpa only[callOk]using cV)];simp only[aI];rcases fT X f c _ with _|⟨e,S⟩
 ·rfl
 ·cases e<;>rfl
end Go.Am
end
