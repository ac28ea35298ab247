/-
  Texts of one proof, one behind the other.
-/
import Derived.Test.YtdjlcobfpppbbaaGreatDoorQ2
import Derived.Below
import Derived.Recover
import Derived.Orders
set_option linter.all false
section
namespace Go.Am
open Go
inductive Gh where
 |trim (k:Nat)
 |freeze (k:Nat)
 |adopt (kb j k sz:Nat)
 |rekey (k k2:Nat)
 |opn (k k2:Nat)
 |cls (k k2:Nat)
 |shut (k:Nat)
 |adoptV (kb j k:Nat)
abbrev bq:=FuncId→List AV→List aE→Option (Out×List (Nat×aE))
structure Ctx where
 P:Program
 gl:List (Nat×D)
 oT:FuncId→Nat→List Nat
 gh:FuncId→Nat→List Gh
 md:FuncId→Nat→Bool
 fp:FuncId→ay
 od:FuncId→Nat→List (List Nat)
 wJ:FuncId→Option (List AV→Option AV)
 fl:FuncId→Nat→List (Nat×Nat)
 ov:Option bq
def gC(P:Program)(g:FuncId):Bool:=
 match P.funcs[g]? with
 |some fn=>fn.body.isSome&&!(fn.name == "runtime.NumGoroutine")
 |none=>false
mutual
def ptrKeys:AV→List Nat
 | .vec _ _ _ _=>[]
 | .ptr k _ _=>[k]
 | .cD k _ _ _=>[k]
 | .agg cs=>ptrsKeys cs
 | .fn _ cap=>avsKeys cap
 | .aU vs=>ptrsKeys vs
 |_=>[]
def ptrsKeys:List AV→List Nat
 |[]=>[]
 |x::r=>ptrKeys x++ptrsKeys r
end
mutual
def vecKeys:AV→List Nat
 | .vec k _ _ _=>[k]
 | .agg cs=>vecsKeys cs
 | .aU vs=>vecsKeys vs
 |_=>[]
def vecsKeys:List AV→List Nat
 |[]=>[]
 |x::r=>vecKeys x++vecsKeys r
end
def argKeys(mt:List Nat):Nat→List AV→List Nat
 |_,[]=>[]
 |i,x::r=>(match mt.contains i with|true=>avKeys x|false=>ptrKeys x)++argKeys mt (i+1) r
def argBor(mt:List Nat):Nat→List AV→List Nat
 |_,[]=>[]
 |i,x::r=>(match mt.contains i with|true=>[]|false=>vecKeys x)++argBor mt (i+1) r
structure fH where
 out:Out
 es:List cH
 ks:List Nat
def upO(ρ bs:List Nat):Out→Out
 | .ret x=>.ret (up ρ bs x)
 | .panic t x=>.panic t x
def plainO:Out→Bool
 | .ret x=>plainAV x
 | .panic _ x=>plainD x
def plainL:List (Nat×aE)→Bool
 |[]=>true
 |(_,c)::r=>plainC c&&plainL r
def frOk(m:Mem)(ρ:List Nat):List Nat→Bool
 |[]=>true
 |k::r=>(Mem.get m k).isSome&&!ρ.contains k&&frOk m ρ r
def callBack(m:Mem)(k0:Nat)(ρ B:List Nat):Option (Out×List (Nat×aE))→Option fH
 |some (out,l2)=>
  if (decide (ρ.length≤l2.length)&&frOk m ρ (List.range' (k0+1) (l2.length-ρ.length))&&(B.isEmpty||(plainO out&&plainL l2)))=true then
   some ⟨upO (ρ++List.range' (k0+1) (l2.length-ρ.length)) (base m 0 ρ++base m 1 (List.range' (k0+1) (l2.length-ρ.length))) out,
    backL (ρ++List.range' (k0+1) (l2.length-ρ.length)) (base m 0 ρ++base m 1 (List.range' (k0+1) (l2.length-ρ.length))) 0 l2,ρ++B++List.range' (k0+1) (l2.length-ρ.length)⟩
  else none
 |none=>none
def frzO(n0:Nat)(l2:List (Nat×aE)):Out→Out
 | .ret x=>.ret (vw (mkM 0 l2) (List.range n0) (fun _=>true) (fun _ v=>v) x).norm
 | .panic t x=>.panic t x
def frzR(n0:Nat)(b:Bool):Option (Out×List (Nat×aE))→Option (Out×List (Nat×aE))
 |some (out,l2)=>if (b&&decide (n0<l2.length))=true then some (frzO n0 l2 out,selL (mkM 0 l2) (List.range n0) (fun _=>true) (fun _ v=>v) 0 (List.range n0))else some (out,l2)
 |none=>none
def vwArgs(rw:Bool)(m:Mem)(ρ B:List Nat):List AV→List AV
 |[]=>[]
 |y::r=>nrm rw (vw m ρ (fun k=>B.contains k) nv0 y)::vwArgs rw m ρ B r
def conts:List (Nat×aE)→List aE
 |[]=>[]
 |(_,c)::r=>c::conts r
def callOp3(cl:bq)(m:Mem)(k0:Nat)(g:FuncId)(ys:List AV)(rw:Bool)(ρ B:List Nat):Option fH:=
 callBack m k0 ρ B (frzR ρ.length (Mem.get m (k0+1)).isNone (cl g (vwArgs rw m ρ B ys) (conts (selL m ρ (fun k=>B.contains k) nv0 0 ρ))))
def callOp2(cl:bq)(m:Mem)(k0:Nat)(g:FuncId)(ys:List AV)(mt ρ:List Nat):Option fH:=
 callOp3 cl m k0 g ys (mt.contains 1000) ρ ((argBor mt 0 ys).filter fun k=>!ρ.contains k)
def callOp(cl:bq)(m:Mem)(k0:Nat)(g:FuncId)(ys:List AV)(mt:List Nat):Option fH:=
 callOp2 cl m k0 g ys mt (collect m 64 (argKeys mt 0 ys) [])
def de(S:St)(d:Option Nat):Option fH→Option (XE×St)
 |some ⟨.ret x,es,_⟩=>some (.normal,({S with mem:=putAll S.mem es}:St).put d true x)
 |some ⟨.panic t x,es,_⟩=>some (.panic t x,{S with mem:=putAll S.mem es})
 |none=>none
def argVals(S:St):List Operand→List AV
 |[]=>[]
 |x::r=>(S.opd x).2::argVals S r
def fnIdN(n g:Nat):FuncId:=
 match decide (n≤g)with
 |true=>g-n
 |false=>g
def fnId(g:FuncId):FuncId:=fnIdN bnB g
def fnArgsN(n g:Nat)(ys cZ:List AV):List AV:=
 match decide (n≤g)with
 |true=>cZ++ys
 |false=>ys++cZ
def fnArgs(g:FuncId)(ys cZ:List AV):List AV:=fnArgsN bnB g ys cZ
def callVal(X:Ctx)(cl:bq)(S:St)(o:Oper)(args:List Operand):Bool×AV→Option fH
 |(true,.fn g cZ)=>if okAll S args=true then callOp cl S.mem (keyOf o) (fnId g) (fnArgs g (argVals S args) cZ) (X.fp (fnId g)).vr else none
 |_=>none
def Ar(S:St):Bool×AV→Option (XE×St)
 |(true,.gJ t d)=>some (.panic t d,S)
 |_=>none
def p9(X:Ctx)(cl:bq)(S:St)(o:Oper):Option (XE×St):=
 match o.op with
 | .call {callee:=.value fv,args,..}=>de S o.dst (callVal X cl S o args.toList (S.opd fv))
 | .panic x=>Ar S (S.opd x)
 |_=>none
def gQ(X:Ctx)(cl:bq)(S:St)(o:Oper):di→Option (XE×St)
 | .val c x=>if (opOk S o&&c)=true then some (.normal,S.put o.dst true x)else none
 | .cW c x e=>if (opOk S o&&c)=true then some (.normal,({S with mem:=Mem.set S.mem e}:St).put o.dst true x)else none
 | .no=>p9 X cl S o
def nC(X:Ctx)(cl:bq)(S:St)(o:Oper)(b:Bool):di→Option (XE×St)
 | .val c x=>if b=true→(opOk S o&&c)=true then some (.normal,S.put o.dst b x)else none
 |r=>if b=true then gQ X cl S o r else some (.normal,S.put o.dst true .aZ)
def St.cz(S:St)(d:Option Nat)(b:Bool):St:=S.put d true (.d (.bool b))
def dstAt(all:List Oper)(j:Nat):Option Nat:=
 match all[j]? with
 |some o=>o.dst
 |none=>none
inductive GV where
 |qE (t:Bool)
 |skip
 |bad
def gvD:D→GV
 | .bool t=>.qE t
 |_=>.bad
def gvT:List AV→GV
 |[]=>.skip
 |_::_=>.bad
def QV:AV→GV
 | .d x=>gvD x
 | .aU vs=>gvT vs
 |_=>.bad
def nZ:Option (Bool×AV)→GV
 |some (true,x)=>QV x
 |_=>.bad
theorem Gy{x:Option (Bool×AV)}{t:Bool}(h:nZ x=.qE t):x=some (true,.d (.bool t)):=by
 rcases x with _|⟨g,y⟩
 ·cases h
 ·cases g
  ·cases h
  ·cases y with
   |d y=>cases y<;>simp_all [nZ,QV,gvD]
   |aU vs=>cases vs<;>simp_all [nZ,QV,gvT]
   |_=>cases h
theorem D5{x:Option (Bool×AV)}(h:nZ x=.skip):x=some (true,.aU []):=by
 rcases x with _|⟨g,y⟩
 ·cases h
 ·cases g
  ·cases h
  ·cases y with
   |d y=>cases y<;>simp_all [nZ,QV,gvD]
   |aU vs=>cases vs<;>simp_all [nZ,QV,gvT]
   |_=>cases h
def mb(X:Ctx)(cl:bq)(md:Bool)(all:List Oper)(S:St)(o:Oper):Option (XE×St):=
 match o.guard with
 |none=>gQ X cl S o (stepv X.P S o)
 |some (j,want)=>match nZ (grd all S j)with
  | .qE t=>match md with
   |false=>nC X cl S o (t == want) (stepv X.P S o)
   |true=>if (t == want)=true then gQ X cl (S.cz (dstAt all j) want) o (stepv X.P (S.cz (dstAt all j) want) o)else some (.normal,(S.cz (dstAt all j) (!want)).put o.dst true (.aU []))
  | .skip=>some (.normal,S.put o.dst true (.aU []))
  | .bad=>none
def andThen(r:Option (XE×St))(k:St→Option (XE×St)):Option (XE×St):=
 match r with
 |some (.normal,S)=>k S
 |r=>r
def fh(X:Ctx)(cl:bq)(md:Bool)(all:List Oper):List Oper→St→Option (XE×St)
 |[],S=>some (.normal,S)
 |o::r,S=>andThen (mb X cl md all S o) (fh X cl md all r)
def pG(S:St)(o:Oper):Option fH→Option (St×aS)
 |some ⟨.ret x,es,ks⟩=>some ((⟨ks,es,true,x⟩:aS).app o S,⟨ks,es,true,x⟩)
 |_=>none
def kF(X:Ctx)(cl:bq)(S:St)(o:Oper):Option (St×aS):=
 match o.op with
 | .call {callee:=.value fv,args,..}=>pG S o (callVal X cl S o args.toList (S.opd fv))
 |_=>none
def dstep(X:Ctx)(cl:bq)(S:St)(o:Oper):di→Option (St×aS)
 | .val c x=>if (opOk S o&&c)=true then some (S.put o.dst true x,⟨touch S o,[],true,x⟩)else none
 | .cW c x e=>if (opOk S o&&c&&(touch S o).contains e.key)=true then some (({S with mem:=Mem.set S.mem e}:St).put o.dst true x,⟨touch S o,[e],true,x⟩)else none
 | .no=>kF X cl S o
def qa(X:Ctx)(cl:bq)(S:St)(o:Oper)(b:Bool):di→Option (St×aS)
 | .val c x=>if b=true→(opOk S o&&c)=true then some (S.put o.dst b x,⟨touch S o,[],b,x⟩)else none
 |r=>if b=true then dstep X cl S o r else some (S.put o.dst true .aZ,⟨[],[],true,.aZ⟩)
def dU(X:Ctx)(cl:bq)(md:Bool)(all:List Oper)(S:St)(o:Oper):Option (St×aS):=
 match o.guard with
 |none=>dstep X cl S o (stepv X.P S o)
 |some (j,want)=>match nZ (grd all S j)with
  | .qE t=>match md with
   |false=>qa X cl S o (t == want) (stepv X.P S o)
   |true=>if (t == want)=true then dstep X cl (S.cz (dstAt all j) want) o (stepv X.P (S.cz (dstAt all j) want) o)else some ((S.cz (dstAt all j) (!want)).put o.dst true (.aU []),⟨[],[],true,.aU []⟩)
  | .skip=>some (S.put o.dst true (.aU []),⟨[],[],true,.aU []⟩)
  | .bad=>none
def vy(acc:List aS)(r:Option (St×aS))(k:St→List aS→Option (XE×St)):Option (XE×St):=
 match r with
 |some (S,p)=>k S (p::acc)
 |none=>none
structure Gz where
 S:St
 t:TypeId
 x:D
 es:List cH
 ks:List Nat
def tI(S:St):Option fH→Option Gz
 |some ⟨.panic t x,es,ks⟩=>some ⟨{S with mem:=putAll S.mem es},t,x,es,ks⟩
 |_=>none
def GA(X:Ctx)(cl:bq)(S:St)(o:Oper):Option Gz:=
 match o.op with
 | .call {callee:=.value fv,args,..}=>tI S (callVal X cl S o args.toList (S.opd fv))
 |_=>none
def As(X:Ctx)(cl:bq)(S:St)(o:Oper):di→Option Gz
 | .no=>GA X cl S o
 |_=>none
def ki(X:Ctx)(cl:bq)(S:St)(o:Oper):Option Gz:=
 match o.guard with
 |none=>As X cl S o (stepv X.P S o)
 |some _=>none
def qo(X:Ctx)(md:Bool)(all:List Oper)(js:List Nat):Nat→List Oper→St→List aS→Option (List aS)
 |_,[],_,acc=>some acc.reverse
 |i,o::r,S,acc=>match js.contains i with
  |true=>match dU X (fun _ _ _=>none) md all S o with
   |some (S1,p)=>qo X md all js (i+1) r S1 (p::acc)
   |none=>none
  |false=>qo X md all js (i+1) r (S.put o.dst false .aZ) (⟨[],[],false,.aZ⟩::acc)
def pEnd(nd:Nat×List (List Nat))(js:List Nat)(t:TypeId)(x:D)(S:St):Option (List aS)→Option (XE×St)
 |some ps=>if (ordD nd.2 ps&&farJ ps js)=true then some (.panic t x,S.kill (nd.1+verSums ps+1))else none
 |none=>none
def panE(X:Ctx)(md:Bool)(nd:Nat×List (List Nat))(all r:List Oper)(d:Option Nat)(acc:List aS)(q:Gz):Option (XE×St):=
 pEnd nd (nd.2.getD acc.length []) q.t q.x q.S (qo X md all (nd.2.getD acc.length []) (acc.length+1) r (q.S.put d true .aZ) (⟨q.ks,q.es,true,.aZ⟩::acc))
def mz(X:Ctx)(cl:bq)(md:Bool)(nd:Nat×List (List Nat))(all r:List Oper)(S:St)(o:Oper)(acc:List aS)(k:St→List aS→Option (XE×St)):Option Gz→Option (XE×St)
 |some q=>panE X md nd all r o.dst acc q
 |none=>vy acc (dU X cl md all S o) k
def ic(X:Ctx)(cl:bq)(md:Bool)(nd:Nat×List (List Nat))(all:List Oper):List Oper→St→List aS→Option (XE×St)
 |[],S,acc=>if ordD nd.2 acc.reverse=true then some (.normal,S)else none
 |o::r,S,acc=>mz X cl md nd all r S o acc (ic X cl md nd all r) (ki X cl S o)
structure Cl where
 k:Nat
 v:Nat
 j:Nat
 x:AV
 vv:Bool
def GB:AV→AV→Bool
 | .vec a b c d,.vec a' b' c' d'=>decide (a=a')&&decide (b=b')&&decide (c=c')&&decide (d=d')
 | .ptr a b c,.ptr a' b' c'=>decide (a=a')&&decide (b=b')&&decide (c=c')
 | .d (.int k n),.d (.int k' n')=>decide (k=k')&&decide (n=n')
 | .d (.bool b),.d (.bool b')=>decide (b=b')
 |_,_=>false
def eV(m:Mem):List (Nat×Nat)→Option (List Cl)
 |[]=>some []
 |(k,j)::r=>match Mem.get m k,eV m r with
  |some ⟨_,v,.box cs⟩,some l=>match cs[j]? with
   |some x=>some (⟨k,v,j,x,false⟩::l)
   |none=>none
  |some ⟨_,v,.vv rows (some x)⟩,some l=>some (⟨k,v,rows.length,x,true⟩::l)
  |_,_=>none
def QW(q:Cl):Option AV→Bool
 |some x=>GB x q.x
 |none=>false
def JN(q:Cl)(v:Nat):aE→Bool
 | .box cs=>!q.vv&&decide (v=q.v)&&QW q cs[q.j]?
 | .vv rows (some x)=>q.vv&&decide (v=q.v)&&decide (rows.length=q.j)&&GB x q.x
 |_=>false
def At(e:cH):List Cl→Bool
 |[]=>true
 |q::r=>(match decide (e.key=q.k)with|true=>JN q e.aj e.cont|false=>true)&&At e r
def sK(LI:List Cl):List cH→Bool
 |[]=>true
 |e::r=>At e LI&&sK LI r
def qR(b:Bool)(k v j:Nat):List Cl→Option AV
 |[]=>none
 |q::r=>match decide (b=q.vv)&&decide (k=q.k)&&decide (v=q.v)&&decide (j=q.j)with|true=>some q.x|false=>qR b k v j r
def tJ(b:Bool)(k v:Nat):List Cl→Bool
 |[]=>false
 |q::r=>match decide (b=q.vv)&&decide (k=q.k)&&decide (v=q.v)with|true=>true|false=>tJ b k v r
def BN(P:Program)(LI:List Cl)(t:TypeId):Bool×AV→Option AV
 |(true,.ptr k v off)=>match (tk P t).agg,decide (tk P t=.other)with
  |false,false=>qR false k v off LI
  |_,_=>none
 |(true,.cD k v i j)=>match (tk P t).agg,decide (tk P t=.other),decide (j=0)with
  |false,false,true=>qR true k v i LI
  |_,_,_=>none
 |_=>none
def BO(LI:List Cl):Option Nat→Bool×AV→Option AV
 |some n,(true,.ptr k v off)=>match tJ false k v LI with|true=>some (.ptr k v (off+n))|false=>none
 |_,_=>none
def BP(LI:List Cl):Bool×AV→Option AV
 |(true,.ptr k v off)=>match tJ false k v LI with|true=>some (.ptr k v off)|false=>none
 |_=>none
def BQ(P:Program)(LI:List Cl):TK→Bool×AV→Bool×AV→Option AV
 | .slice e,(true,.vec k v off len),(true,.d (.int _ n))=>match decide (fe P e=some 1),tJ true k v LI,decide (0≤n),decide (n.toNat<len)with
  |true,true,true,true=>some (.cD k v (off+n.toNat) 0)
  |_,_,_,_=>none
 |_,_,_=>none
def qT(P:Program)(LI:List Cl)(S:St):Op→Option AV
 | .load t x=>BN P LI t (S.opd x)
 | .fieldAddr s x f=>BO LI (vd P s f) (S.opd x)
 | .nilCheck x=>BP LI (S.opd x)
 | .indexAddr t x i=>BQ P LI (tk P t) (S.opd x) (S.opd i)
 |_=>none
def n6(P:Program)(LI:List Cl)(S:St)(o:Oper):Option AV:=
 match o.guard with
 |none=>qT P LI S o.op
 |some _=>none
def C6(LI:List Cl):Option (St×aS)→Option (St×aS)
 |some (S,p)=>if sK LI p.es=true then some (S,p)else none
 |none=>none
def mZ(X:Ctx)(cl:bq)(md:Bool)(LI:List Cl)(all:List Oper)(S:St)(o:Oper):Option AV→Option (St×aS)
 |some x=>some (S.put o.dst true x,⟨[],[],true,x⟩)
 |none=>C6 LI (dU X cl md all S o)
def lJ:List Nat→List Oper→Bool
 |[],[]=>true
 |_,_=>false
def GC(X:Ctx)(cl:bq)(md:Bool)(nd:List (List Nat))(all:List Oper)(S:St)(o:Oper)(acc:List aS):Option (XE×St):=
 if ordD nd acc.reverse=true then fh X cl md all [o] S else none
def mA(X:Ctx)(cl:bq)(md:Bool)(nd:List (List Nat))(LI:List Cl)(all:List Oper):List Oper→St→List aS→Option (XE×St)
 |[],S,acc=>if ordD nd acc.reverse=true then some (.normal,S)else none
 |o::r,S,acc=>match lJ (nd.getD acc.length []) r with
  |true=>GC X cl md nd all S o acc
  |false=>vy acc (mZ X cl md LI all S o (n6 X.P LI S o)) (mA X cl md nd LI all r)
def N9(X:Ctx)(cl:bq)(md:Bool)(nd:List (List Nat))(all:List Oper)(S:St):Option (List Cl)→Option (XE×St)
 |some LI=>mA X cl md nd LI all all S []
 |none=>none
def rO(X:Ctx)(cl:bq)(md:Bool)(nd:List (List Nat))(all:List Oper)(S:St):List (Nat×Nat)→Option (XE×St)
 |[]=>ic X cl md (verSum S.mem,nd) all all S []
 |q::r=>N9 X cl md nd all S (eV S.mem (q::r))
def St.adopt(S:St)(kb j k sz:Nat):St:=
 match Mem.get S.mem kb,Mem.get S.mem k with
 |some ⟨_,vb,.box cs⟩,some ⟨_,v,_⟩=>match cs[j]? with
  |some (.lit (.slice none 0 0))=>if kb=k then S else {S with mem:=Mem.set (Mem.set S.mem ⟨k,v+1,.vec sz []⟩) ⟨kb,vb,.box (cs.set j (.vec k (v+1) 0 0))⟩}
  |_=>S
 |_,_=>S
def rkAV(k v k2 v2:Nat):AV→AV
 | .vec k0 v0 o l=>if k0=k∧v0=v then .vec k2 v2 o l else .vec k0 v0 o l
 |x=>x
def mapB(τ:AV→AV):Mem→Mem
 |[]=>[]
 |e::r=>⟨e.key,e.aj,mapC τ e.cont⟩::mapB τ r
def St.rekey(S:St)(k k2:Nat):St:=
 match Mem.get S.mem k,Mem.get S.mem k2 with
 |some ⟨_,v,.vec sz rows⟩,some ⟨_,v2,_⟩=>if k=k2 then S else {S with env:=mapEnv (rkAV k v k2 (v2+1)) S.env,mem:=Mem.set (Mem.set (mapB (rkAV k v k2 (v2+1)) S.mem) ⟨k,v+1,.dead⟩) ⟨k2,v2+1,.vec sz rows⟩}
 |_,_=>S
def St.opn(S:St)(k k2:Nat):St:=
 match Mem.get S.mem k,Mem.get S.mem k2 with
 |some ⟨_,v,.vv rows none⟩,some ⟨_,v2,_⟩=>match rows.getLast? with
  |some xs=>if k=k2 then S else {S with mem:=Mem.set (Mem.set S.mem ⟨k,v,.vv rows.dropLast (some (.vec k2 (v2+1) 0 xs.length))⟩) ⟨k2,v2+1,.vec 1 xs⟩}
  |none=>S
 |_,_=>S
def St.cls(S:St)(k k2:Nat):St:=
 match Mem.get S.mem k,Mem.get S.mem k2 with
 |some ⟨_,v,.vv rows (some (.vec k3 v3 0 len))⟩,some ⟨_,v2,.vec 1 xs⟩=>if k=k2 then S else if k3=k2∧v3=v2∧len=xs.length then {S with mem:=Mem.set (Mem.set S.mem ⟨k,v,.vv (rows++[xs]) none⟩) ⟨k2,v2+1,.dead⟩} else S
 |_,_=>S
def St.shut(S:St)(k:Nat):St:=
 match Mem.get S.mem k with
 |some ⟨_,v,.vv rows (some _)⟩=>{S with mem:=Mem.set S.mem ⟨k,v,.vv rows none⟩}
 |_=>S
def St.adoptV(S:St)(kb j k:Nat):St:=
 match Mem.get S.mem kb,Mem.get S.mem k with
 |some ⟨_,vb,.box cs⟩,some ⟨_,v,_⟩=>match cs[j]? with
  |some (.lit (.slice none 0 0))=>if kb=k then S else {S with mem:=Mem.set (Mem.set S.mem ⟨kb,vb,.box (cs.set j (.vec k (v+1) 0 0))⟩) ⟨k,v+1,.vv [] none⟩}
  |_=>S
 |_,_=>S
def Gh.go(S:St):Gh→St
 | .opn k k2=>S.opn k k2
 | .cls k k2=>S.cls k k2
 | .shut k=>S.shut k
 | .adoptV kb j k=>S.adoptV kb j k
 | .trim k=>S.trim1 k
 | .freeze k=>S.freeze k
 | .adopt kb j k sz=>S.adopt kb j k sz
 | .rekey k k2=>S.rekey k k2
def ghs(S:St):List Gh→St
 |[]=>S
 |g::r=>ghs (g.go S) r
def tK(k:St→St):Option (XE×St)→Option (XE×St)
 |some (.normal,S)=>some (.normal,k S)
 |r=>r
def BR(id:Nat):Option (XE×St)→Option (XE×St)
 |some (.exit mn,S)=>if mn=id then some (.normal,S)else some (.exit mn,S)
 |r=>r
def iter(f:St→Option (XE×St)):Nat→St→Option (XE×St)
 |0,_=>none
 |n+1,S=>andThen (f S) (iter f n)
def BS(a b:Option (XE×St)):Bool×AV→Option (XE×St)
 |(true,.d (.bool t))=>if t=true then a else b
 |_=>none
def St.leave(X:Ctx)(f:FuncId)(id:Nat)(S:St):St:=ghs (S.prune (X.oT f id)) (X.gh f id)
def den(X:Ctx)(f:FuncId)(cl:bq)(n:Nat):Code→St→Option (XE×St)
 | .skip,S=>some (.normal,S)
 | .region id ops draw,S=>match draw with
  |false=>tK (St.leave X f id) (fh X cl (X.md f id) ops.toList ops.toList S)
  |true=>tK (St.leave X f id) (rO X cl (X.md f id) (X.od f id) ops.toList S (X.fl f id))
 | .seq a b,S=>andThen (den X f cl n a S) (den X f cl n b)
 | .cond c a b,S=>BS (den X f cl n a S) (den X f cl n b S) (S.opd c)
 | .block id c,S=>BR id (den X f cl n c S)
 | .loop c,S=>iter (den X f cl n c) n S
 | .exit id,S=>some (.exit id,ghs S (X.gh f (id+1000000)))
 | .ret,S=>some (.ret,S)
 |_,_=>none
def fin(P:Program)(p:ay)(n0:Nat)(rs:List ResultVar):Option (XE×St)→Option (Out×List (Nat×aE))
 |some (.normal,S)=>finish P p n0 rs S
 |some (.ret,S)=>finish P p n0 rs S
 |some (.panic t x,S)=>finPanic p n0 t x S
 |_=>none
def pH(X:Ctx)(f:FuncId)(cl:bq)(n:Nat)(fn:Func)(c:Code)(args:List AV)(cs:List aE):Option (Out×List (Nat×aE)):=
 if (decide (args.length≤fn.ntmps)&&decide (cs.length≤100)&&(X.fp f).sites.all (fun k=>decide (100≤k))&&decide (X.fp f).sites.Nodup)=true then
  fin X.P (X.fp f) cs.length fn.results.toList (den X f cl n c (entry fn.ntmps X.gl args cs (X.fp f).sites))
 else none
def emptyVec:Option (Out×List (Nat×aE))→Option Nat
 |some (.ret (.vec 0 0 0 0),[(0,.vec sz [])])=>some sz
 |_=>none
def splitRun(r1 r2:Option (Out×List (Nat×aE))):Option (Out×List (Nat×aE)):=
 match emptyVec r1,emptyVec r2 with
 |some a,some b=>if a=b then r1 else none
 |_,_=>none
def runSplit(run:List AV→Option (Out×List (Nat×aE)))(args:List AV):Bool→Option (Out×List (Nat×aE))
 |true=>match args with
  | .d (.list [])::r=>splitRun (run (.lit (.slice none 0 0)::r)) (run (.nn::r))
  |args=>run args
 |false=>run args
def orcAns(h:List AV→Option AV)(args:List AV):List aE→Option (Out×List (Nat×aE))
 |[]=>match h args with
  |some d=>some (.ret d,[])
  |none=>none
 |_::_=>none
def liftO(h:List D→Option D)(args:List AV):Option AV:=match gg args with
 |some ds=>(h ds).map .d
 |none=>none
abbrev DF:=FuncId×List AV
def dfv(S:St)(args:List Operand):Bool×AV→Option DF
 |(true,.fn g cZ)=>if (okAll S args&&decide (g<bnB))=true then some (g,argVals S args++cZ)else none
 |_=>none
def mc(S:St)(o:Oper):Option DF:=
 match o.guard,o.op with
 |none,.defer {callee:=.value fv,args,..}=>dfv S args.toList (S.opd fv)
 |_,_=>none
def JO(o:Oper):Bool:=
 match o.op with
 | .defer _=>true
 |_=>false
abbrev XD:=Option (XE×St×List DF)
def Fi(k:St→XD)(ds:List DF):Option (XE×St)→XD
 |some (.normal,S)=>k S
 |some (e,S)=>some (e,S,ds)
 |none=>none
def fA(X:Ctx)(cl:bq)(md:Bool)(all:List Oper):List Oper→St→List DF→XD
 |[],S,ds=>some (.normal,S,ds)
 |o::r,S,ds=>match mc S o with
  |some d=>fA X cl md all r (S.put o.dst true .aZ) (d::ds)
  |none=>Fi (fun S1=>fA X cl md all r S1 ds) ds (mb X cl md all S o)
def xN(ops:List Oper):Bool:=ops.any JO
def xO(k:St→St):XD→XD
 |some (.normal,S,ds)=>some (.normal,k S,ds)
 |r=>r
def vz(ds:List DF):Option (XE×St)→XD
 |some (e,S)=>some (e,S,ds)
 |none=>none
def GD(k:St→List DF→XD):XD→XD
 |some (.normal,S,ds)=>k S ds
 |r=>r
def iA(X:Ctx)(f:FuncId)(cl:bq)(n:Nat):Code→St→List DF→XD
 | .seq a b,S,ds=>GD (iA X f cl n b) (iA X f cl n a S ds)
 | .region id ops draw,S,ds=>match !draw&&xN ops.toList with
  |true=>xO (St.leave X f id) (fA X cl (X.md f id) ops.toList ops.toList S ds)
  |false=>vz ds (den X f cl n (.region id ops draw) S)
 |c,S,ds=>vz ds (den X f cl n c S)
def sL(o:Oper):Bool:=
 match o.guard,o.op with
 |none,.call {callee:=.builtin .recover,args,..}=>args.toList.isEmpty
 |_,_=>false
def mB(X:Ctx)(f:FuncId)(cl:bq)(n:Nat)(rv:AV):Code→St→Option (XE×St)
 | .seq a b,S=>andThen (mB X f cl n rv a S) (den X f cl n b)
 | .region id ops draw,S=>match draw,ops.toList with
  |false,o::r=>if sL o=true then tK (St.leave X f id) (fh X cl (X.md f id) (o::r) r (S.put o.dst true rv))else none
  |_,_=>none
 |_,_=>none
def Oa(P:Program)(p:ay)(n0:Nat)(rs:List ResultVar):Option (XE×St)→Option (Out×List (Nat×aE))
 |some (.normal,S)=>finish P p n0 rs S
 |some (.ret,S)=>finish P p n0 rs S
 |_=>none
def uu(X:Ctx)(f:FuncId)(cl:bq)(n:Nat)(fn:Func)(c:Code)(args:List AV)(cs:List aE):Option (Out×List (Nat×aE)):=
 match args.getLast? with
 |some rv=>if (decide (args.dropLast.length≤fn.ntmps)&&decide (cs.length≤100)&&(X.fp f).sites.all (fun k=>decide (100≤k))&&decide (X.fp f).sites.Nodup)=true then
  Oa X.P (X.fp f) cs.length fn.results.toList (mB X f cl n rv c (entry fn.ntmps X.gl args.dropLast cs (X.fp f).sites))
  else none
 |none=>none
def recA:XE→Option AV
 | .normal=>some (.lit .nilIface)
 | .ret=>some (.lit .nilIface)
 | .panic t x=>some (.gJ t x)
 | .exit _=>none
def memC(S:St):Option fH→Option St
 |some ⟨.ret _,es,_⟩=>some {S with mem:=putAll S.mem es}
 |_=>none
def finM(X:Ctx)(p:ay)(n0:Nat)(rs:List ResultVar):Option St→Option (Out×List (Nat×aE))
 |some S=>finish X.P p n0 rs S
 |none=>none
def finD1(X:Ctx)(p:ay)(n0:Nat)(rs:List ResultVar)(sM:bq)(S:St)(d:DF):Option AV→Option (Out×List (Nat×aE))
 |some rv=>finM X p n0 rs (memC S (callOp sM S.mem 0 d.1 (d.2++[rv]) (X.fp d.1).vr))
 |none=>none
def tL(X:Ctx)(p:ay)(n0:Nat)(rs:List ResultVar)(sM:bq):XD→Option (Out×List (Nat×aE))
 |some (e,S,[])=>fin X.P p n0 rs (some (e,S))
 |some (e,S,[d])=>finD1 X p n0 rs sM S d (recA e)
 |_=>none
def uv(X:Ctx)(f:FuncId)(cl sM:bq)(n:Nat)(fn:Func)(c:Code)(args:List AV)(cs:List aE):Option (Out×List (Nat×aE)):=
 if (decide (args.length≤fn.ntmps)&&decide (cs.length≤100)&&(X.fp f).sites.all (fun k=>decide (100≤k))&&decide (X.fp f).sites.Nodup)=true then
  tL X (X.fp f) cs.length fn.results.toList sM (iA X f cl n c (entry fn.ntmps X.gl args cs (X.fp f).sites) [])
 else none
def vA:Code→Bool
 | .seq a b=>vA a||vA b
 | .region _ ops _=>xN ops.toList
 |_=>false
def me(X:Ctx)(n:Nat)(cl:bq):bq:=fun g args cs=>
 match X.P.funcs[g]? with
 |some fn=>match fn.body with
  |some c=>uu X g cl n fn c args cs
  |none=>none
 |none=>none
def uw(X:Ctx)(f:FuncId)(cl:bq)(n:Nat)(fn:Func)(c:Code)(args:List AV)(cs:List aE):Bool→Option (Out×List (Nat×aE))
 |true=>uv X f cl (me X n cl) n fn c args cs
 |false=>runSplit (fun args=>pH X f cl n fn c args cs) args (X.fp f).split
def aR(X:Ctx):Nat→bq
 |0,_,_,_=>none
 |n+1,f,args,cs=>match X.ov with
  |some cl=>cl f args cs
  |none=>match X.wJ f with
   |some h=>orcAns h args cs
   |none=>match X.P.funcs[f]? with
    |some fn=>match fn.body with
     |some c=>uw X f (aR X n) n fn c args cs (vA c)
     |none=>none
    |none=>none
def iX(X:Ctx)(cl:bq):Prop:=∀g args cs out l,cl g args cs=some (out,l)→
 gC X.P g=true∧Ev X.P X.gl g args (inM 0 cs) fun o m=>o=out∧m=mkM 0 l
theorem rP{P:Program}{g:FuncId}{vs:Array Value}{w:World}(h:gC P g=true):(callFunc g vs).run P w=.ok (.enter g vs) w:=by
 unfold gC at h;split at h
 ·rename_i fn hf;simp only[Bool.and_eq_true,Bool.not_eq_true']at h;have h1:fn.body.isNone=false:=by
   have:=h.1;cases hb:fn.body<;>simp_all
  have h2:fn.name≠ "runtime.NumGoroutine" :=by simpa using h.2
  have h3:fn.body≠none:=by intro hb;simp[hb]at h1
  simp[callFunc,hf,h2,h3]
 ·cases h
theorem get_none{m:Mem}{k:Nat}:Mem.get m k=none↔k∉m.map (·.key):=by
 induction m with
 |nil=>simp[Mem.get]
 |cons e r ih=>
  simp only[Mem.get,List.map_cons,List.mem_cons,not_or];split
  ·rename_i h;simp[h]
  ·rename_i h;rw[ih];constructor
   ·exact fun hh=>⟨fun he=>h he.symm,hh⟩
   ·exact fun hh=>hh.2
theorem tM{m m':Mem}(hk:m'.map (·.key)=m.map (·.key))(k:Nat):(Mem.get m' k).isNone=(Mem.get m k).isNone:=by
 have:=get_none (m:=m) (k:=k);have h2:=get_none (m:=m') (k:=k);rw[hk,←this]at h2;cases h:Mem.get m k<;>cases h':Mem.get m' k<;>simp_all
theorem tN(m:Mem):∀(n:Nat)(todo acc:List Nat),∀k∈acc,k∈collect m n todo acc
 |0,todo,acc,k,h=>h
 |n+1,[],acc,k,h=>h
 |n+1,t::todo,acc,k,h=>by
  simp only[collect];split
  ·exact tN m n todo acc k h
  ·exact tN m n _ _ k (List.mem_append_left _ h)
theorem tO{m m':Mem}(hk:m'.map (·.key)=m.map (·.key)):∀(n:Nat)(todo acc:List Nat),(∀k∈collect m n todo acc,Mem.get m' k=Mem.get m k)→collect m' n todo acc=collect m n todo acc
 |0,todo,acc,_=>rfl
 |n+1,[],acc,_=>rfl
 |n+1,t::todo,acc,h=>by
  simp only[collect,tM hk t]at h⊢;split
  ·rename_i hc;rw[hc]at h;exact tO hk n todo acc h
  ·rename_i hc;rw[hc]at h;have e:Mem.get m' t=Mem.get m t:=h t (tN m n _ _ t (by simp));rw[e];exact tO hk n _ _ h
mutual
theorem GF{m m':Mem}{ρ:List Nat}{bor:Nat→Bool}{nv:Nat→Nat→Nat}(hk:m'.map (·.key)=m.map (·.key))(h:∀k,(k∈ρ∨bor k=true)→Mem.get m' k=Mem.get m k):∀y:AV,vw m' ρ bor nv y=vw m ρ bor nv y
 | .ptr k aj off=>by
  by_cases zS:k∈ρ
  ·simp only[vw,h k (.inl zS)]
  ·have h0:∀m0:Mem,vw m0 ρ bor nv (.ptr k aj off)=.aZ:=by
    intro m0;simp only[vw,jr (ρ:=ρ) (k:=k) (j:=0) |>.2 zS];cases Mem.get m0 k<;>rfl
   rw[h0,h0]
 | .vec k aj off len=>by
  by_cases zS:k∈ρ∨bor k=true
  ·simp only[vw,h k zS]
  ·simp only[not_or]at zS;have h0:∀m0:Mem,vw m0 ρ bor nv (.vec k aj off len)=.aZ:=by
    intro m0;simp only[vw,jr (ρ:=ρ) (k:=k) (j:=0) |>.2 zS.1,zS.2];cases Mem.get m0 k with
    |none=>rfl
    |some e=>
     obtain⟨_,_,c⟩:=e;cases c<;>simp
   rw[h0,h0]
 | .cD k aj i j=>by
  by_cases zS:k∈ρ
  ·simp only[vw,h k (.inl zS)]
  ·have h0:∀m0:Mem,vw m0 ρ bor nv (.cD k aj i j)=.aZ:=by
    intro m0;simp only[vw,jr (ρ:=ρ) (k:=k) (j:=0) |>.2 zS];cases Mem.get m0 k<;>rfl
   rw[h0,h0]
 | .agg cs=>by simp only[vw,ux hk h cs]
 | .fn f cap=>by simp only[vw,ux hk h cap]
 | .aU vs=>by simp only[vw,ux hk h vs]
 | .aZ=>rfl
 | .d x=>rfl
 | .dE x j=>rfl
 | .gJ t x=>rfl
 | .lit v=>rfl
 | .nn=>rfl
 | .err=>rfl
theorem ux{m m':Mem}{ρ:List Nat}{bor:Nat→Bool}{nv:Nat→Nat→Nat}(hk:m'.map (·.key)=m.map (·.key))(h:∀k,(k∈ρ∨bor k=true)→Mem.get m' k=Mem.get m k):∀l:List AV,vws m' ρ bor nv l=vws m ρ bor nv l
 |[]=>rfl
 |x::r=>by simp only[vws,GF hk h x,ux hk h r]
end
theorem GG{m m':Mem}{ρ:List Nat}{bor:Nat→Bool}{nv:Nat→Nat→Nat}(hk:m'.map (·.key)=m.map (·.key))(h:∀k,(k∈ρ∨bor k=true)→Mem.get m' k=Mem.get m k):
 ∀(l:List Nat)(i:Nat),(∀k∈l,k∈ρ)→selL m' ρ bor nv i l=selL m ρ bor nv i l
 |[],i,_=>rfl
 |k::r,i,hl=>by
  simp only[selL,h k (.inl (hl k (by simp))),GG hk h r (i+1) (fun x hx=>hl x (by simp[hx]))];congr 1;cases Mem.get m k with
  |none=>rfl
  |some e=>
   simp only[selE,Prod.mk.injEq,true_and];cases e.cont with
   |box cs=>simp only[selC,ux hk h cs]
   |vv rows y=>
    cases y with
    |none=>rfl
    |some x=>simp only[selC,Option.map_some,GF hk h x]
   |_=>rfl
theorem BT{b:Bool}{m m':Mem}{ρ B:List Nat}(hk:m'.map (·.key)=m.map (·.key))(h:∀k,(k∈ρ∨B.contains k=true)→Mem.get m' k=Mem.get m k):∀l:List AV,vwArgs b m' ρ B l=vwArgs b m ρ B l
 |[]=>rfl
 |x::r=>by simp only[vwArgs,GF (nv:=nv0) hk h x,BT hk h r]
theorem Au{m m':Mem}(d:Nat):∀(l:List Nat),(∀k∈l,Mem.get m' k=Mem.get m k)→base m' d l=base m d l
 |[],_=>rfl
 |k::r,h=>by simp only[base,h k (by simp),Au d r (fun x hx=>h x (by simp[hx]))]
theorem GH{m m':Mem}(ρ:List Nat)(hk:m'.map (·.key)=m.map (·.key)):∀(l:List Nat),frOk m' ρ l=frOk m ρ l
 |[]=>rfl
 |k::r=>by
  have:(Mem.get m' k).isSome=(Mem.get m k).isSome:=by
   have:=tM hk k;cases h:Mem.get m k<;>cases h':Mem.get m' k<;>simp_all
  simp only[frOk,this,GH ρ hk r]
theorem BU{cl:bq}{m m':Mem}{k0:Nat}{g:FuncId}{ys:List AV}{mt:List Nat}{res:fH}(hk:m'.map (·.key)=m.map (·.key))(h:callOp cl m k0 g ys mt=some res)(hs:∀k∈res.ks,Mem.get m' k=Mem.get m k):
 callOp cl m' k0 g ys mt=some res:=by
 unfold callOp callOp2 callOp3 at h⊢;obtain⟨ρ,hρ⟩:∃ρ,ρ=collect m 64 (argKeys mt 0 ys) []:=⟨_,rfl⟩;rw[←hρ]at h;obtain⟨B,hB⟩:∃B,B=(argBor mt 0 ys).filter fun k=>!ρ.contains k:=⟨_,rfl⟩;rw[←hB]at h;have gT:∀k,k∈ρ∨B.contains k=true→Mem.get m' k=Mem.get m k:=by
  intro k cn;refine hs k ?_;unfold callBack at h;split at h
  ·split at h
   ·cases h;simp only[List.mem_append];rcases cn with h1|h1
    ·exact .inl (.inl h1)
    ·exact .inl (.inr (by simpa using h1))
   ·cases h
  ·cases h
 have e1:collect m' 64 (argKeys mt 0 ys) []=ρ:=by
  rw[hρ];exact tO hk 64 _ _ (fun k cn=>gT k (.inl (hρ▸cn)))
 rw[e1,←hB,BT hk gT,GG hk gT ρ 0 (fun _ h=>h),tM hk];unfold callBack at h⊢;split
 ·rename_i out l2 aO;rw[aO]at h;simp only at h;rw[GH ρ hk];split
  ·rename_i hc;rw[if_pos hc]at h;cases h;have e2:∀d,base m' d ρ=base m d ρ:=fun d=>Au d ρ (fun k cn=>gT k (.inl cn));have e3:∀d,base m' d (List.range' (k0+1) (l2.length-ρ.length))=base m d (List.range' (k0+1) (l2.length-ρ.length)):=fun d=>Au d _ (fun k cn=>hs k (by simp only[List.mem_append];exact .inr cn));rw[e2,e3]
  ·rename_i hc;rw[if_neg hc]at h;cases h
 ·rename_i aO;rw[aO]at h;cases h
theorem tP(S:St):∀(l:List Operand)(i:Nat),(argVals S l)[i]?=(l[i]?).map fun x=>(S.opd x).2
 |[],i=>by simp[argVals]
 |x::r,i=>by cases i with|zero=>simp[argVals]|succ i=>simp[argVals,tP S r i]
theorem iQ(S:St):∀(l:List Operand),(argVals S l).length=l.length
 |[]=>rfl
 |x::r=>by simp[argVals,iQ S r]
theorem vB(b m ρ B):∀(l:List AV)(i:Nat),(vwArgs b m ρ B l)[i]?=(l[i]?).map fun y=>nrm b (vw m ρ (fun k=>B.contains k) nv0 y)
 |[],i=>by simp[vwArgs]
 |x::r,i=>by cases i with|zero=>simp[vwArgs]|succ i=>simp[vwArgs,vB b m ρ B r i]
theorem qp(b m ρ B):∀(l:List AV),(vwArgs b m ρ B l).length=l.length
 |[]=>rfl
 |x::r=>by simp[vwArgs,qp b m ρ B r]
theorem xP(m ρ bor):∀(l:List Nat)(i j:Nat),inM i (conts (selL m ρ bor nv0 j l))=mkM i (selL m ρ bor nv0 j l)
 |[],i,j=>rfl
 |k::r,i,j=>by
  have:selE m ρ bor nv0 j (Mem.get m k)=(0,(selE m ρ bor nv0 j (Mem.get m k)).2):=by
   cases Mem.get m k<;>rfl
  simp only[selL];rw[this];simp only[conts,inM,mkM,xP m ρ bor r (i+1) (j+1)]
theorem Av{m:Mem}{ρ:List Nat}:∀{l:List Nat},frOk m ρ l=true→∀k∈l,(Mem.get m k).isSome=true∧k∉ρ
 |[],_,k,hk=>by simp at hk
 |x::r,h,k,hk=>by
  simp only[frOk,Bool.and_eq_true,Bool.not_eq_true',List.contains_eq_mem,decide_eq_false_iff_not]at h;rcases List.mem_cons.1 hk with rfl|hk
  ·exact h.1
  ·exact Av h.2 k hk
theorem vC:∀{l:List (Nat×aE)},plainL l=true→∀e∈l,plainC e.2=true
 |[],_,e,he=>by simp at he
 |(v,c)::r,h,e,he=>by
  simp only[plainL,Bool.and_eq_true]at h;rcases List.mem_cons.1 he with rfl|he
  ·exact h.1
  ·exact vC h.2 e he
theorem uy:∀(l:List (Nat×aE))(i k:Nat),i≤k→k<i+l.length→(Mem.get (mkM i l) k).isSome=true
 |[],i,k,h1,h2=>by simp at h2;omega
 |(v,c)::r,i,k,h1,h2=>by
  simp only[mkM,Mem.get];split
  ·rfl
  ·rename_i bE;exact uy r (i+1) k (by have abi:i≠k:=bE;omega) (by simp at h2;omega)
theorem Ev.frz{P:Program}{gl f args}{cs:List aE}{out:Out}{l2:List (Nat×aE)}(h:Ev P gl f args (inM 0 cs) fun o m=>o=out∧m=mkM 0 l2)(hl:cs.length≤l2.length):
 Ev P gl f args (inM 0 cs) fun o m=>o=frzO cs.length l2 out∧m=mkM 0 (selL (mkM 0 l2) (List.range cs.length) (fun _=>true) (fun _ v=>v) 0 (List.range cs.length)):=by
 intro φ G w vs hm hg kj ha;refine (h φ G w vs hm hg kj ha).mono ?_;rintro e w' ⟨φ',m',iK,⟨rfl,rfl⟩,dq,aN,fa⟩;obtain⟨s1,s2,s3⟩:=yJ (G1:=G) (ρ:=List.range cs.length) (bor:=fun _=>true) (nv:=fun _ v=>v) dq List.nodup_range (fun k hk=>uy l2 0 k (Nat.zero_le _) (by simp at hk;omega)) (fun b h=>.inl h) (fun b h=>dq.jY b h.own)
  (fun k e L b hg _ _ hL ho=>dq.jY _ ⟨e,(Mem.get_mem hg).1,L,by rw[(Mem.get_mem hg).2];exact hL,ho⟩)
 refine⟨_,_,_,⟨rfl,rfl⟩,s1,⟨?_,aN.wV,?_,aN.size,aN.os,aN.tape,aN.output⟩,?_⟩
 ·intro k L hL;have hk:k<cs.length:=by
   have:=hm.oB k L hL;rw[Gp,oU]at this;simpa using this
  obtain⟨L',h1,h2,h3⟩:=aN.le k L hL;exact⟨L',by simp[bM.gU,hk,h1],h2,h3⟩
 ·intro b hb ho;exact aN.own b hb ((uo (φ:=φ') (nv:=fun _ v=>v) (bor:=fun _=>true) (fun k hk=>uy l2 0 k (Nat.zero_le _) (by simp at hk;omega)) b).1 ho).own
 ·cases iK with
  |ret x=>
   cases e with
   |returned v=>exact (s2 x v fa).norm
   |_=>exact fa.elim
  |panic t x=>
   cases e with
   |panicked chain=>
    obtain⟨v,hc,hx⟩:=fa;exact⟨v,hc,hx.mono (fun _ _ _=>rfl) (Nat.le_refl _) (fun b _=>s3 b)⟩
   |_=>exact fa.elim
theorem rQ:∀(l:List (Nat×aE)),(conts l).length=l.length
 |[]=>rfl
 |(_,_)::r=>by simp[conts,rQ r]
theorem xQ{n0:Nat}{b:Bool}{r:Option (Out×List (Nat×aE))}{out:Out}{l:List (Nat×aE)}(h:frzR n0 b r=some (out,l)):∃GI l0,r=some (GI,l0)∧
 ((out=GI∧l=l0)∨(n0<l0.length∧out=frzO n0 l0 GI∧l=selL (mkM 0 l0) (List.range n0) (fun _=>true) (fun _ v=>v) 0 (List.range n0))):=by
 cases r with
 |none=>cases h
 |some p=>
  obtain⟨o0,l0⟩:=p;refine⟨o0,l0,rfl,?_⟩;simp only[frzR]at h;split at h
  ·rename_i hc;simp only[Bool.and_eq_true,decide_eq_true_eq]at hc;simp only[Option.some.injEq,Prod.mk.injEq]at h;exact .inr ⟨hc.2,h.1.symm,h.2.symm⟩
  ·simp only[Option.some.injEq,Prod.mk.injEq]at h;exact .inl ⟨h.1.symm,h.2.symm⟩
theorem Zm{n g:Nat}(h:g<n):fnIdN n g=g:=by
 unfold fnIdN;rw[decide_eq_false (Nat.not_le.2 h)]
theorem QX{n g:Nat}(h:g<n)(ys cZ:List AV):fnArgsN n g ys cZ=ys++cZ:=by
 unfold fnArgsN;rw[decide_eq_false (Nat.not_le.2 h)]
theorem Zn(n g:Nat):fnIdN n (g+n)=g:=by
 unfold fnIdN;rw[decide_eq_true (Nat.le_add_left n g)];exact Nat.add_sub_cancel g n
theorem QY(n g:Nat)(ys cZ:List AV):fnArgsN n (g+n) ys cZ=cZ++ys:=by
 unfold fnArgsN;rw[decide_eq_true (Nat.le_add_left n g)]
theorem abk{g:FuncId}(h:g<bnB):fnId g=g:=Zm h
theorem GJ{g:FuncId}(h:g<bnB)(ys cZ:List AV):fnArgs g ys cZ=ys++cZ:=QX h ys cZ
theorem abl(g:FuncId):fnId (g+bnB)=g:=Zn bnB g
theorem GK(g:FuncId)(ys cZ:List AV):fnArgs (g+bnB) ys cZ=cZ++ys:=QY bnB g ys cZ
theorem sN{X:Ctx}{cl:bq}(aO:iX X cl){S:St}{o:Oper}{fv:Operand}{args:Array Operand}{gV:Array TypeId}{g g0:FuncId}{cZ:List AV}{k0:Nat}{mt:List Nat}{res:fH}
 (ho:o.op=.call {callee:=.value fv,args,argTypes:=gV}) (gp:S.opd fv=(true,.fn g0 cZ)) (JP:fnId g0=g) (cQ:okAll S args.toList=true)
 (h:callOp cl S.mem k0 g (fnArgs g0 (argVals S args.toList) cZ) mt=some res) (ck:S.gl=X.gl) {φ G a w} (hr:Rel φ G S a w) {next:Act→World→Prop} {R:Exit→Act→World→Prop}
 (akP:∀x,res.out=.ret x→∀φ' w' v,Rel φ' G {S with mem:=putAll S.mem res.es} a w'→aP φ S.mem w φ' (putAll S.mem res.es) w'→aB φ' w' (Fo G φ' (putAll S.mem res.es)) x v→next (a.put o.dst v) w')
 (Gx:∀t x,res.out=.panic t x→∀φ' w' v,Rel φ' G {S with mem:=putAll S.mem res.es} a w'→aP φ S.mem w φ' (putAll S.mem res.es) w'→aK w' (Fo G φ' (putAll S.mem res.es)) x v→R (.panic [{v:=.iface t v,recovered:=false}]) a w'):o.wp X.P a w next R:=by
 unfold callOp callOp2 callOp3 at h;obtain⟨ρ,hρ⟩:∃ρ,ρ=collect S.mem 64 (argKeys mt 0 (fnArgs g0 (argVals S args.toList) cZ)) []:=⟨_,rfl⟩;have GL:=nS S.mem 64 (argKeys mt 0 (fnArgs g0 (argVals S args.toList) cZ)) [] List.nodup_nil (by simp);rw[←hρ]at h GL;generalize (argBor mt 0 (fnArgs g0 (argVals S args.toList) cZ)).filter (fun k=>!ρ.contains k)=B at h;clear hρ;obtain⟨hn,dP⟩:=GL;unfold callBack at h;split at h
 ·rename_i out l2 dV;split at h
  ·rename_i hc;cases h;have abm:gC X.P g=true∧Ev X.P X.gl g (vwArgs (mt.contains 1000) S.mem ρ B (fnArgs g0 (argVals S args.toList) cZ)) (inM 0 (conts (selL S.mem ρ (fun k=>B.contains k) nv0 0 ρ))) fun o m=>o=out∧m=mkM 0 l2:=by
    obtain⟨GI,l0,h0,h1⟩:=xQ dV;obtain⟨gO,GM⟩:=aO _ _ _ _ _ h0;refine⟨gO,?_⟩;rcases h1 with ⟨rfl,rfl⟩|⟨bn,rfl,rfl⟩
    ·exact GM
    ·have GN:(conts (selL S.mem ρ (fun k=>B.contains k) nv0 0 ρ)).length=ρ.length:=by rw[rQ,pA]
     have:=GM.frz (by rw[GN];omega);rw[GN]at this;exact this
   obtain⟨sO,bU⟩:=abm;simp only[Bool.and_eq_true,Bool.or_eq_true,decide_eq_true_eq]at hc;obtain⟨⟨hlen,DQ⟩,dz⟩:=hc;rw[xP]at bU;obtain⟨v1,v2,v3⟩:=DT (B:=B) hr.mem hn dP;have wE:=hr.opd fv (by rw[gp]);rw[gp]at wE;generalize Ws:a.eval fv=akQ at wE;have sC:∃vs:Array Value,(execOp a.eval o).run X.P w=.ok (.enter g vs) w∧(fnArgs g0 (argVals S args.toList) cZ).length=vs.size∧∀(i:Nat) y v,(fnArgs g0 (argVals S args.toList) cZ)[i]?=some y→vs[i]?=some v→aB φ w (Fo G φ S.mem) y v:=by
    have kE:∀(i:Nat) y v,(argVals S args.toList)[i]?=some y→(args.map a.eval)[i]?=some v→aB φ w (Fo G φ S.mem) y v:=by
     intro i y v hy hv;rw[tP]at hy;simp only[Array.getElem?_map,Option.map_eq_some_iff]at hv;obtain⟨z,hz,rfl⟩:=hv;obtain⟨z',sG,rfl⟩:=Option.map_eq_some_iff.1 hy;rw[Array.getElem?_toList,hz]at sG;cases sG;exact hr.opd z (sB cQ z (by simpa using Array.mem_of_getElem? hz))
    have xp:(argVals S args.toList).length=(args.map a.eval).size:=by rw[iQ];simp
    have abn:∀(l r:List AV)(la ra:Array Value),l.length=la.size→r.length=ra.size→(∀(i:Nat) y v,l[i]?=some y→la[i]?=some v→aB φ w (Fo G φ S.mem) y v)→(∀(i:Nat) y v,r[i]?=some y→ra[i]?=some v→aB φ w (Fo G φ S.mem) y v)→
     ∀(i:Nat) y v,(l++r)[i]?=some y→(la++ra)[i]?=some v→aB φ w (Fo G φ S.mem) y v:=by
     intro l r la ra h1 h2 h3 h4 i y v hy hv;by_cases hi:i<l.length
     ·rw[List.getElem?_append_left hi]at hy;rw[Array.getElem?_append_left (by omega)]at hv;exact h3 i y v hy hv
     ·rw[List.getElem?_append_right (by omega)]at hy;rw[Array.getElem?_append_right (by omega),←h1]at hv;exact h4 _ y v hy hv
    cases wE with
    |fn _ _ ca bn fU b7=>
     have e2:g0=g:=by rw[←JP,abk bn]
     subst e2;refine⟨args.map a.eval++ca,by simp[execOp,ho,resolve,Ws,Deferred.ofValue,invoke,rP sO],?_,?_⟩
     ·rw[GJ bn,List.length_append,xp,fU,Array.size_append]
     ·rw[GJ bn];exact abn _ _ _ _ xp fU kE b7
    |qx f _ ca fU b7=>
     have e2:f=g:=by rw[←JP,abl]
     subst e2;refine⟨ca++args.map a.eval,by simp[execOp,ho,resolve,Ws,Deferred.ofValue,invoke,rP sO],?_,?_⟩
     ·rw[GK,List.length_append,xp,fU,Array.size_append]
     ·rw[GK];exact abn _ _ _ _ fU xp b7 kE
   obtain⟨vs,bL,Ob,eh⟩:=sC
   ·unfold Oper.wp;rw[bL];have afM:(vwArgs (mt.contains 1000) S.mem ρ B (fnArgs g0 (argVals S args.toList) cZ)).length=vs.size:=by
     rw[qp];exact Ob
    have bY:∀(i:Nat) x v,(vwArgs (mt.contains 1000) S.mem ρ B (fnArgs g0 (argVals S args.toList) cZ))[i]?=some x→vs[i]?=some v→aB (φ.gU ρ nv0) w (Fo (kD φ G S.mem ρ B) (φ.gU ρ nv0) (mkM 0 (selL S.mem ρ (fun k=>B.contains k) nv0 0 ρ))) x v:=by
     intro i x v hx hv;rw[vB]at hx;obtain⟨y,hy,rfl⟩:=Option.map_eq_some_iff.1 hx;exact (v2 y v (eh i y v hy hv)).nrm
    have n7:eF w (Fo (kD φ G S.mem ρ B) (φ.gU ρ nv0) (mkM 0 (selL S.mem ρ (fun k=>B.contains k) nv0 0 ρ))) X.gl:=by
     rw[←ck];exact hr.jZ.mono (fun _ _ _=>rfl) (Nat.le_refl _) (fun b _=>v3 b)
    refine (bU (φ.gU ρ nv0) (kD φ G S.mem ρ B) w _ v1 n7 afM bY).mono ?_;rintro e w' ⟨φ2,m2,iK,⟨rfl,rfl⟩,jt,cn,fa⟩;have Aw:B=[]∨(plainO iK=true∧plainL l2=true):=dz.imp (by simp) id;obtain⟨φ',dq,aN,qC⟩:=DU (B:=B) hr.mem hn dP (fr:=List.range' (k0+1) (l2.length-ρ.length)) List.nodup_range' (Av DQ) jt cn (by simp;omega) (Aw.imp id fun hp=>vC hp.2);have b6:=hr.wX dq aN;cases iK with
    |ret x=>
     cases e with
     |returned v=>exact akP _ rfl φ' w' v b6 aN (qC x v (Aw.imp id fun hp=>hp.1) fa)
     |_=>exact fa.elim
    |panic t x=>
     cases e with
     |panicked chain=>
      obtain⟨v,rfl,hx⟩:=fa;have:=qC (.d x) v (Aw.imp id fun hp=>hp.1) (.d _ _ hx);cases this with
      |d _ _ hd=>exact Gx t x rfl φ' w' v b6 aN hd
     |_=>exact fa.elim
  ·cases h
 ·cases h
abbrev Is(e:XE)(S':St):XE→St→Prop:=fun e' Gk=>e'=e∧Gk=S'
def JQ(P:Program)(S:St)(o:Oper)(e:XE)(S':St):Prop:=
 S'.n=S.n∧S'.gl=S.gl∧(e=.normal∨∃t x,e=.panic t x)∧∀φ G a w,Rel φ G S a w→∀(next:Act→World→Prop)(R:Exit→Act→World→Prop),
  (e=.normal→∀φ' a' w',Rel φ' G S' a' w'→aP φ S.mem w φ' S'.mem w'→next a' w')→
  (∀t x,e=.panic t x→∀φ' a' w' v,Rel φ' G S' a' w'→aP φ S.mem w φ' S'.mem w'→aK w' (Fo G φ' S'.mem) x v→R (.panic [{v:=.iface t v,recovered:=false}]) a' w')→o.wp P a w next R
theorem kQ(S:St)(d g x):(S.put d g x).gl=S.gl:=by cases d<;>rfl
section
variable {X:Ctx} {cl:bq} {S S':St} {o:Oper} {e:XE}
theorem yN{c:Bool}{x:AV}{gb:Bool}(hs:stepv X.P S o=.val c x)(cQ:(opOk S o&&c)=true)(hd:∀t,o.dst=some t→t<S.n):JQ X.P S o .normal (S.put o.dst gb x):=by
 simp only[Bool.and_eq_true]at cQ;have:=Gf X.P S o cQ.1;rw[hs]at this;refine⟨lu ..,kQ ..,.inl rfl,fun φ G a w hr next R hn _=>?_⟩;exact T6 this cQ.2 hr hd (fun a' w' b6 aN=>hn rfl φ a' w' b6 (by rw[eY];exact aN))
theorem JR{c:Bool}{x:AV}{D6:cH}(hs:stepv X.P S o=.cW c x D6)(cQ:(opOk S o&&c)=true)(hd:∀t,o.dst=some t→t<S.n):JQ X.P S o .normal (({S with mem:=Mem.set S.mem D6}:St).put o.dst true x):=by
 simp only[Bool.and_eq_true]at cQ;have:=Gf X.P S o cQ.1;rw[hs]at this;refine⟨lu ..,kQ ..,.inl rfl,fun φ G a w hr next R hn _=>?_⟩;exact T7 this cQ.2 hr hd (fun φ' a' w' b6 aN=>hn rfl φ' a' w' b6 (by rw[eY];exact aN))
theorem lK{args:List Operand}{fv:Bool×AV}{res:fH}(h:callVal X cl S o args fv=some res):∃g cZ,fv=(true,.fn g cZ)∧okAll S args=true∧callOp cl S.mem (keyOf o) (fnId g) (fnArgs g (argVals S args) cZ) (X.fp (fnId g)).vr=some res:=by
 unfold callVal at h;split at h
 ·rename_i g cZ;split at h
  ·rename_i cQ;exact⟨g,cZ,rfl,cQ,h⟩
  ·cases h
 ·cases h
theorem Ul(aO:iX X cl){fv:Operand}{args:Array Operand}{gV:Array TypeId}(ho:o.op=.call {callee:=.value fv,args,argTypes:=gV})(ck:S.gl=X.gl)(hd:∀t,o.dst=some t→t<S.n)
 (h:de S o.dst (callVal X cl S o args.toList (S.opd fv))=some (e,S')):JQ X.P S o e S':=by
 cases mH:callVal X cl S o args.toList (S.opd fv)with
 |none=>rw[mH]at h;cases h
 |some res=>
  rw[mH]at h;obtain⟨g,cZ,gp,cQ,dV⟩:=lK mH;obtain⟨out,es,ks⟩:=res;cases out with
  |ret x=>
   simp only[de,Option.some.injEq,Prod.mk.injEq]at h;obtain⟨rfl,rfl⟩:=h;refine⟨lu ..,kQ ..,.inl rfl,fun φ G a w hr next R hn _=>?_⟩;refine sN aO ho gp rfl cQ dV ck hr (fun x' hx φ' w' v b6 aN hv=>?_) (fun t x' hx=>by cases hx);cases hx;exact hn rfl φ' _ w' (b6.put o.dst hd true x v (fun _=>hv)) (by rw[eY];exact aN)
  |panic t x=>
   simp only[de,Option.some.injEq,Prod.mk.injEq]at h;obtain⟨rfl,rfl⟩:=h;refine⟨rfl,rfl,.inr ⟨t,x,rfl⟩,fun φ G a w hr next R _ hp=>?_⟩;refine sN aO ho gp rfl cQ dV ck hr (fun x' hx=>by cases hx) (fun t' x' hx φ' w' v b6 aN hv=>?_);cases hx;exact hp t x rfl φ' a w' v b6 aN hv
theorem QZ{x:Operand}(ho:o.op=.panic x)(h:Ar S (S.opd x)=some (e,S')):JQ X.P S o e S':=by
 cases hx:S.opd x with
 |mk g y=>
  rw[hx]at h;unfold Ar at h;split at h
  ·rename_i t d heq;cases heq;simp only[Option.some.injEq,Prod.mk.injEq]at h;obtain⟨rfl,rfl⟩:=h;refine⟨rfl,rfl,.inr ⟨t,d,rfl⟩,fun φ G a w hr next R _ hp=>?_⟩;have hv:=hr.opd x (by rw[hx]);rw[hx]at hv;generalize bU:a.eval x=u at hv;cases hv with
   |gJ _ _ v hd=>
    have bL:(execOp a.eval o).run X.P w=.halt (.panic (.iface t v)) w:=by
     simp[execOp,ho,bU,Instr.panic]
    unfold Oper.wp;rw[bL];exact hp t d rfl φ a w v hr (aP.refl ..) hd
  ·cases h
theorem xR(aO:iX X cl)(ck:S.gl=X.gl)(hd:∀t,o.dst=some t→t<S.n)(h:gQ X cl S o (stepv X.P S o)=some (e,S')):JQ X.P S o e S':=by
 generalize hs:stepv X.P S o=r at h;cases r with
 |val c x=>
  simp only[gQ]at h;split at h
  ·rename_i cQ;cases h;exact yN hs cQ hd
  ·cases h
 |cW c x D6=>
  simp only[gQ]at h;split at h
  ·rename_i cQ;cases h;exact JR hs cQ hd
  ·cases h
 |no=>
  simp only[gQ,p9]at h;split at h
  ·rename_i fv args gV ho;exact Ul aO ho ck hd h
  ·rename_i x ho;exact QZ ho h
  ·cases h
def xS(P:Program)(all:List Oper)(S:St)(o:Oper)(e:XE)(S':St):Prop:=
 S'.n=S.n∧S'.gl=S.gl∧(e=.normal∨∃t x,e=.panic t x)∧∀φ G a w,Rel φ G S a w→∀(next:Act→World→Prop)(R:Exit→Act→World→Prop),
  (e=.normal→∀φ' a' w',Rel φ' G S' a' w'→aP φ S.mem w φ' S'.mem w'→next a' w')→
  (∀t x,e=.panic t x→∀φ' a' w' v,Rel φ' G S' a' w'→aP φ S.mem w φ' S'.mem w'→aK w' (Fo G φ' S'.mem) x v→R (.panic [{v:=.iface t v,recovered:=false}]) a' w')→
  if Region.wanted o (yielded all.toArray a.tmps)then o.wp P a w next R else next (a.put o.dst undef) w
theorem yO{all:List Oper}(h:JQ X.P S o e S')(hw:∀φ G a w,Rel φ G S a w→Region.wanted o (yielded all.toArray a.tmps)=true):xS X.P all S o e S':=by
 obtain⟨h1,h2,h3,h4⟩:=h;refine⟨h1,h2,h3,fun φ G a w hr next R hn hp=>?_⟩;rw[if_pos (hw φ G a w hr)];exact h4 φ G a w hr next R hn hp
theorem xT{φ:bM}{w:World}{F:Nat→Prop}{x:AV}(hx:x=.aZ∨x=.aU []):aB φ w F x undef:=by
 rcases hx with rfl|rfl
 ·exact .aZ _
 ·exact .aU [] #[] rfl (fun i c v h=>by simp at h)
theorem BV{all:List Oper}{j:Nat}{φ G a w}(h:Rel φ G S a w)(hg:grd all S j=some (true,.aU [])):yielded all.toArray a.tmps j=none:=by
 unfold grd at hg;split at hg
 ·rename_i o ho;split at hg
  ·rename_i t ht;have h1:=h.env t _ hg;unfold yielded;simp only[List.getElem?_toArray,ho,Option.bind_some,ht];rw[Array.getD_eq_getD_getElem?]at h1;cases hq:a.tmps[t]? with
   |none=>rfl
   |some v=>
    rw[hq]at h1;simp only[Option.getD_some]at h1;cases h1;rfl
  ·cases hg
 ·cases hg
theorem GO{all:List Oper}{gb:Bool}{x:AV}(hx:gb=true→x=.aZ∨x=.aU [])(hd:∀t,o.dst=some t→t<S.n)(hw:∀φ G a w,Rel φ G S a w→Region.wanted o (yielded all.toArray a.tmps)=false):xS X.P all S o .normal (S.put o.dst gb x):=by
 refine⟨lu ..,kQ ..,.inl rfl,fun φ G a w hr next R hn _=>?_⟩;rw[if_neg (by rw[hw φ G a w hr];simp)];exact hn rfl φ _ w (hr.put o.dst hd gb x undef (fun hg=>xT (hx hg))) (by rw[eY];exact aP.refl ..)
theorem D7{all:List Oper}{j:Nat}{want t:Bool}(hg:o.guard=some (j,want))(fZ:grd all S j=some (true,.d (.bool t))){φ G a w}(hr:Rel φ G S a w):Region.wanted o (yielded all.toArray a.tmps)=(t == want):=by
 have hy:=QE hr fZ;simp only[Region.wanted,hg,hy];cases t<;>cases want<;>rfl
theorem Ax(S:St)(d b):(S.cz d b).n=S.n:=lu ..
theorem yP(S:St)(d b):(S.cz d b).gl=S.gl:=kQ ..
theorem BW(S:St)(d b):(S.cz d b).mem=S.mem:=eY ..
theorem Wt{all:List Oper}{S:St}{j:Nat}{t b:Bool}(fZ:grd all S j=some (true,.d (.bool t)))(hb:t=b)(u:Nat):Env.lk (S.cz (dstAt all j) b).env u=Env.lk S.env u:=by
 subst hb;unfold grd at fZ;unfold St.cz dstAt;split at fZ
 ·rename_i oj hj;split at fZ
  ·rename_i d hd;simp only[hj,hd,St.put,Env.lk];split
   ·rename_i hu;subst hu;exact fZ.symm
   ·rfl
  ·cases fZ
 ·cases fZ
theorem abo{all:List Oper}{S:St}{j:Nat}{t b:Bool}(fZ:grd all S j=some (true,.d (.bool t)))(hb:t=b){φ G a w}(hr:Rel φ G S a w):Rel φ G (S.cz (dstAt all j) b) a w:=
 Rel.eqv hr ⟨(Ax ..).symm,(yP ..).symm,(BW ..).symm,fun u=>(Wt fZ hb u).symm⟩
theorem rR{all:List Oper}(aO:iX X cl)(ck:S.gl=X.gl)(hd:∀t,o.dst=some t→t<S.n){md:Bool}(h:mb X cl md all S o=some (e,S')):xS X.P all S o e S':=by
 unfold mb at h;split at h
 ·rename_i hg;exact yO (xR aO ck hd h) (fun _ _ _ _ _=>by simp[Region.wanted,hg])
 ·rename_i j want hg;split at h
  ·rename_i t fZ;replace fZ:=Gy fZ;have hw:∀φ G a w,Rel φ G S a w→Region.wanted o (yielded all.toArray a.tmps)=(t == want):=fun φ G a w hr=>D7 hg fZ hr;have other:∀{r:di},stepv X.P S o=r→(if (t == want)=true then gQ X cl S o r else some (.normal,S.put o.dst true .aZ))=some (e,S')→xS X.P all S o e S':=by
    intro r hs h;split at h
    ·rename_i hb;exact yO (xR aO ck hd (by rw[hs];exact h)) (fun φ G a w hr=>by rw[hw φ G a w hr];exact hb)
    ·rename_i hb;cases h;exact GO (fun _=>.inl rfl) hd (fun φ G a w hr=>by rw[hw φ G a w hr];simpa using hb)
   cases md with
   |true=>
    simp only at h;have hcz:∀b,t=b→∀φ G a w,Rel φ G S a w→Rel φ G (S.cz (dstAt all j) b) a w:=fun b hb φ G a w hr=>abo fZ hb hr;split at h
    ·rename_i hb;have pT:t=want:=by simpa using hb
     have:=xR (S:=S.cz (dstAt all j) want) aO (by rw[yP];exact ck) (fun t ht=>by rw[Ax];exact hd t ht) h;obtain⟨h1,h2,h3,h4⟩:=this;refine yO ⟨by rw[h1,Ax],by rw[h2,yP],h3,fun φ G a w hr next R hn hp=>?_⟩ (fun φ G a w hr=>by rw[hw φ G a w hr];exact hb);have h5:=h4 φ G a w (hcz want pT φ G a w hr) next R
     rw[BW]at h5;exact h5 hn hp
    ·rename_i hb;have pT:t=!want:=by cases t<;>cases want<;>simp_all
     cases h;refine⟨by rw[lu,Ax],by rw[kQ,yP],.inl rfl,fun φ G a w hr next R hn _=>?_⟩;rw[if_neg (by rw[hw φ G a w hr];simpa using hb)];exact hn rfl φ _ w ((hcz _ pT φ G a w hr).put o.dst (fun t ht=>by rw[Ax];exact hd t ht) true (.aU []) undef (fun _=>xT (.inr rfl))) (by rw[eY,BW];exact aP.refl ..)
   |false=>
   simp only at h;unfold nC at h;split at h
   ·rename_i c x hs;split at h
    ·rename_i hc;cases h;cases hb:(t == want)
     ·exact GO (by simp) hd (fun φ G a w hr=>by rw[hw φ G a w hr];exact hb)
     ·exact yO (yN hs (hc hb) hd) (fun φ G a w hr=>by rw[hw φ G a w hr];exact hb)
    ·cases h
   ·rename_i r hr;exact other rfl h
  ·rename_i fZ;replace fZ:=D5 fZ;cases h;exact GO (fun _=>.inr rfl) hd (fun φ G a w hr=>by
    simp only[Region.wanted,hg,BV hr fZ];cases want<;>rfl)
  ·cases h
theorem gD{r:Option (XE×St)}{k:St→Option (XE×St)}{y:XE×St}(h:andThen r k=some y):(∃S1,r=some (.normal,S1)∧k S1=some y)∨(r=some y∧y.1≠.normal):=by
 unfold andThen at h;split at h
 ·rename_i S1;exact .inl ⟨S1,rfl,h⟩
 ·rename_i hr;refine .inr ⟨h,fun he=>?_⟩;obtain⟨e,S1⟩:=y;simp only at he;subst he;exact hr S1 h
theorem aP.post{n:Nat}{φ φ':bM}{G:Fr}{m:Mem}{w w':World}{e:XE}{S':St}{a':Act}(hn:S'.n=n)(hr:Rel φ' G S' a' w')(hk:aP φ m w φ' S'.mem w')(he:e=.normal):my n φ G m w (Is e S') .normal a' w':=
 ⟨φ',S',hn,⟨he.symm,rfl⟩,hr,hk⟩
theorem xU{md:Bool}{all:List Oper}(aO:iX X cl):∀(ops:List Oper)(S:St)(e:XE)(S':St),fh X cl md all ops S=some (e,S')→S.gl=X.gl→jq S.n ops=true→
 S'.n=S.n∧S'.gl=S.gl∧∀φ G a w,Rel φ G S a w→∀Q:Exit→Act→World→Prop,(∀e' a' w',my S.n φ G S.mem w (Is e S') e' a' w'→Q e' a' w')→wpList X.P all.toArray Q ops a w
 |[],S,e,S',h,ck,hd=>by
  simp only[fh,Option.some.injEq,Prod.mk.injEq]at h;obtain⟨rfl,rfl⟩:=h;exact⟨rfl,rfl,fun φ G a w hr Q hQ=>hQ _ _ _ (aP.post rfl hr (aP.refl ..) rfl)⟩
 |o::rest,S,e,S',h,ck,hd=>by
  simp only[jq,List.all_cons,Bool.and_eq_true]at hd;obtain⟨qb,hd⟩:=hd;have qF:∀t,o.dst=some t→t<S.n:=fun t ht=>by rw[ht]at qb;simpa using qb
  simp only[fh]at h;rcases gD h with ⟨S1,h1,h2⟩|⟨h1,h2⟩
  ·obtain⟨dJ,eR,_,cS⟩:=rR aO ck qF h1;obtain⟨qB,mo,BX⟩:=xU aO rest S1 e S' h2 (eR.trans ck) (by rw[dJ];exact hd);refine⟨qB.trans dJ,mo.trans eR,fun φ G a w hr Q hQ=>?_⟩;have:=cS φ G a w hr (wpList X.P all.toArray Q rest) Q
    (fun _ φ' a' w' b6 aN=>BX φ' G a' w' b6 Q (fun e' a2 w2 hp=>hQ e' a2 w2 (by rw[←dJ];exact hp.weaken aN))) (fun t x he=>by cases he)
   unfold wpList;split
   ·rename_i hw;rw[if_pos hw]at this;exact .inl this
   ·rename_i hw;rw[if_neg hw]at this;exact this
  ·obtain⟨dJ,eR,hee,cS⟩:=rR aO ck qF h1;refine⟨dJ,eR,fun φ G a w hr Q hQ=>?_⟩;have:=cS φ G a w hr (wpList X.P all.toArray Q rest) Q
    (fun he=>absurd he h2) (fun t x he φ' a' w' v b6 aN hv=>hQ _ _ _ ⟨φ',S',t,x,v,rfl,hv,dJ,⟨he.symm,rfl⟩,b6,aN⟩)
   unfold wpList;split
   ·rename_i hw;rw[if_pos hw]at this;exact .inl this
   ·rename_i hw;rw[if_neg hw]at this;exact this
theorem qc{all:List Oper}{ks:List Nat}{S' S:St}(h:jU all o ks S' S){x:Operand}(hx:x∈o.op.operands.toList):S'.opd x=S.opd x:=by
 cases x with
 |tmp t=>
  simp only[St.opd];rw[h.env t (by simp only[looks,List.mem_append,List.mem_filterMap];exact .inl ⟨.tmp t,hx,rfl⟩)]
 |global g=>simp only[St.opd,h.gl]
 |_=>rfl
theorem D8{all:List Oper}{ks:List Nat}{S' S:St}(h:jU all o ks S' S){j want}(hg:o.guard=some (j,want)):Am.grd all S' j=Am.grd all S j:=by
 unfold Am.grd;split
 ·rename_i oj hj;split
  ·rename_i t ht;exact h.env t (by simp only[looks,List.mem_append,hg,Wq,hj,ht];exact .inr (by simp))
  ·rfl
 ·rfl
theorem sP{S' S:St}:∀{l:List Operand},(∀x∈l,S'.opd x=S.opd x)→okAll S' l=okAll S l
 |[],_=>rfl
 |x::r,h=>by simp only[okAll,h x (by simp),sP (l:=r) (fun y hy=>h y (List.mem_cons_of_mem _ hy))]
theorem tQ{S' S:St}:∀{l:List Operand},(∀x∈l,S'.opd x=S.opd x)→argVals S' l=argVals S l
 |[],_=>rfl
 |x::r,h=>by simp only[argVals,h x (by simp),tQ (l:=r) (fun y hy=>h y (List.mem_cons_of_mem _ hy))]
theorem GP{S' S:St}(h:∀x∈o.op.operands.toList,S'.opd x=S.opd x):opOk S' o=opOk S o:=by
 unfold opOk;split
 ·rfl
 ·exact sP h
theorem D9{all:List Oper}{c:Bool}{x:AV}{gb:Bool}(hd:∀t,o.dst=some t→t<S.n)(hs:stepv X.P S o=.val c x)(cQ:(opOk S o&&c)=true)
 (hw:∀S',jU all o (touch S o) S' S→∀φ G a w,Rel φ G S' a w→Region.wanted o (yielded all.toArray a.tmps)=true):jV X.P all S o ⟨touch S o,[],gb,x⟩:=by
 intro S' ha φ G a w hr next R hn
 rw[if_pos (hw S' ha φ G a w hr)];have hx:∀x∈o.op.operands.toList,S'.opd x=S.opd x:=fun x hx=>qc ha hx;have pN:stepv X.P S' o=.val c x:=by rw[DY hx ha.mem];exact hs
 obtain⟨_,_,_,h4⟩:=yN (gb:=gb) pN (by rw[GP hx];exact cQ) (fun t ht=>by rw[ha.n];exact hd t ht);exact h4 φ G a w hr next R (fun _ φ' a' w' b6 aN=>hn φ' a' w' b6 aN) (fun t x he=>by cases he)
theorem Q0{all:List Oper}{c:Bool}{x:AV}{D6:cH}(hd:∀t,o.dst=some t→t<S.n)(hs:stepv X.P S o=.cW c x D6)(cQ:(opOk S o&&c)=true)
 (hw:∀S',jU all o (touch S o) S' S→∀φ G a w,Rel φ G S' a w→Region.wanted o (yielded all.toArray a.tmps)=true):jV X.P all S o ⟨touch S o,[D6],true,x⟩:=by
 intro S' ha φ G a w hr next R hn
 rw[if_pos (hw S' ha φ G a w hr)];have hx:∀x∈o.op.operands.toList,S'.opd x=S.opd x:=fun x hx=>qc ha hx;have pN:stepv X.P S' o=.cW c x D6:=by rw[DY hx ha.mem];exact hs
 obtain⟨_,_,_,h4⟩:=JR pN (by rw[GP hx];exact cQ) (fun t ht=>by rw[ha.n];exact hd t ht);exact h4 φ G a w hr next R (fun _ φ' a' w' b6 aN=>hn φ' a' w' b6 aN) (fun t x he=>by cases he)
theorem qU{all:List Oper}{ks:List Nat}{gb:Bool}{x:AV}(hd:∀t,o.dst=some t→t<S.n)(hx:gb=true→x=.aZ∨x=.aU [])
 (hw:∀S',jU all o ks S' S→∀φ G a w,Rel φ G S' a w→Region.wanted o (yielded all.toArray a.tmps)=false):jV X.P all S o ⟨ks,[],gb,x⟩:=by
 intro S' ha φ G a w hr next R hn
 rw[if_neg (by rw[hw S' ha φ G a w hr];simp)];exact hn φ _ w (hr.put o.dst (fun t ht=>by rw[ha.n];exact hd t ht) gb x undef (fun hg=>xT (hx hg))) (by simp only[aS.app,eY];exact aP.refl ..)
theorem Oc{all:List Oper}(aO:iX X cl)(ck:S.gl=X.gl)(hd:∀t,o.dst=some t→t<S.n){fv:Operand}{args:Array Operand}{gV:Array TypeId}(ho:o.op=.call {callee:=.value fv,args,argTypes:=gV})
 {x:AV} {es:List cH} {ks:List Nat} (h:callVal X cl S o args.toList (S.opd fv)=some ⟨.ret x,es,ks⟩)
 (hw:∀S',jU all o ks S' S→∀φ G a w,Rel φ G S' a w→Region.wanted o (yielded all.toArray a.tmps)=true):jV X.P all S o ⟨ks,es,true,x⟩:=by
 intro S' ha φ G a w hr next R hn
 rw[if_pos (hw S' ha φ G a w hr)];have hx:∀x∈o.op.operands.toList,S'.opd x=S.opd x:=fun x hx=>qc ha hx;have Q1:∀x∈args.toList,S'.opd x=S.opd x:=fun x gm=>hx x (by simp[ho,Op.operands,Call.operands];exact .inr (by simpa using gm));obtain⟨g,cZ,gp,cQ,dV⟩:=lK h;have Ay:S'.opd fv=(true,.fn g cZ):=by rw[hx fv (by simp[ho,Op.operands,Call.operands])];exact gp
 have GQ:callOp cl S'.mem (keyOf o) (fnId g) (fnArgs g (argVals S' args.toList) cZ) (X.fp (fnId g)).vr=some ⟨.ret x,es,ks⟩:=by
  rw[tQ Q1];exact BU ha.keys dV (fun k hk=>ha.mem k hk)
 refine sN aO ho Ay rfl (by rw[sP Q1];exact cQ) GQ (ha.gl.trans ck) hr (fun x' nu φ' w' v b6 aN hv=>?_) (fun t x' nu=>by cases nu);cases nu;exact hn φ' _ w' (b6.put o.dst (fun t ht=>by show t<S'.n;rw[ha.n];exact hd t ht) true x v (fun _=>hv)) (by simp only[aS.app,eY];exact aN)
theorem GR{all:List Oper}{S1:St}{p:aS}(aO:iX X cl)(ck:S.gl=X.gl)(hd:∀t,o.dst=some t→t<S.n){r:di}(hs:stepv X.P S o=r)(h:dstep X cl S o r=some (S1,p))
 (hw:∀(ks:List Nat) S',jU all o ks S' S→∀φ G a w,Rel φ G S' a w→Region.wanted o (yielded all.toArray a.tmps)=true):S1=p.app o S∧(∀e∈p.es,e.key∈p.ks)∧jV X.P all S o p:=by
 cases r with
 |val c x=>
  simp only[dstep]at h;split at h
  ·rename_i cQ;cases h;exact⟨rfl,by simp,D9 hd hs cQ (hw _)⟩
  ·cases h
 |cW c x D6=>
  simp only[dstep]at h;split at h
  ·rename_i cQ;cases h;simp only[Bool.and_eq_true,List.contains_eq_mem,decide_eq_true_eq]at cQ;exact⟨rfl,by simpa using cQ.2,Q0 hd hs (by simpa using cQ.1) (hw _)⟩
  ·cases h
 |no=>
  simp only[dstep,kF]at h;split at h
  ·rename_i fv args gV ho;cases mH:callVal X cl S o args.toList (S.opd fv)with
   |none=>rw[mH]at h;cases h
   |some res=>
    rw[mH]at h;obtain⟨out,es,ks⟩:=res;cases out with
    |panic=>cases h
    |ret x=>
     cases h;refine⟨rfl,?_,Oc aO ck hd ho mH (hw _)⟩;obtain⟨g,cZ,gp,cQ,dV⟩:=lK mH;unfold callOp callOp2 callOp3 callBack at dV;split at dV
     ·rename_i out l2 _;split at dV
      ·rename_i hc;simp only[Bool.and_eq_true,decide_eq_true_eq]at hc;simp only[Option.some.injEq,fH.mk.injEq]at dV;obtain⟨_,rfl,rfl⟩:=dV;intro e he;obtain⟨j,v,c,hj,rfl⟩:=pY.1 he;have gP:=(List.getElem?_eq_some_iff.1 hj).1;simp only[Nat.zero_add];generalize collect S.mem 64 (argKeys (X.fp (fnId g)).vr 0 (fnArgs g (argVals S args.toList) cZ)) []=ρ at hc gP⊢;have bn:j<(ρ++List.range' (keyOf o+1) (l2.length-ρ.length)).length:=by simp;omega
       have hm:=List.getElem_mem bn;have e2:(ρ++List.range' (keyOf o+1) (l2.length-ρ.length)).getD j 0=(ρ++List.range' (keyOf o+1) (l2.length-ρ.length))[j]:=by
        rw[List.getD_eq_getElem?_getD,List.getElem?_eq_getElem bn];rfl
       rw[e2];rcases List.mem_append.1 hm with h1|h1
       ·exact List.mem_append_left _ (List.mem_append_left _ h1)
       ·exact List.mem_append_right _ h1
      ·cases dV
     ·cases dV
  ·cases h
theorem gB.refl(S:St):gB S S:=⟨rfl,rfl,rfl,fun _=>rfl⟩
theorem gB.symm{S S':St}(h:gB S S'):gB S' S:=⟨h.n.symm,h.gl.symm,h.mem.symm,fun t=>(h.env t).symm⟩
theorem gB.trans{S S' Gk:St}(h:gB S S')(k:gB S' Gk):gB S Gk:=⟨h.n.trans k.n,h.gl.trans k.gl,h.mem.trans k.mem,fun t=>(h.env t).trans (k.env t)⟩
theorem gB.app{S S':St}(h:gB S S')(p:aS)(o:Oper):gB (p.app o S) (p.app o S'):=
 ⟨by rw[sI,sI,h.n],by rw[p5,p5,h.gl],by simp only[aS.app,eY,h.mem],fun t=>by rw[rN,rN,h.env]⟩
theorem jU.eqv{all:List Oper}{ks:List Nat}{S' S S0:St}(h:jU all o ks S' S)(he:gB S S0):jU all o ks S' S0:=
 ⟨h.n.trans he.n,h.gl.trans he.gl,by rw[h.keys,he.mem],fun t ht=>(h.env t ht).trans (he.env t),fun k hk=>by rw[h.mem k hk,he.mem]⟩
theorem jV.eqv{P:Program}{all:List Oper}{S S0:St}{p:aS}(h:jV P all S o p)(he:gB S S0):jV P all S0 o p:=fun S' ha=>h S' (ha.eqv he.symm)
theorem qQ.eqv{P:Program}{I:Mem→Prop}{all:List Oper}{S S0:St}{p:aS}(h:qQ P I all S o p)(he:gB S S0):qQ P I all S0 o p:=fun S' ha=>h S' (ha.eqv he.symm)
theorem Az{P:Program}{I:Mem→Prop}{all ops:List Oper}{S S1:St}{ps:List aS}(h:Cert P I all ops S ps S1):∀{S0:St},gB S S0→∃S2,Cert P I all ops S0 ps S2∧gB S1 S2:=by
 induction h with
 |nil S=>exact fun he=>⟨_,.nil _,he⟩
 |cons o rest S p ps S1 hk hI h hr ih=>
  intro S0 he;obtain⟨S2,h2,h3⟩:=ih (he.app p o);exact⟨S2,.cons o rest S0 p ps S2 hk hI (h.eqv he) h2,h3⟩
theorem Q2{all:List Oper}{S:St}{j:Nat}{t b:Bool}(fZ:grd all S j=some (true,.d (.bool t)))(hb:t=b):gB (S.cz (dstAt all j) b) S:=
 ⟨Ax ..,yP ..,BW ..,fun u=>Wt fZ hb u⟩
theorem xV{md:Bool}{all:List Oper}{S1:St}{p:aS}(aO:iX X cl)(ck:S.gl=X.gl)(hd:∀t,o.dst=some t→t<S.n)(h:dU X cl md all S o=some (S1,p)):gB S1 (p.app o S)∧(∀e∈p.es,e.key∈p.ks)∧jV X.P all S o p:=by
 have yes:∀{r:di},stepv X.P S o=r→dstep X cl S o r=some (S1,p)→(∀(ks:List Nat) S',jU all o ks S' S→∀φ G a w,Rel φ G S' a w→Region.wanted o (yielded all.toArray a.tmps)=true)→gB S1 (p.app o S)∧(∀e∈p.es,e.key∈p.ks)∧jV X.P all S o p:=by
  intro r hs h hw;obtain⟨h1,h2,h3⟩:=GR aO ck hd hs h hw;exact⟨by rw[h1];exact gB.refl _,h2,h3⟩
 unfold dU at h;split at h
 ·rename_i hg;exact yes rfl h (fun _ _ _ _ _ _ _ _=>by simp[Region.wanted,hg])
 ·rename_i j want hg;split at h
  ·rename_i t fZ;replace fZ:=Gy fZ;have hw:∀(ks:List Nat) S',jU all o ks S' S→∀φ G a w,Rel φ G S' a w→Region.wanted o (yielded all.toArray a.tmps)=(t == want):=
    fun ks S' ha φ G a w hr=>D7 hg (by rw[D8 ha hg];exact fZ) hr
   have other:∀{r:di},stepv X.P S o=r→(if (t == want)=true then dstep X cl S o r else some (S.put o.dst true .aZ,⟨[],[],true,.aZ⟩))=some (S1,p)→gB S1 (p.app o S)∧(∀e∈p.es,e.key∈p.ks)∧jV X.P all S o p:=by
    intro r hs h;split at h
    ·rename_i hb;exact yes hs h (fun ks S' ha φ G a w hr=>by rw[hw ks S' ha φ G a w hr];exact hb)
    ·rename_i hb;cases h;exact⟨gB.refl _,by simp,qU hd (fun _=>.inl rfl) (fun S' ha φ G a w hr=>by rw[hw _ S' ha φ G a w hr];simpa using hb)⟩
   cases md with
   |true=>
    simp only at h;split at h
    ·rename_i hb;have pT:t=want:=by simpa using hb
     have he:=Q2 fZ pT;obtain⟨h1,h2,h3⟩:=GR (S:=S.cz (dstAt all j) want) aO (by rw[yP];exact ck) (fun t ht=>by rw[Ax];exact hd t ht) rfl h
      (fun ks S' ha φ G a w hr=>by rw[hw ks S' (ha.eqv he) φ G a w hr];exact hb)
     exact⟨by rw[h1];exact he.app p o,h2,h3.eqv he⟩
    ·rename_i hb;have pT:t=!want:=by cases t<;>cases want<;>simp_all
     cases h;have he:=Q2 fZ pT;exact⟨he.app ⟨[],[],true,.aU []⟩ o,by simp,qU hd (fun _=>.inr rfl) (fun S' ha φ G a w hr=>by rw[hw _ S' ha φ G a w hr];simpa using hb)⟩
   |false=>
   simp only at h;unfold qa at h;split at h
   ·rename_i c x hs;split at h
    ·rename_i hc;cases h;refine⟨gB.refl _,by simp,?_⟩;cases hb:(t == want)
     ·exact qU hd (by simp) (fun S' ha φ G a w hr=>by rw[hw _ S' ha φ G a w hr];exact hb)
     ·exact D9 hd hs (hc hb) (fun S' ha φ G a w hr=>by rw[hw _ S' ha φ G a w hr];exact hb)
    ·cases h
   ·exact other rfl h
  ·rename_i fZ;replace fZ:=D5 fZ;cases h;exact⟨gB.refl _,by simp,qU hd (fun _=>.inr rfl) (fun S' ha φ G a w hr=>by
    have:=BV hr (by rw[D8 ha hg];exact fZ);simp only[Region.wanted,hg,this];cases want<;>rfl)⟩
  ·cases h
inductive jx(T:Nat→St→Oper→aS→Prop):Nat→List Oper→St→List aS→Prop
 |nil (i S):jx T i [] S []
 |cons (i o rest S p ps) (h:T i S o p) (hr:jx T (i+1) rest (p.app o S) ps):jx T i (o::rest) S (p::ps)
theorem jx.eqv{T:Nat→St→Oper→aS→Prop}(hT:∀i S S0 o p,gB S S0→T i S o p→T i S0 o p){i:Nat}{ops:List Oper}{S:St}{ps:List aS}(h:jx T i ops S ps):∀{S0:St},gB S S0→jx T i ops S0 ps:=by
 induction h with
 |nil i S=>exact fun _=>.nil _ _
 |cons i o rest S p ps h hr ih=>exact fun he=>.cons _ _ _ _ _ _ (hT _ _ _ _ _ he h) (ih (he.app p o))
theorem jx.mono{T T':Nat→St→Oper→aS→Prop}{i:Nat}{ops:List Oper}{S:St}{ps:List aS}(h:jx T i ops S ps):(∀k S o p,i≤k→T k S o p→T' k S o p)→jx T' i ops S ps:=by
 induction h with
 |nil i S=>exact fun _=>.nil _ _
 |cons i o rest S p ps h hr ih=>exact fun hk=>.cons _ _ _ _ _ _ (hk _ _ _ _ (Nat.le_refl _) h) (ih fun k S o p hi=>hk k S o p (by omega))
theorem jx.len{T:Nat→St→Oper→aS→Prop}{i:Nat}{ops:List Oper}{S:St}{ps:List aS}(h:jx T i ops S ps):ps.length=ops.length:=by
 induction h with
 |nil i S=>rfl
 |cons i o rest S p ps h hr ih=>simp[ih]
theorem jx.at{T:Nat→St→Oper→aS→Prop}{all:List Oper}{ps:List aS}{i:Nat}{rest:List Oper}{S0 S:St}{qs:List aS}(h:jx T i rest S qs):∀(pre:List Oper)(pp:List aS),pre.length=i→pre.length=pp.length→all=pre++rest→ps=pp++qs→aG all ps S0 (List.range pre.length)=S→
 ∀j o p,pre.length≤j→all[j]?=some o→ps[j]?=some p→T j (aG all ps S0 (List.range j)) o p:=by
 induction h with
 |nil i S=>
  intro pre pp hi hl ha jR hS j o p hj ho;simp only[List.append_nil]at ha;subst ha;rw[List.getElem?_eq_none (by omega)]at ho;cases ho
 |cons i o rest S p qs hT hr ih=>
  intro pre pp hi hl ha jR hS j o' p' hj cg ly;have e1:all[pre.length]?=some o:=by rw[ha];simp
  have e2:ps[pre.length]?=some p:=by rw[jR,hl];simp
  rcases Nat.eq_or_lt_of_le hj with rfl|hj
  ·rw[e1]at cg;rw[e2]at ly;cases cg;cases ly;rw[hS,hi];exact hT
  ·exact ih (pre++[o]) (pp++[p]) (by simp[hi]) (by simp[hl]) (by rw[ha];simp) (by rw[jR];simp) (by
    rw[List.length_append,List.length_singleton,List.range_succ,mY,hS];simp[aG,e1,e2]) j o' p' (by simp;omega) cg ly
theorem yM.eqv{P:Program}{all:List Oper}{S S0:St}{p:aS}{t:TypeId}{x:D}(h:yM P all S o p t x)(he:gB S S0):yM P all S0 o p t x:=fun S' ha=>h S' (ha.eqv he.symm)
def TT(P:Program)(all:List Oper)(j:Nat)(js:List Nat)(t:TypeId)(x:D)(N:Nat)(S1:St)(i:Nat)(S:St)(o:Oper)(p:aS):Prop:=
 (∀e∈p.es,e.key∈p.ks)∧(i≠j→(i<j∨js.contains i=true)→jV P all S o p)∧(i=j→yM P all S o p t x∧S1.n=S.n∧S1.gl=S.gl∧S1.mem=killM N (putAll S.mem p.es))
theorem TT.eqv{P:Program}{all:List Oper}{j:Nat}{js:List Nat}{t:TypeId}{x:D}{N:Nat}{S1:St}(i:Nat)(S S0:St)(o:Oper)(p:aS)(he:gB S S0)(h:TT P all j js t x N S1 i S o p):TT P all j js t x N S1 i S0 o p:=
 ⟨h.1,fun a b=>(h.2.1 a b).eqv he,fun a=>⟨(h.2.2 a).1.eqv he,(h.2.2 a).2.1.trans he.n,(h.2.2 a).2.2.1.trans he.gl,by rw[←he.mem];exact (h.2.2 a).2.2.2⟩⟩
theorem abp{X:Ctx}:iX X (fun _ _ _=>none):=fun g args cs out l h=>by cases h
theorem xW{md:Bool}{all:List Oper}{js:List Nat}:∀(ops:List Oper)(i:Nat)(S:St)(acc qs:List aS),qo X md all js i ops S acc=some qs→S.gl=X.gl→jq S.n ops=true→
 ∃ps,qs=acc.reverse++ps∧jx (fun i S o p=>(∀e∈p.es,e.key∈p.ks)∧(js.contains i=true→jV X.P all S o p)) i ops S ps
 |[],i,S,acc,qs,h,ck,hd=>by
  simp only[qo,Option.some.injEq]at h;exact⟨[],by simp[h],.nil _ _⟩
 |o::rest,i,S,acc,qs,h,ck,hd=>by
  simp only[jq,List.all_cons,Bool.and_eq_true]at hd;obtain⟨qb,hd⟩:=hd;have qF:∀t,o.dst=some t→t<S.n:=fun t ht=>by rw[ht]at qb;simpa using qb
  simp only[qo]at h;cases hj:js.contains i with
  |true=>
   rw[hj]at h;simp only at h;cases hg:dU X (fun _ _ _=>none) md all S o with
   |none=>rw[hg]at h;cases h
   |some q=>
    obtain⟨S2,p⟩:=q;rw[hg]at h;simp only at h;obtain⟨heq,gT,db⟩:=xV abp ck qF hg;obtain⟨ps,h1,h2⟩:=xW rest (i+1) S2 (p::acc) qs h (by rw[heq.gl,p5];exact ck) (by rw[heq.n,sI];exact hd);exact⟨p::ps,by rw[h1];simp,.cons _ _ _ _ _ _ ⟨gT,fun _=>db⟩ (h2.eqv (fun _ _ _ _ _ he h=>⟨h.1,fun a=>(h.2 a).eqv he⟩) heq)⟩
  |false=>
   rw[hj]at h;simp only at h;obtain⟨ps,h1,h2⟩:=xW rest (i+1) (S.put o.dst false .aZ) _ qs h (by rw[kQ];exact ck) (by rw[lu];exact hd);exact⟨⟨[],[],false,.aZ⟩::ps,by rw[h1];simp,.cons _ _ _ _ _ _ ⟨by simp,fun hh=>by rw[hj]at hh;cases hh⟩ h2⟩
theorem Ea{q:Gz}(h:ki X cl S o=some q):o.guard=none∧stepv X.P S o=.no∧∃fv args gV,o.op=.call {callee:=.value fv,args,argTypes:=gV}∧callVal X cl S o args.toList (S.opd fv)=some ⟨.panic q.t q.x,q.es,q.ks⟩∧q.S={S with mem:=putAll S.mem q.es}:=by
 unfold ki at h;split at h
 ·rename_i hg;unfold As at h;split at h
  ·rename_i hs;refine⟨hg,hs,?_⟩;unfold GA at h;split at h
   ·rename_i fv args gV ho;unfold tI at h;split at h
    ·rename_i t x es ks hc;cases h;exact⟨fv,args,gV,ho,hc,rfl⟩
    ·cases h
   ·cases h
  ·cases h
 ·cases h
theorem GS{args:List Operand}{fv:Bool×AV}{out:Out}{es:List cH}{ks:List Nat}(mH:callVal X cl S o args fv=some ⟨out,es,ks⟩):∀e∈es,e.key∈ks:=by
 obtain⟨g,cZ,gp,cQ,dV⟩:=lK mH;unfold callOp callOp2 callOp3 callBack at dV;split at dV
 ·rename_i out l2 _;split at dV
  ·rename_i hc;simp only[Bool.and_eq_true,decide_eq_true_eq]at hc;simp only[Option.some.injEq,fH.mk.injEq]at dV;obtain⟨_,rfl,rfl⟩:=dV;intro e he;obtain⟨j,v,c,hj,rfl⟩:=pY.1 he;have gP:=(List.getElem?_eq_some_iff.1 hj).1;simp only[Nat.zero_add];generalize collect S.mem 64 (argKeys (X.fp (fnId g)).vr 0 (fnArgs g (argVals S args) cZ)) []=ρ at hc gP⊢;have bn:j<(ρ++List.range' (keyOf o+1) (l2.length-ρ.length)).length:=by simp;omega
   have hm:=List.getElem_mem bn;have e2:(ρ++List.range' (keyOf o+1) (l2.length-ρ.length)).getD j 0=(ρ++List.range' (keyOf o+1) (l2.length-ρ.length))[j]:=by
    rw[List.getD_eq_getElem?_getD,List.getElem?_eq_getElem bn];rfl
   rw[e2];rcases List.mem_append.1 hm with h1|h1
   ·exact List.mem_append_left _ (List.mem_append_left _ h1)
   ·exact List.mem_append_right _ h1
  ·cases dV
 ·cases dV
theorem Od{all:List Oper}(aO:iX X cl)(ck:S.gl=X.gl){fv:Operand}{args:Array Operand}{gV:Array TypeId}(hg:o.guard=none)(ho:o.op=.call {callee:=.value fv,args,argTypes:=gV})
 {t:TypeId} {x:D} {es:List cH} {ks:List Nat} (h:callVal X cl S o args.toList (S.opd fv)=some ⟨.panic t x,es,ks⟩):yM X.P all S o ⟨ks,es,true,.aZ⟩ t x:=by
 intro S' ha φ G a w hr next R hn
 rw[if_pos (by simp[Region.wanted,hg])];have hx:∀x∈o.op.operands.toList,S'.opd x=S.opd x:=fun x hx=>qc ha hx;have Q1:∀x∈args.toList,S'.opd x=S.opd x:=fun x gm=>hx x (by simp[ho,Op.operands,Call.operands];exact .inr (by simpa using gm));obtain⟨g,cZ,gp,cQ,dV⟩:=lK h;have Ay:S'.opd fv=(true,.fn g cZ):=by rw[hx fv (by simp[ho,Op.operands,Call.operands])];exact gp
 have GQ:callOp cl S'.mem (keyOf o) (fnId g) (fnArgs g (argVals S' args.toList) cZ) (X.fp (fnId g)).vr=some ⟨.panic t x,es,ks⟩:=by
  rw[tQ Q1];exact BU ha.keys dV (fun k hk=>ha.mem k hk)
 refine sN aO ho Ay rfl (by rw[sP Q1];exact cQ) GQ (ha.gl.trans ck) hr (fun x' nu=>by cases nu) (fun t' x' nu φ' w' v b6 aN hv=>?_);cases nu;exact hn φ' a w' v b6 aN hv
theorem zT{md:Bool}{nd:Nat×List (List Nat)}{all:List Oper}(aO:iX X cl):∀(ops:List Oper)(S:St)(acc:List aS)(e:XE)(S1:St),ic X cl md nd all ops S acc=some (e,S1)→S.gl=X.gl→jq S.n ops=true→
 (e=.normal∧∃ps S2,Cert X.P (fun _=>True) all ops S ps S2∧gB S1 S2∧ordD nd.2 (acc.reverse++ps)=true)∨
 (∃t x j ps,e=.panic t x∧acc.length≤j∧j<acc.length+ops.length∧jx (TT X.P all j (nd.2.getD j []) t x (nd.1+verSums (acc.reverse++ps)+1) S1) acc.length ops S ps∧ordD nd.2 (acc.reverse++ps)=true∧farJ (acc.reverse++ps) (nd.2.getD j [])=true∧S1.env=[])
 |[],S,acc,e,S1,h,ck,hd=>by
  simp only[ic]at h;split at h
  ·rename_i cG;cases h;exact .inl ⟨rfl,[],S,.nil S,gB.refl _,by simpa using cG⟩
  ·cases h
 |o::rest,S,acc,e,S1,h,ck,hd=>by
  have zE:=hd;simp only[jq,List.all_cons,Bool.and_eq_true]at hd;obtain⟨qb,hd⟩:=hd;have qF:∀t,o.dst=some t→t<S.n:=fun t ht=>by rw[ht]at qb;simpa using qb
  simp only[ic]at h;cases hp:ki X cl S o with
  |some q=>
   right;rw[hp]at h;simp only[mz,panE]at h;obtain⟨hg,hs,fv,args,gV,ho,hc,hqS⟩:=Ea hp;obtain⟨qS,t,x,es,ks⟩:=q;simp only at hc hqS h;subst hqS;cases hpo:qo X md all (nd.2.getD acc.length []) (acc.length+1) rest (({S with mem:=putAll S.mem es}:St).put o.dst true .aZ) (⟨ks,es,true,.aZ⟩::acc)with
   |none=>rw[hpo]at h;cases h
   |some qs=>
    rw[hpo]at h;simp only[pEnd]at h;split at h
    ·rename_i JS;simp only[Bool.and_eq_true]at JS;obtain⟨rfl,rfl⟩:XE.panic t x=e∧St.kill {S with mem:=putAll S.mem es} (nd.1+verSums qs+1)=S1:=by simpa using h
     obtain⟨ps,rfl,afN⟩:=xW rest (acc.length+1) _ _ _ hpo (by rw[kQ];exact ck) (by rw[lu];exact hd);have e1:(⟨ks,es,true,.aZ⟩::acc:List aS).reverse++ps=acc.reverse++(⟨ks,es,true,.aZ⟩::ps):=by simp
     rw[e1]at JS⊢;refine⟨t,x,acc.length,⟨ks,es,true,.aZ⟩::ps,rfl,Nat.le_refl _,by simp,.cons _ _ _ _ _ _ ⟨GS hc,fun hh=>absurd rfl hh,fun _=>⟨Od aO ck hg ho hc,rfl,rfl,rfl⟩⟩ (afN.mono fun k S o p hk hT=>?_),JS.1,JS.2,rfl⟩;exact⟨hT.1,fun _ hh=>hT.2 (hh.resolve_left (by omega)),fun hh=>by omega⟩
    ·cases h
  |none=>
   rw[hp]at h;simp only[mz]at h;cases hg:dU X cl md all S o with
   |none=>rw[hg]at h;cases h
   |some q=>
    obtain⟨S2,p⟩:=q;rw[hg]at h;simp only[vy]at h;obtain⟨heq,gT,db⟩:=xV aO ck qF hg;rcases zT aO rest S2 (p::acc) e S1 h (by rw[heq.gl,p5];exact ck) (by rw[heq.n,sI];exact hd)with ⟨he,ps,S3,hc,he3,cG⟩|⟨t,x,j,ps,he,Eb,zR,hc,cG,tH,GU⟩
    ·left;obtain⟨S4,Q3,Q4⟩:=Az hc heq;exact⟨he,p::ps,S4,.cons o rest S p ps S4 gT (fun _ _=>trivial) db.toI Q3,he3.trans Q4,by simpa using cG⟩
    ·right;have e1:(p::acc).reverse++ps=acc.reverse++(p::ps):=by simp
     rw[e1]at cG tH hc;simp only[List.length_cons]at Eb zR hc;exact⟨t,x,j,p::ps,he,by omega,by simp;omega,.cons _ _ _ _ _ _ ⟨gT,fun _ _=>db,fun hh=>by omega⟩ (hc.eqv TT.eqv heq),cG,tH,GU⟩
def cellOf:Bool→aE→Nat→Option AV
 |false,.box cs,j=>cs[j]?
 |true,.vv rows (some x),j=>if rows.length=j then some x else none
 |_,_,_=>none
def qq(LI:List Cl)(m:Mem):Prop:=∀q∈LI,∃c,Mem.get m q.k=some ⟨q.k,q.v,c⟩∧cellOf q.vv c q.j=some q.x
theorem Oe{c:aE}{j:Nat}{x:AV}(h:cellOf false c j=some x):∃cs,c=.box cs∧cs[j]?=some x:=by
 cases c with
 |box cs=>exact⟨cs,rfl,h⟩
 |dead=>cases h
 |vec _ _=>cases h
 |vv _ _=>cases h
theorem Q5{c:aE}{j:Nat}{x:AV}(h:cellOf true c j=some x):∃rows,c=.vv rows (some x)∧rows.length=j:=by
 cases c with
 |box cs=>cases h
 |dead=>cases h
 |vec _ _=>cases h
 |vv rows y=>
  cases y with
  |none=>cases h
  |some y=>
   simp only[cellOf]at h;split at h
   ·rename_i hj;cases h;exact⟨rows,rfl,hj⟩
   ·cases h
theorem Q6:∀{x y:AV},GB x y=true→x=y:=by
 intro x y h;unfold GB at h;split at h
 ·simp only[Bool.and_eq_true,decide_eq_true_eq]at h;obtain⟨⟨⟨rfl,rfl⟩,rfl⟩,rfl⟩:=h;rfl
 ·simp only[Bool.and_eq_true,decide_eq_true_eq]at h;obtain⟨⟨rfl,rfl⟩,rfl⟩:=h;rfl
 ·simp only[Bool.and_eq_true,decide_eq_true_eq]at h;obtain⟨rfl,rfl⟩:=h;rfl
 ·simp only[decide_eq_true_eq]at h;subst h;rfl
 ·cases h
theorem vD{m:Mem}:∀{fl:List (Nat×Nat)}{LI:List Cl},eV m fl=some LI→qq LI m
 |[],LI,h=>by simp[eV]at h;subst h;exact fun q hq=>by simp at hq
 |(k,j)::r,LI,h=>by
  unfold eV at h;split at h
  ·rename_i key v cs l hg hl;split at h
   ·rename_i x hx;cases h;have hk:key=k:=(Mem.get_mem hg).2;subst hk;intro q hq;rcases List.mem_cons.1 hq with rfl|hq
    ·exact⟨.box cs,hg,hx⟩
    ·exact vD hl q hq
   ·cases h
  ·rename_i key v rows x l hg hl;cases h;have hk:key=k:=(Mem.get_mem hg).2;subst hk;intro q hq;rcases List.mem_cons.1 hq with rfl|hq
   ·exact⟨.vv rows (some x),hg,by simp[cellOf]⟩
   ·exact vD hl q hq
  ·cases h
theorem Um{q:Cl}{v:Nat}{c:aE}(h:JN q v c=true):v=q.v∧cellOf q.vv c q.j=some q.x:=by
 unfold JN at h;split at h
 ·rename_i cs;simp only[Bool.and_eq_true,decide_eq_true_eq,Bool.not_eq_true']at h;obtain⟨⟨h1,h2⟩,h3⟩:=h;refine⟨h2,?_⟩;rw[h1];simp only[cellOf];unfold QW at h3;split at h3
  ·rename_i x hx;rw[hx,Q6 h3]
  ·cases h3
 ·rename_i rows x;simp only[Bool.and_eq_true,decide_eq_true_eq]at h;obtain⟨⟨⟨h1,h2⟩,h3⟩,h4⟩:=h;refine⟨h2,?_⟩;rw[h1];simp only[cellOf,h3,if_true,Q6 h4]
 ·cases h
theorem GW{e:cH}:∀{LI:List Cl},At e LI=true→∀q∈LI,e.key=q.k→∃c,e=⟨q.k,q.v,c⟩∧cellOf q.vv c q.j=some q.x
 |[],_,q,hq,_=>by simp at hq
 |p::r,h,q,hq,hk=>by
  simp only[At,Bool.and_eq_true]at h;rcases List.mem_cons.1 hq with rfl|hq
  ·have h1:=h.1;simp only[hk,decide_true]at h1;obtain⟨key,aj,cont⟩:=e;simp only at hk h1;subst hk;obtain⟨rfl,h2⟩:=Um h1;exact⟨cont,rfl,h2⟩
  ·exact GW h.2 q hq hk
theorem Ec{LI:List Cl}:∀{es:List cH},sK LI es=true→∀m,qq LI m→qq LI (putAll m es)
 |[],_,m,hm=>hm
 |e::r,h,m,hm=>by
  simp only[sK,Bool.and_eq_true]at h;refine Ec h.2 _ (fun q hq=>?_);obtain⟨cs,h1,h2⟩:=hm q hq;by_cases hk:e.key=q.k
  ·obtain⟨ll,he,hx⟩:=GW h.1 q hq hk;refine⟨ll,?_,hx⟩;have cL:e.key∈m.map (·.key):=by
    obtain⟨h3,h4⟩:=Mem.get_mem h1;rw[hk];exact List.mem_map_of_mem h3
   rw[←hk,Mem.nL cL,he]
  ·exact⟨cs,by rw[Mem.nM hk];exact h1,h2⟩
theorem xX{b:Bool}{k v j:Nat}{x:AV}:∀{LI:List Cl},qR b k v j LI=some x→∃q∈LI,q.vv=b∧q.k=k∧q.v=v∧q.j=j∧q.x=x
 |[],h=>by simp[qR]at h
 |q::r,h=>by
  unfold qR at h;split at h
  ·rename_i hb;simp only[Bool.and_eq_true,decide_eq_true_eq]at hb;cases h;exact⟨q,by simp,hb.1.1.1.symm,hb.1.1.2.symm,hb.1.2.symm,hb.2.symm,rfl⟩
  ·obtain⟨q',h1,h2⟩:=xX h;exact⟨q',by simp[h1],h2⟩
theorem vE{b:Bool}{k v:Nat}:∀{LI:List Cl},tJ b k v LI=true→∃q∈LI,q.vv=b∧q.k=k∧q.v=v
 |[],h=>by simp[tJ]at h
 |q::r,h=>by
  unfold tJ at h;split at h
  ·rename_i hb;simp only[Bool.and_eq_true,decide_eq_true_eq]at hb;exact⟨q,by simp,hb.1.1.symm,hb.1.2.symm,hb.2.symm⟩
  ·obtain⟨q',h1,h2⟩:=vE h;exact⟨q',by simp[h1],h2⟩
theorem C7{LI:List Cl}{m:Mem}(hm:qq LI m){q:Cl}(hq:q∈LI)(hv:q.vv=false):∃cs,Mem.get m q.k=some ⟨q.k,q.v,.box cs⟩∧cs[q.j]?=some q.x:=by
 obtain⟨c,h1,h2⟩:=hm q hq;rw[hv]at h2;obtain⟨cs,rfl,h3⟩:=Oe h2;exact⟨cs,h1,h3⟩
theorem Q7{LI:List Cl}{m:Mem}(hm:qq LI m){q:Cl}(hq:q∈LI)(hv:q.vv=true):∃rows,Mem.get m q.k=some ⟨q.k,q.v,.vv rows (some q.x)⟩∧rows.length=q.j:=by
 obtain⟨c,h1,h2⟩:=hm q hq;rw[hv]at h2;obtain⟨cs,rfl,h3⟩:=Q5 h2;exact⟨cs,h1,h3⟩
theorem Un{P:Program}{LI:List Cl}{S:St}{x:AV}(h:qT P LI S o.op=some x)(hm:qq LI S.mem):∃c,stepv P S o=.val c x∧(opOk S o&&c)=true:=by
 unfold qT at h;split at h
 ·rename_i t y ho;unfold BN at h;split at h
  ·rename_i k v off heq;split at h
   ·rename_i j7 oZ;obtain⟨q,hq,BY,rfl,rfl,rfl,rfl⟩:=xX h;obtain⟨cs,h1,h2⟩:=C7 hm hq BY;have bn:q.j<cs.length:=(List.getElem?_eq_some_iff.1 h2).1;refine⟨true,?_,by simp[opOk,ho,okAll,Op.operands,heq]⟩;unfold stepv;rw[ho];simp only[heq,loadR,h1,j7,h2,Option.getD_some];simp only[decide_eq_false_iff_not]at oZ;simp[oZ,bn]
   ·cases h
  ·rename_i k v i j heq;split at h
   ·rename_i j7 oZ hj;obtain⟨q,hq,BY,rfl,rfl,rfl,rfl⟩:=xX h;obtain⟨rows,h1,h2⟩:=Q7 hm hq BY;simp only[decide_eq_true_eq]at hj;subst hj;refine⟨true,?_,by simp[opOk,ho,okAll,Op.operands,heq]⟩;unfold stepv;rw[ho];simp only[heq,loadR,h1,j7];simp only[decide_eq_false_iff_not]at oZ;simp[oZ,h2]
   ·cases h
  ·cases h
 ·rename_i s y f ho;unfold BO at h;split at h
  ·rename_i n k v off hn heq;split at h
   ·rename_i hc;cases h;obtain⟨q,hq,BY,rfl,rfl⟩:=vE hc;obtain⟨cs,h1,h2⟩:=C7 hm hq BY;refine⟨true,?_,by simp[opOk,ho,okAll,Op.operands,heq]⟩;unfold stepv;rw[ho];simp[heq,fieldRm,hn,h1]
   ·cases h
  ·cases h
 ·rename_i y ho;unfold BP at h;split at h
  ·rename_i k v off heq;split at h
   ·rename_i hc;cases h;obtain⟨q,hq,BY,rfl,rfl⟩:=vE hc;obtain⟨cs,h1,h2⟩:=C7 hm hq BY;refine⟨true,?_,by simp[opOk,ho,okAll,Op.operands,heq]⟩;unfold stepv;rw[ho];simp[heq,nilCheckR,h1]
   ·cases h
  ·cases h
 ·rename_i t y z ho;unfold BQ at h;split at h
  ·rename_i e k v off len kd n nr heq abt;split at h
   ·rename_i bQ hc fg wZ;cases h;simp only[decide_eq_true_eq]at bQ fg wZ;obtain⟨q,hq,BY,rfl,rfl⟩:=vE hc;obtain⟨rows,h1,h2⟩:=Q7 hm hq BY;refine⟨true,?_,by simp[opOk,ho,okAll,Op.operands,heq,abt]⟩;unfold stepv;rw[ho];simp[heq,abt,indexR,nr,bQ,h1,fg,wZ]
   ·cases h
  ·cases h
 ·cases h
theorem Q8{P:Program}{LI:List Cl}{S' S:St}(h:∀x∈o.op.operands.toList,S'.opd x=S.opd x):qT P LI S' o.op=qT P LI S o.op:=by
 unfold qT;split
 ·rename_i t y ho;rw[h y (by simp[ho,Op.operands])]
 ·rename_i s y f ho;rw[h y (by simp[ho,Op.operands])]
 ·rename_i y ho;rw[h y (by simp[ho,Op.operands])]
 ·rename_i t y z ho;rw[h y (by simp[ho,Op.operands]),h z (by simp[ho,Op.operands])]
 ·rfl
theorem Of{all:List Oper}{LI:List Cl}{x:AV}(hd:∀t,o.dst=some t→t<S.n)(h:n6 X.P LI S o=some x):qQ X.P (qq LI) all S o ⟨[],[],true,x⟩:=by
 intro S' ha hI φ G a w hr next R hn
 unfold n6 at h;split at h
 ·rename_i hg;rw[if_pos (by simp[Region.wanted,hg])];have hx:∀x∈o.op.operands.toList,S'.opd x=S.opd x:=fun x hx=>qc ha hx;obtain⟨c,pN,cQ⟩:=Un (by rw[Q8 hx];exact h) hI;obtain⟨_,_,_,h4⟩:=yN (gb:=true) pN cQ (fun t ht=>by rw[ha.n];exact hd t ht);exact h4 φ G a w hr next R (fun _ φ' a' w' b6 aN=>hn φ' a' w' b6 aN) (fun t x he=>by cases he)
 ·cases h
theorem Jd{l:List Nat}{r:List Oper}(h:lJ l r=true):l=[]∧r=[]:=by
 cases l<;>cases r<;>simp_all [lJ]
theorem Uo{all:List Oper}{nd:List (List Nat)}{ps:List aS}(hs:Ap all nd=true)(hl:ps.length+1=all.length)(hn:nd.getD (all.length-1) []=[])(hd:ordD nd ps=true):lY all (ps++[zQ])=true:=by
 have xI:=zP hs hn;unfold lY;refine List.all_eq_true.2 fun j hj=>?_;have h1:=List.all_eq_true.1 hs j hj;have oD:j<all.length:=List.mem_range.1 hj;unfold xH at h1;unfold Fh;have sH:(ps++[zQ])[j]?=some ((ps++[zQ])[j]'(by simp;omega)):=by simp[hl,oD]
 rw[sH];cases ho:all[j]? with
 |none=>rw[ho]at h1;cases h1
 |some o=>
  rw[ho]at h1;simp only[Bool.and_eq_true,List.all_eq_true,decide_eq_true_eq,Bool.or_eq_true,List.mem_range]at h1⊢;refine⟨h1.1,fun i hi=>?_⟩;by_cases gP:j+1=all.length
  ·left;have:=xI i (by omega);rw[←gP]at this;simpa using this
  ·rcases h1.2 i hi with h2|h2
   ·exact .inl h2
   ·right;have p7:j<ps.length:=by omega
    have jv:(ps++[zQ])[i]?=some (ps[i]'(by omega)):=by rw[List.getElem?_append_left (by omega)];simp[show i<ps.length by omega]
    have akR:(ps++[zQ])[j]'(by simp;omega)=ps[j]'p7:=List.getElem_append_left p7
    rw[akR];cases gX:all[i]? with
    |none=>rw[gX]at h2;cases h2
    |some o'=>
     rw[gX]at h2;rw[jv];simp only[Bool.and_eq_true]at h2;simp only[xB];have e1:=vu (oY hd i _ (List.getElem?_eq_getElem (show i<ps.length by omega))) j (by simpa using h2.2.1) _ (List.getElem?_eq_getElem p7);have e2:=vu (oY hd j _ (List.getElem?_eq_getElem p7)) i (by simpa using h2.2.2) _ (List.getElem?_eq_getElem (show i<ps.length by omega));have e3:=h2.1;simp only[Ao,Bool.and_eq_true]at e3;simp only[Bool.and_eq_true];exact⟨⟨e3,e1⟩,e2⟩
def Q9(P:Program)(I:Mem→Prop)(nd:List (List Nat))(all ops:List Oper)(S:St)(acc:List aS)(e:XE)(S1:St):Prop:=
 (e=.normal∧∃ps S2,Cert P I all ops S ps S2∧gB S1 S2∧ordD nd (acc.reverse++ps)=true)∨
  (∃init ol ps S2,ops=init++[ol]∧Cert P I all init S ps S2∧nd.getD (all.length-1) []=[]∧ordD nd (acc.reverse++ps)=true∧xS P all S2 ol e S1)
theorem xS.eqv{P:Program}{all:List Oper}{S S0 S1:St}{e:XE}(h:xS P all S o e S1)(he:gB S S0):xS P all S0 o e S1:=by
 obtain⟨h1,h2,h3,h4⟩:=h;refine⟨h1.trans he.n,h2.trans he.gl,h3,fun φ G a w hr next R hn hp=>?_⟩;have:=h4 φ G a w (hr.eqv he.symm) next R
 rw[he.mem]at this;exact this hn hp
theorem Ed{md:Bool}{nd:List (List Nat)}{LI:List Cl}{all:List Oper}(aO:iX X cl):∀(ops:List Oper)(S:St)(acc:List aS)(e:XE)(S1:St),acc.length+ops.length=all.length→mA X cl md nd LI all ops S acc=some (e,S1)→S.gl=X.gl→jq S.n ops=true→
 Q9 X.P (qq LI) nd all ops S acc e S1
 |[],S,acc,e,S1,_,h,ck,hd=>by
  simp only[mA]at h;split at h
  ·rename_i cG;cases h;exact .inl ⟨rfl,[],S,.nil S,gB.refl _,by simpa using cG⟩
  ·cases h
 |o::rest,S,acc,e,S1,hlen,h,ck,hd=>by
  have zE:=hd;simp only[jq,List.all_cons,Bool.and_eq_true]at hd;obtain⟨qb,hd⟩:=hd;have qF:∀t,o.dst=some t→t<S.n:=fun t ht=>by rw[ht]at qb;simpa using qb
  simp only[List.length_cons]at hlen;simp only[mA]at h;cases iu:lJ (nd.getD acc.length []) rest with
  |true=>
   rw[iu]at h;simp only[GC]at h;obtain⟨xD,rfl⟩:=Jd iu;split at h
   ·rename_i cG;right;refine⟨[],o,[],S,rfl,.nil S,?_,by simpa using cG,?_⟩
    ·have:all.length-1=acc.length:=by simp at hlen;omega
     rw[this];exact xD
    ·simp only[fh]at h;rcases gD h with ⟨S3,h1,h2⟩|⟨h1,h2⟩
     ·cases h2;exact rR aO ck qF h1
     ·exact rR aO ck qF h1
   ·cases h
  |false=>
  rw[iu]at h;simp only at h;have glue:∀(p:aS)(S':St),(∀e∈p.es,e.key∈p.ks)→(∀m,qq LI m→qq LI (putAll m p.es))→qQ X.P (qq LI) all S o p→gB S' (p.app o S)→mA X cl md nd LI all rest S' (p::acc)=some (e,S1)→Q9 X.P (qq LI) nd all (o::rest) S acc e S1:=by
   intro p S' hk hI db heq bL;rcases Ed aO rest S' (p::acc) e S1 (by simp;omega) bL (by rw[heq.gl,p5];exact ck) (by rw[heq.n,sI];exact hd)with ⟨he,ps,S3,hc,he3,cG⟩|⟨init,ol,ps,S3,hr,hc,hn,cG,jw⟩
   ·obtain⟨S4,Q3,Q4⟩:=Az hc heq;exact .inl ⟨he,p::ps,S4,.cons o rest S p ps S4 hk hI db Q3,he3.trans Q4,by simpa using cG⟩
   ·obtain⟨S4,Q3,Q4⟩:=Az hc heq;exact .inr ⟨o::init,ol,p::ps,S4,by rw[hr];rfl,.cons o init S p ps S4 hk hI db Q3,hn,by simpa using cG,jw.eqv Q4⟩
  cases hl:n6 X.P LI S o with
  |some x=>
   rw[hl]at h;simp only[mZ,vy]at h;exact glue ⟨[],[],true,x⟩ _ (by simp) (fun _ h=>h) (Of (X:=X) (all:=all) qF hl) (gB.refl _) h
  |none=>
   rw[hl]at h;simp only[mZ]at h;cases hg:dU X cl md all S o with
   |none=>rw[hg]at h;cases h
   |some q=>
    obtain⟨S2,p⟩:=q;rw[hg]at h;simp only[C6]at h;split at h
    ·rename_i hinv;simp only[vy]at h;obtain⟨heq,gT,db⟩:=xV aO ck qF hg;exact glue p S2 gT (Ec hinv) db.toI heq h
    ·cases h
end
theorem bj.Up{φ:bM}{G:Fr}{m:Mem}{w:World}(h:bj φ G m w){e1 e2 e1' e2':cH}(FE:e1∈m)(wB:e2∈m)(bE:e1.key≠e2.key){L1 L2 L1' L2':Loc}(QQ:φ e1.key=some L1)(dR:φ e2.key=some L2)
 (gn:e1'.key=e1.key) (cn:e2'.key=e2.key) (V9:L1.aj≤L1'.aj) (rq:L2.aj≤L2'.aj) (pR:L1'.aj=L1.aj→L1'={L1 with cM:=L1'.cM}) (qy:L2'.aj=L2.aj→L2'={L2 with cM:=L2'.cM})
 (oG:L1'.aj=e1'.aj) (hw2:L2'.aj=e2'.aj) (ho1:∀b,e1'.cont.cN L1' b→e1.cont.cN L1 b∨e2.cont.cN L2 b) (BK:∀b,e2'.cont.cN L2' b→e1.cont.cN L1 b∨e2.cont.cN L2 b)
 (Wr:∀b,e1'.cont.cN L1' b→e2'.cont.cN L2' b→False)
 (hc:∀(φ':bM)(F':Nat→Prop),φ.le φ'→φ' e1.key=some L1'→φ' e2.key=some L2'→(∀b,F' b→Fo G φ m b)→dO φ' w F' L1' e1'.cont∧dO φ' w F' L2' e2'.cont):
 ∃φ',bj φ' G (Mem.set (Mem.set m e1') e2') w∧aP φ m w φ' (Mem.set (Mem.set m e1') e2') w:=by
 obtain⟨m',dq⟩:∃m',m'=Mem.set (Mem.set m e1') e2':=⟨_,rfl⟩;rw[←dq];have dJ:((Mem.set m e1').map (·.key)).Nodup:=by rw[Mem.gu];exact h.nodup
 have ma:m'.map (·.key)=m.map (·.key):=by rw[dq,Mem.gu,Mem.gu]
 have eW:∀y,y∈m'→y=e2'∨y=e1'∨(y∈m∧y.key≠e1.key∧y.key≠e2.key):=by
  intro y hy;rw[dq]at hy;rcases (Mem.mem_set dJ).1 hy with ⟨h1,_⟩|⟨h1,h2⟩
  ·exact .inl h1
  ·rcases (Mem.mem_set h.nodup).1 h1 with ⟨h1,_⟩|⟨h1,h3⟩
   ·exact .inr (.inl h1)
   ·exact .inr (.inr ⟨h1,by rw[←gn];exact h3,by rw[←cn];exact h2⟩)
 obtain⟨φ',jh⟩:∃φ':bM,φ'=fun j=>if j=e1.key then some L1' else if j=e2.key then some L2' else φ j:=⟨_,rfl⟩
 have f1:φ' e1.key=some L1':=by simp[jh]
 have f2:φ' e2.key=some L2':=by simp[jh,show ¬e2.key=e1.key from fun h=>bE h.symm]
 have f3:∀j,j≠e1.key→j≠e2.key→φ' j=φ j:=fun j h1 h2=>by simp[jh,h1,h2]
 have hle:φ.le φ':=by
  intro j L0 h0;by_cases h1:j=e1.key
  ·subst h1;rw[QQ]at h0;cases h0;exact⟨_,f1,V9,pR⟩
  ·by_cases h2:j=e2.key
   ·subst h2;rw[dR]at h0;cases h0;exact⟨_,f2,rq,qy⟩
   ·exact⟨L0,by rw[f3 j h1 h2];exact h0,Nat.le_refl _,fun _=>rfl⟩
 have kE:∀b,e1.cont.cN L1 b∨e2.cont.cN L2 b→iq φ m b:=fun b hb=>hb.elim (fun hb=>⟨e1,FE,L1,QQ,hb⟩) (fun hb=>⟨e2,wB,L2,dR,hb⟩);have fw:∀b,iq φ' m' b→iq φ m b:=by
  rintro b ⟨y,hy,Ly,dy,gK⟩;rcases eW y hy with rfl|rfl|⟨h1,h2,h3⟩
  ·rw[cn,f2]at dy;cases dy;exact kE b (BK b gK)
  ·rw[gn,f1]at dy;cases dy;exact kE b (ho1 b gK)
  ·rw[f3 _ h2 h3]at dy;exact⟨y,h1,Ly,dy,gK⟩
 have hF:∀b,Fo G φ' m' b→Fo G φ m b:=fun b=>Or.imp id (fw b);have eQ:=hc φ' (Fo G φ' m') hle f1 f2 hF;have oZ:∀y∈m,y.key≠e1.key→y.key≠e2.key→∀Ly,φ y.key=some Ly→∀b,y.cont.cN Ly b→e1.cont.cN L1 b∨e2.cont.cN L2 b→False:=by
  intro y hy h2 h3 Ly dy b gK hb;rcases hb with hb|hb
  ·exact h2 (h.apart y hy e1 FE Ly L1 dy QQ ⟨b,gK,hb⟩)
  ·exact h3 (h.apart y hy e2 wB Ly L2 dy dR ⟨b,gK,hb⟩)
 refine⟨φ',⟨by rw[ma];exact h.nodup,?_,?_,?_,fun b hb=>h.jY b (fw b hb),h.bound⟩,⟨hle,fun _ _ _=>rfl,fun b _ hb=>fw b hb,Nat.le_refl _,rfl,rfl,rfl⟩⟩
 ·intro j L0 h0;rw[ma];by_cases h1:j=e1.key
  ·subst h1;exact List.mem_map_of_mem FE
  ·by_cases h2:j=e2.key
   ·subst h2;exact List.mem_map_of_mem wB
   ·rw[f3 j h1 h2]at h0;exact h.oB j L0 h0
 ·intro y hy;rcases eW y hy with rfl|rfl|⟨h1,h2,h3⟩
  ·exact⟨L2',by rw[cn];exact f2,hw2,eQ.2⟩
  ·exact⟨L1',by rw[gn];exact f1,oG,eQ.1⟩
  ·obtain⟨Ly,dy,QJ,kN⟩:=h.eV y h1;exact⟨Ly,by rw[f3 _ h2 h3];exact dy,QJ,kN.mono hle (fun _ _ _=>rfl) (Nat.le_refl _) (fun b _=>hF b) (fun _ _=>rfl)⟩
 ·rintro y hy z hz Ly Lz dy iE ⟨b,gK,nz⟩;rcases eW y hy with rfl|rfl|⟨h1,h2,h3⟩
  ·rw[cn,f2]at dy;cases dy;rcases eW z hz with rfl|rfl|⟨g1,g2,g3⟩
   ·rfl
   ·rw[gn,f1]at iE;cases iE;exact (Wr b nz gK).elim
   ·rw[f3 _ g2 g3]at iE;exact (oZ z g1 g2 g3 Lz iE b nz (BK b gK)).elim
  ·rw[gn,f1]at dy;cases dy;rcases eW z hz with rfl|rfl|⟨g1,g2,g3⟩
   ·rw[cn,f2]at iE;cases iE;exact (Wr b gK nz).elim
   ·rfl
   ·rw[f3 _ g2 g3]at iE;exact (oZ z g1 g2 g3 Lz iE b nz (ho1 b gK)).elim
  ·rw[f3 _ h2 h3]at dy;rcases eW z hz with rfl|rfl|⟨g1,g2,g3⟩
   ·rw[cn,f2]at iE;cases iE;exact (oZ y h1 h2 h3 Ly dy b gK (BK b nz)).elim
   ·rw[gn,f1]at iE;cases iE;exact (oZ y h1 h2 h3 Ly dy b gK (ho1 b nz)).elim
   ·rw[f3 _ g2 g3]at iE;exact h.apart y h1 z g1 Ly Lz dy iE ⟨b,gK,nz⟩
theorem Og(S:St)(kb j k sz:Nat):dS S (S.adopt kb j k sz):=by
 unfold St.adopt;split
 ·rename_i key vb cs dQ v cont hgb hg;split
  ·rename_i hj;split
   ·exact dS.refl S
   ·rename_i bE;refine⟨rfl,rfl,fun φ G a w hr=>?_⟩;obtain⟨hm,hk,L,hL,aA,b7⟩:=hr.mem.get hg;simp only at hk aA;subst hk;obtain⟨φ1,rL,gn,hφ1,en⟩:=hr.mem.cW (e':=⟨dQ,v+1,.vec sz []⟩) hm hL rfl (L':=⟨v+1,0,sz,0,0,[]⟩) (by simp only;omega) (fun hh=>by simp only at hh;omega) rfl
     (w':=w) (fun _ _ _=>rfl) (Nat.le_refl _) (fun _ ho=>absurd ho.1 (by simp)) rfl rfl rfl (fun φ' jh kX=>⟨rfl,by simp,by simp,fun hc=>by simp at hc⟩)
    have akS:Mem.get (Mem.set S.mem ⟨dQ,v+1,.vec sz []⟩) kb=some ⟨key,vb,.box cs⟩:=by
     rw[Mem.nM (by simpa using fun h=>bE h.symm)];exact hgb
    obtain⟨Wu,Ra,Lb,Wv,BZ,Uq⟩:=rL.get akS;simp only at Ra BZ;subst Ra;obtain⟨φ2,jt,cn,hφ2,avW⟩:=rL.cW (e':=⟨key,vb,.box (cs.set j (.vec dQ (v+1) 0 0))⟩) Wu Wv rfl (L':=Lb) (Nat.le_refl _) (fun _=>rfl) BZ
     (w':=w) (fun _ _ _=>rfl) (Nat.le_refl _) (fun _ ho=>.inl ho) rfl rfl rfl (fun φ' jh kX=>by
      obtain⟨g0,arr,elem,g1,g2,g3,g4⟩:=Uq;have JK:∀b,Fo G φ' (Mem.set (Mem.set S.mem ⟨dQ,v+1,.vec sz []⟩) ⟨key,vb,.box (cs.set j (.vec dQ (v+1) 0 0))⟩) b→Fo G φ1 (Mem.set S.mem ⟨dQ,v+1,.vec sz []⟩) b:=by
       rintro b (h|⟨x,hx,Lx,ek,ir⟩)
       ·exact .inl h
       ·right;rcases (Mem.mem_set rL.nodup).1 hx with ⟨rfl,_⟩|⟨gm,hxk⟩
        ·simp only[jh,if_true]at ek;cases ek;exact⟨_,Wu,Lb,Wv,ir⟩
        ·simp only[jh,hxk,if_false]at ek;exact⟨x,gm,Lx,ek,ir⟩
      refine⟨by simpa using g0,arr,elem,g1,by simp[g2],g3,fun i c u hc hu=>?_⟩;rw[List.getElem?_set]at hc;split at hc
      ·rename_i ka;subst ka;split at hc
       ·cases hc;have:=g4 j _ u hj hu;cases this;refine .vec dQ (v+1) 0 0 _ ⟨v+1,0,sz,0,0,[]⟩ ?_ (Nat.le_refl _) (fun _=>⟨_,_,rfl,by simp,fun h=>by omega⟩) rfl;rw[jh];simp only
        rw[if_neg (fun h=>bE h.symm)];exact hφ1
       ·cases hc
      ·exact (g4 i c u hc hu).mono kX (fun _ _ _=>rfl) (Nat.le_refl _) (fun b _=>JK b))
    have ny:=gn.trans cn;exact⟨φ2,hr.wX jt ny,ny⟩
  ·exact dS.refl S
 ·exact dS.refl S
theorem xY(τ:AV→AV):∀m:Mem,(mapB τ m).map (·.key)=m.map (·.key)
 |[]=>rfl
 |e::r=>by simp[mapB,xY τ r]
theorem GX{τ:AV→AV}:∀{m:Mem}{x:cH},x∈mapB τ m↔∃e∈m,x=⟨e.key,e.aj,mapC τ e.cont⟩
 |[],x=>by simp[mapB]
 |e::r,x=>by simp[mapB,GX (m:=r)]
theorem Oh(S:St)(k k2:Nat):dS S (S.rekey k k2):=by
 unfold St.rekey;split
 ·rename_i key v sz rows dQ v2 cont hg mo;split
  ·exact dS.refl S
  ·rename_i bE;refine⟨rfl,rfl,fun φ G a w hr=>?_⟩;obtain⟨hm,hk,L,hL,aA,b7⟩:=hr.mem.get hg;obtain⟨jt,cn,L2,dR,yQ,_⟩:=hr.mem.get mo;simp only at hk aA cn yQ;subst hk;subst cn;have abi:¬dQ=key:=fun h=>bE h.symm;obtain⟨τ,hτ⟩:∃τ,τ=rkAV key v dQ (v2+1):=⟨_,rfl⟩;rw[←hτ];obtain⟨m1,rL⟩:∃m1,m1=Mem.set (mapB τ S.mem) ⟨key,v+1,.dead⟩:=⟨_,rfl⟩;have fg:((mapB τ S.mem).map (·.key)).Nodup:=by rw[xY];exact hr.mem.nodup
   have dJ:(m1.map (·.key)).Nodup:=by rw[rL,Mem.gu];exact fg
   obtain⟨m',dq⟩:∃m',m'=Mem.set m1 ⟨dQ,v2+1,.vec sz rows⟩:=⟨_,rfl⟩;rw[←rL,←dq];have ma:m'.map (·.key)=S.mem.map (·.key):=by rw[dq,Mem.gu,rL,Mem.gu,xY]
   have eW:∀y,y∈m'→y=⟨dQ,v2+1,.vec sz rows⟩∨y=⟨key,v+1,.dead⟩∨(∃z∈S.mem,y=⟨z.key,z.aj,mapC τ z.cont⟩∧z.key≠key∧z.key≠dQ):=by
    intro y hy;rw[dq]at hy;rcases (Mem.mem_set dJ).1 hy with ⟨h,_⟩|⟨h,h2⟩
    ·exact .inl h
    ·rw[rL]at h;rcases (Mem.mem_set fg).1 h with ⟨h,_⟩|⟨h,h3⟩
     ·exact .inr (.inl h)
     ·obtain⟨z,hz,rfl⟩:=GX.1 h;exact .inr (.inr ⟨z,hz,rfl,h3,h2⟩)
   obtain⟨φ',jh⟩:∃φ':bM,φ'=fun j=>if j=key then some {L with aj:=v+1} else if j=dQ then some {L with aj:=v2+1} else φ j:=⟨_,rfl⟩
   have f1:φ' key=some {L with aj:=v+1}:=by simp[jh]
   have f2:φ' dQ=some {L with aj:=v2+1}:=by simp[jh,abi]
   have f3:∀j,j≠key→j≠dQ→φ' j=φ j:=fun j h1 h2=>by simp[jh,h1,h2]
   have hle:φ.le φ':=by
    intro j L0 h0;by_cases h1:j=key
    ·subst h1;rw[hL]at h0;cases h0;exact⟨_,f1,by simp only;omega,fun hh=>by simp only at hh;omega⟩
    ·by_cases h2:j=dQ
     ·subst h2;rw[dR]at h0;cases h0;exact⟨_,f2,by simp only;omega,fun hh=>by simp only at hh;omega⟩
     ·exact⟨L0,by rw[f3 j h1 h2];exact h0,Nat.le_refl _,fun _=>rfl⟩
   have fw:∀b,iq φ' m' b→iq φ S.mem b:=by
    rintro b ⟨y,hy,Ly,dy,gK⟩;rcases eW y hy with rfl|rfl|⟨y0,h1,rfl,h2,h3⟩
    ·simp only at dy;rw[f2]at dy;cases dy;exact⟨_,hm,L,hL,gK⟩
    ·exact gK.elim
    ·simp only at dy;rw[f3 _ h2 h3]at dy;exact⟨y0,h1,Ly,dy,kz.1 gK⟩
   have hF:∀b,Fo G φ' m' b→Fo G φ S.mem b:=fun b=>Or.imp id (fw b);have bY:∀x u,aB φ w (Fo G φ S.mem) x u→aB φ' w (Fo G φ' m') (τ x) u:=by
    intro y u h0;have nV:=h0.mono (φ':=φ') (F':=Fo G φ' m') hle (fun _ _ _=>rfl) (Nat.le_refl _) (fun b _=>hF b);rw[hτ];unfold rkAV;split
    ·rename_i k0 v0 o l;split
     ·rename_i hh;obtain⟨rfl,rfl⟩:=hh;cases h0 with
      |vec _ _ _ _ _ L' bO _ h h1=>
       rw[hL]at bO;cases bO;exact .vec dQ (v2+1) o l _ _ f2 (Nat.le_refl _) (fun _=>h aA.symm) h1
     ·exact nV
    ·exact nV
   refine⟨φ',⟨hr.size,hr.defers,?_,⟨?_,?_,?_,?_,?_,?_⟩,hr.jZ.mono (fun _ _ _=>rfl) (Nat.le_refl _) (fun b _=>hF b)⟩,Gl fw hle⟩
   ·intro t x hx;obtain⟨y,hy,rfl⟩:=xy _ S.env t true x hx;exact bY _ _ (hr.env t y hy)
   ·show (m'.map (·.key)).Nodup;rw[ma];exact hr.mem.nodup
   ·intro j L0 h0;show j∈m'.map (·.key);rw[ma];by_cases h1:j=key
    ·subst h1;exact List.mem_map_of_mem hm
    ·by_cases h2:j=dQ
     ·subst h2;exact List.mem_map_of_mem jt
     ·rw[f3 j h1 h2]at h0;exact hr.mem.oB j L0 h0
   ·intro y hy;rcases eW y hy with rfl|rfl|⟨y0,h1,rfl,h2,h3⟩
    ·refine⟨_,f2,rfl,?_⟩;have:=b7.mono (φ':=φ') (F':=Fo G φ' m') hle (fun _ _ _=>rfl) (Nat.le_refl _) (fun b _=>hF b) (fun _ _=>rfl);exact this
    ·exact⟨_,f1,rfl,trivial⟩
    ·obtain⟨Ly,dy,QJ,kN⟩:=hr.mem.eV y0 h1;refine⟨Ly,by simp only;rw[f3 _ h2 h3];exact dy,QJ,?_⟩;cases mL:y0.cont with
     |dead=>trivial
     |box cs=>
      rw[mL]at kN;obtain⟨g0,arr,elem,g1,g2,g3,g4⟩:=kN;refine⟨by simpa using g0,arr,elem,g1,by simp[g2],g3,fun i c u sE hu=>?_⟩;rw[List.getElem?_map]at sE;obtain⟨x,hx,rfl⟩:=Option.map_eq_some_iff.1 sE;exact bY x u (g4 i x u hx hu)
     |vec sz1 afO=>
      rw[mL]at kN;exact kN.mono hle (fun _ _ _=>rfl) (Nat.le_refl _) (fun b _=>hF b) (fun _ _=>rfl)
     |vv afO y1=>
      rw[mL]at kN;exact jX.mono τ kN (fun _ _ _ _ u hu=>hu.mono (fun _ _ _=>rfl) (Nat.le_refl _) (fun b _=>hF b)) (fun x _ v hx=>bY x v hx) (fun _ _=>rfl)
   ·rintro y hy z hz Ly Lz dy iE ⟨b,gK,nz⟩;rcases eW y hy with rfl|rfl|⟨y0,h1,rfl,h2,h3⟩
    ·rcases eW z hz with rfl|rfl|⟨z0,g1,rfl,g2,g3⟩
     ·rfl
     ·exact nz.elim
     ·simp only at dy;rw[f2]at dy;cases dy;simp only at iE;rw[f3 _ g2 g3]at iE;exact absurd (hr.mem.apart _ hm z0 g1 L Lz hL iE ⟨b,gK,kz.1 nz⟩).symm g2
    ·exact gK.elim
    ·rcases eW z hz with rfl|rfl|⟨z0,g1,rfl,g2,g3⟩
     ·simp only at iE;rw[f2]at iE;cases iE;simp only at dy;rw[f3 _ h2 h3]at dy;exact absurd (hr.mem.apart y0 h1 _ hm Ly L dy hL ⟨b,kz.1 gK,nz⟩) h2
     ·exact nz.elim
     ·simp only at dy iE;rw[f3 _ h2 h3]at dy;rw[f3 _ g2 g3]at iE;exact hr.mem.apart y0 h1 z0 g1 Ly Lz dy iE ⟨b,kz.1 gK,kz.1 nz⟩
   ·intro b hb;exact hr.mem.jY b (fw b hb)
   ·exact hr.mem.bound
 ·exact dS.refl S
theorem Rb{α:Type}{l:List α}{n:Nat}(h:l.length=n+1):∃(r:List α)(o:α),l=r++[o]∧r.length=n:=by
 refine⟨l.dropLast,l.getLast (by intro hh;simp[hh]at h),(List.dropLast_concat_getLast _).symm,by simp[h]⟩
theorem Ur(S:St)(k k2:Nat):dS S (S.opn k k2):=by
 unfold St.opn;split
 ·rename_i key v rows dQ v2 cont hg mo;split
  ·rename_i xs mK;split
   ·exact dS.refl S
   ·rename_i bE;refine⟨rfl,rfl,fun φ G a w hr=>?_⟩;obtain⟨hm,hk,L,hL,aA,b7⟩:=hr.mem.get hg;obtain⟨jt,cn,L2,dR,yQ,_⟩:=hr.mem.get mo;simp only at hk aA cn yQ;subst hk;subst cn;have jm:rows=rows.dropLast++[xs]:=by
     rcases List.eq_nil_or_concat rows with rfl|⟨r,x,rfl⟩
     ·simp at mK
     ·simp at mK;subst mK;simp
    obtain⟨r,Ql⟩:∃r,r=rows.dropLast:=⟨_,rfl⟩;rw[←Ql]at jm⊢;subst jm;obtain⟨⟨h0,h1,h2⟩,h3,h4,h5⟩:jX φ w (Fo G φ S.mem) L (r++[xs]) none:=b7;simp only[List.length_append,List.length_singleton,Option.toList_none,List.length_nil,Nat.add_zero]at h1 h2;obtain⟨arr,elem,g1,g2,g3,g4,_⟩:=h5 (by omega);obtain⟨cM,o,fQ,lq⟩:=Rb h2;have jw:=g4 r.length xs o (by simp) (by rw[fQ,←lq];simp);have cL:∀b,some b∈cM→some b∈L.cM:=fun b hb=>by rw[fQ];simp[hb]
    have nq:∀(i:Nat)(x:Option Nat),cM[i]?=some x→L.cM[i]?=some x:=fun i x hx=>by
     rw[fQ,List.getElem?_append_left (List.getElem?_eq_some_iff.1 hx).1];exact hx
    have akT:∀b,o=some b→some b∉cM:=fun b hb hm=>by
     obtain⟨i,hi⟩:=List.getElem?_of_mem hm;have bn:=(List.getElem?_eq_some_iff.1 hi).1;have:=h3 i r.length b (nq i _ hi) (by rw[fQ,←lq,←hb];simp);omega
    have base:∀(L2':Loc)(x:Value),(L2'.aj=v2+1∧L2'.sz=1)→arr[L.base+r.length]?=some x→(∀(φ':bM)(F':Nat→Prop),φ' dQ=some L2'→aB φ' w F' (.vec dQ (v2+1) 0 xs.length) x)→
     (∀b,0<L2'.cap→L2'.du=b→o=some b)→
     (∀(φ':bM)(F':Nat→Prop),φ.le φ'→(∀b,F' b→Fo G φ S.mem b)→dO φ' w F' L2' (.vec 1 xs))→
     ∃φ',Rel φ' G {S with mem:=Mem.set (Mem.set S.mem ⟨key,v,.vv r (some (.vec dQ (v2+1) 0 xs.length))⟩) ⟨dQ,v2+1,.vec 1 xs⟩} a w∧aP φ S.mem w φ' (Mem.set (Mem.set S.mem ⟨key,v,.vv r (some (.vec dQ (v2+1) 0 xs.length))⟩) ⟨dQ,v2+1,.vec 1 xs⟩) w:=by
     intro L2' x C5 hx bY mu afP;have sx:∀(φ':bM)(F':Nat→Prop),φ.le φ'→φ' dQ=some L2'→(∀b,F' b→Fo G φ S.mem b)→dO φ' w F' {L with cM:=cM} (.vv r (some (.vec dQ (v2+1) 0 xs.length))):=by
      intro φ' F' hle f2 hF;refine⟨⟨h0,by simp;omega,lq⟩,fun i j b hi hj=>h3 i j b (nq _ _ hi) (nq _ _ hj),fun b hb=>h4 b (cL b hb),fun _=>⟨arr,elem,g1,g2,g3,fun i Br o' hi ho=>?_,fun y hy=>?_⟩⟩
      ·have iu:=(List.getElem?_eq_some_iff.1 hi).1;exact (g4 i Br o' (by rw[List.getElem?_append_left iu];exact hi) (nq _ _ ho)).mono (fun d u _ hu=>hu.mono (fun _ _ _=>rfl) (Nat.le_refl _) (fun b _=>hF b)) (fun _ _=>rfl)
      ·cases hy;exact⟨x,hx,bY φ' F' f2⟩
     obtain⟨φ',dq,aN⟩:=hr.mem.Up (e1':=⟨key,v,.vv r (some (.vec dQ (v2+1) 0 xs.length))⟩) (e2':=⟨dQ,v2+1,.vec 1 xs⟩) hm jt bE hL dR (L1':={L with cM:=cM}) (L2':=L2') rfl rfl (Nat.le_refl _) (by rw[C5.1];omega)
      (fun _=>rfl) (fun hh=>by rw[C5.1]at hh;omega) aA C5.1 (fun b hb=>.inl (by
       rcases hb with hb|hb
       ·exact .inl hb
       ·exact .inr (cL b hb))) (fun b hb=>.inl (.inr (by rw[fQ,mu b hb.1 hb.2];simp))) (fun b aV aW=>by
       have JJ:=mu b aW.1 aW.2;rcases aV with ⟨_,aV⟩|aV
       ·exact (h4 b (by rw[fQ,JJ];simp)).2 aV.symm
       ·exact akT b JJ aV) (fun φ' F' hle f1 f2 hF=>⟨sx φ' F' hle f2 hF,afP φ' F' hle hF⟩)
     exact⟨φ',hr.wX dq aN,aN⟩
    cases o with
    |none=>
     obtain⟨rfl,b,hv⟩:=jw;exact base ⟨v2+1,0,1,0,0,[]⟩ _ ⟨rfl,rfl⟩ hv (fun φ' F' hf=>.vec dQ _ 0 0 _ _ hf (Nat.le_refl _) (fun _=>⟨_,_,rfl,by simp,fun h=>by omega⟩) rfl) (fun b hb=>by simp at hb) (fun φ' F' hle hF=>⟨rfl,by simp,by simp,fun hc=>by simp at hc⟩)
    |some b=>
     obtain⟨row,re,off,cap,q1,q2,q3,q4,q5,q6,q7⟩:=jw;refine base ⟨v2+1,b,1,row.size-off,off,[]⟩ _ ⟨rfl,rfl⟩ q1 (fun φ' F' hf=>.vec dQ _ 0 _ _ _ hf (Nat.le_refl _) (fun _=>⟨_,cap,rfl,q3,fun h=>⟨by simp,by simp only;omega⟩⟩) rfl) (fun b' _ hb=>by simp only at hb;rw[hb]) (fun φ' F' hle hF=>?_);refine⟨rfl,by simp only;omega,fun d hd=>?_,fun hc=>⟨row,re,q5,by simp only;omega,q6,fun i d hi=>?_⟩⟩
     ·obtain⟨i,hi⟩:=List.getElem?_of_mem hd;exact (q7 i d hi).1
     ·obtain⟨_,u,hu,hj⟩:=q7 i d hi;exact⟨u,hu.mono (fun _ _ _=>rfl) (Nat.le_refl _) (fun b _=>hF b),hj⟩
  ·exact dS.refl S
 ·exact dS.refl S
theorem Us(S:St)(k k2:Nat):dS S (S.cls k k2):=by
 unfold St.cls;split
 ·rename_i key v rows k3 v3 len dQ v2 xs hg mo;split
  ·exact dS.refl S
  ·rename_i bE;split
   ·rename_i afQ;obtain⟨rfl,rfl,rfl⟩:=afQ;refine⟨rfl,rfl,fun φ G a w hr=>?_⟩;obtain⟨hm,hk,L,hL,aA,b7⟩:=hr.mem.get hg;obtain⟨jt,cn,L2,dR,yQ,akU⟩:=hr.mem.get mo;simp only at hk aA cn yQ;subst hk;subst cn;obtain⟨⟨h0,h1,h2⟩,h3,h4,h5⟩:jX φ w (Fo G φ S.mem) L rows (some (.vec dQ v3 0 xs.length)):=b7;simp only[Option.toList_some,List.length_singleton]at h1;obtain⟨arr,elem,g1,g2,g3,g4,g5⟩:=h5 (by omega);obtain⟨y,gy,gav⟩:=g5 _ rfl;obtain⟨z0,z1,z2,z3⟩:=akU;have fa:∀b,0<L2.cap→L2.du=b→(L.du=b∨some b∈L.cM)→False:=by
     intro b hc hb hh;refine bE (hr.mem.apart _ hm _ jt L L2 hL dR ⟨b,?_,⟨hc,hb⟩⟩);rcases hh with hh|hh
     ·exact .inl ⟨by omega,hh⟩
     ·exact .inr hh
    have base:∀(o:Option Nat),(∀b,o=some b→0<L2.cap∧L2.du=b)→(∀F':Nat→Prop,(∀b,F' b→Fo G φ S.mem b)→wU w F' (some y) xs o)→
     ∃φ',Rel φ' G {S with mem:=Mem.set (Mem.set S.mem ⟨key,v,.vv (rows++[xs]) none⟩) ⟨dQ,v3+1,.dead⟩} a w∧aP φ S.mem w φ' (Mem.set (Mem.set S.mem ⟨key,v,.vv (rows++[xs]) none⟩) ⟨dQ,v3+1,.dead⟩) w:=by
     intro o ho JF;have QT:∀(i b:Nat),(L.cM++[o])[i]?=some (some b)→(L.cM[i]?=some (some b)∧i<L.cM.length)∨(i=L.cM.length∧o=some b):=by
      intro i b hi;rcases Nat.lt_trichotomy i L.cM.length with bn|heq|FL
      ·rw[List.getElem?_append_left bn]at hi;exact .inl ⟨hi,bn⟩
      ·subst heq;simp at hi;exact .inr ⟨rfl,hi⟩
      ·rw[List.getElem?_append_right (by omega)]at hi;have:i-L.cM.length=(i-L.cM.length-1)+1:=by omega
       rw[this]at hi;simp at hi
     have sx:∀(φ':bM)(F':Nat→Prop),(∀b,F' b→Fo G φ S.mem b)→dO φ' w F' {L with cM:=L.cM++[o]} (.vv (rows++[xs]) none):=by
      intro φ' F' hF;refine⟨⟨h0,by simp;omega,by simp[h2]⟩,fun i j b hi hj=>?_,fun b hb=>?_,fun _=>⟨arr,elem,g1,g2,g3,fun i Br o' hi cg=>?_,fun y hy=>by cases hy⟩⟩
      ·rcases QT i b hi with ⟨nq,iu⟩|⟨hi0,nq⟩<;>rcases QT j b hj with ⟨Eb,gP⟩|⟨Qz,Eb⟩
       ·exact h3 i j b nq Eb
       ·exact (fa b (ho b Eb).1 (ho b Eb).2 (.inr (List.mem_of_getElem? nq))).elim
       ·exact (fa b (ho b nq).1 (ho b nq).2 (.inr (List.mem_of_getElem? Eb))).elim
       ·rw[hi0,Qz]
      ·simp only[List.mem_append,List.mem_singleton]at hb;refine⟨by simp only;omega,?_⟩;rcases hb with hb|hb
       ·exact (h4 b hb).2
       ·exact fun hh=>fa b (ho b hb.symm).1 (ho b hb.symm).2 (.inl hh.symm)
      ·rcases Nat.lt_or_ge i rows.length with bn|wW
       ·rw[List.getElem?_append_left bn]at hi;rw[List.getElem?_append_left (by omega)]at cg;exact (g4 i Br o' hi cg).mono (fun d u _ hu=>hu.mono (fun _ _ _=>rfl) (Nat.le_refl _) (fun b _=>hF b)) (fun _ _=>rfl)
       ·have zF:i=rows.length:=by have:=(List.getElem?_eq_some_iff.1 hi).1;simp at this;omega
        subst zF;simp at hi;subst hi;rw[←h2]at cg;simp at cg;subst cg;simp only
        rw[gy];exact JF F' hF
     obtain⟨φ',dq,aN⟩:=hr.mem.Up (e1':=⟨key,v,.vv (rows++[xs]) none⟩) (e2':=⟨dQ,v3+1,.dead⟩) hm jt bE hL dR (L1':={L with cM:=L.cM++[o]}) (L2':={L2 with aj:=v3+1}) rfl rfl (Nat.le_refl _) (by simp only;omega)
      (fun _=>rfl) (fun hh=>by simp only at hh;omega) aA rfl (fun b hb=>by
       rcases hb with hb|hb
       ·exact .inl (.inl hb)
       ·simp only[List.mem_append,List.mem_singleton]at hb;rcases hb with hb|hb
        ·exact .inl (.inr hb)
        ·exact .inr (ho b hb.symm)) (fun b hb=>hb.elim) (fun b _ aW=>aW) (fun φ' F' hle f1 f2 hF=>⟨sx φ' F' hF,trivial⟩)
     exact⟨φ',hr.wX dq aN,aN⟩
    cases gav with
    |vec _ _ _ _ _ L' bO sq hq sx=>
     rw[dR]at bO;cases bO;obtain⟨ad,cap,rfl,fU,dg⟩:=hq yQ.symm;by_cases zU:0<cap
     ·obtain⟨rfl,aO⟩:=dg zU;obtain⟨akV,e2,t1,t2,t3,t4⟩:=z3 (by omega);refine base (some L2.du) (fun b hb=>by cases hb;exact⟨by omega,rfl⟩) (fun F' hF=>⟨akV,e2,L2.base,cap,by simp,zU,fU,by rw[t2,z0];omega,t1,t3,fun i d hd=>?_⟩);obtain⟨u,hu,hj⟩:=t4 i d hd;rw[z0]at hj;exact⟨by rw[z2 d (List.mem_of_getElem? hd),z0],u,hu.mono (fun _ _ _=>rfl) (Nat.le_refl _) (fun b _=>hF b),hj⟩
     ·have fE:xs=[]:=List.length_eq_zero_iff.1 (by omega);have gO:cap=0:=by omega
      subst gO;refine base none (fun b hb=>by cases hb) (fun F' hF=>⟨fE,ad,by rw[fE];rfl⟩)
   ·exact dS.refl S
 ·exact dS.refl S
theorem Rc(S:St)(k:Nat):dS S (S.shut k):=by
 unfold St.shut;split
 ·rename_i key v rows y hg;refine⟨rfl,rfl,fun φ G a w hr=>?_⟩;obtain⟨hm,hk,L,hL,aA,b7⟩:=hr.mem.get hg;simp only at hk aA;subst hk;obtain⟨φ',dq,aN,_,_⟩:=hr.mem.cW (e':=⟨key,v,.vv rows none⟩) hm hL rfl (L':=L) (Nat.le_refl _) (fun _=>rfl) aA
   (w':=w) (fun _ _ _=>rfl) (Nat.le_refl _) (fun _ ho=>.inl ho) rfl rfl rfl (fun φ' jh kX=>by
    obtain⟨⟨h0,h1,h2⟩,h3,h4,h5⟩:jX φ w (Fo G φ S.mem) L rows (some y):=b7;refine⟨⟨h0,by simp at h1⊢;omega,h2⟩,h3,h4,fun hc=>?_⟩;obtain⟨arr,elem,g1,g2,g3,g4,g5⟩:=h5 hc;refine⟨arr,elem,g1,g2,g3,fun i xs o hi ho=>(g4 i xs o hi ho).mono (fun d u _ hu=>hu.mono (fun _ _ _=>rfl) (Nat.le_refl _) (fun b _ hb=>?_)) (fun _ _=>rfl),fun y hy=>by cases hy⟩;rcases hb with hb|⟨x,hx,Lx,ek,ir⟩
    ·exact .inl hb
    ·right;rcases (Mem.mem_set hr.mem.nodup).1 hx with ⟨rfl,_⟩|⟨gm,hxk⟩
     ·simp only[jh,if_true]at ek;cases ek;exact⟨_,hm,L,hL,ir⟩
     ·simp only[jh,hxk,if_false]at ek;exact⟨x,gm,Lx,ek,ir⟩)
  exact⟨φ',hr.wX dq aN,aN⟩
 ·exact dS.refl S
theorem Je(S:St)(kb j k:Nat):dS S (S.adoptV kb j k):=by
 unfold St.adoptV;split
 ·rename_i key vb cs dQ v cont hgb hg;split
  ·rename_i hj;split
   ·exact dS.refl S
   ·rename_i bE;refine⟨rfl,rfl,fun φ G a w hr=>?_⟩;obtain⟨Wu,Ra,Lb,Wv,BZ,Uq⟩:=hr.mem.get hgb;obtain⟨hm,hk,L,hL,aA,b7⟩:=hr.mem.get hg;simp only at Ra BZ hk aA;subst Ra;subst hk;have sx:∀(φ':bM)(F':Nat→Prop),φ.le φ'→φ' dQ=some ⟨v+1,0,1,0,0,[]⟩→(∀b,F' b→Fo G φ S.mem b)→dO φ' w F' Lb (.box (cs.set j (.vec dQ (v+1) 0 0))):=by
     intro φ' F' hle f2 hF;obtain⟨g0,arr,elem,g1,g2,g3,g4⟩:=Uq;refine⟨by simpa using g0,arr,elem,g1,by simp[g2],g3,fun i c u hc hu=>?_⟩;rw[List.getElem?_set]at hc;split at hc
     ·rename_i ka;subst ka;split at hc
      ·cases hc;have:=g4 j _ u hj hu;cases this;exact .vec dQ (v+1) 0 0 _ _ f2 (Nat.le_refl _) (fun _=>⟨_,_,rfl,by simp,fun h=>by omega⟩) rfl
      ·cases hc
     ·exact (g4 i c u hc hu).mono hle (fun _ _ _=>rfl) (Nat.le_refl _) (fun b _=>hF b)
    obtain⟨φ',dq,aN⟩:=hr.mem.Up (e1':=⟨key,vb,.box (cs.set j (.vec dQ (v+1) 0 0))⟩) (e2':=⟨dQ,v+1,.vv [] none⟩) Wu hm bE Wv hL (L1':=Lb) (L2':=⟨v+1,0,1,0,0,[]⟩) rfl rfl (Nat.le_refl _) (by simp only;omega)
     (fun _=>rfl) (fun hh=>by simp only at hh;omega) BZ rfl (fun b hb=>.inl hb) (fun b hb=>by
      rcases hb with ⟨hb,_⟩|hb
      ·simp at hb
      ·simp at hb) (fun b _ hb=>by
      rcases hb with ⟨hb,_⟩|hb
      ·simp at hb
      ·simp at hb) (fun φ' F' hle f1 f2 hF=>⟨sx φ' F' hle f2 hF,⟨⟨rfl,by simp,rfl⟩,fun i j b hi=>by simp at hi,fun b hb=>by simp at hb,fun hc=>by simp at hc⟩⟩)
    exact⟨φ',hr.wX dq aN,aN⟩
  ·exact dS.refl S
 ·exact dS.refl S
theorem Zo(S:St)(g:Gh):dS S (g.go S):=by
 cases g with
 |trim k=>exact BC S k
 |freeze k=>exact I7 S k
 |adopt kb j k sz=>exact Og S kb j k sz
 |rekey k k2=>exact Oh S k k2
 |opn k k2=>exact Ur S k k2
 |cls k k2=>exact Us S k k2
 |shut k=>exact Rc S k
 |adoptV kb j k=>exact Je S kb j k
theorem AA:∀(l:List Gh)(S:St),dS S (ghs S l)
 |[],S=>dS.refl S
 |g::r,S=>(Zo S g).trans (AA r _)
theorem qV(X:Ctx)(f:FuncId)(id:Nat)(S:St):dS S (S.leave X f id):=(NS S _).trans (AA _ _)
def eo(X:Ctx)(f:FuncId)(n:Nat):Code→Bool
 | .region id ops draw=>jq n ops.toList&&(!draw||Ap ops.toList (X.od f id))
 | .seq a b=>eo X f n a&&eo X f n b
 | .cond _ a b=>eo X f n a&&eo X f n b
 | .block _ c=>eo X f n c
 | .loop c=>eo X f n c
 |_=>true
structure jy(X:Ctx):Prop where
 ov:X.ov=none
 names:∀(g:FuncId)(fn:Func),X.P.funcs[g]?=some fn→fn.name≠ "runtime.NumGoroutine"
 Ut:∀(g:FuncId)(fn:Func)(c:Code),X.P.funcs[g]?=some fn→fn.body=some c→eo X g fn.ntmps c=true
 mixed:X.P.follows .mixedOrders=true
 wJ:∀(g:FuncId)(h:List AV→Option AV),X.wJ g=some h→gC X.P g=true∧∀(B0:List AV)(a:AV),h B0=some a→∀(φ:bM)(F:Nat→Prop)(w:World)(vs:Array Value),eF w F X.gl→(∀b,F b→b<w.heap.size)→B0.length=vs.size→
  (∀(i:Nat) x v,B0[i]?=some x→vs[i]?=some v→aB φ w F x v)→Calls X.P g vs w fun e w'=>∃v,e=.returned v∧Go.RowKit.Below w.heap.size w w'∧aB φ w' F a v
theorem my.is{n:Nat}{φ:bM}{G:Fr}{m:Mem}{w:World}{e:XE}{S':St}{e':Exit}{a':Act}{w':World}(h:my n φ G m w (Is e S') e' a' w'):
 ∃φ',S'.n=n∧Rel φ' G S' a' w'∧aP φ m w φ' S'.mem w'∧(match e' with
  | .normal=>e=.normal
  | .exit id=>e=.exit id
  | .ret=>e=.ret
  | .panic chain=>∃t x v,e=.panic t x∧chain=[{v:=.iface t v,recovered:=false}]∧aK w' (Fo G φ' S'.mem) x v
  |_=>False):=by
 cases e' with
 |normal=>obtain⟨φ',S2,hn,⟨h1,rfl⟩,h2,h3⟩:=h;exact⟨φ',hn,h2,h3,h1.symm⟩
 |exit id=>obtain⟨φ',S2,hn,⟨h1,rfl⟩,h2,h3⟩:=h;exact⟨φ',hn,h2,h3,h1.symm⟩
 |ret=>obtain⟨φ',S2,hn,⟨h1,rfl⟩,h2,h3⟩:=h;exact⟨φ',hn,h2,h3,h1.symm⟩
 |panic chain=>obtain⟨φ',S2,t,x,v,hc,hd,hn,⟨h1,rfl⟩,h2,h3⟩:=h;exact⟨φ',hn,h2,h3,t,x,v,h1.symm,hc,hd⟩
 |_=>exact h.elim
section
variable {X:Ctx} {cl:bq} {f:FuncId} {n:Nat}
theorem GY{P:Program}{S:St}{e:XE}{c:Code}{k:St→St}(hk:∀S,dS S (k S)){r:Option (XE×St)}{S':St}(h:tK k r=some (e,S'))
 (hr:∀e1 S1,r=some (e1,S1)→S1.n=S.n∧S1.gl=S.gl∧nx P c S (Is e1 S1)):S'.n=S.n∧S'.gl=S.gl∧nx P c S (Is e S'):=by
 unfold tK at h;split at h
 ·rename_i S1;cases h;obtain⟨h1,h2,h3⟩:=hr _ _ rfl;obtain⟨t1,t2,t3⟩:=hk S1;refine⟨t1.trans h1,t2.trans h2,fun φ G a w eh=>wp_mono (h3 φ G a w eh) fun e' a' w' hp=>?_⟩;obtain⟨φ',hn,b6,aN,he⟩:=hp.is;cases e' with
  |normal=>
   obtain⟨φ2,iN,cn⟩:=t3 φ' G a' w' b6;exact⟨φ2,k S1,t1.trans hn,⟨rfl,rfl⟩,iN,aN.trans cn⟩
  |exit id=>cases he
  |ret=>cases he
  |panic chain=>obtain⟨t,x,v,h4,_⟩:=he;cases h4
  |_=>exact he.elim
 ·exact hr _ _ h
theorem Zp{P:Program}{I:Mem→Prop}{all:List Oper}{ops:List Oper}{S:St}{ps:List aS}{S1:St}(h:Cert P I all ops S ps S1):S1.n=S.n∧S1.gl=S.gl:=by
 induction h with
 |nil S=>exact⟨rfl,rfl⟩
 |cons o rest S p ps S1 _ _ _ _ ih=>exact⟨ih.1.trans (sI ..),ih.2.trans (p5 ..)⟩
theorem GZ{P:Program}{I:Mem→Prop}{all:List Oper}:∀{ops:List Oper}{S:St}{ps:List aS}{S1:St},Cert P I all ops S ps S1→ps.length=ops.length:=by
 intro ops S ps S1 h;induction h with
 |nil S=>rfl
 |cons o rest S p ps S1 _ _ _ _ ih=>simp[ih]
theorem Ee:∀{es:List cH},farE es=true→∀e∈es,100≤e.key
 |_::r,h,e,he=>by
  simp only[farE,Bool.and_eq_true,decide_eq_true_eq]at h;rcases List.mem_cons.1 he with rfl|he
  ·exact h.1
  ·exact Ee h.2 e he
theorem Ef{ps:List aS}:∀{js:List Nat},farJ ps js=true→∀i∈js,∀p,ps[i]?=some p→∀e∈p.es,100≤e.key
 |k::r,h,i,hi,p,hp,e,he=>by
  simp only[farJ,Bool.and_eq_true]at h;rcases List.mem_cons.1 hi with rfl|hi
  ·have:=h.1;rw[hp]at this;exact Ee this e he
  ·exact Ef h.2 i hi p hp e he
theorem xZ{all:List Oper}{nd:List (List Nat)}(h:Ap all nd=true){i j:Nat}(ka:i<j)(hj:j<all.length)(hn:i∉(gA all []).getD j []):(nd.getD i []).contains j=true∧(nd.getD j []).contains i=true:=by
 have h1:=List.all_eq_true.1 h j (List.mem_range.2 hj);unfold xH at h1;rw[List.getElem?_eq_getElem hj]at h1;simp only[Bool.and_eq_true,List.all_eq_true,Bool.or_eq_true,List.mem_range]at h1;rcases h1.2 i ka with h2|h2
 ·exact absurd (by simpa using h2) hn
 ·rw[List.getElem?_eq_getElem (by omega)]at h2;simp only[Bool.and_eq_true]at h2;exact h2.2
theorem Oi{P:Program}{S S1:St}{id:Nat}{ops:List Oper}{nd:List (List Nat)}{ps:List aS}{j N:Nat}{t:TypeId}{x:D}(hm:P.follows .mixedOrders=true)(qW:Ap ops nd=true)
 (hc:jx (TT P ops j (nd.getD j []) t x N S1) 0 ops S ps) (afR:ordD nd ps=true) (tH:farJ ps (nd.getD j [])=true) (GU:S1.env=[]) (gP:j<ops.length) (hN:N=verSum S.mem+verSums ps+1):
 S1.n=S.n∧S1.gl=S.gl∧∀{φ:bM}{G:Fr}{a:Act}{w:World},Rel φ G S a w→∀{Q:Exit→Act→World→Prop},
 (∀φ' a' w' v,Rel φ' G S1 a' w'→aP φ S.mem w φ' S1.mem w'→aK w' (Fo G φ' S1.mem) x v→Q (.panic [{v:=.iface t v,recovered:=false}]) a' w')→(Code.region id ops.toArray true).wp P Q a w:=by
 have hlen:=hc.len;have gM:=jx.at (ps:=ps) (S0:=S) hc [] [] rfl rfl rfl rfl rfl;have cG:=QS qW afR hlen;obtain⟨oj,Gw⟩:∃oj,ops[j]?=some oj:=⟨ops[j],by simp[gP]⟩;obtain⟨pj,sH⟩:∃pj,ps[j]?=some pj:=⟨ps[j]'(by omega),by simp[show j<ps.length by omega]⟩
 obtain⟨Gx,dJ,eR,rL⟩:=(gM j oj pj (by simp) Gw sH).2.2 rfl;rw[nb]at dJ;rw[lH]at eR;refine⟨dJ,eR,fun {φ G a w} hr {Q} hQ=>wp_region_any hm ?_⟩;have gT:∀(i:Nat)(p:aS),ps[i]?=some p→∀e∈p.es,e.key∈p.ks:=fun i p hp=>by
  have iu:i<ps.length:=(List.getElem?_eq_some_iff.1 hp).1;exact (gM i (ops[i]'(by omega)) p (by simp) (by simp[show i<ops.length by omega]) hp).1
 have iU:Rel φ G S a {w with drawn:=w.drawn+1}:=hr.grow (fun _ _=>rfl) (Nat.le_refl _);have cm:(gW ops.length fun i=>(Array.replicate ops.length false).getD i false)=[]:=by
  rw[gW,List.filter_eq_nil_iff];intro i hi;simp[Array.getD_eq_getD_getElem?,List.mem_range.1 hi]
 refine QU (S0:=S) (S1:=S1) (φ0:=φ) (w0:=w) (G:=G) (j:=j) hlen cG hr.mem.nodup gT ?_ Gw sH Gx ?_ dJ eR GU (by rw[rL,hN];rfl) (fun φ' a' w' v b6 aN hv=>hQ φ' a' w' v b6 aN hv) _ _ φ a _ (by simp) ?_ ?_ ?_ ?_ ?_
 ·intro i o p ho hp ka p7;have iu:i<ops.length:=(List.getElem?_eq_some_iff.1 ho).1;refine (gM i o p (by simp) ho hp).2.1 ka ?_;rcases Nat.lt_or_ge i j with h|h
  ·exact .inl h
  ·exact .inr (xZ qW (by omega) iu p7).1
 ·intro i p hp ka hi p7 e he;have iu:i<ops.length:=by have:=(List.getElem?_eq_some_iff.1 hp).1;omega
  have cL:(nd.getD j []).contains i=true:=by
   rcases Nat.lt_or_ge i j with h|h
   ·exact (xZ qW h gP hi).2
   ·exact (xZ qW (by omega) iu p7).1
  exact Ef tH i (by simpa using cL) p hp e he
 ·intro j o _ hj;exfalso;simp only[Array.getD_eq_getD_getElem?]at hj;by_cases h:j<ops.length
  ·simp[h]at hj
  ·simp[h]at hj
 ·simp only[Array.getD_eq_getD_getElem?];simp[gP]
 ·simp only[List.size_toArray];rw[cm];exact iU
 ·simp only[List.size_toArray];rw[cm];exact aP.grow (fun _ _=>rfl) (Nat.le_refl _) rfl rfl rfl
 ·simp only[List.size_toArray];exact Nat.le_trans (List.length_filter_le _ _) (by simp)
theorem G2(hX:jy X)(aO:iX X cl):∀(c:Code)(S:St)(e:XE)(S':St),den X f cl n c S=some (e,S')→S.gl=X.gl→eo X f S.n c=true→
 S'.n=S.n∧S'.gl=S.gl∧nx X.P c S (Is e S'):=by
 intro c;induction c with
 |skip=>
  intro S e S' h ck hd;simp only[den,Option.some.injEq,Prod.mk.injEq]at h;obtain⟨rfl,rfl⟩:=h;exact⟨rfl,rfl,T8 ⟨rfl,rfl⟩⟩
 |region id ops draw=>
  intro S e S' h ck hd;simp only[den]at h;simp only[eo,Bool.and_eq_true]at hd;cases draw with
  |false=>
   refine GY (qV X f id) h (fun e1 S1 h1=>?_);obtain⟨h2,h3,h4⟩:=xU aO ops.toList S e1 S1 h1 ck hd.1;exact⟨h2,h3,fun φ G a w hr=>wp_region_lit (h4 φ G a w hr _ (fun _ _ _ h=>h))⟩
  |true=>
   refine GY (qV X f id) h (fun e1 S1 h1=>?_);have qW:Ap ops.toList (X.od f id)=true:=by simpa using hd.2
   have key:(∃I:Mem→Prop,I S.mem∧e1=.normal∧∃ps S2,Cert X.P I ops.toList ops.toList S ps S2∧gB S1 S2∧ordD (X.od f id) ps=true)∨
    (S1.n=S.n∧S1.gl=S.gl∧∀φ G a w,Rel φ G S a w→∀Q:Exit→Act→World→Prop,(e1=.normal→∀φ' a' w',Rel φ' G S1 a' w'→aP φ S.mem w φ' S1.mem w'→Q .normal a' w')→
     (∀t x,e1=.panic t x→∀φ' a' w' v,Rel φ' G S1 a' w'→aP φ S.mem w φ' S1.mem w'→aK w' (Fo G φ' S1.mem) x v→Q (.panic [{v:=.iface t v,recovered:=false}]) a' w')→(Code.region id ops true).wp X.P Q a w)∧(e1=.normal∨∃t x,e1=.panic t x):=by
    cases iC:X.fl f id with
    |nil=>
     rw[iC]at h1;simp only[rO]at h1;rcases zT aO ops.toList S [] e1 S1 h1 ck hd.1 with ⟨he,ps,S2,hc,heq,cG⟩|⟨t,x,j,ps,he,Eb,zR,hc,cG,tH,GU⟩
     ·exact .inl ⟨_,trivial,he,ps,S2,hc,heq,by simpa using cG⟩
     ·right;obtain⟨h2,h3,h4⟩:=Oi (id:=id) hX.mixed qW hc (by simpa using cG) (by simpa using tH) GU (by simpa using zR) rfl;exact⟨⟨h2,h3,fun φ G a w hr Q _ hQ=>h4 hr (fun φ' a' w' v h5 h6 h7=>hQ t x he φ' a' w' v h5 h6 h7)⟩,.inr ⟨t,x,he⟩⟩
    |cons q r=>
     rw[iC]at h1;simp only[rO]at h1;cases Ww:eV S.mem (q::r)with
     |none=>rw[Ww]at h1;cases h1
     |some LI=>
      rw[Ww]at h1;simp only[N9]at h1;rcases Ed aO ops.toList S [] e1 S1 (by simp) h1 ck hd.1 with ⟨he,ps,S2,hc,heq,cG⟩|⟨init,ol,ps,S2,dP,hc,hn,cG,h2,h3,h4,h5⟩
      ·exact .inl ⟨_,vD Ww,he,ps,S2,hc,heq,by simpa using cG⟩
      ·obtain⟨qB,mo⟩:=Zp hc;refine .inr ⟨⟨h2.trans qB,h3.trans mo,fun φ G a w hr Q hQn hQp=>?_⟩,h4⟩;have hlen:ps.length+1=ops.toList.length:=by
        have:=GZ hc;rw[dP];simp[this]
       refine Jb (ops:=ops.toList) dP (zP qW hn) (vD Ww) hX.mixed hc (Uo qW hlen hn (by simpa using cG)) hr (fun φ' a' w' b6 aN next hnx=>?_);exact h5 φ' G a' w' b6 next Q (fun he φ2 a2 w2 iN cn=>hnx a2 w2 (hQn he φ2 a2 w2 iN (aN.trans cn))) (fun t x he φ2 a2 w2 v iN cn hv=>hQp t x he φ2 a2 w2 v iN (aN.trans cn) hv)
   rcases key with ⟨I,hI,rfl,ps,S2,hc,heq,cG⟩|⟨⟨dJ,eR,Wx⟩,_⟩;rotate_left
   ·exact⟨dJ,eR,fun φ G a w hr=>Wx φ G a w hr _ (fun he φ' a' w' b6 aN=>⟨φ',S1,dJ,⟨he.symm,rfl⟩,b6,aN⟩) (fun t x he φ' a' w' v b6 aN hv=>⟨φ',S1,t,x,v,rfl,hv,dJ,⟨he.symm,rfl⟩,b6,aN⟩)⟩
   obtain⟨dJ,eR⟩:=abd hc;have cG:=QS qW cG (GZ hc);refine⟨heq.n.trans dJ,heq.gl.trans eR,fun φ G a w hr=>?_⟩;exact Ja (ops:=ops.toList) hI hX.mixed hc cG hr (fun φ' a' w' b6 aN=>⟨φ',S1,heq.n.trans dJ,⟨rfl,rfl⟩,b6.eqv heq.symm,by rw[heq.mem];exact aN⟩)
 |seq a b qd uz=>
  intro S e S' h ck hd;simp only[eo,Bool.and_eq_true]at hd;simp only[den]at h;rcases gD h with ⟨S1,h1,h2⟩|⟨h1,h2⟩
  ·obtain⟨dJ,eR,oK⟩:=qd S _ S1 h1 ck hd.1;obtain⟨qB,mo,qe⟩:=uz S1 e S' h2 (eR.trans ck) (by rw[dJ];exact hd.2);refine⟨qB.trans dJ,mo.trans eR,JH (oK.mono fun e1 S2 hq=>?_)⟩;obtain⟨rfl,rfl⟩:=hq;exact qe
  ·obtain⟨dJ,eR,oK⟩:=qd S _ S' h1 ck hd.1;refine⟨dJ,eR,JH (oK.mono fun e1 S2 hq=>?_)⟩;obtain⟨rfl,rfl⟩:=hq;cases e1 with
   |normal=>exact absurd rfl h2
   |_=>exact⟨rfl,rfl⟩
 |cond c a b qd uz=>
  intro S e S' h ck hd;simp only[eo,Bool.and_eq_true]at hd;simp only[den]at h;cases hc:S.opd c with
  |mk g y=>
   rw[hc]at h;unfold BS at h;split at h
   ·rename_i t heq;cases heq;cases t with
    |true=>
     obtain⟨h1,h2,h3⟩:=qd S e S' (by simpa using h) ck hd.1;exact⟨h1,h2,Gg hc (fun _=>h3) (fun hf=>by cases hf)⟩
    |false=>
     obtain⟨h1,h2,h3⟩:=uz S e S' (by simpa using h) ck hd.2;exact⟨h1,h2,Gg hc (fun hf=>by cases hf) (fun _=>h3)⟩
   ·cases h
 |block id c ih=>
  intro S e S' h ck hd;simp only[den]at h;unfold BR at h;split at h
  ·rename_i mn S1 h1;obtain⟨hn,hg,ht⟩:=ih S _ S1 h1 ck hd;split at h
   ·rename_i hid;cases h;refine⟨hn,hg,xw (ht.mono fun e1 S2 hq=>?_)⟩;obtain⟨rfl,rfl⟩:=hq;simp only[hid,if_true];exact⟨rfl,rfl⟩
   ·rename_i hid;cases h;refine⟨hn,hg,xw (ht.mono fun e1 S2 hq=>?_)⟩;obtain⟨rfl,rfl⟩:=hq;simp only[hid,if_false];exact⟨rfl,rfl⟩
  ·rename_i bE;obtain⟨hn,hg,ht⟩:=ih S _ S' h ck hd;refine⟨hn,hg,xw (ht.mono fun e1 S2 hq=>?_)⟩;obtain⟨rfl,rfl⟩:=hq;cases e1 with
   |exit mn=>exact absurd h (bE mn S2)
   |_=>exact⟨rfl,rfl⟩
 |loop c ih=>
  intro S e S' h ck hd;simp only[den]at h;simp only[eo]at hd;have cL:∀(k:Nat)(S1:St),iter (den X f cl n c) k S1=some (e,S')→S1.gl=X.gl→eo X f S1.n c=true→S'.n=S1.n∧S'.gl=S1.gl:=by
   intro k;induction k with
   |zero=>intro S1 h1;cases h1
   |succ k ihk=>
    intro S1 h1 eR wK;simp only[iter]at h1;rcases gD h1 with ⟨S2,h2,h3⟩|⟨h2,h3⟩
    ·obtain⟨a1,a2,_⟩:=ih S1 _ S2 h2 eR wK;obtain⟨b1,b2⟩:=ihk S2 h3 (a2.trans eR) (by rw[a1];exact wK);exact⟨b1.trans a1,b2.trans a2⟩
    ·obtain⟨a1,a2,_⟩:=ih S1 _ S' h2 eR wK;exact⟨a1,a2⟩
  obtain⟨hn,hg⟩:=cL n S h ck hd;refine⟨hn,hg,?_⟩;refine Ua (α:=Nat×St) (fun x=>x.2) (fun x=>iter (den X f cl n c) x.1 x.2=some (e,S')∧x.2.gl=X.gl∧eo X f x.2.n c=true) (fun x=>x.1) (n,S) rfl ⟨h,ck,hd⟩ ?_;rintro ⟨k,S1⟩ ⟨h1,eR,wK⟩;simp only at h1 eR wK⊢;cases k with
  |zero=>cases h1
  |succ k=>
   simp only[iter]at h1;rcases gD h1 with ⟨S2,h2,h3⟩|⟨h2,h3⟩
   ·obtain⟨a1,a2,ht⟩:=ih S1 _ S2 h2 eR wK;refine ht.mono fun e1 S3 hq=>?_;obtain⟨rfl,rfl⟩:=hq;exact⟨(k,S3),rfl,⟨h3,a2.trans eR,by rw[a1];exact wK⟩,Nat.lt_succ_self k⟩
   ·obtain⟨a1,a2,ht⟩:=ih S1 _ S' h2 eR wK;refine ht.mono fun e1 S3 hq=>?_;obtain⟨rfl,rfl⟩:=hq;cases e1 with
    |normal=>exact absurd rfl h3
    |_=>exact⟨rfl,rfl⟩
 |exit id=>
  intro S e S' h ck hd;simp only[den,Option.some.injEq,Prod.mk.injEq]at h;obtain⟨rfl,rfl⟩:=h;obtain⟨t1,t2,t3⟩:=AA (X.gh f (id+1000000)) S;refine⟨t1,t2,fun φ G a w eh=>wp_mono ((T9 (Q:=Is (.exit id) S) ⟨rfl,rfl⟩:nx X.P (.exit id) S (Is (.exit id) S)) φ G a w eh) fun e' a' w' hp=>?_⟩;obtain⟨φ',hn,b6,aN,he⟩:=hp.is;cases e' with
  |exit mn=>
   cases he;obtain⟨φ2,iN,cn⟩:=t3 φ' G a' w' b6;exact⟨φ2,_,t1.trans hn,⟨rfl,rfl⟩,iN,aN.trans cn⟩
  |normal=>cases he
  |ret=>cases he
  |panic chain=>obtain⟨t,x,v,h4,_⟩:=he;cases h4
  |_=>exact he.elim
 |ret=>
  intro S e S' h ck hd;simp only[den,Option.some.injEq,Prod.mk.injEq]at h;obtain⟨rfl,rfl⟩:=h;exact⟨rfl,rfl,Zk ⟨rfl,rfl⟩⟩
 |rangeFunc _ _ _ _=>intro S e S' h;simp[den]at h
 |scope _ _=>intro S e S' h;simp[den]at h
 |label _=>intro S e S' h;simp[den]at h
 |goto _=>intro S e S' h;simp[den]at h
 |refuse _=>intro S e S' h;simp[den]at h
theorem AB:∀(cs:List aE)(i:Nat),(inM i cs).map (·.key)=List.range' i cs.length
 |[],i=>rfl
 |c::r,i=>by simp[inM,AB r,List.range'_succ]
theorem C8:∀(cs:List aE)(i:Nat)(e:cH),e∈inM i cs→e.aj=0
 |[],i,e,he=>by simp[inM]at he
 |c::r,i,e,he=>by
  simp only[inM,List.mem_cons]at he;rcases he with rfl|he
  ·rfl
  ·exact C8 r (i+1) e he
theorem bj.dv{φ:bM}{G:Fr}{m:Mem}{w:World}(h:bj φ G m w)(dv:List Deferred):bj φ ⟨G.g,dv⟩ m w:=
 ⟨h.nodup,h.oB,h.eV,h.apart,h.jY,h.bound⟩
theorem Ev.dv{P:Program}{gl f args m K}(h:∀φ G w (vs:Array Value),G.dv=[]→bj φ G m w→eF w (Fo G φ m) gl→args.length=vs.size→(∀(i:Nat) x v,args[i]?=some x→vs[i]?=some v→aB φ w (Fo G φ m) x v)→
 Calls P f vs w fun e w'=>∃φ' m' out,K out m'∧bj φ' G m' w'∧aP φ m w φ' m' w'∧mJ φ' w' (Fo G φ' m') out e):Ev P gl f args m K:=by
 intro φ G w vs hm hg hl ha;refine (h φ ⟨G.g,[]⟩ w vs rfl (hm.dv []) hg hl ha).mono ?_;rintro e w' ⟨φ',m',out,h1,h2,h3,h4⟩;exact⟨φ',m',out,h1,h2.dv G.dv,h3,h4⟩
theorem vF(hX:jy X)(aO:iX X cl){fn:Func}{c:Code}{args:List AV}{cs:List aE}{out:Out}{l:List (Nat×aE)}(hf:X.P.funcs[f]?=some fn)(hb:fn.body=some c)
 (h:pH X f cl n fn c args cs=some (out,l)):Ev X.P X.gl f args (inM 0 cs) fun o m=>o=out∧m=mkM 0 l:=by
 unfold pH at h;split at h
 ·rename_i hc;simp only[Bool.and_eq_true,decide_eq_true_eq,List.all_eq_true]at hc;obtain⟨⟨⟨xp,kO⟩,pR⟩,qy⟩:=hc;refine Ev.dv ?_;intro φ G w vs qD hm n7 kj bY;have ma:∀k,k∈(inM 0 cs).map (·.key)↔k<cs.length:=fun k=>by rw[AB];simp
  have AD:∀k∈(X.fp f).sites,k∉(inM 0 cs).map (·.key):=by
   intro k hk ur;have h1:=pR k hk;have h2:=(ma k).1 ur;omega
  have oW:∀k L,φ k=some L→k<cs.length∧L.aj=0:=fun k L hL=>by
   have hk:=hm.oB k L hL;obtain⟨e,he,rfl⟩:=List.mem_map.1 hk;obtain⟨L',bO,aA,_⟩:=hm.eV e he;rw[hL]at bO;cases bO;exact⟨(ma _).1 hk,by rw[aA];exact C8 cs 0 e he⟩
  have Rd:=hm.add qy AD;have rS:aP φ (inM 0 cs) w (φ.add (X.fp f).sites) (inM 0 cs++(X.fp f).sites.map dead) w:=⟨Gn hm AD,fun _ _ _=>rfl,fun b _ ho=>(yK AD b).1 ho,Nat.le_refl _,rfl,rfl,rfl⟩;refine calls_of_wp hf hb ?_;obtain⟨S0,Re⟩:∃S0,S0=entry fn.ntmps X.gl args cs (X.fp f).sites:=⟨_,rfl⟩;have hr:Rel (φ.add (X.fp f).sites) G S0 {tmps:=vs++Array.replicate (fn.ntmps-vs.size) undef,defers:=[]} w:=by
   rw[Re];refine⟨by simp[entry];omega,qD.symm,fun t x hx=>?_,Rd,?_⟩
   ·obtain⟨j,rfl,hj⟩:=vq 0 args t _ hx;have gP:j<vs.size:=by rw[←kj];exact (List.getElem?_eq_some_iff.1 hj).1
    have e:(vs++Array.replicate (fn.ntmps-vs.size) undef).getD (0+j) undef=vs[j]:=by
     simp only[Nat.zero_add,Array.getD_eq_getD_getElem?];rw[Array.getElem?_append_left gP];simp[gP]
    rw[e];exact rS.av (bY j x _ hj (by simp[gP]))
   ·exact rS.jZ n7
  rw[←Re]at h;cases Uu:den X f cl n c S0 with
  |none=>rw[Uu]at h;cases h
  |some q=>
   obtain⟨e,S'⟩:=q;rw[Uu]at h;obtain⟨sy,rK,ht⟩:=G2 hX aO c S0 e S' Uu (by rw[Re];rfl) (by rw[Re];exact hX.Ut f fn c hf hb);refine wp_mono (ht _ G _ w hr) fun e' a' w' hp=>?_;obtain⟨φ',_,b6,aN,he⟩:=hp.is;have nA:aP φ (inM 0 cs) w φ' S'.mem w':=by
    have:S0.mem=inM 0 cs++(X.fp f).sites.map dead:=by rw[Re];rfl
    rw[this]at aN;exact rS.trans aN
   have G3:finish X.P (X.fp f) cs.length fn.results.toList S'=some (out,l)→
    a'.defers=[]∧∃v,(results fn a'.tmps).run X.P w'=.ok v w'∧∃ml m' iK,(iK=out∧m'=mkM 0 l)∧bj ml G m' w'∧aP φ (inM 0 cs) w ml m' w'∧mJ ml w' (Fo G ml m') iK (.returned v):=by
    intro eP;unfold finish at eP;split at eP
    ·rename_i cc xs mK;split at eP
     ·rename_i eQ;obtain⟨vl,h1,h2,h3⟩:=vp b6 fn.results.toList cc xs mK eQ;obtain⟨φ2,ys,rfl,g1,g2,g3,g4,_⟩:=qP eP b6.mem b6.jZ h2 h3 nA oW;have G4:(results fn a'.tmps).run X.P w'=.ok (if h:vl.toArray.size=1 then vl.toArray[0]else .tuple vl.toArray) w':=by
       have e:results fn a'.tmps=(do let vs ←fn.results.mapM (xA a'.tmps);pure (if h:vs.size=1 then vs[0]else .tuple vs)):=by
        unfold results;congr 1
       rw[e,Array.mapM_eq_mapM_toList];simp only[Sem.run_bind,Sem.run_map,h1,Result.andThen_ok,Sem.run_pure]
      refine⟨b6.defers.trans qD,_,G4,φ2,_,_,⟨rfl,rfl⟩,g1,g2,?_⟩;show aB φ2 w' _ (oneOf ys) _;by_cases kE:vl.length=1
      ·obtain⟨v,rfl⟩:∃v,vl=[v]:=by
        cases vl with
        |nil=>simp at kE
        |cons v r=>exact⟨v,by cases r with|nil=>rfl|cons _ _=>simp at kE⟩
       obtain⟨y,rfl⟩:∃y,ys=[y]:=by
        cases ys with
        |nil=>simp at g3
        |cons v r=>exact⟨v,by cases r with|nil=>rfl|cons _ _=>simp at g3⟩
       simpa [oneOf]using g4 0 y v (by simp) (by simp)
      ·have e:oneOf ys=.aU ys:=by
        cases ys with
        |nil=>rfl
        |cons y r=>cases r with|nil=>simp at g3;omega|cons _ _=>rfl
       rw[e,dif_neg (by simpa using kE)];exact .aU ys vl.toArray (by simpa using g3) (fun i y v h h'=>g4 i y v h (by simpa using h'))
     ·cases eP
    ·cases eP
   cases e' with
   |normal=>cases he;exact G3 h
   |ret=>cases he;exact G3 h
   |exit id=>cases he;cases h
   |panic chain=>
    obtain⟨t,x,v,rfl,rfl,hd⟩:=he;have h':finVals (X.fp f) cs.length S' [] (fun _=>.panic t x)=some (out,l):=h;obtain⟨φ2,ys,rfl,g1,g2,_,_,g5⟩:=qP (vs:=[]) h' b6.mem b6.jZ rfl (by simp) nA oW;exact⟨b6.defers.trans qD,φ2,_,_,⟨rfl,rfl⟩,g1,g2,v,rfl,hd.mono (fun _ _ _=>rfl) (Nat.le_refl _) (fun b _=>g5 b)⟩
   |_=>exact he.elim
 ·cases h
theorem Ev.split{P:Program}{gl f r m K}(h1:Ev P gl f (.lit (.slice none 0 0)::r) m K)(h2:Ev P gl f (.nn::r) m K):Ev P gl f (.d (.list [])::r) m K:=by
 intro φ G w vs hm hg hl ha;have go:∀y,(∀v,vs[0]?=some v→aB φ w (Fo G φ m) y v)→∀(i:Nat) x v,(y::r)[i]?=some x→vs[i]?=some v→aB φ w (Fo G φ m) x v:=by
  intro y hy i x v hx hv;cases i with
  |zero=>simp at hx;subst hx;exact hy v hv
  |succ i=>exact ha (i+1) x v (by simpa using hx) hv
 have bQ:0<vs.size:=by rw[←hl];simp
 have h0:=ha 0 (.d (.list [])) vs[0] (by simp) (by simp[bQ]);generalize DP:vs[0]=v0 at h0;have oR:vs[0]?=some v0:=by rw[←DP];simp[bQ]
 cases h0 with
 |d _ _ hd=>
  cases hd with
  |nil a cap hn=>
   cases a with
   |none=>
    have:=hn rfl;subst this;exact h1 φ G w vs hm hg (by simpa using hl) (go _ (fun v hv=>by rw[oR]at hv;cases hv;exact .lit _ rfl))
   |some a=>exact h2 φ G w vs hm hg (by simpa using hl) (go _ (fun v hv=>by rw[oR]at hv;cases hv;exact .nn a cap))
  |list _ b off cap sz Wy=>exact h2 φ G w vs hm hg (by simpa using hl) (go _ (fun v hv=>by rw[oR]at hv;cases hv;exact .nn _ cap))
theorem fm{r:Option (Out×List (Nat×aE))}{sz:Nat}(h:emptyVec r=some sz):r=some (.ret (.vec 0 0 0 0),[(0,.vec sz [])]):=by
 unfold emptyVec at h;split at h
 ·cases h;rfl
 ·cases h
theorem Jg{h:List AV→Option AV}{args:List AV}{cs:List aE}{r:Out×List (Nat×aE)}(hr:orcAns h args cs=some r):cs=[]∧∃d,h args=some d∧r=(.ret d,[]):=by
 unfold orcAns at hr;split at hr
 ·split at hr
  ·rename_i d hd;cases hr;exact⟨rfl,d,hd,rfl⟩
  ·cases hr
 ·cases hr
theorem JT:∀{args:List AV}{ds:List D},gg args=some ds→args=ds.map .d
 |[],ds,h=>by
  simp only[gg,Option.some.injEq]at h;subst h;rfl
 |y::r,ds,h=>by
  cases hr:gg r with
  |none=>unfold gg at h;rw[hr]at h;cases y<;>cases h
  |some ys=>
   unfold gg at h;rw[hr]at h;cases y<;>cases h;rw[JT hr];rfl
theorem abx(hX:jy X){g:FuncId}{h:List AV→Option AV}(hg:X.wJ g=some h){args:List AV}{cs:List aE}{out:Out}{l:List (Nat×aE)}(hr:orcAns h args cs=some (out,l)):
 gC X.P g=true∧Ev X.P X.gl g args (inM 0 cs) fun o m=>o=out∧m=mkM 0 l:=by
 obtain⟨hc,bU⟩:=hX.wJ g h hg;refine⟨hc,?_⟩;obtain⟨rfl,d,hd,he⟩:=Jg hr;cases he;intro φ G w vs hm ck hl ha;have hO:∀b,iq φ (inM 0 []) b→False:=by
  rintro b ⟨e,he,_⟩;simp[inM]at he
 refine (bU args d hd φ (Fo G φ (inM 0 [])) w vs ck (fun b hb=>hb.elim (hm.bound b) fun h=>(hO b h).elim) hl ha).mono ?_;rintro e w' ⟨v,rfl,hb,qD⟩;refine⟨φ,inM 0 [],.ret d,⟨rfl,rfl⟩,⟨hm.nodup,hm.oB,fun e he=>by simp[inM]at he,fun e he=>by simp[inM]at he,fun b hb=>(hO b hb).elim,fun b pT=>Nat.lt_of_lt_of_le (hm.bound b pT) hb.size⟩,⟨bM.le_refl _,fun b bn _=>hb.block b bn,fun b _ ho=>ho,hb.size,hb.os,hb.tape,hb.output⟩,?_⟩;exact qD
end
def afS(φ:bM)(w:World)(F:Nat→Prop)(x:DF)(d:Deferred):Prop:=
 ∃ca:Array Value,d.target=.fn (.func x.1) ca∧x.2.length=(d.args++ca).size∧∀(i:Nat) y v,x.2[i]?=some y→(d.args++ca)[i]?=some v→aB φ w F y v
def mM(φ:bM)(w:World)(F:Nat→Prop):List DF→List Deferred→Prop
 |[],[]=>True
 |x::xs,d::ds=>afS φ w F x d∧mM φ w F xs ds
 |_,_=>False
theorem mM.keeps{φ m w φ' m' w'}{G:Fr}(h:aP φ m w φ' m' w'):∀{xs:List DF}{ds:List Deferred},mM φ w (Fo G φ m) xs ds→mM φ' w' (Fo G φ' m') xs ds
 |[],[],_=>trivial
 |x::xs,d::ds,⟨⟨ca,h1,h2,h3⟩,h4⟩=>⟨⟨ca,h1,h2,fun i y v hy hv=>h.av (h3 i y v hy hv)⟩,mM.keeps h h4⟩
 |[],_::_,hx=>hx.elim
 |_::_,[],hx=>hx.elim
def vG(n:Nat)(φ:bM)(g:Nat→Prop)(m:Mem)(w:World)(e:XE)(S':St)(iW:List DF)(e':Exit)(a':Act)(w':World):Prop:=
 ∃φ' sQ,S'.n=n∧Rel φ' ⟨g,sQ⟩ S' a' w'∧aP φ m w φ' S'.mem w'∧mM φ' w' (Fo ⟨g,sQ⟩ φ' S'.mem) iW sQ∧(match e' with
  | .normal=>e=.normal
  | .exit id=>e=.exit id
  | .ret=>e=.ret
  | .panic chain=>∃t x v,e=.panic t x∧chain=[{v:=.iface t v,recovered:=false}]∧aK w' (Fo ⟨g,sQ⟩ φ' S'.mem) x v
  |_=>False)
theorem vG.weaken{n:Nat}{φ φ1:bM}{g:Nat→Prop}{m m1:Mem}{w w1:World}{e S' iW e' a' w'}(h:vG n φ1 g m1 w1 e S' iW e' a' w')(hk:aP φ m w φ1 m1 w1):vG n φ g m w e S' iW e' a' w':=by
 obtain⟨φ',sQ,h1,h2,h3,h4,h5⟩:=h;exact⟨φ',sQ,h1,h2,hk.trans h3,h4,h5⟩
theorem G5{S:St}{o:Oper}{d:DF}(h:mc S o=some d):o.guard=none∧∃c fv args gV g cZ,o.op=.defer c∧c={callee:=.value fv,args,argTypes:=gV}∧S.opd fv=(true,.fn g cZ)∧g<bnB∧okAll S args.toList=true∧d=(g,argVals S args.toList++cZ):=by
 unfold mc at h;split at h
 ·rename_i fv args gV hg ho;unfold dfv at h;split at h
  ·rename_i g cZ gp;split at h
   ·rename_i cQ;cases h;simp only[Bool.and_eq_true,decide_eq_true_eq]at cQ;exact⟨hg,_,fv,args,gV,g,cZ,ho,rfl,gp,cQ.2,cQ.1,rfl⟩
   ·cases h
  ·cases h
 ·cases h
section
variable {X:Ctx} {cl:bq} {f:FuncId} {n:Nat}
theorem vH{md:Bool}{all:List Oper}(aO:iX X cl):∀(ops:List Oper)(S:St)(ds:List DF)(e:XE)(S':St)(iW:List DF),fA X cl md all ops S ds=some (e,S',iW)→S.gl=X.gl→jq S.n ops=true→
 S'.n=S.n∧S'.gl=S.gl∧∀φ g dv a w,Rel φ ⟨g,dv⟩ S a w→mM φ w (Fo ⟨g,dv⟩ φ S.mem) ds dv→∀Q:Exit→Act→World→Prop,(∀e' a' w',vG S.n φ g S.mem w e S' iW e' a' w'→Q e' a' w')→wpList X.P all.toArray Q ops a w
 |[],S,ds,e,S',iW,h,ck,hd=>by
  simp only[fA,Option.some.injEq,Prod.mk.injEq]at h;obtain⟨rfl,rfl,rfl⟩:=h;exact⟨rfl,rfl,fun φ g dv a w hr iY Q hQ=>hQ .normal _ _ ⟨φ,dv,rfl,hr,aP.refl ..,iY,rfl⟩⟩
 |o::rest,S,ds,e,S',iW,h,ck,hd=>by
  simp only[jq,List.all_cons,Bool.and_eq_true]at hd;obtain⟨qb,hd⟩:=hd;have qF:∀t,o.dst=some t→t<S.n:=fun t ht=>by rw[ht]at qb;simpa using qb
  simp only[fA]at h;cases rT:mc S o with
  |some d=>
   rw[rT]at h;simp only at h;obtain⟨hg,c,fv,args,gV,g0,cZ,ho,hc,gp,JP,cQ,rfl⟩:=G5 rT;obtain⟨qB,mo,BX⟩:=vH aO rest (S.put o.dst true .aZ) _ e S' iW h ((kQ ..).trans ck) (by rw[lu];exact hd);refine⟨qB.trans (lu ..),mo.trans (kQ ..),fun φ g dv a w hr iY Q hQ=>?_⟩;have wE:=hr.opd fv (by rw[gp]);rw[gp]at wE;generalize Ws:a.eval fv=akQ at wE;cases wE with
   |qx _ _ ca fU b7=>exact absurd JP (Nat.not_lt.2 (Nat.le_add_left _ _))
   |fn _ _ ca bn fU b7=>
    have bL:(execOp a.eval o).run X.P w=.ok (.defer {target:=.fn (.func g0) ca,args:=args.map a.eval}) w:=by
     simp[execOp,ho,hc,resolve,Ws,Deferred.ofValue]
    have hw:Region.wanted o (yielded all.toArray a.tmps)=true:=by simp[Region.wanted,hg]
    unfold wpList;rw[if_pos hw];left;unfold Oper.wp;rw[bL,Oper.upon_defer];have rI:Rel φ ⟨g,{target:=.fn (.func g0) ca,args:=args.map a.eval}::dv⟩ S {a with defers:={target:=.fn (.func g0) ca,args:=args.map a.eval}::a.defers} w:=
     ⟨hr.size,by rw[hr.defers],hr.env,hr.mem.dv _,hr.jZ⟩
    have iN:=rI.put o.dst qF true .aZ undef (fun _=>.aZ _);refine BX φ g _ _ w iN ⟨⟨ca,rfl,?_,?_⟩,?_⟩ Q (fun e' a2 w2 hp=>hQ e' a2 w2 ?_)
    ·rw[List.length_append,iQ];simp[fU]
    ·intro i y v hy hv;rw[eY];by_cases hi:i<args.size
     ·rw[List.getElem?_append_left (by rw[iQ];simpa using hi),tP]at hy;rw[Array.getElem?_append_left (by simpa using hi)]at hv;simp only[Array.getElem?_map,Option.map_eq_some_iff]at hv;obtain⟨z,hz,rfl⟩:=hv;obtain⟨z',sG,rfl⟩:=Option.map_eq_some_iff.1 hy;rw[Array.getElem?_toList,hz]at sG;cases sG;exact hr.opd z (sB cQ z (by simpa using Array.mem_of_getElem? hz))
     ·rw[List.getElem?_append_right (by rw[iQ];simpa using hi),iQ]at hy;rw[Array.getElem?_append_right (by simpa using hi)]at hv;simp only[Array.size_map,Array.length_toList]at hy hv;exact b7 _ _ v hy hv
    ·rw[eY];exact iY
    ·rw[lu,eY]at hp;exact hp
  |none=>
   rw[rT]at h;simp only at h;cases hgs:mb X cl md all S o with
   |none=>rw[hgs]at h;cases h
   |some p=>
    obtain⟨e1,S1⟩:=p;rw[hgs]at h;obtain⟨dJ,eR,hee,cS⟩:=rR aO ck qF hgs;rcases hee with rfl|⟨t0,x0,rfl⟩
    ·simp only[Fi]at h;obtain⟨qB,mo,BX⟩:=vH aO rest S1 ds e S' iW h (eR.trans ck) (by rw[dJ];exact hd);refine⟨qB.trans dJ,mo.trans eR,fun φ g dv a w hr iY Q hQ=>?_⟩;have:=cS φ ⟨g,dv⟩ a w hr (wpList X.P all.toArray Q rest) Q
      (fun _ φ' a' w' b6 aN=>BX φ' g dv a' w' b6 (iY.keeps aN) Q (fun e' a2 w2 hp=>hQ e' a2 w2 (by rw[←dJ];exact hp.weaken aN))) (fun t x he=>by cases he)
     unfold wpList;split
     ·rename_i hw;rw[if_pos hw]at this;exact .inl this
     ·rename_i hw;rw[if_neg hw]at this;exact this
    ·simp only[Fi,Option.some.injEq,Prod.mk.injEq]at h;obtain⟨rfl,rfl,rfl⟩:=h;refine⟨dJ,eR,fun φ g dv a w hr iY Q hQ=>?_⟩;have:=cS φ ⟨g,dv⟩ a w hr (wpList X.P all.toArray Q rest) Q
      (fun he=>by cases he) (fun t x he φ' a' w' v b6 aN hv=>hQ (.panic _) a' w' ⟨φ',dv,dJ,b6,aN,iY.keeps aN,t,x,v,he,rfl,hv⟩)
     unfold wpList;split
     ·rename_i hw;rw[if_pos hw]at this;exact .inl this
     ·rename_i hw;rw[if_neg hw]at this;exact this
theorem JU(hX:jy X)(aO:iX X cl){c:Code}{S:St}{ds:List DF}{e:XE}{S':St}{iW:List DF}(h:vz ds (den X f cl n c S)=some (e,S',iW))(ck:S.gl=X.gl)(hd:eo X f S.n c=true):
 S'.n=S.n∧S'.gl=S.gl∧∀φ g dv a w,Rel φ ⟨g,dv⟩ S a w→mM φ w (Fo ⟨g,dv⟩ φ S.mem) ds dv→c.wp X.P (vG S.n φ g S.mem w e S' iW) a w:=by
 cases hq:den X f cl n c S with
 |none=>rw[hq]at h;cases h
 |some p=>
  obtain⟨e1,S1⟩:=p;rw[hq]at h;simp only[vz,Option.some.injEq,Prod.mk.injEq]at h;obtain⟨rfl,rfl,rfl⟩:=h;obtain⟨h1,h2,h3⟩:=G2 hX aO c S e1 S1 hq ck hd;refine⟨h1,h2,fun φ g dv a w hr iY=>wp_mono (h3 φ ⟨g,dv⟩ a w hr) fun e' a' w' hp=>?_⟩;obtain⟨φ',sy,b6,aN,he⟩:=hp.is;exact⟨φ',dv,sy,b6,aN,iY.keeps aN,by cases e'<;>exact he⟩
theorem Zq(hX:jy X)(aO:iX X cl)(c:Code):∀(S:St)(ds:List DF)(e:XE)(S':St)(iW:List DF),iA X f cl n c S ds=some (e,S',iW)→S.gl=X.gl→eo X f S.n c=true→
 S'.n=S.n∧S'.gl=S.gl∧∀φ g dv a w,Rel φ ⟨g,dv⟩ S a w→mM φ w (Fo ⟨g,dv⟩ φ S.mem) ds dv→c.wp X.P (vG S.n φ g S.mem w e S' iW) a w:=by
 induction c with
 |seq a b qd uz=>
  intro S ds e S' iW h ck hd;simp only[eo,Bool.and_eq_true]at hd;simp only[iA]at h;cases hq:iA X f cl n a S ds with
  |none=>rw[hq]at h;cases h
  |some p=>
   obtain⟨e1,S1,sR⟩:=p;obtain⟨dJ,eR,oK⟩:=qd S ds e1 S1 sR hq ck hd.1;have stop:e1≠.normal→e=e1∧S'=S1∧iW=sR:=fun he=>by
    rw[hq]at h;cases e1 with
    |normal=>exact absurd rfl he
    |_=>simp only[GD,Option.some.injEq,Prod.mk.injEq]at h;exact⟨h.1.symm,h.2.1.symm,h.2.2.symm⟩
   by_cases he:e1=.normal
   ·subst he;rw[hq]at h;simp only[GD]at h;obtain⟨qB,mo,qe⟩:=uz S1 sR e S' iW h (eR.trans ck) (by rw[dJ];exact hd.2);refine⟨qB.trans dJ,mo.trans eR,fun φ g dv ac w hr iY=>wp_seq (wp_mono (oK φ g dv ac w hr iY) fun e' a' w' hp=>?_)⟩;obtain⟨φ',sQ,h1,h2,h3,h4,h5⟩:=hp;cases e' with
    |normal=>exact wp_mono (qe φ' g sQ a' w' h2 h4) fun e2 a2 w2 zJ=>by rw[dJ]at zJ;exact zJ.weaken h3
    |exit id=>cases h5
    |ret=>cases h5
    |panic chain=>obtain⟨t,x,v,h6,_⟩:=h5;cases h6
    |_=>exact h5.elim
   ·obtain⟨rfl,rfl,rfl⟩:=stop he;refine⟨dJ,eR,fun φ g dv ac w hr iY=>wp_seq (wp_mono (oK φ g dv ac w hr iY) fun e' a' w' hp=>?_)⟩;cases e' with
    |normal=>obtain⟨_,_,_,_,_,_,h5⟩:=hp;exact absurd h5 he
    |_=>exact hp
 |region id ops draw=>
  intro S ds e S' iW h ck hd;simp only[iA]at h;split at h
  ·rename_i hb;simp only[Bool.and_eq_true,Bool.not_eq_true']at hb;obtain⟨rfl,_⟩:=hb;simp only[eo,Bool.and_eq_true]at hd;have Rf:jq S.n ops.toList=true:=hd.1;cases hq:fA X cl (X.md f id) ops.toList ops.toList S ds with
   |none=>rw[hq]at h;cases h
   |some p=>
    obtain⟨e1,S1,sR⟩:=p;rw[hq]at h;obtain⟨dJ,eR,oK⟩:=vH aO ops.toList S ds e1 S1 sR hq ck Rf;have Wx:∀φ g dv a w,Rel φ ⟨g,dv⟩ S a w→mM φ w (Fo ⟨g,dv⟩ φ S.mem) ds dv→(Code.region id ops false).wp X.P (vG S.n φ g S.mem w e1 S1 sR) a w:=
     fun φ g dv a w hr iY=>wp_region_lit (oK φ g dv a w hr iY _ (fun _ _ _ h=>h))
    by_cases he:e1=.normal
    ·subst he;simp only[xO,Option.some.injEq,Prod.mk.injEq]at h;obtain⟨rfl,rfl,rfl⟩:=h;obtain⟨t1,t2,t3⟩:=qV X f id S1;refine⟨t1.trans dJ,t2.trans eR,fun φ g dv a w hr iY=>wp_mono (Wx φ g dv a w hr iY) fun e' a' w' hp=>?_⟩;obtain⟨φ',sQ,h1,h2,h3,h4,h5⟩:=hp;cases e' with
     |normal=>
      obtain⟨φ2,iN,cn⟩:=t3 φ' ⟨g,sQ⟩ a' w' h2;exact⟨φ2,sQ,t1.trans h1,iN,h3.trans cn,h4.keeps cn,rfl⟩
     |exit id=>cases h5
     |ret=>cases h5
     |panic chain=>obtain⟨t,x,v,h6,_⟩:=h5;cases h6
     |_=>exact h5.elim
    ·have:e=e1∧S'=S1∧iW=sR:=by
      cases e1 with
      |normal=>exact absurd rfl he
      |_=>simp only[xO,Option.some.injEq,Prod.mk.injEq]at h;exact⟨h.1.symm,h.2.1.symm,h.2.2.symm⟩
     obtain⟨rfl,rfl,rfl⟩:=this;exact⟨dJ,eR,Wx⟩
  ·exact JU hX aO h ck hd
 |_=>intro S ds e S' iW h ck hd;exact JU hX aO (by simpa only[iA]using h) ck hd
end
abbrev Ru:=FuncId→Array Value→World→(Ending→World→Prop)→Prop
def G6(C:Ru):Prop:=∀f vs w R R',C f vs w R→(∀e w',R e w'→R' e w')→C f vs w R'
def G7(C:Ru)(gl:List (Nat×D))(f:FuncId)(args:List AV)(m:Mem)(K:Out→Mem→Prop):Prop:=
 ∀φ G w (vs:Array Value),bj φ G m w→eF w (Fo G φ m) gl→args.length=vs.size→(∀(i:Nat) x v,args[i]?=some x→vs[i]?=some v→aB φ w (Fo G φ m) x v)→
  C f vs w fun e w'=>∃φ' m' out,K out m'∧bj φ' G m' w'∧aP φ m w φ' m' w'∧mJ φ' w' (Fo G φ' m') out e
theorem G7.frz{C:Ru}(hC:G6 C){gl f args}{cs:List aE}{out:Out}{l2:List (Nat×aE)}(h:G7 C gl f args (inM 0 cs) fun o m=>o=out∧m=mkM 0 l2)(hl:cs.length≤l2.length):
 G7 C gl f args (inM 0 cs) fun o m=>o=frzO cs.length l2 out∧m=mkM 0 (selL (mkM 0 l2) (List.range cs.length) (fun _=>true) (fun _ v=>v) 0 (List.range cs.length)):=by
 intro φ G w vs hm hg kj ha;refine hC _ _ _ _ _ (h φ G w vs hm hg kj ha) ?_;rintro e w' ⟨φ',m',iK,⟨rfl,rfl⟩,dq,aN,fa⟩;obtain⟨s1,s2,s3⟩:=yJ (G1:=G) (ρ:=List.range cs.length) (bor:=fun _=>true) (nv:=fun _ v=>v) dq List.nodup_range (fun k hk=>uy l2 0 k (Nat.zero_le _) (by simp at hk;omega)) (fun b h=>.inl h) (fun b h=>dq.jY b h.own)
  (fun k e L b hg _ _ hL ho=>dq.jY _ ⟨e,(Mem.get_mem hg).1,L,by rw[(Mem.get_mem hg).2];exact hL,ho⟩)
 refine⟨_,_,_,⟨rfl,rfl⟩,s1,⟨?_,aN.wV,?_,aN.size,aN.os,aN.tape,aN.output⟩,?_⟩
 ·intro k L hL;have hk:k<cs.length:=by
   have:=hm.oB k L hL;rw[Gp,oU]at this;simpa using this
  obtain⟨L',h1,h2,h3⟩:=aN.le k L hL;exact⟨L',by simp[bM.gU,hk,h1],h2,h3⟩
 ·intro b hb ho;exact aN.own b hb ((uo (φ:=φ') (nv:=fun _ v=>v) (bor:=fun _=>true) (fun k hk=>uy l2 0 k (Nat.zero_le _) (by simp at hk;omega)) b).1 ho).own
 ·cases iK with
  |ret x=>
   cases e with
   |returned v=>exact (s2 x v fa).norm
   |_=>exact fa.elim
  |panic t x=>
   cases e with
   |panicked chain=>
    obtain⟨v,hc,hx⟩:=fa;exact⟨v,hc,hx.mono (fun _ _ _=>rfl) (Nat.le_refl _) (fun b _=>s3 b)⟩
   |_=>exact fa.elim
theorem Jh{C:Ru}(hC:G6 C){gl:List (Nat×D)}{cl:bq}(aO:∀g args cs out l,cl g args cs=some (out,l)→G7 C gl g args (inM 0 cs) fun o m=>o=out∧m=mkM 0 l)
 {m:Mem} {k0:Nat} {g:FuncId} {ys:List AV} {mt:List Nat} {res:fH} (h:callOp cl m k0 g ys mt=some res) {φ:bM} {G:Fr} {w:World} (hm:bj φ G m w) (ck:eF w (Fo G φ m) gl)
 {vs:Array Value} (hl:ys.length=vs.size) (bY:∀(i:Nat) x v,ys[i]?=some x→vs[i]?=some v→aB φ w (Fo G φ m) x v):
 C g vs w fun e w'=>∃φ',bj φ' G (putAll m res.es) w'∧aP φ m w φ' (putAll m res.es) w'∧mJ φ' w' (Fo G φ' (putAll m res.es)) res.out e:=by
 unfold callOp callOp2 callOp3 at h;obtain⟨ρ,hρ⟩:∃ρ,ρ=collect m 64 (argKeys mt 0 ys) []:=⟨_,rfl⟩;have GL:=nS m 64 (argKeys mt 0 ys) [] List.nodup_nil (by simp);rw[←hρ]at h GL;generalize (argBor mt 0 ys).filter (fun k=>!ρ.contains k)=B at h;clear hρ;obtain⟨hn,dP⟩:=GL;unfold callBack at h;split at h
 ·rename_i out l2 dV;split at h
  ·rename_i hc;cases h;have bU:G7 C gl g (vwArgs (mt.contains 1000) m ρ B ys) (inM 0 (conts (selL m ρ (fun k=>B.contains k) nv0 0 ρ))) fun o m=>o=out∧m=mkM 0 l2:=by
    obtain⟨GI,l0,h0,h1⟩:=xQ dV;have GM:=aO _ _ _ _ _ h0;rcases h1 with ⟨rfl,rfl⟩|⟨bn,rfl,rfl⟩
    ·exact GM
    ·have GN:(conts (selL m ρ (fun k=>B.contains k) nv0 0 ρ)).length=ρ.length:=by rw[rQ,pA]
     have:=GM.frz hC (by rw[GN];omega);rw[GN]at this;exact this
   simp only[Bool.and_eq_true,Bool.or_eq_true,decide_eq_true_eq]at hc;obtain⟨⟨hlen,DQ⟩,dz⟩:=hc;rw[xP]at bU;obtain⟨v1,v2,v3⟩:=DT (B:=B) hm hn dP;have akW:∀(i:Nat) x v,(vwArgs (mt.contains 1000) m ρ B ys)[i]?=some x→vs[i]?=some v→aB (φ.gU ρ nv0) w (Fo (kD φ G m ρ B) (φ.gU ρ nv0) (mkM 0 (selL m ρ (fun k=>B.contains k) nv0 0 ρ))) x v:=by
    intro i x v hx hv;rw[vB]at hx;obtain⟨y,hy,rfl⟩:=Option.map_eq_some_iff.1 hx;exact (v2 y v (bY i y v hy hv)).nrm
   have n7:eF w (Fo (kD φ G m ρ B) (φ.gU ρ nv0) (mkM 0 (selL m ρ (fun k=>B.contains k) nv0 0 ρ))) gl:=
    ck.mono (fun _ _ _=>rfl) (Nat.le_refl _) (fun b _=>v3 b)
   refine hC _ _ _ _ _ (bU (φ.gU ρ nv0) (kD φ G m ρ B) w _ v1 n7 (by rw[qp];exact hl) akW) ?_;rintro e w' ⟨φ2,m2,iK,⟨rfl,rfl⟩,jt,cn,fa⟩;have Aw:B=[]∨(plainO iK=true∧plainL l2=true):=dz.imp (by simp) id;obtain⟨φ',dq,aN,qC⟩:=DU (B:=B) hm hn dP (fr:=List.range' (k0+1) (l2.length-ρ.length)) List.nodup_range' (Av DQ) jt cn (by simp;omega) (Aw.imp id fun hp=>vC hp.2);refine⟨φ',dq,aN,?_⟩;cases iK with
   |ret x=>
    cases e with
    |returned v=>exact qC x v (Aw.imp id fun hp=>hp.1) fa
    |_=>exact fa.elim
   |panic t x=>
    cases e with
    |panicked chain=>
     obtain⟨v,rfl,hx⟩:=fa;have:=qC (.d x) v (Aw.imp id fun hp=>hp.1) (.d _ _ hx);cases this with
     |d _ _ hd=>exact⟨v,rfl,hd⟩
    |_=>exact fa.elim
  ·cases h
 ·cases h
theorem Eg{P:Program}{ops:Array Oper}{Q:Exit→Act→List Frame→World→Prop}{cs:List Frame}(zK:∀a w,¬Q .outgrown a cs w):∀(l:List Nat)(a:Act)(w:World),
 wpOps P ops (fun e a w=>Q e a cs w) l a w→wpOpsS P ops Q l a cs w
 |[],a,w,h=>h
 |i::rest,a,w,h=>by
  have ih:=Eg (P:=P) (ops:=ops) zK rest;unfold wpOps at h;unfold wpOpsS;split at h
  ·rename_i ho;simp only[ho];exact ih a w h
  ·rename_i o ho;simp only[ho];split at h
   ·rename_i hw;rw[if_pos hw];rcases h with h|⟨_,a0,w0,h⟩
    ·have h2:=Oper.wp_mono (K':=fun a' w'=>wpOpsS P ops Q rest a' cs w') ih h;unfold Oper.wp at h2;split
     ·rename_i w' hr;rw[hr]at h2;exact h2.elim
     ·exact h2
    ·exact absurd h (zK a0 w0)
   ·rename_i hw;rw[if_neg hw];exact ih _ w h
def Oj(c0:Frame)(iF:List Frame)(v:Value)(u':FrameMode):Prop:=
 recoverD (c0::iF)=some (v,{c0 with mode:=u'}::iF)∨(recoverD (c0::iF)=none∧v=.nilIface∧u'=c0.mode)
theorem C9{o:Oper}(h:sL o=true):o.guard=none∧∃gV,o.op=.call {callee:=.builtin .recover,args:=#[],argTypes:=gV}:=by
 unfold sL at h;split at h
 ·rename_i args gV hg ho;refine⟨hg,gV,?_⟩;rw[ho];have:args=#[]:=by
   cases args with
   |mk l=>cases l with
    |nil=>rfl
    |cons a r=>simp at h
  rw[this]
 ·cases h
abbrev Fj(c0:Frame)(iF:List Frame)(u':FrameMode)(n:Nat)(φ:bM)(G:Fr)(m:Mem)(w:World)(e:XE)(S':St):Exit→Act→List Frame→World→Prop:=
 fun e' a' ll w'=>ll={c0 with mode:=u'}::iF∧my n φ G m w (Is e S') e' a' w'
theorem vI{P:Program}{c:Code}{Q Q':Exit→Act→List Frame→World→Prop}{a:Act}{cs:List Frame}{w:World}(h:c.wpS P Q a cs w)(hq:∀e a cs w,Q e a cs w→Q' e a cs w):c.wpS P Q' a cs w:=
 fun b k hb hr=>let ⟨e,a',ll,w',q,r⟩:=h b k hb hr;⟨e,a',ll,w',hq _ _ _ _ q,r⟩
section
variable {X:Ctx} {cl:bq} {f:FuncId} {n:Nat}
theorem Zr(hX:jy X)(aO:iX X cl)(rv:AV)(c:Code):∀(S:St)(e:XE)(S':St),mB X f cl n rv c S=some (e,S')→S.gl=X.gl→eo X f S.n c=true→
 S'.n=S.n∧S'.gl=S.gl∧∀φ G a w c0 iF v u',Oj c0 iF v u'→aB φ w (Fo G φ S.mem) rv v→Rel φ G S a w→c.wpS X.P (Fj c0 iF u' S.n φ G S.mem w e S') a (c0::iF) w:=by
 induction c with
 |seq a b qd uz=>
  intro S e S' h ck hd;simp only[eo,Bool.and_eq_true]at hd;simp only[mB]at h;rcases gD h with ⟨S1,h1,h2⟩|⟨h1,h2⟩
  ·obtain⟨dJ,eR,oK⟩:=qd S .normal S1 h1 ck hd.1;obtain⟨qB,mo,qe⟩:=G2 hX aO b S1 e S' h2 (eR.trans ck) (by rw[dJ];exact hd.2);refine⟨qB.trans dJ,mo.trans eR,fun φ G ac w c0 iF v u' o6 hv hr=>wpS_seq (vI (oK φ G ac w c0 iF v u' o6 hv hr) ?_)⟩;rintro e' a' ll w' ⟨rfl,hp⟩;obtain⟨φ',sy,b6,aN,he⟩:=hp.is;cases e' with
   |normal=>
    refine wpS_of_wp (wp_mono (qe φ' G a' w' b6) fun e2 a2 w2 zJ=>⟨rfl,?_⟩);rw[dJ]at zJ;exact zJ.weaken aN
   |exit id=>cases he
   |ret=>cases he
   |panic chain=>obtain⟨t,x,v,h6,_⟩:=he;cases h6
   |_=>exact he.elim
  ·obtain⟨dJ,eR,oK⟩:=qd S e S' h1 ck hd.1;refine⟨dJ,eR,fun φ G ac w c0 iF v u' o6 hv hr=>wpS_seq (vI (oK φ G ac w c0 iF v u' o6 hv hr) ?_)⟩;rintro e' a' ll w' ⟨rfl,hp⟩;cases e' with
   |normal=>obtain⟨φ',_,_,_,he⟩:=hp.is;exact absurd he h2
   |_=>exact⟨rfl,hp⟩
 |region id ops draw=>
  intro S e S' h ck hd;simp only[mB]at h;split at h
  ·rename_i o r abz;split at h
   ·rename_i afT;obtain⟨hg,gV,ho⟩:=C9 afT;simp only[eo,Bool.and_eq_true]at hd;have Rf:jq S.n ops.toList=true:=hd.1;rw[abz]at Rf;simp only[jq,List.all_cons,Bool.and_eq_true]at Rf;obtain⟨qb,wK⟩:=Rf;have qF:∀t,o.dst=some t→t<S.n:=fun t ht=>by rw[ht]at qb;simpa using qb
    have Fk:(o::r).toArray=ops:=by rw[←abz]
    have key:∀e1 S1,fh X cl (X.md f id) (o::r) r (S.put o.dst true rv)=some (e1,S1)→S1.n=S.n∧S1.gl=S.gl∧∀φ G a w c0 iF v u',Oj c0 iF v u'→aB φ w (Fo G φ S.mem) rv v→Rel φ G S a w→
     (Code.region id ops false).wpS X.P (Fj c0 iF u' S.n φ G S.mem w e1 S1) a (c0::iF) w:=by
     intro e1 S1 h1;obtain⟨dJ,eR,oK⟩:=xU aO r (S.put o.dst true rv) e1 S1 h1 ((kQ ..).trans ck) (by rw[lu];exact wK);rw[lu]at dJ oK;rw[kQ]at eR;rw[eY]at oK;refine⟨dJ,eR,fun φ G a w c0 iF v u' o6 hv hr=>wpS_region ?_⟩;have bQ:List.range ops.size=0::List.range' 1 r.length:=by
      rw[←Fk];simp[List.range_eq_range',List.range'_succ]
     have h0:ops[0]?=some o:=by rw[←Fk];simp
     have bL:(execOp a.eval o).run X.P w=.ok .recover w:=by
      simp[execOp,ho,resolve,Deferred.ofValue,invoke,builtin]
     have rI:=hr.put o.dst qF true rv v (fun _=>hv);have Wz:=oK φ G _ w rI (fun e a w'=>Fj c0 iF u' S.n φ G S.mem w e1 S1 e a ({c0 with mode:=u'}::iF) w') (fun e' a' w' hp=>⟨rfl,hp⟩);rw[Fk,←wpOps_eq_wpList r 1 (fun j=>by rw[←Fk];simp[Nat.add_comm])]at Wz;have hS:=Eg (Q:=Fj c0 iF u' S.n φ G S.mem w e1 S1) (cs:={c0 with mode:=u'}::iF) (fun _ _ hh=>hh.2) _ _ _ Wz;rw[bQ];unfold wpOpsS;simp only[h0];rw[if_pos (by simp[Region.wanted,hg])];simp only[bL];rcases o6 with o6|⟨o6,rfl,rfl⟩
     ·rw[o6];exact hS
     ·rw[o6];exact hS
    unfold tK at h;split at h
    ·rename_i S1 h1;cases h;obtain⟨dJ,eR,oK⟩:=key _ _ h1;obtain⟨t1,t2,t3⟩:=qV X f id S1;refine⟨t1.trans dJ,t2.trans eR,fun φ G a w c0 iF v u' o6 hv hr=>vI (oK φ G a w c0 iF v u' o6 hv hr) ?_⟩;rintro e' a' ll w' ⟨rfl,hp⟩;refine⟨rfl,?_⟩;obtain⟨φ',sy,b6,aN,he⟩:=hp.is;cases e' with
     |normal=>
      obtain⟨φ2,iN,cn⟩:=t3 φ' G a' w' b6;exact⟨φ2,_,t1.trans sy,⟨rfl,rfl⟩,iN,aN.trans cn⟩
     |exit id=>cases he
     |ret=>cases he
     |panic chain=>obtain⟨t,x,v,h4,_⟩:=he;cases h4
     |_=>exact he.elim
    ·exact key _ _ h
   ·cases h
  ·cases h
 |_=>intro S e S' h;simp[mB]at h
end
section
variable {X:Ctx} {cl:bq} {f:FuncId} {n:Nat}
theorem G8{fn:Func}{args:List AV}{cs:List aE}(xp:args.length≤fn.ntmps)(kO:cs.length≤100)(pR:∀k∈(X.fp f).sites,100≤k)(qy:(X.fp f).sites.Nodup)
 {φ:bM} {G:Fr} {w:World} {vs:Array Value} (qD:G.dv=[]) (hm:bj φ G (inM 0 cs) w) (n7:eF w (Fo G φ (inM 0 cs)) X.gl) (kj:args.length=vs.size)
 (bY:∀(i:Nat) x v,args[i]?=some x→vs[i]?=some v→aB φ w (Fo G φ (inM 0 cs)) x v):
 Rel (φ.add (X.fp f).sites) G (entry fn.ntmps X.gl args cs (X.fp f).sites) {tmps:=vs++Array.replicate (fn.ntmps-vs.size) undef,defers:=[]} w∧
  aP φ (inM 0 cs) w (φ.add (X.fp f).sites) (entry fn.ntmps X.gl args cs (X.fp f).sites).mem w∧(∀k L,φ k=some L→k<cs.length∧L.aj=0):=by
 have ma:∀k,k∈(inM 0 cs).map (·.key)↔k<cs.length:=fun k=>by rw[AB];simp
 have AD:∀k∈(X.fp f).sites,k∉(inM 0 cs).map (·.key):=by
  intro k hk ur;have h1:=pR k hk;have h2:=(ma k).1 ur;omega
 have oW:∀k L,φ k=some L→k<cs.length∧L.aj=0:=fun k L hL=>by
  have hk:=hm.oB k L hL;obtain⟨e,he,rfl⟩:=List.mem_map.1 hk;obtain⟨L',bO,aA,_⟩:=hm.eV e he;rw[hL]at bO;cases bO;exact⟨(ma _).1 hk,by rw[aA];exact C8 cs 0 e he⟩
 have Rd:=hm.add qy AD;have rS:aP φ (inM 0 cs) w (φ.add (X.fp f).sites) (inM 0 cs++(X.fp f).sites.map dead) w:=⟨Gn hm AD,fun _ _ _=>rfl,fun b _ ho=>(yK AD b).1 ho,Nat.le_refl _,rfl,rfl,rfl⟩;refine⟨⟨by simp[entry];omega,qD.symm,fun t x hx=>?_,Rd,rS.jZ n7⟩,rS,oW⟩;obtain⟨j,rfl,hj⟩:=vq 0 args t _ hx;have gP:j<vs.size:=by rw[←kj];exact (List.getElem?_eq_some_iff.1 hj).1
 have e:(vs++Array.replicate (fn.ntmps-vs.size) undef).getD (0+j) undef=vs[j]:=by
  simp only[Nat.zero_add,Array.getD_eq_getD_getElem?];rw[Array.getElem?_append_left gP];simp[gP]
 rw[e];exact rS.av (bY j x _ hj (by simp[gP]))
theorem Eh{fn:Func}{cs:List aE}{out:Out}{l:List (Nat×aE)}{φ φ':bM}{G:Fr}{S':St}{a':Act}{w w':World}(b6:Rel φ' G S' a' w')(nA:aP φ (inM 0 cs) w φ' S'.mem w')
 (oW:∀k L,φ k=some L→k<cs.length∧L.aj=0) (eP:finish X.P (X.fp f) cs.length fn.results.toList S'=some (out,l)):
 ∃v,(results fn a'.tmps).run X.P w'=.ok v w'∧∃ml m' iK,(iK=out∧m'=mkM 0 l)∧bj ml G m' w'∧aP φ (inM 0 cs) w ml m' w'∧mJ ml w' (Fo G ml m') iK (.returned v):=by
 unfold finish at eP;split at eP
 ·rename_i cc xs mK;split at eP
  ·rename_i eQ;obtain⟨vl,h1,h2,h3⟩:=vp b6 fn.results.toList cc xs mK eQ;obtain⟨φ2,ys,rfl,g1,g2,g3,g4,_⟩:=qP eP b6.mem b6.jZ h2 h3 nA oW;have G4:(results fn a'.tmps).run X.P w'=.ok (if h:vl.toArray.size=1 then vl.toArray[0]else .tuple vl.toArray) w':=by
    have e:results fn a'.tmps=(do let vs ←fn.results.mapM (xA a'.tmps);pure (if h:vs.size=1 then vs[0]else .tuple vs)):=by
     unfold results;congr 1
    rw[e,Array.mapM_eq_mapM_toList];simp only[Sem.run_bind,Sem.run_map,h1,Result.andThen_ok,Sem.run_pure]
   refine⟨_,G4,φ2,_,_,⟨rfl,rfl⟩,g1,g2,?_⟩;show aB φ2 w' _ (oneOf ys) _;by_cases kE:vl.length=1
   ·obtain⟨v,rfl⟩:∃v,vl=[v]:=by
     cases vl with
     |nil=>simp at kE
     |cons v r=>exact⟨v,by cases r with|nil=>rfl|cons _ _=>simp at kE⟩
    obtain⟨y,rfl⟩:∃y,ys=[y]:=by
     cases ys with
     |nil=>simp at g3
     |cons v r=>exact⟨v,by cases r with|nil=>rfl|cons _ _=>simp at g3⟩
    simpa [oneOf]using g4 0 y v (by simp) (by simp)
   ·have e:oneOf ys=.aU ys:=by
     cases ys with
     |nil=>rfl
     |cons y r=>cases r with|nil=>simp at g3;omega|cons _ _=>rfl
    rw[e,dif_neg (by simpa using kE)];exact .aU ys vl.toArray (by simpa using g3) (fun i y v h h'=>g4 i y v h (by simpa using h'))
  ·cases eP
 ·cases eP
def Rg(u:FrameMode)(v:Value):Prop:=(v=.nilIface∧u=.returning)∨∃t x,v=.iface t x∧u=.panicking [{v:=.iface t x,recovered:=false}]
def RuR(P:Program):Ru:=fun f vs w R=>∀u v,vs.back?=some v→Rg u v→CallsD P f vs.pop u w fun e u' w'=>settle u'=.returning∧R e w'
theorem Uv(P:Program):G6 (RuR P):=fun f vs w R R' h hr u v hv hm=>(h u v hv hm).mono fun e u' w' hh=>⟨hh.1,hr e w' hh.2⟩
theorem Rh(hX:jy X)(aO:iX X cl){fn:Func}{c:Code}{args:List AV}{cs:List aE}{out:Out}{l:List (Nat×aE)}(hf:X.P.funcs[f]?=some fn)(hb:fn.body=some c)
 (h:uu X f cl n fn c args cs=some (out,l)):G7 (RuR X.P) X.gl f args (inM 0 cs) fun o m=>o=out∧m=mkM 0 l:=by
 unfold uu at h;split at h
 ·rename_i rv jw;split at h
  ·rename_i hc;simp only[Bool.and_eq_true,decide_eq_true_eq,List.all_eq_true]at hc;obtain⟨⟨⟨xp,kO⟩,pR⟩,qy⟩:=hc;intro φ G0 w vs Rd n7 kj bY u v hv Ok;obtain⟨G,hG⟩:∃G:Fr,G=⟨G0.g,[]⟩:=⟨_,rfl⟩;have qD:G.dv=[]:=by rw[hG]
   have hm:bj φ G (inM 0 cs) w:=by rw[hG];exact Rd.dv []
   have ck:eF w (Fo G φ (inM 0 cs)) X.gl:=by rw[hG];exact n7
   have abB:∀(i:Nat) x v,args[i]?=some x→vs[i]?=some v→aB φ w (Fo G φ (inM 0 cs)) x v:=by rw[hG];exact bY
   have bE:args≠[]:=by rintro rfl;cases jw
   have m8:0<args.length:=List.length_pos_iff.2 bE;have akX:args.dropLast.length=vs.pop.size:=by simp;omega
   obtain⟨e1,e2,oW⟩:=G8 (fn:=fn) xp kO pR qy qD hm ck akX (fun i x v hx hv=>by
    have hi:i<args.length-1:=by have:=(List.getElem?_eq_some_iff.1 hx).1;simpa using this
    refine abB i x v ?_ ?_
    ·rw[List.dropLast_eq_take,List.getElem?_take_of_lt (by omega)]at hx;exact hx
    ·rw[Array.getElem?_pop]at hv;rw[if_pos (by omega)]at hv;exact hv)
   have Jx:aB (φ.add (X.fp f).sites) w (Fo G (φ.add (X.fp f).sites) (entry fn.ntmps X.gl args.dropLast cs (X.fp f).sites).mem) rv v:=by
    refine e2.av (abB (args.length-1) rv v ?_ ?_)
    ·rw[←List.getLast?_eq_getElem?];exact jw
    ·rw[Array.back?]at hv;rw[kj];exact hv
   cases hq:mB X f cl n rv c (entry fn.ntmps X.gl args.dropLast cs (X.fp f).sites)with
   |none=>rw[hq]at h;cases h
   |some p=>
    obtain⟨e,S'⟩:=p;rw[hq]at h;obtain⟨sy,rK,ht⟩:=Zr hX aO rv c _ e S' hq rfl (hX.Ut f fn c hf hb);refine callsD_of_wpS hf hb fun c0 iF hu=>?_;obtain⟨u',o6,jI⟩:∃u',Oj c0 iF v u'∧settle u'=.returning:=by
     rcases Ok with ⟨rfl,rfl⟩|⟨t,x,rfl,rfl⟩
     ·exact⟨.returning,.inr ⟨by simp[recoverD,hu],rfl,hu.symm⟩,rfl⟩
     ·exact⟨.panicking [{v:=.iface t x,recovered:=true}],.inl (by simp[recoverD,hu]),by simp[settle]⟩
    refine vI (ht _ G _ w c0 iF v u' o6 Jx e1) ?_;rintro e' a' ll w' ⟨rfl,hp⟩;obtain⟨φ',_,b6,aN,he⟩:=hp.is;have nA:=e2.trans aN;have G3:finish X.P (X.fp f) cs.length fn.results.toList S'=some (out,l)→a'.defers=[]∧∃u2,({c0 with mode:=u'}::iF)={c0 with mode:=u2}::iF∧∃v,(results fn a'.tmps).run X.P w'=.ok v w'∧(settle u2=.returning∧
     ∃ml m' iK,(iK=out∧m'=mkM 0 l)∧bj ml G0 m' w'∧aP φ (inM 0 cs) w ml m' w'∧mJ ml w' (Fo G0 ml m') iK (.returned v)):=by
     intro eP;obtain⟨v,h1,φ2,m2,o2,h2,h3,h4,h5⟩:=Eh b6 nA oW eP;subst hG;exact⟨b6.defers,u',rfl,v,h1,jI,φ2,m2,o2,h2,h3.dv G0.dv,h4,h5⟩
    cases e' with
    |normal=>cases he;exact G3 h
    |ret=>cases he;exact G3 h
    |exit id=>cases he;cases h
    |panic chain=>obtain⟨t,x,v,rfl,_⟩:=he;cases h
    |_=>exact he.elim
  ·cases h
 ·cases h
end
def WA(X:Ctx)(sM:bq):Prop:=∀g args cs out l,sM g args cs=some (out,l)→gC X.P g=true∧G7 (RuR X.P) X.gl g args (inM 0 cs) fun o m=>o=out∧m=mkM 0 l
theorem E7{cl:bq}{m:Mem}{k0:Nat}{g:FuncId}{ys:List AV}{mt:List Nat}{res:fH}(h:callOp cl m k0 g ys mt=some res):∃args cs out l,cl g args cs=some (out,l):=by
 unfold callOp callOp2 callOp3 callBack at h;split at h
 ·rename_i out l2 dV;obtain⟨o0,l0,h0,_⟩:=xQ dV;exact⟨_,_,_,_,h0⟩
 ·cases h
section
variable {X:Ctx} {cl sM:bq} {f:FuncId} {n:Nat}
theorem Ri(hX:jy X)(aO:iX X cl)(abC:WA X sM){fn:Func}{c:Code}{args:List AV}{cs:List aE}{out:Out}{l:List (Nat×aE)}(hf:X.P.funcs[f]?=some fn)(hb:fn.body=some c)
 (h:uv X f cl sM n fn c args cs=some (out,l)):Ev X.P X.gl f args (inM 0 cs) fun o m=>o=out∧m=mkM 0 l:=by
 unfold uv at h;split at h
 ·rename_i hc;simp only[Bool.and_eq_true,decide_eq_true_eq,List.all_eq_true]at hc;obtain⟨⟨⟨xp,kO⟩,pR⟩,qy⟩:=hc;refine Ev.dv ?_;intro φ G w vs qD hm n7 kj bY;obtain⟨e1,e2,oW⟩:=G8 (fn:=fn) xp kO pR qy qD hm n7 kj bY;obtain⟨g,dv0⟩:=G;simp only at qD;subst qD;cases hq:iA X f cl n c (entry fn.ntmps X.gl args cs (X.fp f).sites) []with
  |none=>rw[hq]at h;cases h
  |some p=>
   obtain⟨e,S',iW⟩:=p;rw[hq]at h;obtain⟨sy,rK,ht⟩:=Zq hX aO c _ _ e S' iW hq rfl (hX.Ut f fn c hf hb);refine calls_of_wp_defers hf hb (wp_mono (ht _ g [] _ w e1 trivial) fun e' a' w' hp=>?_);obtain⟨φ',sQ,_,b6,aN,iY,he⟩:=hp;have nA:=e2.trans aN;have afU:S'.gl=X.gl:=rK;have back:∀{φ2:bM}{S2:St}{w2:World},Rel φ2 ⟨g,sQ⟩ S2 a' w2→aP φ (inM 0 cs) w φ2 S2.mem w2→finish X.P (X.fp f) cs.length fn.results.toList S2=some (out,l)→
    ∃v,(results fn a'.tmps).run X.P w2=.ok v w2∧∃ml m' iK,(iK=out∧m'=mkM 0 l)∧bj ml ⟨g,[]⟩ m' w2∧aP φ (inM 0 cs) w ml m' w2∧mJ ml w2 (Fo ⟨g,[]⟩ ml m') iK (.returned v):=by
    intro φ2 S2 w2 iN cn eP;obtain⟨v,h1,φ3,m3,o3,h2,h3,h4,h5⟩:=Eh iN cn oW eP;exact⟨v,h1,φ3,m3,o3,h2,h3.dv [],h4,h5⟩
   match iW,sQ,iY with
   |[],[],_=>
    have rT:a'.defers=[]:=b6.defers;simp only[tL]at h;cases e' with
    |normal=>cases he;show Leaves _ _ _ _ a'.defers _ _;rw[rT];exact back b6 nA h
    |ret=>cases he;show Leaves _ _ _ _ a'.defers _ _;rw[rT];exact back b6 nA h
    |exit id=>cases he;cases h
    |panic chain=>
     obtain⟨t,x,v,rfl,rfl,hd⟩:=he;have h':finVals (X.fp f) cs.length S' [] (fun _=>.panic t x)=some (out,l):=h;obtain⟨φ2,ys,rfl,g1,g2,_,_,g5⟩:=qP (vs:=[]) h' b6.mem b6.jZ rfl (by simp) nA oW;show Leaves _ _ _ _ a'.defers _ _;rw[rT];exact⟨φ2,_,_,⟨rfl,rfl⟩,g1,g2,v,rfl,hd.mono (fun _ _ _=>rfl) (Nat.le_refl _) (fun b _=>g5 b)⟩
    |_=>exact he.elim
   |[d],[dd],⟨wK,_⟩=>
    have rT:a'.defers=[dd]:=b6.defers;simp only[tL]at h;have one:∀u rv Rj,u≠FrameMode.run→Rg u Rj→aB φ' w' (Fo ⟨g,[dd]⟩ φ' S'.mem) rv Rj→recA e=some rv→
     Leaves X.P fn a'.tmps (fun e w'=>∃φ' m' iK,(iK=out∧m'=mkM 0 l)∧bj φ' ⟨g,[]⟩ m' w'∧aP φ (inM 0 cs) w φ' m' w'∧mJ φ' w' (Fo ⟨g,[]⟩ φ' m') iK e) [dd] u w':=by
     intro u rv Rj hu Ok Jx hre;rw[hre]at h;simp only[finD1]at h;cases dV:callOp sM S'.mem 0 d.1 (d.2++[rv]) (X.fp d.1).vr with
     |none=>rw[dV]at h;cases h
     |some res=>
      rw[dV]at h;obtain⟨ca,B1,hlen,sC⟩:=wK;obtain⟨_,_,_,_,akY⟩:=E7 dV;have sO:=(abC _ _ _ _ _ akY).1;have afV:=Jh (Uv X.P) (gl:=X.gl) (fun g args cs out l hh=>(abC g args cs out l hh).2) dV (φ:=φ') (G:=⟨g,[dd]⟩) (w:=w') (vs:=(dd.args++ca).push Rj) b6.mem (by rw[←afU];exact b6.jZ)
       (by simp[hlen];omega) (fun i x v hx hv=>by
        by_cases hi:i<d.2.length
        ·rw[List.getElem?_append_left hi]at hx;rw[Array.getElem?_push,if_neg (by omega)]at hv;exact sC i x v hx hv
        ·have:i=d.2.length:=by
          have:=(List.getElem?_eq_some_iff.1 hx).1;simp at this;omega
         subst this;rw[List.getElem?_append_right (Nat.le_refl _)]at hx;simp at hx;subst hx;rw[Array.getElem?_push,if_pos hlen]at hv;cases hv;exact Jx)
      have hD:=afV u Rj (by simp) Ok;rw[Array.pop_push]at hD;refine⟨hu,.func d.1,ca,d.1,dd.args++ca,B1,by rw[B1];simp[invoke,rP sO],hD.mono ?_⟩;rintro e2 u2 w2 ⟨jI,φ2,jt,cn,fa⟩;unfold memC at h;split at h
      ·rename_i x es ks heq;cases heq;cases e2 with
       |returned v2=>
        show Leaves _ _ _ _ [] (settle u2) w2;rw[jI];exact back (b6.wX jt cn) (nA.trans cn) h
       |_=>exact fa.elim
      ·cases h
    cases e' with
    |normal=>cases he;show Leaves _ _ _ _ a'.defers _ _;rw[rT];exact one .returning _ .nilIface (by simp) (.inl ⟨rfl,rfl⟩) (.lit _ rfl) rfl
    |ret=>cases he;show Leaves _ _ _ _ a'.defers _ _;rw[rT];exact one .returning _ .nilIface (by simp) (.inl ⟨rfl,rfl⟩) (.lit _ rfl) rfl
    |exit id=>cases he;cases h
    |panic chain=>
     obtain⟨t,x,v,rfl,rfl,hd⟩:=he;show Leaves _ _ _ _ a'.defers _ _;rw[rT];exact one (.panicking [{v:=.iface t v,recovered:=false}]) _ (.iface t v) (by simp) (.inr ⟨t,v,rfl,rfl⟩) (.gJ _ _ _ hd) rfl
    |_=>exact he.elim
   |_::_::_,_,_=>cases h
 ·cases h
theorem Uw(hX:jy X)(aO:iX X cl):WA X (me X n cl):=by
 intro g args cs out l h;unfold me at h;split at h
 ·rename_i fn hf;split at h
  ·rename_i c hb;refine⟨?_,Rh hX aO hf hb h⟩;unfold gC;rw[hf];simp[hb,hX.names g fn hf]
  ·cases h
 ·cases h
theorem G9(hX:jy X):∀n,iX X (aR X n)
 |0=>fun g args cs out l h=>by cases h
 |n+1=>fun g args cs out l h=>by
  have ih:=G9 hX n;simp only[aR,hX.ov]at h;split at h
  ·rename_i h0 JP;exact abx hX JP h
  split at h
  ·rename_i fn hf;split at h
   ·rename_i c hb;have dV:gC X.P g=true:=by
     unfold gC;rw[hf];simp[hb,hX.names g fn hf]
    refine⟨dV,?_⟩;cases iY:vA c with
    |true=>
     rw[iY]at h;exact Ri hX ih (Uw hX ih) hf hb h
    |false=>
    rw[iY]at h;simp only[uw]at h;unfold runSplit at h;split at h
    ·split at h
     ·rename_i r;unfold splitRun at h;split at h
      ·rename_i a b ha aW;split at h
       ·rename_i sF;subst sF;have e1:=fm ha;have e2:=fm aW;rw[e1]at h;cases h;exact Ev.split (vF hX ih hf hb e1) (vF hX ih hf hb e2)
       ·cases h
      ·cases h
     ·exact vF hX ih hf hb h
    ·exact vF hX ih hf hb h
   ·cases h
  ·cases h
end
def aJ{α:Type}(f:Nat→Option α):Prop:=∀n r,f n=some r→f (n+1)=some r
theorem aJ.le{α:Type}{f:Nat→Option α}(h:aJ f){n m:Nat}(hnm:n≤m){r:α}(hr:f n=some r):f m=some r:=by
 induction hnm with
 |refl=>exact hr
 |step _ ih=>exact h _ _ ih
theorem aJ.const{α:Type}(x:Option α):aJ fun _=>x:=fun _ _ h=>h
theorem aJ.bind{α β:Type}{f:Nat→Option α}{g:α→Nat→Option β}(hf:aJ f)(hg:∀x,aJ (g x)):aJ fun n=>(f n).bind fun x=>g x n:=by
 intro n r h;obtain⟨x,hx,hr⟩:=Option.bind_eq_some_iff.1 h;simp only[hf n x hx,Option.bind_some];exact hg x n r hr
open Classical in
noncomputable def gq{α:Type}(f:Nat→Option α):Option α:=if h:∃n,(f n).isSome=true then f (Classical.choose h)else none
theorem dx{α:Type}{f:Nat→Option α}(hf:aJ f){r:α}:gq f=some r↔∃n,f n=some r:=by
 unfold gq;constructor
 ·intro h;split at h
  ·exact⟨_,h⟩
  ·cases h
 ·rintro ⟨n,hn⟩;have hex:∃n,(f n).isSome=true:=⟨n,by rw[hn];rfl⟩;rw[dif_pos hex];have hc:=Classical.choose_spec hex;obtain⟨r',b6⟩:=Option.isSome_iff_exists.1 hc;rw[b6];rcases Nat.le_total n (Classical.choose hex)with h1|h1
  ·rw[←b6];exact hf.le h1 hn
  ·have:=hf.le h1 b6;rw[this]at hn;exact hn
theorem aQ{α:Type}(x:Option α):gq (fun _=>x)=x:=by
 cases x with
 |some r=>exact (dx (aJ.const _)).2 ⟨0,rfl⟩
 |none=>unfold gq;rw[dif_neg];rintro ⟨_,h⟩;cases h
theorem dY{α β:Type}{f:Nat→Option α}{g:α→Nat→Option β}(hf:aJ f)(hg:∀x,aJ (g x)):gq (fun n=>(f n).bind fun x=>g x n)=(gq f).bind fun x=>gq (g x):=by
 apply Option.ext;intro r;rw[dx (hf.bind hg),Option.bind_eq_some_iff];constructor
 ·rintro ⟨n,hn⟩;obtain⟨x,hx,hr⟩:=Option.bind_eq_some_iff.1 hn;exact⟨x,(dx hf).2 ⟨n,hx⟩,(dx (hg x)).2 ⟨n,hr⟩⟩
 ·rintro ⟨x,hx,hr⟩;obtain⟨n,hn⟩:=(dx hf).1 hx;obtain⟨m,hm⟩:=(dx (hg x)).1 hr;exact⟨max n m,by rw[hf.le (Nat.le_max_left n m) hn];exact (hg x).le (Nat.le_max_right n m) hm⟩
theorem sS{α:Type}{f:Nat→Option α}(hf:aJ f):gq (fun n=>f (n+1))=gq f:=by
 have WB:aJ fun n=>f (n+1):=fun n r h=>hf (n+1) r h;apply Option.ext;intro r;rw[dx WB,dx hf];exact⟨fun ⟨n,h⟩=>⟨n+1,h⟩,fun ⟨n,h⟩=>⟨n,hf n r h⟩⟩
def aT(k:St→Option (XE×St)):XE×St→Option (XE×St)
 |(.normal,S)=>k S
 |r=>some r
theorem vJ(r:Option (XE×St))(k:St→Option (XE×St)):andThen r k=r.bind (aT k):=by
 rcases r with _|⟨e,S⟩
 ·rfl
 ·cases e<;>rfl
def mT(k:St→St):XE×St→Option (XE×St)
 |(.normal,S)=>some (.normal,k S)
 |r=>some r
theorem o7(k:St→St)(r:Option (XE×St)):tK k r=r.bind (mT k):=by
 rcases r with _|⟨e,S⟩
 ·rfl
 ·cases e<;>rfl
def bT(id:Nat):XE×St→Option (XE×St)
 |(.exit mn,S)=>if mn=id then some (.normal,S)else some (.exit mn,S)
 |r=>some r
theorem Ha(id:Nat)(r:Option (XE×St)):BR id r=r.bind (bT id):=by
 rcases r with _|⟨e,S⟩
 ·rfl
 ·cases e<;>rfl
def cT(m:Mem)(k0:Nat)(ρ B:List Nat)(n0:Nat)(b:Bool)(p:Out×List (Nat×aE)):Option fH:=callBack m k0 ρ B (frzR n0 b (some p))
theorem tR(m:Mem)(k0:Nat)(ρ B:List Nat)(n0:Nat)(b:Bool)(r:Option (Out×List (Nat×aE))):callBack m k0 ρ B (frzR n0 b r)=r.bind (cT m k0 ρ B n0 b):=by cases r<;>rfl
theorem Da(S:St)(d:Option Nat)(r:Option fH):de S d r=r.bind fun c=>de S d (some c):=by cases r<;>rfl
theorem AE(S:St)(o:Oper)(r:Option fH):pG S o r=r.bind fun c=>pG S o (some c):=by cases r<;>rfl
theorem lL(acc:List aS)(r:Option (St×aS))(k:St→List aS→Option (XE×St)):vy acc r k=r.bind fun p=>k p.1 (p.2::acc):=by cases r<;>rfl
theorem Hb(P:Program)(p:ay)(n0:Nat)(rs:List ResultVar)(r:Option (XE×St)):fin P p n0 rs r=r.bind fun q=>fin P p n0 rs (some q):=by cases r<;>rfl
def eB(C:Nat→bq):Prop:=∀g a c,aJ fun k=>C k g a c
section
variable {X:Ctx} {C:Nat→bq} {S:St} {o:Oper} {md:Bool}
theorem pI(hC:eB C)(m:Mem)(k0:Nat)(g:FuncId)(ys:List AV)(mt:List Nat):aJ (fun k=>callOp (C k) m k0 g ys mt):=by
 unfold callOp callOp2 callOp3;simp only[tR];exact (hC _ _ _).bind fun _=>aJ.const _
theorem kl(hC:eB C)(args:List Operand)(fv:Bool×AV):aJ (fun k=>callVal X (C k) S o args fv):=by
 unfold callVal;split
 ·split
  ·exact pI hC _ _ _ _ _
  ·exact aJ.const _
 ·exact aJ.const _
theorem Ji(hC:eB C):aJ (fun k=>p9 X (C k) S o):=by
 unfold p9;split
 ·rename_i fv args gV ho;have h1:(fun k=>de S o.dst (callVal X (C k) S o args.toList (S.opd fv)))=fun k=>(callVal X (C k) S o args.toList (S.opd fv)).bind fun c=>de S o.dst (some c):=by
   funext k;exact Da ..
  rw[h1];exact (kl hC args.toList (S.opd fv)).bind (fun _=>aJ.const _)
 ·exact aJ.const _
 ·exact aJ.const _
theorem tS(hC:eB C)(r:di):aJ (fun k=>gQ X (C k) S o r):=by
 cases r with
 |no=>exact Ji hC
 |val c x=>exact aJ.const _
 |cW c x e=>exact aJ.const _
theorem Hc(hC:eB C)(b:Bool)(r:di):aJ (fun k=>nC X (C k) S o b r):=by
 have other:∀r,aJ (fun k=>if b=true then gQ X (C k) S o r else some (.normal,S.put o.dst true .aZ)):=by
  intro r;split
  ·exact tS hC r
  ·exact aJ.const _
 cases r with
 |no=>exact other .no
 |val c x=>exact aJ.const _
 |cW c x e=>exact other (.cW c x e)
theorem qX(hC:eB C)(all:List Oper):aJ (fun k=>mb X (C k) md all S o):=by
 unfold mb;split
 ·exact tS hC _
 ·split
  ·split
   ·exact Hc hC _ _
   ·split
    ·exact tS hC _
    ·exact aJ.const _
  ·exact aJ.const _
  ·exact aJ.const _
theorem n8{F:Nat→Option (XE×St)}{K:St→Nat→Option (XE×St)}(hF:aJ F)(hK:∀S,aJ (K S)):aJ (fun n=>andThen (F n) (fun S=>K S n)):=by
 simp only[vJ];refine hF.bind (g:=fun x n=>aT (fun S=>K S n) x) fun x=>?_;obtain⟨e,S⟩:=x;cases e with
 |normal=>exact hK S
 |_=>exact aJ.const _
theorem jL(hC:eB C)(all:List Oper):∀(ops:List Oper)(S:St),aJ (fun k=>fh X (C k) md all ops S)
 |[],S=>aJ.const _
 |o::r,S=>n8 (qX hC all) (fun S'=>jL hC all r S')
theorem Ol(hC:eB C):aJ (fun k=>kF X (C k) S o):=by
 unfold kF;split
 ·rename_i fv args gV ho;have h1:(fun k=>pG S o (callVal X (C k) S o args.toList (S.opd fv)))=fun k=>(callVal X (C k) S o args.toList (S.opd fv)).bind fun c=>pG S o (some c):=by
   funext k;exact AE ..
  rw[h1];exact (kl hC args.toList (S.opd fv)).bind (fun _=>aJ.const _)
 ·exact aJ.const _
theorem vK(hC:eB C)(r:di):aJ (fun k=>dstep X (C k) S o r):=by
 cases r with
 |no=>exact Ol hC
 |val c x=>exact aJ.const _
 |cW c x e=>exact aJ.const _
theorem Jj(hC:eB C)(b:Bool)(r:di):aJ (fun k=>qa X (C k) S o b r):=by
 have other:∀r,aJ (fun k=>if b=true then dstep X (C k) S o r else some (S.put o.dst true .aZ,⟨[],[],true,.aZ⟩)):=by
  intro r;split
  ·exact vK hC r
  ·exact aJ.const _
 cases r with
 |no=>exact other .no
 |val c x=>exact aJ.const _
 |cW c x e=>exact other (.cW c x e)
theorem kU(hC:eB C)(all:List Oper):aJ (fun k=>dU X (C k) md all S o):=by
 unfold dU;split
 ·exact vK hC _
 ·split
  ·split
   ·exact Jj hC _ _
   ·split
    ·exact vK hC _
    ·exact aJ.const _
  ·exact aJ.const _
  ·exact aJ.const _
theorem Db(S:St)(r:Option fH):tI S r=r.bind fun c=>tI S (some c):=by cases r<;>rfl
theorem Ei(hC:eB C):aJ (fun k=>ki X (C k) S o):=by
 unfold ki;split
 ·unfold As;split
  ·unfold GA;split
   ·rename_i fv args gV ho;have h1:(fun k=>tI S (callVal X (C k) S o args.toList (S.opd fv)))=fun k=>(callVal X (C k) S o args.toList (S.opd fv)).bind fun c=>tI S (some c):=by
     funext k;exact Db ..
    rw[h1];exact (kl hC args.toList (S.opd fv)).bind (fun _=>aJ.const _)
   ·exact aJ.const _
  ·exact aJ.const _
 ·exact aJ.const _
theorem AF{cl:bq}{all:List Oper}{q:St×aS}(h:dU X cl md all S o=some q):ki X cl S o=none:=by
 cases hp:ki X cl S o with
 |none=>rfl
 |some p=>
  obtain⟨hg,hs,fv,args,gV,ho,hc,_⟩:=Ea hp;unfold dU at h;rw[hg]at h;simp only[dstep,kF,hs,ho,hc]at h;cases h
theorem Rk(hC:eB C)(nd:Nat×List (List Nat))(all r:List Oper)(acc:List aS){K:Nat→St→List aS→Option (XE×St)}(hK:∀S acc,aJ fun k=>K k S acc):aJ (fun k=>mz X (C k) md nd all r S o acc (K k) (ki X (C k) S o)):=by
 intro n y h;simp only at h⊢;cases hp:ki X (C n) S o with
 |some q=>
  rw[hp]at h;have ly:ki X (C (n+1)) S o=some q:=Ei hC n q hp;rw[ly];exact h
 |none=>
  rw[hp]at h;simp only[mz,lL]at h;cases hg:dU X (C n) md all S o with
  |none=>rw[hg]at h;cases h
  |some p=>
   have rK:dU X (C (n+1)) md all S o=some p:=kU hC all n p hg;rw[AF rK];simp only[mz,lL];rw[hg]at h;rw[rK];exact hK _ _ n y h
theorem mO(hC:eB C)(nd:Nat×List (List Nat))(all:List Oper):∀(ops:List Oper)(S:St)(acc:List aS),aJ (fun k=>ic X (C k) md nd all ops S acc)
 |[],S,acc=>aJ.const _
 |o::r,S,acc=>Rk hC nd all r acc fun S acc=>mO hC nd all r S acc
def Om(LI:List Cl)(p:St×aS):Option (St×aS):=if sK LI p.2.es=true then some p else none
theorem JV(LI:List Cl)(r:Option (St×aS)):C6 LI r=r.bind (Om LI):=by
 rcases r with _|⟨S,p⟩<;>rfl
theorem sU(hC:eB C)(nd:List (List Nat))(LI:List Cl)(all:List Oper):∀(ops:List Oper)(S:St)(acc:List aS),aJ (fun k=>mA X (C k) md nd LI all ops S acc)
 |[],S,acc=>aJ.const _
 |o::r,S,acc=>by
  simp only[mA,lL];cases lJ (nd.getD acc.length []) r with
  |true=>
   simp only[GC];split
   ·exact jL hC all [o] S
   ·exact aJ.const _
  |false=>
  simp only
  cases n6 X.P LI S o with
  |some x=>
   simp only[mZ,Option.bind_some];exact sU hC nd LI all r _ _
  |none=>
   simp only[mZ,JV];exact ((kU hC all).bind (g:=fun p _=>Om LI p) fun p=>aJ.const _).bind (g:=fun p n=>mA X (C n) md nd LI all r p.1 (p.2::acc)) fun p=>sU hC nd LI all r p.1 (p.2::acc)
theorem Ej(hC:eB C)(nd:List (List Nat))(all:List Oper)(S:St)(fl:List (Nat×Nat)):aJ (fun k=>rO X (C k) md nd all S fl):=by
 cases fl with
 |nil=>exact mO hC _ all all S []
 |cons q r=>
  simp only[rO];cases eV S.mem (q::r)with
  |none=>exact aJ.const _
  |some LI=>exact sU hC nd LI all all S []
theorem Ek(f:St→Option (XE×St)):∀(j:Nat)(S:St)(r:XE×St),iter f j S=some r→iter f (j+1) S=some r
 |0,S,r,h=>by cases h
 |j+1,S,r,h=>by
  simp only[iter]at h;rw[iter];rcases gD h with ⟨S1,h1,h2⟩|⟨h1,h2⟩
  ·rw[h1];exact Ek f j S1 r h2
  ·rw[h1];obtain⟨e,S1⟩:=r;cases e with
   |normal=>exact absurd rfl h2
   |_=>rfl
theorem rU(f:St→Option (XE×St)){j k:Nat}(h:j≤k){S:St}{r:XE×St}(hr:iter f j S=some r):iter f k S=some r:=by
 induction h with
 |refl=>exact hr
 |step _ ih=>exact Ek f _ S r ih
theorem sV{F:Nat→St→Option (XE×St)}(hF:∀S,aJ (fun k=>F k S)):∀(j:Nat)(S:St),aJ (fun k=>iter (F k) j S)
 |0,S=>aJ.const _
 |j+1,S=>n8 (hF S) (fun S'=>sV hF j S')
theorem vL(hC:eB C)(f:FuncId){m:Nat→Nat}(hm:∀k,m k≤m (k+1)):∀(c:Code)(S:St),aJ (fun k=>den X f (C k) (m k) c S):=by
 intro c;induction c with
 |region id ops draw=>
  intro S;cases draw with
  |false=>
   simp only[den,o7];exact (jL hC _ _ _).bind fun _=>aJ.const _
  |true=>
   simp only[den,o7];exact (Ej hC _ _ _ _).bind fun _=>aJ.const _
 |seq a b qd uz=>intro S;exact n8 (qd S) (fun S'=>uz S')
 |cond c a b qd uz=>
  intro S;simp only[den];unfold BS;split
  ·split
   ·exact qd S
   ·exact uz S
  ·exact aJ.const _
 |block id c ih=>
  intro S;simp only[den,Ha];exact (ih S).bind fun _=>aJ.const _
 |loop c ih=>
  intro S n r h;simp only[den]at h⊢;have h1:=sV (F:=fun k=>den X f (C k) (m k) c) ih (m n) S n r h;exact rU _ (hm n) h1
 |skip=>intro S;exact aJ.const _
 |exit id=>intro S;exact aJ.const _
 |ret=>intro S;exact aJ.const _
 |rangeFunc _ _ _ _=>intro S;exact aJ.const _
 |scope _ _=>intro S;exact aJ.const _
 |label _=>intro S;exact aJ.const _
 |goto _=>intro S;exact aJ.const _
 |refuse _=>intro S;exact aJ.const _
theorem B3(hC:eB C)(f:FuncId){m:Nat→Nat}(hm:∀k,m k≤m (k+1))(fn:Func)(c:Code)(args:List AV)(cs:List aE):aJ (fun k=>pH X f (C k) (m k) fn c args cs):=by
 unfold pH;split
 ·simp only[Hb X.P (X.fp f) cs.length fn.results.toList (den _ _ _ _ _ _)];exact (vL hC f hm c _).bind fun _=>aJ.const _
 ·exact aJ.const _
theorem wL{F G:Nat→Option (Out×List (Nat×aE))}(hF:aJ F)(hG:aJ G):aJ (fun n=>splitRun (F n) (G n)):=by
 intro n r h;replace h:splitRun (F n) (G n)=some r:=h;show splitRun (F (n+1)) (G (n+1))=some r;unfold splitRun at h;split at h
 ·rename_i a b ha hb;have e1:=fm ha;have e2:=fm hb;have f1:=hF n _ e1;have f2:=hG n _ e2;rw[e1]at h;rw[f1,f2];simp only[splitRun,emptyVec];exact h
 ·cases h
theorem Fa{R:Nat→List AV→Option (Out×List (Nat×aE))}(hR:∀a,aJ (fun n=>R n a))(args:List AV)(b:Bool):aJ (fun n=>runSplit (R n) args b):=by
 unfold runSplit;split
 ·split
  ·exact wL (hR _) (hR _)
  ·exact hR _
 ·exact hR _
def nT(k:St→XD)(ds:List DF):XE×St→XD
 |(.normal,S)=>k S
 |(e,S)=>some (e,S,ds)
theorem AG(k:St→XD)(ds:List DF)(r:Option (XE×St)):Fi k ds r=r.bind (nT k ds):=by
 rcases r with _|⟨e,S⟩
 ·rfl
 ·cases e<;>rfl
def lT(k:St→St):XE×St×List DF→XD
 |(.normal,S,ds)=>some (.normal,k S,ds)
 |r=>some r
theorem x8(k:St→St)(r:XD):xO k r=r.bind (lT k):=by
 rcases r with _|⟨e,S,ds⟩
 ·rfl
 ·cases e<;>rfl
def dT(ds:List DF)(p:XE×St):XD:=some (p.1,p.2,ds)
theorem Dc(ds:List DF)(r:Option (XE×St)):vz ds r=r.bind (dT ds):=by
 rcases r with _|⟨e,S⟩<;>rfl
def sT(k:St→List DF→XD):XE×St×List DF→XD
 |(.normal,S,ds)=>k S ds
 |r=>some r
theorem JW(k:St→List DF→XD)(r:XD):GD k r=r.bind (sT k):=by
 rcases r with _|⟨e,S,ds⟩
 ·rfl
 ·cases e<;>rfl
theorem lM(hC:eB C)(all:List Oper):∀(ops:List Oper)(S:St)(ds:List DF),aJ (fun k=>fA X (C k) md all ops S ds)
 |[],S,ds=>aJ.const _
 |o::r,S,ds=>by
  simp only[fA];cases mc S o with
  |some d=>exact lM hC all r _ _
  |none=>
   simp only[AG];refine (qX hC all).bind (g:=fun x n=>nT (fun S1=>fA X (C n) md all r S1 ds) ds x) fun x=>?_;obtain⟨e,S1⟩:=x;cases e with
   |normal=>exact lM hC all r S1 ds
   |_=>exact aJ.const _
theorem El(hC:eB C)(f:FuncId){m:Nat→Nat}(hm:∀k,m k≤m (k+1)):∀(c:Code)(S:St)(ds:List DF),aJ (fun k=>iA X f (C k) (m k) c S ds):=by
 have add:∀(c:Code)(S:St)(ds:List DF),aJ (fun k=>vz ds (den X f (C k) (m k) c S)):=fun c S ds=>by
  simp only[Dc];exact (vL hC f hm c S).bind fun _=>aJ.const _
 intro c;induction c with
 |seq a b qd uz=>
  intro S ds;simp only[iA,JW];refine (qd S ds).bind (g:=fun x n=>sT (iA X f (C n) (m n) b) x) fun x=>?_;obtain⟨e,S1,sR⟩:=x;cases e with
  |normal=>exact uz S1 sR
  |_=>exact aJ.const _
 |region id ops draw=>
  intro S ds;simp only[iA];split
  ·simp only[x8];exact (lM hC _ _ _ _).bind fun _=>aJ.const _
  ·exact add _ _ _
 |_=>intro S ds;simp only[iA];exact add _ _ _
theorem yb(hC:eB C)(f:FuncId){m:Nat→Nat}(hm:∀k,m k≤m (k+1))(rv:AV):∀(c:Code)(S:St),aJ (fun k=>mB X f (C k) (m k) rv c S):=by
 intro c;induction c with
 |seq a b qd uz=>intro S;exact n8 (qd S) (fun S'=>vL hC f hm b S')
 |region id ops draw=>
  intro S;simp only[mB];split
  ·split
   ·simp only[o7];exact (jL hC _ _ _).bind fun _=>aJ.const _
   ·exact aJ.const _
  ·exact aJ.const _
 |_=>intro S;simp only[mB];exact aJ.const _
theorem JX(P:Program)(p:ay)(n0:Nat)(rs:List ResultVar)(r:Option (XE×St)):Oa P p n0 rs r=r.bind fun q=>Oa P p n0 rs (some q):=by cases r<;>rfl
theorem Jk(hC:eB C)(f:FuncId){m:Nat→Nat}(hm:∀k,m k≤m (k+1))(fn:Func)(c:Code)(args:List AV)(cs:List aE):aJ (fun k=>uu X f (C k) (m k) fn c args cs):=by
 unfold uu;split
 ·split
  ·simp only[JX X.P (X.fp f) cs.length fn.results.toList (mB _ _ _ _ _ _ _)];exact (yb hC f hm _ c _).bind fun _=>aJ.const _
  ·exact aJ.const _
 ·exact aJ.const _
theorem B4(hC:eB C){m:Nat→Nat}(hm:∀k,m k≤m (k+1)):eB (fun k=>me X (m k) (C k)):=by
 intro g args cs;simp only[me];split
 ·split
  ·exact Jk hC g hm _ _ _ _
  ·exact aJ.const _
 ·exact aJ.const _
theorem JY(S:St)(r:Option fH):memC S r=r.bind fun c=>memC S (some c):=by cases r<;>rfl
theorem JZ(X:Ctx)(p:ay)(n0:Nat)(rs:List ResultVar)(r:Option St):finM X p n0 rs r=r.bind fun S=>finish X.P p n0 rs S:=by cases r<;>rfl
theorem J0(X:Ctx)(p:ay)(n0:Nat)(rs:List ResultVar)(sM:bq)(r:XD):tL X p n0 rs sM r=r.bind fun q=>tL X p n0 rs sM (some q):=by cases r<;>rfl
theorem On{CR:Nat→bq}(hC:eB CR)(p:ay)(n0:Nat)(rs:List ResultVar)(S:St)(d:DF)(rv:Option AV):aJ (fun k=>finD1 X p n0 rs (CR k) S d rv):=by
 cases rv with
 |none=>exact aJ.const _
 |some rv=>
  simp only[finD1,JZ,JY S (callOp _ _ _ _ _ _)];exact ((pI hC _ _ _ _ _).bind (g:=fun c _=>memC S (some c)) fun _=>aJ.const _).bind (g:=fun S _=>finish X.P p n0 rs S) fun _=>aJ.const _
theorem B5{CR:Nat→bq}(hC:eB CR)(p:ay)(n0:Nat)(rs:List ResultVar)(q:XE×St×List DF):aJ (fun k=>tL X p n0 rs (CR k) (some q)):=by
 obtain⟨e,S,ds⟩:=q;match ds with
 |[]=>exact aJ.const _
 |[d]=>exact On hC p n0 rs S d (recA e)
 |_::_::_=>exact aJ.const _
theorem Jl(hC:eB C){CR:Nat→bq}(hR:eB CR)(f:FuncId){m:Nat→Nat}(hm:∀k,m k≤m (k+1))(fn:Func)(c:Code)(args:List AV)(cs:List aE):aJ (fun k=>uv X f (C k) (CR k) (m k) fn c args cs):=by
 unfold uv;split
 ·simp only[J0 X (X.fp f) cs.length fn.results.toList _ (iA _ _ _ _ _ _ _)];exact (El hC f hm c _ _).bind (g:=fun q n=>tL X (X.fp f) cs.length fn.results.toList (CR n) (some q)) fun q=>B5 hR _ _ _ q
 ·exact aJ.const _
theorem B6(X:Ctx):∀n g a c r,aR X n g a c=some r→aR X (n+1) g a c=some r
 |0,g,a,c,r,h=>by cases h
 |n+1,g,a,c,r,h=>by
  have ih:=B6 X n;have hC:eB fun k=>if k=0 then aR X n else aR X (n+1):=by
   intro g a c k r h;by_cases hk:k=0
   ·subst hk;exact ih g a c r h
   ·simp only[hk,if_false]at h;simpa using h
  have hm:∀k,(if k=0 then n else n+1)≤(if k+1=0 then n else n+1):=by
   intro k;by_cases hk:k=0<;>simp[hk]
  cases uA:X.ov with
  |some c0=>simp only[aR,uA]at h⊢;exact h
  |none=>
  cases rC:X.wJ g with
  |some h0=>simp only[aR,uA,rC]at h⊢;exact h
  |none=>
  cases hf:X.P.funcs[g]? with
  |none=>simp only[aR,uA,rC,hf]at h;cases h
  |some fn=>
   cases hb:fn.body with
   |none=>simp only[aR,uA,rC,hf,hb]at h;cases h
   |some code=>
    have e1:∀k,aR X (k+1) g a c=uw X g (aR X k) k fn code a c (vA code):=by
     intro k;simp only[aR,uA,rC,hf,hb]
    rw[e1]at h⊢;cases iY:vA code with
    |true=>
     rw[iY]at h;exact Jl (X:=X) (C:=fun k=>if k=0 then aR X n else aR X (n+1)) (CR:=fun k=>me X (if k=0 then n else n+1) (if k=0 then aR X n else aR X (n+1))) hC (B4 hC hm) g hm fn code a c 0 r h
    |false=>
    rw[iY]at h;exact Fa (R:=fun k args=>pH X g ((fun k=>if k=0 then aR X n else aR X (n+1)) k) ((fun k=>if k=0 then n else n+1) k) fn code args c) (fun args=>B3 hC g hm fn code args c) a _ 0 r h
theorem bC(X:Ctx):eB (aR X):=fun g a c n r h=>B6 X n g a c r h
end
noncomputable def ai(X:Ctx):bq:=fun g a c=>gq fun k=>aR X k g a c
noncomputable def fR(X:Ctx)(f:FuncId)(c:Code)(S:St):Option (XE×St):=gq fun k=>den X f (aR X k) k c S
theorem bx{X:Ctx}{g a c r}(n:Nat)(h:aR X n g a c=some r):ai X g a c=some r:=(dx (bC X g a c)).2 ⟨n,h⟩
theorem Ux{X:Ctx}(hX:jy X):iX X (ai X):=fun g args cs out l h=>by
 obtain⟨n,hn⟩:=(dx (bC X g args cs)).1 h;exact G9 hX n g args cs out l hn
section
variable {X:Ctx} {S:St} {o:Oper} {f:FuncId} {md:Bool}
theorem dm(c:Code)(S:St):aJ (fun k=>den X f (aR X k) k c S):=vL (bC X) f (m:=fun k=>k) (fun k=>Nat.le_succ k) c S
theorem Oo(m:Mem)(k0:Nat)(g:FuncId)(ys:List AV)(mt:List Nat):gq (fun k=>callOp (aR X k) m k0 g ys mt)=callOp (ai X) m k0 g ys mt:=by
 unfold callOp callOp2 callOp3;simp only[tR];rw[dY (bC X _ _ _) (fun _=>aJ.const _)];simp only[aQ];rfl
theorem tT(args:List Operand)(fv:Bool×AV):gq (fun k=>callVal X (aR X k) S o args fv)=callVal X (ai X) S o args fv:=by
 unfold callVal;split
 ·split
  ·exact Oo ..
  ·exact aQ _
 ·exact aQ _
theorem Oq:gq (fun k=>p9 X (aR X k) S o)=p9 X (ai X) S o:=by
 unfold p9;split
 ·rename_i fv args gV ho;have h1:(fun k=>de S o.dst (callVal X (aR X k) S o args.toList (S.opd fv)))=fun k=>(callVal X (aR X k) S o args.toList (S.opd fv)).bind fun c=>de S o.dst (some c):=by
   funext k;exact Da ..
  rw[h1,dY (kl (bC X) _ _) (fun _=>aJ.const _),tT,Da];simp only[aQ]
 ·exact aQ _
 ·exact aQ _
theorem vM(r:di):gq (fun k=>gQ X (aR X k) S o r)=gQ X (ai X) S o r:=by
 cases r with
 |no=>exact Oq
 |val c x=>exact aQ _
 |cW c x e=>exact aQ _
theorem Jm(b:Bool)(r:di):gq (fun k=>nC X (aR X k) S o b r)=nC X (ai X) S o b r:=by
 have other:∀r,gq (fun k=>if b=true then gQ X (aR X k) S o r else some (.normal,S.put o.dst true .aZ))=if b=true then gQ X (ai X) S o r else some (.normal,S.put o.dst true .aZ):=by
  intro r;split
  ·exact vM r
  ·exact aQ _
 cases r with
 |no=>exact other .no
 |val c x=>exact aQ _
 |cW c x e=>exact other (.cW c x e)
theorem Em(all:List Oper):gq (fun k=>mb X (aR X k) md all S o)=mb X (ai X) md all S o:=by
 unfold mb;split
 ·exact vM _
 ·split
  ·split
   ·exact Jm _ _
   ·split
    ·exact vM _
    ·exact aQ _
  ·exact aQ _
  ·exact aQ _
theorem tU{F:Nat→Option (XE×St)}{K:St→Nat→Option (XE×St)}(hF:aJ F)(hK:∀S,aJ (K S)):gq (fun n=>andThen (F n) (fun S=>K S n))=andThen (gq F) (fun S=>gq (K S)):=by
 simp only[vJ];rw[dY (g:=fun x n=>aT (fun S=>K S n) x) hF (fun x=>by
  obtain⟨e,S⟩:=x;cases e with
  |normal=>exact hK S
  |_=>exact aJ.const _)]
 congr 1;funext x;obtain⟨e,S⟩:=x;cases e<;>first|rfl|exact aQ _
theorem qY(all:List Oper):∀(ops:List Oper)(S:St),gq (fun k=>fh X (aR X k) md all ops S)=fh X (ai X) md all ops S
 |[],S=>aQ _
 |o::r,S=>by
  simp only[fh];have:=tU (F:=fun k=>mb X (aR X k) md all S o) (K:=fun S' k=>fh X (aR X k) md all r S') (qX (bC X) all) (fun S'=>jL (bC X) all r S');rw[Em]at this;simp only[qY all r]at this;exact this
theorem Rl:gq (fun k=>kF X (aR X k) S o)=kF X (ai X) S o:=by
 unfold kF;split
 ·rename_i fv args gV ho;have h1:(fun k=>pG S o (callVal X (aR X k) S o args.toList (S.opd fv)))=fun k=>(callVal X (aR X k) S o args.toList (S.opd fv)).bind fun c=>pG S o (some c):=by
   funext k;exact AE ..
  rw[h1,dY (kl (bC X) _ _) (fun _=>aJ.const _),tT,AE];simp only[aQ]
 ·exact aQ _
theorem yc(r:di):gq (fun k=>dstep X (aR X k) S o r)=dstep X (ai X) S o r:=by
 cases r with
 |no=>exact Rl
 |val c x=>exact aQ _
 |cW c x e=>exact aQ _
theorem Ot(b:Bool)(r:di):gq (fun k=>qa X (aR X k) S o b r)=qa X (ai X) S o b r:=by
 have other:∀r,gq (fun k=>if b=true then dstep X (aR X k) S o r else some (S.put o.dst true .aZ,(⟨[],[],true,.aZ⟩:aS)))=if b=true then dstep X (ai X) S o r else some (S.put o.dst true .aZ,⟨[],[],true,.aZ⟩):=by
  intro r;split
  ·exact yc r
  ·exact aQ _
 cases r with
 |no=>exact other .no
 |val c x=>exact aQ _
 |cW c x e=>exact other (.cW c x e)
theorem B7(all:List Oper):gq (fun k=>dU X (aR X k) md all S o)=dU X (ai X) md all S o:=by
 unfold dU;split
 ·exact yc _
 ·split
  ·split
   ·exact Ot _ _
   ·split
    ·exact yc _
    ·exact aQ _
  ·exact aQ _
  ·exact aQ _
theorem Uy:gq (fun k=>ki X (aR X k) S o)=ki X (ai X) S o:=by
 unfold ki;split
 ·unfold As;split
  ·unfold GA;split
   ·rename_i fv args gV ho;have h1:(fun k=>tI S (callVal X (aR X k) S o args.toList (S.opd fv)))=fun k=>(callVal X (aR X k) S o args.toList (S.opd fv)).bind fun c=>tI S (some c):=by
     funext k;exact Db ..
    rw[h1,dY (kl (bC X) _ _) (fun _=>aJ.const _),tT,Db];simp only[aQ]
   ·exact aQ _
  ·exact aQ _
 ·exact aQ _
theorem B8(nd:Nat×List (List Nat))(all:List Oper):∀(ops:List Oper)(S:St)(acc:List aS),gq (fun k=>ic X (aR X k) md nd all ops S acc)=ic X (ai X) md nd all ops S acc
 |[],S,acc=>aQ _
 |o::r,S,acc=>by
  have hp:∀q,ki X (ai X) S o=some q↔∃k,ki X (aR X k) S o=some q:=fun q=>by rw[←Uy];exact dx (Ei (bC X))
  have hg:∀q,dU X (ai X) md all S o=some q↔∃k,dU X (aR X k) md all S o=some q:=fun q=>by rw[←B7];exact dx (kU (bC X) all)
  have hr:∀S acc y,ic X (ai X) md nd all r S acc=some y↔∃k,ic X (aR X k) md nd all r S acc=some y:=fun S acc y=>by rw[←B8 nd all r S acc];exact dx (mO (bC X) nd all r S acc)
  apply Option.ext;intro y;rw[dx (mO (bC X) nd all (o::r) S acc)];simp only[ic];constructor
  ·rintro ⟨k,hk⟩;cases hpk:ki X (aR X k) S o with
   |some q=>
    rw[hpk]at hk;rw[(hp q).2 ⟨k,hpk⟩];exact hk
   |none=>
    rw[hpk]at hk;simp only[mz,lL]at hk;cases hgk:dU X (aR X k) md all S o with
    |none=>rw[hgk]at hk;cases hk
    |some p=>
     rw[hgk]at hk;have J1:=(hg p).2 ⟨k,hgk⟩;rw[AF J1];simp only[mz,lL,J1,Option.bind_some]at hk⊢;exact (hr _ _ y).2 ⟨k,hk⟩
  ·intro h;cases hpT:ki X (ai X) S o with
   |some q=>
    rw[hpT]at h;obtain⟨k,hk⟩:=(hp q).1 hpT;exact⟨k,by rw[hk];exact h⟩
   |none=>
    rw[hpT]at h;simp only[mz,lL]at h;cases J1:dU X (ai X) md all S o with
    |none=>rw[J1]at h;cases h
    |some p=>
     rw[J1]at h;simp only[Option.bind_some]at h;obtain⟨k1,gn⟩:=(hg p).1 J1;obtain⟨k2,cn⟩:=(hr _ _ y).1 h;refine⟨max k1 k2,?_⟩;have mo:=(kU (X:=X) (S:=S) (o:=o) (md:=md) (bC X) all).le (Nat.le_max_left k1 k2) gn;have iN:=(mO (X:=X) (md:=md) (bC X) nd all r p.1 (p.2::acc)).le (Nat.le_max_right k1 k2) cn;rw[AF mo];simp only[mz,lL,mo,Option.bind_some];exact iN
theorem AH(nd:List (List Nat))(LI:List Cl)(all:List Oper):∀(ops:List Oper)(S:St)(acc:List aS),gq (fun k=>mA X (aR X k) md nd LI all ops S acc)=mA X (ai X) md nd LI all ops S acc
 |[],S,acc=>aQ _
 |o::r,S,acc=>by
  simp only[mA,lL];cases lJ (nd.getD acc.length []) r with
  |true=>
   simp only[GC];split
   ·exact qY all [o] S
   ·exact aQ _
  |false=>
  simp only
  cases n6 X.P LI S o with
  |some x=>
   simp only[mZ,Option.bind_some];exact AH nd LI all r _ _
  |none=>
   simp only[mZ,JV];rw[dY (g:=fun p n=>mA X (aR X n) md nd LI all r p.1 (p.2::acc)) ((kU (bC X) all).bind (g:=fun p _=>Om LI p) fun p=>aJ.const _) (fun p=>sU (bC X) nd LI all r p.1 (p.2::acc)),
    dY (g:=fun p _=>Om LI p) (kU (bC X) all) (fun p=>aJ.const _),B7]
   simp only[AH nd LI all r,aQ]
theorem Uz(nd:List (List Nat))(all:List Oper)(S:St)(fl:List (Nat×Nat)):gq (fun k=>rO X (aR X k) md nd all S fl)=rO X (ai X) md nd all S fl:=by
 cases fl with
 |nil=>exact B8 _ all all S []
 |cons q r=>
  simp only[rO];cases eV S.mem (q::r)with
  |none=>exact aQ _
  |some LI=>exact AH nd LI all all S []
theorem Rn:fR X f .skip S=some (.normal,S):=aQ _
theorem Ro{id:Nat}:fR X f (.exit id) S=some (.exit id,ghs S (X.gh f (id+1000000))):=aQ _
theorem UA:fR X f .ret S=some (.ret,S):=aQ _
theorem UB{a b:Code}:fR X f (.seq a b) S=andThen (fR X f a S) (fR X f b):=tU (dm a S) (fun S'=>dm b S')
theorem Rp{c:Operand}{a b:Code}:fR X f (.cond c a b) S=BS (fR X f a S) (fR X f b S) (S.opd c):=by
 unfold fR;simp only[den];unfold BS;split
 ·split<;>rfl
 ·exact aQ _
theorem Ou{id:Nat}{c:Code}:fR X f (.block id c) S=BR id (fR X f c S):=by
 unfold fR;simp only[den,Ha];rw[dY (dm c S) (fun _=>aJ.const _)];simp only[aQ]
theorem Jn{id:Nat}{ops:Array Oper}:fR X f (.region id ops false) S=tK (St.leave X f id) (fh X (ai X) (X.md f id) ops.toList ops.toList S):=by
 unfold fR;simp only[den,o7];rw[dY (jL (bC X) _ _ _) (fun _=>aJ.const _),qY];simp only[aQ]
theorem Rq{id:Nat}{ops:Array Oper}:fR X f (.region id ops true) S=tK (St.leave X f id) (rO X (ai X) (X.md f id) (X.od f id) ops.toList S (X.fl f id)):=by
 unfold fR;simp only[den,o7];rw[dY (Ej (bC X) _ _ _ _) (fun _=>aJ.const _),Uz];simp only[aQ]
theorem Rr{c:Code}:fR X f (.loop c) S=andThen (fR X f c S) (fR X f (.loop c)):=by
 apply Option.ext;intro r;have hl:∀S r,fR X f (.loop c) S=some r↔∃k,iter (den X f (aR X k) k c) k S=some r:=fun S r=>dx (dm (.loop c) S);have hi:∀{k j i:Nat}{S r},k≤j→i≤j→iter (den X f (aR X k) k c) i S=some r→iter (den X f (aR X j) j c) j S=some r:=by
  intro k j i S r hk ka h;exact rU _ ka ((sV (F:=fun k=>den X f (aR X k) k c) (fun S=>dm c S) i S).le hk h)
 rw[hl];constructor
 ·rintro ⟨k,hk⟩;cases k with
  |zero=>cases hk
  |succ k=>
   simp only[iter]at hk;rcases gD hk with ⟨S1,h1,h2⟩|⟨h1,h2⟩
   ·have:fR X f c S=some (.normal,S1):=(dx (dm c S)).2 ⟨k+1,h1⟩;rw[this];exact (hl S1 r).2 ⟨k+1,hi (Nat.le_refl _) (Nat.le_succ k) h2⟩
   ·have:fR X f c S=some r:=(dx (dm c S)).2 ⟨k+1,h1⟩;rw[this];obtain⟨e,S1⟩:=r;cases e with
    |normal=>exact absurd rfl h2
    |_=>rfl
 ·intro h;rcases gD h with ⟨S1,h1,h2⟩|⟨h1,h2⟩
  ·obtain⟨k,hk⟩:=(dx (dm c S)).1 h1;obtain⟨j,hj⟩:=(hl S1 r).1 h2;refine⟨max k j+1,?_⟩;rw[iter,(dm c S).le (show k≤max k j+1 by omega) hk];have:=(sV (F:=fun k=>den X f (aR X k) k c) (fun S=>dm c S) j S1).le (show j≤max k j+1 by omega) hj;exact rU _ (show j≤max k j by omega) this
  ·obtain⟨k,hk⟩:=(dx (dm c S)).1 h1;refine⟨k+1,?_⟩;rw[iter,(dm c S).le (Nat.le_succ k) hk];obtain⟨e,S1⟩:=r;cases e with
   |normal=>exact absurd rfl h2
   |_=>rfl
noncomputable def B9(X:Ctx)(f:FuncId)(fn:Func)(c:Code)(cs:List aE)(args:List AV):Option (Out×List (Nat×aE)):=
 if (decide (args.length≤fn.ntmps)&&decide (cs.length≤100)&&(X.fp f).sites.all (fun k=>decide (100≤k))&&decide (X.fp f).sites.Nodup)=true then
  fin X.P (X.fp f) cs.length fn.results.toList (fR X f c (entry fn.ntmps X.gl args cs (X.fp f).sites))
 else none
theorem yd{h:List AV→Option AV}{args:List AV}{cs:List aE}(uA:X.ov=none)(rC:X.wJ f=some h):ai X f args cs=orcAns h args cs:=by
 unfold ai;rw[←sS (bC X f args cs)];have:(fun n=>aR X (n+1) f args cs)=fun _=>orcAns h args cs:=by funext n;simp only[aR,uA,rC]
 rw[this,aQ]
theorem UC{fn:Func}{c:Code}{args:List AV}{cs:List aE}(uA:X.ov=none)(rC:X.wJ f=none)(hf:X.P.funcs[f]?=some fn)(hb:fn.body=some c)(iY:vA c=false):
 ai X f args cs=runSplit (B9 X f fn c cs) args (X.fp f).split:=by
 have hm:∀args,aJ (fun k=>pH X f (aR X k) k fn c args cs):=fun args=>B3 (bC X) f (m:=fun k=>k) (fun k=>Nat.le_succ k) fn c args cs;have hr:∀args,gq (fun k=>pH X f (aR X k) k fn c args cs)=B9 X f fn c cs args:=by
  intro args;unfold pH B9;split
  ·rename_i h;have h1:(fun k=>fin X.P (X.fp f) cs.length fn.results.toList (den X f (aR X k) k c (entry fn.ntmps X.gl args cs (X.fp f).sites)))=fun k=>(den X f (aR X k) k c (entry fn.ntmps X.gl args cs (X.fp f).sites)).bind fun q=>fin X.P (X.fp f) cs.length fn.results.toList (some q):=by
    funext k;exact Hb ..
   rw[h1,dY (dm c _) (fun _=>aJ.const _),Hb];simp only[aQ];rfl
  ·exact aQ _
 have e1:ai X f args cs=gq (fun k=>runSplit (fun args=>pH X f (aR X k) k fn c args cs) args (X.fp f).split):=by
  unfold ai;rw[←sS (bC X f args cs)];congr 1;funext k;rw[aR,uA,rC,hf];simp only[hb,iY,uw]
 rw[e1];unfold runSplit;split
 ·split
  ·rename_i r;apply Option.ext;intro y;rw[dx (wL (hm _) (hm _)),←hr,←hr];constructor
   ·rintro ⟨n,hn⟩;unfold splitRun at hn⊢;split at hn
    ·rename_i a b ha aW;have f1:=(dx (hm _)).2 ⟨n,fm ha⟩;have f2:=(dx (hm _)).2 ⟨n,fm aW⟩;rw[f1,f2];rw[fm ha]at hn;exact hn
    ·cases hn
   ·intro h;unfold splitRun at h;split at h
    ·rename_i a b ha aW;obtain⟨n,hn⟩:=(dx (hm _)).1 (fm ha);obtain⟨m,jt⟩:=(dx (hm _)).1 (fm aW);refine⟨max n m,?_⟩;rw[(hm _).le (Nat.le_max_left n m) hn,(hm _).le (Nat.le_max_right n m) jt];rw[fm ha]at h;exact h
    ·cases h
  ·exact hr _
 ·exact hr _
end
abbrev bP:=Option (Out×List (Nat×aE))
abbrev Kt:=XE→St→bP
noncomputable def aI(X:Ctx)(f:FuncId)(c:Code)(S:St)(k:Kt):bP:=(fR X f c S).bind fun p=>k p.1 p.2
noncomputable def runK(X:Ctx)(md:Bool)(all ops:List Oper)(S:St)(k:Kt):bP:=(fh X (ai X) md all ops S).bind fun p=>k p.1 p.2
noncomputable def km(X:Ctx)(md:Bool)(nd:Nat×List (List Nat))(all ops:List Oper)(S:St)(acc:List aS)(k:Kt):bP:=(ic X (ai X) md nd all ops S acc).bind fun p=>k p.1 p.2
noncomputable def ye(X:Ctx)(f:FuncId)(b:Code)(k:Kt):Kt
 | .normal,S=>aI X f b S k
 |e,S=>k e S
def AI(id:Nat)(k:Kt):Kt
 | .exit mn,S=>if mn=id then k .normal S else k (.exit mn) S
 |e,S=>k e S
noncomputable def Ca(X:Ctx)(f:FuncId)(c:Code)(k:Kt):Kt
 | .normal,S=>aI X f (.loop c) S k
 |e,S=>k e S
def yf(X:Ctx)(f:FuncId)(id:Nat)(k:Kt):Kt
 | .normal,S=>k .normal (S.leave X f id)
 |e,S=>k e S
def AJ(P:Program)(p:ay)(n0:Nat)(rs:List ResultVar):Kt
 | .normal,S=>finish P p n0 rs S
 | .ret,S=>finish P p n0 rs S
 | .panic t x,S=>finPanic p n0 t x S
 | .exit _,_=>none
def isB:Bool×AV→Bool
 |(true,.d (.bool _))=>true
 |_=>false
def boolOf:Bool×AV→Bool
 |(_,.d (.bool b))=>b
 |_=>false
def Env.kn:Env→Nat→Bool→Env
 |[],_,_=>[]
 |(t,x)::r,c,b=>if t=c then (t,true,.d (.bool b))::r else (t,x)::Env.kn r c b
def St.kn(S:St)(c:Nat)(b:Bool):St:={S with env:=Env.kn S.env c b}
section
variable {X:Ctx} {f:FuncId} {S:St} {k:Kt}
theorem rV(r:Option (XE×St))(g:St→Option (XE×St)):(andThen r g).bind (fun p=>k p.1 p.2)=r.bind fun p=>match p with
 |(.normal,S)=>(g S).bind fun p=>k p.1 p.2
 |(e,S)=>k e S:=by
 rcases r with _|⟨e,S⟩
 ·rfl
 ·cases e<;>rfl
theorem denK_skip:aI X f .skip S k=k .normal S:=by simp only[aI,Rn,Option.bind_some]
theorem denK_exit{id:Nat}:aI X f (.exit id) S k=k (.exit id) (ghs S (X.gh f (id+1000000))):=by simp only[aI,Ro,Option.bind_some]
theorem denK_ret:aI X f .ret S k=k .ret S:=by simp only[aI,UA,Option.bind_some]
theorem denK_seq{a b:Code}:aI X f (.seq a b) S k=aI X f a S (ye X f b k):=by
 simp only[aI,UB,rV];congr 1;funext p;obtain⟨e,S⟩:=p;cases e<;>rfl
theorem ah{c:Code}:aI X f (.loop c) S k=aI X f c S (Ca X f c k):=by
 rw[aI,Rr,rV,aI];congr 1;funext p;obtain⟨e,S⟩:=p;cases e<;>rfl
theorem denK_block{id:Nat}{c:Code}:aI X f (.block id c) S k=aI X f c S (AI id k):=by
 simp only[aI,Ou];rcases fR X f c S with _|⟨e,S⟩
 ·rfl
 ·cases e with
  |exit mn=>
   simp only[BR,Option.bind_some,AI];split<;>rfl
  |_=>rfl
theorem En{c:Operand}{a b:Code}:aI X f (.cond c a b) S k=if isB (S.opd c)=true then (if boolOf (S.opd c)=true then aI X f a S k else aI X f b S k)else none:=by
 simp only[aI,Rp];generalize S.opd c=v;obtain⟨g,x⟩:=v;cases g with
 |false=>rfl
 |true=>
  cases x with
  |d x=>
   cases x with
   |bool t=>cases t<;>rfl
   |_=>rfl
  |_=>rfl
theorem WC{b:Bool}:∀{env:Env}{c:Nat},Env.lk env c=some (true,.d (.bool b))→Env.kn env c b=env
 |[],c,h=>by cases h
 |(t,x)::r,c,h=>by
  simp only[Env.lk]at h;simp only[Env.kn];split
  ·rename_i ht;rw[if_pos ht]at h;cases h;rfl
  ·rename_i ht;rw[if_neg ht]at h;rw[WC h]
theorem abG{c:Tmp}{b:Bool}(h:S.opd (.tmp c)=(true,.d (.bool b))):Env.lk S.env c=some (true,.d (.bool b)):=by
 simp only[St.opd]at h;cases hl:Env.lk S.env c with
 |none=>rw[hl]at h;simp at h
 |some x=>rw[hl]at h;simp only[Option.getD_some]at h;rw[h]
theorem denK_condT{c:Tmp}{a b:Code}:aI X f (.cond (.tmp c) a b) S k=if isB (S.opd (.tmp c))=true then (if boolOf (S.opd (.tmp c))=true then aI X f a (S.kn c true) k else aI X f b (S.kn c false) k)else none:=by
 rw[En];generalize hv:S.opd (.tmp c)=v;obtain⟨g,x⟩:=v;cases g with
 |false=>rfl
 |true=>
  cases x with
  |d x=>
   cases x with
   |bool t=>
    have:S.kn c t=S:=by
     unfold St.kn;rw[WC (abG hv)]
    cases t with
    |true=>rw[this];rfl
    |false=>rw[this];rfl
   |_=>rfl
  |_=>rfl
theorem denK_condC{v:Value}{a b:Code}:aI X f (.cond (.const v) a b) S k=if isB (S.opd (.const v))=true then (if boolOf (S.opd (.const v))=true then aI X f a S k else aI X f b S k)else none:=En
theorem denK_region{id:Nat}{l:List Oper}:aI X f (.region id ⟨l⟩ false) S k=runK X (X.md f id) l l S (yf X f id k):=by
 simp only[aI,Jn,runK];rcases fh X (ai X) (X.md f id) l l S with _|⟨e,S⟩
 ·rfl
 ·cases e<;>rfl
noncomputable def yR(X:Ctx)(md:Bool)(nd:List (List Nat))(l:List Oper)(S:St)(k:Kt):List (Nat×Nat)→bP
 |[]=>km X md (verSum S.mem,nd) l l S [] k
 |q::r=>(N9 X (ai X) md nd l S (eV S.mem (q::r))).bind fun p=>k p.1 p.2
theorem denK_draw{id:Nat}{l:List Oper}:aI X f (.region id ⟨l⟩ true) S k=yR X (X.md f id) (X.od f id) l S (yf X f id k) (X.fl f id):=by
 simp only[aI,Rq];cases X.fl f id with
 |nil=>
  simp only[rO,yR,km];rcases ic X (ai X) (X.md f id) (verSum S.mem,X.od f id) l l S []with _|⟨e,S⟩
  ·rfl
  ·cases e<;>rfl
 |cons q r=>
  simp only[rO,yR];rcases N9 X (ai X) (X.md f id) (X.od f id) l S (eV S.mem (q::r))with _|⟨e,S⟩
  ·rfl
  ·cases e<;>rfl
noncomputable def yS(X:Ctx)(md:Bool)(nd:List (List Nat))(LI:List Cl)(all ops:List Oper)(S:St)(acc:List aS)(k:Kt):bP:=(mA X (ai X) md nd LI all ops S acc).bind fun p=>k p.1 p.2
noncomputable def Fl(X:Ctx)(md:Bool)(nd:List (List Nat))(LI:List Cl)(all r:List Oper)(acc:List aS)(k:Kt):Option (St×aS)→bP
 |some (S,p)=>yS X md nd LI all r S (p::acc) k
 |none=>none
theorem drwKA_n{md:Bool}{nd:List (List Nat)}{l:List Oper}:yR X md nd l S k []=km X md (verSum S.mem,nd) l l S [] k:=rfl
noncomputable def Fm(X:Ctx)(md:Bool)(nd:List (List Nat))(l:List Oper)(S:St)(k:Kt):Option (List Cl)→bP
 |some LI=>yS X md nd LI l l S [] k
 |none=>none
theorem Dd{md:Bool}{nd:List (List Nat)}{l:List Oper}{q:Nat×Nat}{r:List (Nat×Nat)}:yR X md nd l S k (q::r)=Fm X md nd l S k (eV S.mem (q::r)):=by
 simp only[yR];cases eV S.mem (q::r)<;>rfl
noncomputable def yT(X:Ctx)(md:Bool)(nd:List (List Nat))(LI:List Cl)(all r:List Oper)(S:St)(o:Oper)(acc:List aS)(k:Kt):Bool→bP
 |true=>if ordD nd acc.reverse=true then runK X md all [o] S k else none
 |false=>Fl X md nd LI all r acc k (mZ X (ai X) md LI all S o (n6 X.P LI S o))
theorem vN{md:Bool}{nd:List (List Nat)}{LI:List Cl}{all r:List Oper}{o:Oper}{acc:List aS}:yS X md nd LI all (o::r) S acc k=yT X md nd LI all r S o acc k (lJ (nd.getD acc.length []) r):=by
 simp only[yS,mA];cases lJ (nd.getD acc.length []) r with
 |true=>
  simp only[GC,yT];split
  ·rfl
  ·rfl
 |false=>
  simp only[yT];rcases mZ X (ai X) md LI all S o (n6 X.P LI S o)with _|⟨S1,p⟩<;>rfl
theorem seqK_n{b:Code}:ye X f b k .normal S=aI X f b S k:=rfl
theorem seqK_x{b:Code}{id:Nat}:ye X f b k (.exit id) S=k (.exit id) S:=rfl
theorem seqK_r{b:Code}:ye X f b k .ret S=k .ret S:=rfl
theorem seqK_p{b:Code}{t:TypeId}{x:D}:ye X f b k (.panic t x) S=k (.panic t x) S:=rfl
theorem blkK_n{id:Nat}:AI id k .normal S=k .normal S:=rfl
theorem blkK_x{id mn:Nat}:AI id k (.exit mn) S=if mn=id then k .normal S else k (.exit mn) S:=rfl
theorem blkK_r{id:Nat}:AI id k .ret S=k .ret S:=rfl
theorem blkK_p{id:Nat}{t:TypeId}{x:D}:AI id k (.panic t x) S=k (.panic t x) S:=rfl
theorem loopK_n{c:Code}:Ca X f c k .normal S=aI X f (.loop c) S k:=rfl
theorem loopK_x{c:Code}{id:Nat}:Ca X f c k (.exit id) S=k (.exit id) S:=rfl
theorem loopK_r{c:Code}:Ca X f c k .ret S=k .ret S:=rfl
theorem loopK_p{c:Code}{t:TypeId}{x:D}:Ca X f c k (.panic t x) S=k (.panic t x) S:=rfl
theorem leaveK_n{id:Nat}:yf X f id k .normal S=k .normal (S.leave X f id):=rfl
theorem leaveK_p{id:Nat}{t:TypeId}{x:D}:yf X f id k (.panic t x) S=k (.panic t x) S:=rfl
theorem finK_n{P:Program}{p:ay}{n0:Nat}{rs:List ResultVar}:AJ P p n0 rs .normal S=finish P p n0 rs S:=rfl
theorem finK_r{P:Program}{p:ay}{n0:Nat}{rs:List ResultVar}:AJ P p n0 rs .ret S=finish P p n0 rs S:=rfl
theorem finK_p{P:Program}{p:ay}{n0:Nat}{rs:List ResultVar}{t:TypeId}{x:D}:AJ P p n0 rs (.panic t x) S=finPanic p n0 t x S:=rfl
end
def gdst(all:List Oper)(o:Oper):Option Nat:=
 match o.guard with
 |some (j,_)=>dstAt all j
 |none=>none
noncomputable def callK(X:Ctx)(md:Bool)(S:St)(d:Option Nat)(all r:List Oper)(k:Kt):Option fH→bP
 |some ⟨.ret x,es,_⟩=>runK X md all r (({S with mem:=putAll S.mem es}:St).put d true x) k
 |some ⟨.panic t x,es,_⟩=>k (.panic t x) {S with mem:=putAll S.mem es}
 |none=>none
def panicK(S:St)(k:Kt):Bool×AV→bP
 |(true,.gJ t d)=>k (.panic t d) S
 |_=>none
noncomputable def specK(X:Ctx)(md:Bool)(S:St)(o:Oper)(all r:List Oper)(k:Kt):Op→bP
 | .call {callee:=.value fv,args,..}=>callK X md S o.dst all r k (callVal X (ai X) S o args.toList (S.opd fv))
 | .panic x=>panicK S k (S.opd x)
 |_=>none
noncomputable def stepK(X:Ctx)(md:Bool)(S:St)(o:Oper)(all r:List Oper)(k:Kt):di→bP
 | .val c x=>if (opOk S o&&c)=true then runK X md all r (S.put o.dst true x) k else none
 | .cW c x e=>if (opOk S o&&c)=true then runK X md all r (({S with mem:=Mem.set S.mem e}:St).put o.dst true x) k else none
 | .no=>specK X md S o all r k o.op
noncomputable def guardK(X:Ctx)(md:Bool)(S:St)(o:Oper)(all r:List Oper)(k:Kt)(b:Bool):di→bP
 | .val c x=>if b=true→(opOk S o&&c)=true then runK X md all r (S.put o.dst b x) k else none
 | .cW c x e=>if b=true then stepK X md S o all r k (.cW c x e)else runK X md all r (S.put o.dst true .aZ) k
 | .no=>if b=true then specK X md S o all r k o.op else runK X md all r (S.put o.dst true .aZ) k
noncomputable def forkK(X:Ctx)(S:St)(o:Oper)(all r:List Oper)(k:Kt)(want t:Bool):Bool→bP
 |false=>guardK X false S o all r k (t == want) (stepv X.P S o)
 |true=>if (t == want)=true then stepK X true (S.cz (gdst all o) want) o all r k (stepv X.P (S.cz (gdst all o) want) o)else runK X true all r ((S.cz (gdst all o) (!want)).put o.dst true (.aU [])) k
noncomputable def grdK(X:Ctx)(md:Bool)(S:St)(o:Oper)(all r:List Oper)(k:Kt)(want:Bool):GV→bP
 | .qE t=>forkK X S o all r k want t md
 | .skip=>runK X md all r (S.put o.dst true (.aU [])) k
 | .bad=>none
section
variable {X:Ctx} {f:FuncId} {S:St} {k:Kt} {all r:List Oper} {md:Bool}
theorem vO(o:Oper)(res:di):(andThen (gQ X (ai X) S o res) (fh X (ai X) md all r)).bind (fun p=>k p.1 p.2)=stepK X md S o all r k res:=by
 cases res with
 |val c x=>simp only[gQ,stepK];split<;>rfl
 |cW c x e=>simp only[gQ,stepK];split<;>rfl
 |no=>
  simp only[gQ,stepK,p9];split
  ·rename_i fv args gV ho;rw[ho];simp only[specK];rcases callVal X (ai X) S o args.toList (S.opd fv)with _|⟨out,es,ks⟩
   ·rfl
   ·cases out<;>rfl
  ·rename_i x ho;rw[ho];simp only[specK];generalize S.opd x=v;obtain⟨g,y⟩:=v;cases g<;>cases y<;>rfl
  ·rename_i h1 h2;unfold specK;split
   ·rename_i heq;exact absurd heq (h1 _ _ _)
   ·rename_i heq;exact absurd heq (h2 _)
   ·rfl
theorem runK_nil:runK X md all [] S k=k .normal S:=rfl
theorem runK_cons{d:Option Tmp}{op:Op}{ty:TypeId}{pos:String}{af:Array Edge}:runK X md all (⟨d,op,ty,pos,af,none⟩::r) S k=stepK X md S ⟨d,op,ty,pos,af,none⟩ all r k (stepv X.P S ⟨d,op,ty,pos,af,none⟩):=
 vO _ _
theorem runK_guard{d:Option Tmp}{op:Op}{ty:TypeId}{pos:String}{af:Array Edge}{j:Nat}{w:Bool}:runK X md all (⟨d,op,ty,pos,af,some (j,w)⟩::r) S k=grdK X md S ⟨d,op,ty,pos,af,some (j,w)⟩ all r k w (nZ (grd all S j)):=by
 simp only[runK,fh,mb];generalize nZ (grd all S j)=g;cases g with
 |skip=>rfl
 |bad=>rfl
 |qE t=>
  simp only[grdK];cases md with
  |true=>
   simp only[forkK,gdst];split
   ·exact vO _ _
   ·rfl
  |false=>
  simp only[forkK];generalize hs:stepv X.P S _=res;cases res with
  |val c x=>simp only[nC,guardK];split<;>rfl
  |cW c x e=>
   simp only[nC,guardK];split
   ·exact vO _ (.cW c x e)
   ·rfl
  |no=>
   simp only[nC,guardK];split
   ·exact vO _ .no
   ·rfl
theorem callK_ite{d:Option Nat}{c:Prop}[Decidable c]{a b:Option fH}:callK X md S d all r k (if c then a else b)=if c then callK X md S d all r k a else callK X md S d all r k b:=by split<;>rfl
end
theorem callBack_ite{m:Mem}{k0:Nat}{ρ B:List Nat}{c:Prop}[Decidable c]{a b:Option (Out×List (Nat×aE))}:callBack m k0 ρ B (if c then a else b)=if c then callBack m k0 ρ B a else callBack m k0 ρ B b:=by split<;>rfl
noncomputable def dcallK(X:Ctx)(md:Bool)(nd:Nat×List (List Nat))(S:St)(d:Option Nat)(all r:List Oper)(acc:List aS)(k:Kt):Option fH→bP
 |some ⟨.ret x,es,ks⟩=>km X md nd all r (({S with mem:=putAll S.mem es}:St).put d true x) (⟨ks,es,true,x⟩::acc) k
 |some ⟨.panic t x,es,ks⟩=>(panE X md nd all r d acc ⟨{S with mem:=putAll S.mem es},t,x,es,ks⟩).bind fun p=>k p.1 p.2
 |none=>none
noncomputable def dspecK(X:Ctx)(md:Bool)(nd:Nat×List (List Nat))(S:St)(o:Oper)(all r:List Oper)(acc:List aS)(k:Kt):Op→bP
 | .call {callee:=.value fv,args,..}=>dcallK X md nd S o.dst all r acc k (callVal X (ai X) S o args.toList (S.opd fv))
 |_=>none
noncomputable def dstepK(X:Ctx)(md:Bool)(nd:Nat×List (List Nat))(S:St)(o:Oper)(all r:List Oper)(acc:List aS)(k:Kt):di→bP
 | .val c x=>if (opOk S o&&c)=true then km X md nd all r (S.put o.dst true x) (⟨touch S o,[],true,x⟩::acc) k else none
 | .cW c x e=>if (opOk S o&&c&&(touch S o).contains e.key)=true then km X md nd all r (({S with mem:=Mem.set S.mem e}:St).put o.dst true x) (⟨touch S o,[e],true,x⟩::acc) k else none
 | .no=>dspecK X md nd S o all r acc k o.op
noncomputable def dcallG(X:Ctx)(md:Bool)(nd:Nat×List (List Nat))(S:St)(d:Option Nat)(all r:List Oper)(acc:List aS)(k:Kt):Option fH→bP
 |some ⟨.ret x,es,ks⟩=>km X md nd all r (({S with mem:=putAll S.mem es}:St).put d true x) (⟨ks,es,true,x⟩::acc) k
 |_=>none
noncomputable def dspecG(X:Ctx)(md:Bool)(nd:Nat×List (List Nat))(S:St)(o:Oper)(all r:List Oper)(acc:List aS)(k:Kt):Op→bP
 | .call {callee:=.value fv,args,..}=>dcallG X md nd S o.dst all r acc k (callVal X (ai X) S o args.toList (S.opd fv))
 |_=>none
noncomputable def dstepG(X:Ctx)(md:Bool)(nd:Nat×List (List Nat))(S:St)(o:Oper)(all r:List Oper)(acc:List aS)(k:Kt):di→bP
 | .val c x=>if (opOk S o&&c)=true then km X md nd all r (S.put o.dst true x) (⟨touch S o,[],true,x⟩::acc) k else none
 | .cW c x e=>if (opOk S o&&c&&(touch S o).contains e.key)=true then km X md nd all r (({S with mem:=Mem.set S.mem e}:St).put o.dst true x) (⟨touch S o,[e],true,x⟩::acc) k else none
 | .no=>dspecG X md nd S o all r acc k o.op
noncomputable def dguardK(X:Ctx)(md:Bool)(nd:Nat×List (List Nat))(S:St)(o:Oper)(all r:List Oper)(acc:List aS)(k:Kt)(b:Bool):di→bP
 | .val c x=>if b=true→(opOk S o&&c)=true then km X md nd all r (S.put o.dst b x) (⟨touch S o,[],b,x⟩::acc) k else none
 | .cW c x e=>if b=true then dstepG X md nd S o all r acc k (.cW c x e)else km X md nd all r (S.put o.dst true .aZ) (⟨[],[],true,.aZ⟩::acc) k
 | .no=>if b=true then dspecG X md nd S o all r acc k o.op else km X md nd all r (S.put o.dst true .aZ) (⟨[],[],true,.aZ⟩::acc) k
noncomputable def dforkK(X:Ctx)(nd:Nat×List (List Nat))(S:St)(o:Oper)(all r:List Oper)(acc:List aS)(k:Kt)(want t:Bool):Bool→bP
 |false=>dguardK X false nd S o all r acc k (t == want) (stepv X.P S o)
 |true=>if (t == want)=true then dstepG X true nd (S.cz (gdst all o) want) o all r acc k (stepv X.P (S.cz (gdst all o) want) o)else km X true nd all r ((S.cz (gdst all o) (!want)).put o.dst true (.aU [])) (⟨[],[],true,.aU []⟩::acc) k
noncomputable def dgrdK(X:Ctx)(md:Bool)(nd:Nat×List (List Nat))(S:St)(o:Oper)(all r:List Oper)(acc:List aS)(k:Kt)(want:Bool):GV→bP
 | .qE t=>dforkK X nd S o all r acc k want t md
 | .skip=>km X md nd all r (S.put o.dst true (.aU [])) (⟨[],[],true,.aU []⟩::acc) k
 | .bad=>none
section
variable {X:Ctx} {f:FuncId} {S:St} {k:Kt} {all r:List Oper} {md:Bool} {nd:Nat×List (List Nat)} {acc:List aS}
theorem qf(o:Oper)(res:di):(vy acc (dstep X (ai X) S o res) (ic X (ai X) md nd all r)).bind (fun p=>k p.1 p.2)=dstepG X md nd S o all r acc k res:=by
 cases res with
 |val c x=>simp only[dstep,dstepG];split<;>rfl
 |cW c x e=>simp only[dstep,dstepG];split<;>rfl
 |no=>
  simp only[dstep,dstepG,kF];split
  ·rename_i fv args gV ho;rw[ho];simp only[dspecG];rcases callVal X (ai X) S o args.toList (S.opd fv)with _|⟨out,es,ks⟩
   ·rfl
   ·cases out<;>rfl
  ·rename_i h1;unfold dspecG;split
   ·rename_i heq;exact absurd heq (h1 _ _ _)
   ·rfl
def revA:List aS→List aS→List aS
 |[],r=>r
 |x::l,r=>revA l (x::r)
theorem yU:∀(l r:List aS),revA l r=l.reverse++r
 |[],_=>rfl
 |x::l,r=>by rw[revA,yU l];simp
theorem yg{nd:List (List Nat)}{LI:List Cl}:yS X md nd LI all [] S acc k=if ordD nd (revA acc [])=true then k .normal S else none:=by
 simp only[yS,mA];rw[yU,List.append_nil];split<;>rfl
theorem aq:km X md nd all [] S acc k=if ordD nd.2 (revA acc [])=true then k .normal S else none:=by
 rw[yU,List.append_nil];simp only[km,ic];split<;>rfl
theorem drwK_cons{d:Option Tmp}{op:Op}{ty:TypeId}{pos:String}{af:Array Edge}:km X md nd all (⟨d,op,ty,pos,af,none⟩::r) S acc k=dstepK X md nd S ⟨d,op,ty,pos,af,none⟩ all r acc k (stepv X.P S ⟨d,op,ty,pos,af,none⟩):=by
 simp only[km,ic,ki];generalize ho:(⟨d,op,ty,pos,af,none⟩:Oper)=o;have hg:o.guard=none:=by subst ho;rfl
 have hd:dU X (ai X) md all S o=dstep X (ai X) S o (stepv X.P S o):=by unfold dU;rw[hg]
 generalize hs:stepv X.P S o=res;rw[hs]at hd;cases res with
 |val c x=>simp only[As,mz,hd,dstepK];exact qf _ (.val c x)
 |cW c x e=>simp only[As,mz,hd,dstepK];exact qf _ (.cW c x e)
 |no=>
  simp only[As,GA,dstepK];split
  ·rename_i fv args gV cS;rw[cS];simp only[dspecK];cases hc:callVal X (ai X) S o args.toList (S.opd fv)with
   |none=>
    simp only[tI,mz,hd,dstep,kF,cS,hc,dcallK];rfl
   |some res=>
    obtain⟨out,es,ks⟩:=res;cases out with
    |ret x=>
     simp only[tI,mz,hd,dstep,kF,cS,hc,dcallK];rfl
    |panic t x=>rfl
  ·rename_i h1;simp only[mz,hd,dstep,kF];unfold dspecK;split
   ·rename_i heq;exact absurd heq (h1 _ _ _)
   ·rfl
theorem drwK_guard{d:Option Tmp}{op:Op}{ty:TypeId}{pos:String}{af:Array Edge}{j:Nat}{w:Bool}:km X md nd all (⟨d,op,ty,pos,af,some (j,w)⟩::r) S acc k=dgrdK X md nd S ⟨d,op,ty,pos,af,some (j,w)⟩ all r acc k w (nZ (grd all S j)):=by
 simp only[km,ic,ki,mz,dU];generalize nZ (grd all S j)=g;cases g with
 |skip=>rfl
 |bad=>rfl
 |qE t=>
  simp only[dgrdK];cases md with
  |true=>
   simp only[dforkK,gdst];split
   ·exact qf _ _
   ·rfl
  |false=>
  simp only[dforkK];generalize hs:stepv X.P S _=res;cases res with
  |val c x=>simp only[qa,dguardK];split<;>rfl
  |cW c x e=>
   simp only[qa,dguardK];split
   ·exact qf _ (.cW c x e)
   ·rfl
  |no=>
   simp only[qa,dguardK];split
   ·exact qf _ .no
   ·rfl
theorem dcallK_ite{d:Option Nat}{c:Prop}[Decidable c]{a b:Option fH}:dcallK X md nd S d all r acc k (if c then a else b)=if c then dcallK X md nd S d all r acc k a else dcallK X md nd S d all r acc k b:=by split<;>rfl
theorem dcallG_ite{d:Option Nat}{c:Prop}[Decidable c]{a b:Option fH}:dcallG X md nd S d all r acc k (if c then a else b)=if c then dcallG X md nd S d all r acc k a else dcallG X md nd S d all r acc k b:=by split<;>rfl
end
def callOk(n:Nat)(p:ay)(args:List AV)(cs:List aE):Bool:=
 decide (args.length≤n)&&decide (cs.length≤100)&&p.sites.all (fun k=>decide (100≤k))&&decide p.sites.Nodup
theorem ax{X:Ctx}{f:FuncId}{fn:Func}{c:Code}{args:List AV}{cs:List aE}{n:Nat}{rs:List ResultVar}{p:ay}(uA:X.ov=none)(rC:X.wJ f=none)(hf:X.P.funcs[f]?=some fn)(hb:fn.body=some c)(iY:vA c=false)(hn:fn.ntmps=n)(lC:fn.results.toList=rs)
 (hp:X.fp f=p) (hs:p.split=false) (cQ:callOk n p args cs=true):ai X f args cs=aI X f c (entry n X.gl args cs p.sites) (AJ X.P p cs.length rs):=by
 subst hp;rw[UC uA rC hf hb iY,hs];simp only[runSplit,B9];subst hn;subst lC;rw[if_pos (by simpa only[callOk]using cQ)];simp only[aI];rcases fR X f c _ with _|⟨e,S⟩
 ·rfl
 ·cases e<;>rfl
end Go.Am
end
