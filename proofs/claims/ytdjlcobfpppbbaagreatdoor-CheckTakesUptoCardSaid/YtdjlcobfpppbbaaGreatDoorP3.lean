/-
  Texts of one proof, one behind the other.
-/
import Derived.Test.YtdjlcobfpppbbaaGreatDoorP2
import Derived.Below
import Derived.Recover
import Derived.Orders
set_option linter.all false
section
namespace Go.Am
open Go
inductive Gh where
 |trim (k:Nat)
 |freeze (k:Nat)
 |adopt (kb j k sz:Nat)
 |rekey (k k2:Nat)
 |opn (k k2:Nat)
 |cls (k k2:Nat)
 |shut (k:Nat)
 |adoptV (kb j k:Nat)
abbrev bz:=FuncId→List AV→List aD→Option (Out×List (Nat×aD))
structure Ctx where
 P:Program
 gl:List (Nat×D)
 oW:FuncId→Nat→List Nat
 gh:FuncId→Nat→List Gh
 md:FuncId→Nat→Bool
 fp:FuncId→aM
 od:FuncId→Nat→List (List Nat)
 zi:FuncId→Option (List AV→Option AV)
 fl:FuncId→Nat→List (Nat×Nat)
 ov:Option bz
def gE (P:Program) (g:FuncId):Bool:=
 match P.funcs[g]? with
 |some fn=>fn.body.isSome&&!(fn.name == "runtime.NumGoroutine")
 |none=>false
mutual
def ptrKeys:AV→List Nat
 | .vec _ _ _ _=>[]
 | .ptr k _ _=>[k]
 | .cG k _ _ _=>[k]
 | .agg cs=>ptrsKeys cs
 | .fn _ cap=>avsKeys cap
 | .aU vs=>ptrsKeys vs
 |_=>[]
def ptrsKeys:List AV→List Nat
 |[]=>[]
 |x::r=>ptrKeys x++ptrsKeys r
end
mutual
def vecKeys:AV→List Nat
 | .vec k _ _ _=>[k]
 | .agg cs=>vecsKeys cs
 | .aU vs=>vecsKeys vs
 |_=>[]
def vecsKeys:List AV→List Nat
 |[]=>[]
 |x::r=>vecKeys x++vecsKeys r
end
def argKeys (mt:List Nat):Nat→List AV→List Nat
 |_,[]=>[]
 |i,x::r=>(match mt.contains i with|true=>avKeys x|false=>ptrKeys x)++argKeys mt (i+1) r
def argBor (mt:List Nat):Nat→List AV→List Nat
 |_,[]=>[]
 |i,x::r=>(match mt.contains i with|true=>[]|false=>vecKeys x)++argBor mt (i+1) r
structure fK where
 out:Out
 es:List cJ
 ks:List Nat
def upO (ρ bs:List Nat):Out→Out
 | .ret x=>.ret (up ρ bs x)
 | .panic t x=>.panic t x
def plainO:Out→Bool
 | .ret x=>plainAV x
 | .panic _ x=>plainD x
def plainL:List (Nat×aD)→Bool
 |[]=>true
 |(_,c)::r=>plainC c&&plainL r
def frOk (m:Mem) (ρ:List Nat):List Nat→Bool
 |[]=>true
 |k::r=>(Mem.get m k).isSome&&!ρ.contains k&&frOk m ρ r
def callBack (m:Mem) (k0:Nat) (ρ B:List Nat):Option (Out×List (Nat×aD))→Option fK
 |some (out,l2)=>
  if (decide (ρ.length≤l2.length)&&frOk m ρ (List.range' (k0+1) (l2.length-ρ.length))&&(B.isEmpty||(plainO out&&plainL l2)))=true then
   some ⟨upO (ρ++List.range' (k0+1) (l2.length-ρ.length)) (base m 0 ρ++base m 1 (List.range' (k0+1) (l2.length-ρ.length))) out,
    backL (ρ++List.range' (k0+1) (l2.length-ρ.length)) (base m 0 ρ++base m 1 (List.range' (k0+1) (l2.length-ρ.length))) 0 l2,ρ++B++List.range' (k0+1) (l2.length-ρ.length)⟩
  else none
 |none=>none
def frzO (n0:Nat) (l2:List (Nat×aD)):Out→Out
 | .ret x=>.ret (vw (mkM 0 l2) (List.range n0) (fun _=>true) (fun _ v=>v) x).norm
 | .panic t x=>.panic t x
def frzR (n0:Nat) (b:Bool):Option (Out×List (Nat×aD))→Option (Out×List (Nat×aD))
 |some (out,l2)=>if (b&&decide (n0<l2.length))=true then some (frzO n0 l2 out,selL (mkM 0 l2) (List.range n0) (fun _=>true) (fun _ v=>v) 0 (List.range n0))else some (out,l2)
 |none=>none
def vwArgs (rw:Bool) (m:Mem) (ρ B:List Nat):List AV→List AV
 |[]=>[]
 |y::r=>nrm rw (vw m ρ (fun k=>B.contains k) nv0 y)::vwArgs rw m ρ B r
def conts:List (Nat×aD)→List aD
 |[]=>[]
 |(_,c)::r=>c::conts r
def callOp3 (cl:bz) (m:Mem) (k0:Nat) (g:FuncId) (ys:List AV) (rw:Bool) (ρ B:List Nat):Option fK:=
 callBack m k0 ρ B (frzR ρ.length (Mem.get m (k0+1)).isNone (cl g (vwArgs rw m ρ B ys) (conts (selL m ρ (fun k=>B.contains k) nv0 0 ρ))))
def callOp2 (cl:bz) (m:Mem) (k0:Nat) (g:FuncId) (ys:List AV) (mt ρ:List Nat):Option fK:=
 callOp3 cl m k0 g ys (mt.contains 1000) ρ ((argBor mt 0 ys).filter fun k=>!ρ.contains k)
def callOp (cl:bz) (m:Mem) (k0:Nat) (g:FuncId) (ys:List AV) (mt:List Nat):Option fK:=
 callOp2 cl m k0 g ys mt (collect m 64 (argKeys mt 0 ys) [])
def dh (S:St) (d:Option Nat):Option fK→Option (XE×St)
 |some ⟨.ret x,es,_⟩=>some (.normal,({S with mem:=putAll S.mem es}:St).put d true x)
 |some ⟨.panic t x,es,_⟩=>some (.panic t x,{S with mem:=putAll S.mem es})
 |none=>none
def argVals (S:St):List Operand→List AV
 |[]=>[]
 |x::r=>(S.opd x).2::argVals S r
def fnIdN (n g:Nat):FuncId:=
 match decide (n≤g)with
 |true=>g-n
 |false=>g
def fnId (g:FuncId):FuncId:=fnIdN bnB g
def fnArgsN (n g:Nat) (ys da:List AV):List AV:=
 match decide (n≤g)with
 |true=>da++ys
 |false=>ys++da
def fnArgs (g:FuncId) (ys da:List AV):List AV:=fnArgsN bnB g ys da
def callVal (X:Ctx) (cl:bz) (S:St) (o:Oper) (args:List Operand):Bool×AV→Option fK
 |(true,.fn g da)=>if okAll S args=true then callOp cl S.mem (keyOf o) (fnId g) (fnArgs g (argVals S args) da) (X.fp (fnId g)).uO else none
 |_=>none
def zR (S:St):Bool×AV→Option (XE×St)
 |(true,.gM t d)=>some (.panic t d,S)
 |_=>none
def p6 (X:Ctx) (cl:bz) (S:St) (o:Oper):Option (XE×St):=
 match o.op with
 | .call {callee:=.value fv,args,..}=>dh S o.dst (callVal X cl S o args.toList (S.opd fv))
 | .panic x=>zR S (S.opd x)
 |_=>none
def gR (X:Ctx) (cl:bz) (S:St) (o:Oper):dj→Option (XE×St)
 | .val c x=>if (opOk S o&&c)=true then some (.normal,S.put o.dst true x)else none
 | .cW c x e=>if (opOk S o&&c)=true then some (.normal,({S with mem:=Mem.set S.mem e}:St).put o.dst true x)else none
 | .no=>p6 X cl S o
def nz (X:Ctx) (cl:bz) (S:St) (o:Oper) (b:Bool):dj→Option (XE×St)
 | .val c x=>if b=true→(opOk S o&&c)=true then some (.normal,S.put o.dst b x)else none
 |r=>if b=true then gR X cl S o r else some (.normal,S.put o.dst true .aW)
def St.cz (S:St) (d:Option Nat) (b:Bool):St:=S.put d true (.d (.bool b))
def dstAt (all:List Oper) (j:Nat):Option Nat:=
 match all[j]? with
 |some o=>o.dst
 |none=>none
inductive GV where
 |qA (t:Bool)
 |skip
 |bad
def Yc:D→GV
 | .bool t=>.qA t
 |_=>.bad
def Yd:List AV→GV
 |[]=>.skip
 |_::_=>.bad
def OD:AV→GV
 | .d x=>Yc x
 | .aU vs=>Yd vs
 |_=>.bad
def nY:Option (Bool×AV)→GV
 |some (true,x)=>OD x
 |_=>.bad
theorem FD {x:Option (Bool×AV)} {t:Bool} (h:nY x=.qA t):x=some (true,.d (.bool t)):=by
 rcases x with _|⟨g,y⟩
 ·cases h
 ·cases g
  ·cases h
  ·cases y with
   |d y=>cases y<;>simp_all [nY,OD,Yc]
   |aU vs=>cases vs<;>simp_all [nY,OD,Yd]
   |_=>cases h
theorem Dj {x:Option (Bool×AV)} (h:nY x=.skip):x=some (true,.aU []):=by
 rcases x with _|⟨g,y⟩
 ·cases h
 ·cases g
  ·cases h
  ·cases y with
   |d y=>cases y<;>simp_all [nY,OD,Yc]
   |aU vs=>cases vs<;>simp_all [nY,OD,Yd]
   |_=>cases h
def mj (X:Ctx) (cl:bz) (md:Bool) (all:List Oper) (S:St) (o:Oper):Option (XE×St):=
 match o.guard with
 |none=>gR X cl S o (stepv X.P S o)
 |some (j,want)=>match nY (grd all S j)with
  | .qA t=>match md with
   |false=>nz X cl S o (t == want) (stepv X.P S o)
   |true=>if (t == want)=true then gR X cl (S.cz (dstAt all j) want) o (stepv X.P (S.cz (dstAt all j) want) o)else some (.normal,(S.cz (dstAt all j) (!want)).put o.dst true (.aU []))
  | .skip=>some (.normal,S.put o.dst true (.aU []))
  | .bad=>none
def andThen (r:Option (XE×St)) (k:St→Option (XE×St)):Option (XE×St):=
 match r with
 |some (.normal,S)=>k S
 |r=>r
def gi (X:Ctx) (cl:bz) (md:Bool) (all:List Oper):List Oper→St→Option (XE×St)
 |[],S=>some (.normal,S)
 |o::r,S=>andThen (mj X cl md all S o) (gi X cl md all r)
def pE (S:St) (o:Oper):Option fK→Option (St×aR)
 |some ⟨.ret x,es,ks⟩=>some ((⟨ks,es,true,x⟩:aR).app o S,⟨ks,es,true,x⟩)
 |_=>none
def kE (X:Ctx) (cl:bz) (S:St) (o:Oper):Option (St×aR):=
 match o.op with
 | .call {callee:=.value fv,args,..}=>pE S o (callVal X cl S o args.toList (S.opd fv))
 |_=>none
def dstep (X:Ctx) (cl:bz) (S:St) (o:Oper):dj→Option (St×aR)
 | .val c x=>if (opOk S o&&c)=true then some (S.put o.dst true x,⟨touch S o,[],true,x⟩)else none
 | .cW c x e=>if (opOk S o&&c&&(touch S o).contains e.key)=true then some (({S with mem:=Mem.set S.mem e}:St).put o.dst true x,⟨touch S o,[e],true,x⟩)else none
 | .no=>kE X cl S o
def p7 (X:Ctx) (cl:bz) (S:St) (o:Oper) (b:Bool):dj→Option (St×aR)
 | .val c x=>if b=true→(opOk S o&&c)=true then some (S.put o.dst b x,⟨touch S o,[],b,x⟩)else none
 |r=>if b=true then dstep X cl S o r else some (S.put o.dst true .aW,⟨[],[],true,.aW⟩)
def dX (X:Ctx) (cl:bz) (md:Bool) (all:List Oper) (S:St) (o:Oper):Option (St×aR):=
 match o.guard with
 |none=>dstep X cl S o (stepv X.P S o)
 |some (j,want)=>match nY (grd all S j)with
  | .qA t=>match md with
   |false=>p7 X cl S o (t == want) (stepv X.P S o)
   |true=>if (t == want)=true then dstep X cl (S.cz (dstAt all j) want) o (stepv X.P (S.cz (dstAt all j) want) o)else some ((S.cz (dstAt all j) (!want)).put o.dst true (.aU []),⟨[],[],true,.aU []⟩)
  | .skip=>some (S.put o.dst true (.aU []),⟨[],[],true,.aU []⟩)
  | .bad=>none
def uR (acc:List aR) (r:Option (St×aR)) (k:St→List aR→Option (XE×St)):Option (XE×St):=
 match r with
 |some (S,p)=>k S (p::acc)
 |none=>none
structure FE where
 S:St
 t:TypeId
 x:D
 es:List cJ
 ks:List Nat
def th (S:St):Option fK→Option FE
 |some ⟨.panic t x,es,ks⟩=>some ⟨{S with mem:=putAll S.mem es},t,x,es,ks⟩
 |_=>none
def FG (X:Ctx) (cl:bz) (S:St) (o:Oper):Option FE:=
 match o.op with
 | .call {callee:=.value fv,args,..}=>th S (callVal X cl S o args.toList (S.opd fv))
 |_=>none
def zS (X:Ctx) (cl:bz) (S:St) (o:Oper):dj→Option FE
 | .no=>FG X cl S o
 |_=>none
def ki (X:Ctx) (cl:bz) (S:St) (o:Oper):Option FE:=
 match o.guard with
 |none=>zS X cl S o (stepv X.P S o)
 |some _=>none
def qn (X:Ctx) (md:Bool) (all:List Oper) (js:List Nat):Nat→List Oper→St→List aR→Option (List aR)
 |_,[],_,acc=>some acc.reverse
 |i,o::r,S,acc=>match js.contains i with
  |true=>match dX X (fun _ _ _=>none) md all S o with
   |some (S1,p)=>qn X md all js (i+1) r S1 (p::acc)
   |none=>none
  |false=>qn X md all js (i+1) r (S.put o.dst false .aW) (⟨[],[],false,.aW⟩::acc)
def pEnd (nd:Nat×List (List Nat)) (js:List Nat) (t:TypeId) (x:D) (S:St):Option (List aR)→Option (XE×St)
 |some ps=>if (ordD nd.2 ps&&farJ ps js)=true then some (.panic t x,S.kill (nd.1+verSums ps+1))else none
 |none=>none
def panE (X:Ctx) (md:Bool) (nd:Nat×List (List Nat)) (all r:List Oper) (d:Option Nat) (acc:List aR) (q:FE):Option (XE×St):=
 pEnd nd (nd.2.getD acc.length []) q.t q.x q.S (qn X md all (nd.2.getD acc.length []) (acc.length+1) r (q.S.put d true .aW) (⟨q.ks,q.es,true,.aW⟩::acc))
def mE (X:Ctx) (cl:bz) (md:Bool) (nd:Nat×List (List Nat)) (all r:List Oper) (S:St) (o:Oper) (acc:List aR) (k:St→List aR→Option (XE×St)):Option FE→Option (XE×St)
 |some q=>panE X md nd all r o.dst acc q
 |none=>uR acc (dX X cl md all S o) k
def gS (X:Ctx) (cl:bz) (md:Bool) (nd:Nat×List (List Nat)) (all:List Oper):List Oper→St→List aR→Option (XE×St)
 |[],S,acc=>if ordD nd.2 acc.reverse=true then some (.normal,S)else none
 |o::r,S,acc=>mE X cl md nd all r S o acc (gS X cl md nd all r) (ki X cl S o)
structure Cl where
 k:Nat
 v:Nat
 j:Nat
 x:AV
 vv:Bool
def FH:AV→AV→Bool
 | .vec a b c d,.vec a' b' c' d'=>decide (a=a')&&decide (b=b')&&decide (c=c')&&decide (d=d')
 | .ptr a b c,.ptr a' b' c'=>decide (a=a')&&decide (b=b')&&decide (c=c')
 | .d (.int k n),.d (.int k' n')=>decide (k=k')&&decide (n=n')
 | .d (.bool b),.d (.bool b')=>decide (b=b')
 |_,_=>false
def eZ (m:Mem):List (Nat×Nat)→Option (List Cl)
 |[]=>some []
 |(k,j)::r=>match Mem.get m k,eZ m r with
  |some ⟨_,v,.box cs⟩,some l=>match cs[j]? with
   |some x=>some (⟨k,v,j,x,false⟩::l)
   |none=>none
  |some ⟨_,v,.vv rows (some x)⟩,some l=>some (⟨k,v,rows.length,x,true⟩::l)
  |_,_=>none
def OE (q:Cl):Option AV→Bool
 |some x=>FH x q.x
 |none=>false
def IN (q:Cl) (v:Nat):aD→Bool
 | .box cs=>!q.vv&&decide (v=q.v)&&OE q cs[q.j]?
 | .vv rows (some x)=>q.vv&&decide (v=q.v)&&decide (rows.length=q.j)&&FH x q.x
 |_=>false
def zT (e:cJ):List Cl→Bool
 |[]=>true
 |q::r=>(match decide (e.key=q.k)with|true=>IN q e.aj e.cont|false=>true)&&zT e r
def sr (LI:List Cl):List cJ→Bool
 |[]=>true
 |e::r=>zT e LI&&sr LI r
def qO (b:Bool) (k v j:Nat):List Cl→Option AV
 |[]=>none
 |q::r=>match decide (b=q.vv)&&decide (k=q.k)&&decide (v=q.v)&&decide (j=q.j)with|true=>some q.x|false=>qO b k v j r
def tj (b:Bool) (k v:Nat):List Cl→Bool
 |[]=>false
 |q::r=>match decide (b=q.vv)&&decide (k=q.k)&&decide (v=q.v)with|true=>true|false=>tj b k v r
def Bc (P:Program) (LI:List Cl) (t:TypeId):Bool×AV→Option AV
 |(true,.ptr k v off)=>match (tk P t).agg,decide (tk P t=.other)with
  |false,false=>qO false k v off LI
  |_,_=>none
 |(true,.cG k v i j)=>match (tk P t).agg,decide (tk P t=.other),decide (j=0)with
  |false,false,true=>qO true k v i LI
  |_,_,_=>none
 |_=>none
def Be (LI:List Cl):Option Nat→Bool×AV→Option AV
 |some n,(true,.ptr k v off)=>match tj false k v LI with|true=>some (.ptr k v (off+n))|false=>none
 |_,_=>none
def Bf (LI:List Cl):Bool×AV→Option AV
 |(true,.ptr k v off)=>match tj false k v LI with|true=>some (.ptr k v off)|false=>none
 |_=>none
def Bg (P:Program) (LI:List Cl):TK→Bool×AV→Bool×AV→Option AV
 | .slice e,(true,.vec k v off len),(true,.d (.int _ n))=>match decide (fm P e=some 1),tj true k v LI,decide (0≤n),decide (n.toNat<len)with
  |true,true,true,true=>some (.cG k v (off+n.toNat) 0)
  |_,_,_,_=>none
 |_,_,_=>none
def qP (P:Program) (LI:List Cl) (S:St):Op→Option AV
 | .load t x=>Bc P LI t (S.opd x)
 | .fieldAddr s x f=>Be LI (uE P s f) (S.opd x)
 | .nilCheck x=>Bf LI (S.opd x)
 | .indexAddr t x i=>Bg P LI (tk P t) (S.opd x) (S.opd i)
 |_=>none
def nZ (P:Program) (LI:List Cl) (S:St) (o:Oper):Option AV:=
 match o.guard with
 |none=>qP P LI S o.op
 |some _=>none
def Ck (LI:List Cl):Option (St×aR)→Option (St×aR)
 |some (S,p)=>if sr LI p.es=true then some (S,p)else none
 |none=>none
def m5 (X:Ctx) (cl:bz) (md:Bool) (LI:List Cl) (all:List Oper) (S:St) (o:Oper):Option AV→Option (St×aR)
 |some x=>some (S.put o.dst true x,⟨[],[],true,x⟩)
 |none=>Ck LI (dX X cl md all S o)
def lO:List Nat→List Oper→Bool
 |[],[]=>true
 |_,_=>false
def FI (X:Ctx) (cl:bz) (md:Bool) (nd:List (List Nat)) (all:List Oper) (S:St) (o:Oper) (acc:List aR):Option (XE×St):=
 if ordD nd acc.reverse=true then gi X cl md all [o] S else none
def mF (X:Ctx) (cl:bz) (md:Bool) (nd:List (List Nat)) (LI:List Cl) (all:List Oper):List Oper→St→List aR→Option (XE×St)
 |[],S,acc=>if ordD nd acc.reverse=true then some (.normal,S)else none
 |o::r,S,acc=>match lO (nd.getD acc.length []) r with
  |true=>FI X cl md nd all S o acc
  |false=>uR acc (m5 X cl md LI all S o (nZ X.P LI S o)) (mF X cl md nd LI all r)
def LJ (X:Ctx) (cl:bz) (md:Bool) (nd:List (List Nat)) (all:List Oper) (S:St):Option (List Cl)→Option (XE×St)
 |some LI=>mF X cl md nd LI all all S []
 |none=>none
def rE (X:Ctx) (cl:bz) (md:Bool) (nd:List (List Nat)) (all:List Oper) (S:St):List (Nat×Nat)→Option (XE×St)
 |[]=>gS X cl md (verSum S.mem,nd) all all S []
 |q::r=>LJ X cl md nd all S (eZ S.mem (q::r))
def St.adopt (S:St) (kb j k sz:Nat):St:=
 match Mem.get S.mem kb,Mem.get S.mem k with
 |some ⟨_,vb,.box cs⟩,some ⟨_,v,_⟩=>match cs[j]? with
  |some (.lit (.slice none 0 0))=>if kb=k then S else {S with mem:=Mem.set (Mem.set S.mem ⟨k,v+1,.vec sz []⟩) ⟨kb,vb,.box (cs.set j (.vec k (v+1) 0 0))⟩}
  |_=>S
 |_,_=>S
def rkAV (k v k2 v2:Nat):AV→AV
 | .vec k0 v0 o l=>if k0=k∧v0=v then .vec k2 v2 o l else .vec k0 v0 o l
 |x=>x
def mapB (τ:AV→AV):Mem→Mem
 |[]=>[]
 |e::r=>⟨e.key,e.aj,mapC τ e.cont⟩::mapB τ r
def St.rekey (S:St) (k k2:Nat):St:=
 match Mem.get S.mem k,Mem.get S.mem k2 with
 |some ⟨_,v,.vec sz rows⟩,some ⟨_,v2,_⟩=>if k=k2 then S else {S with env:=mapEnv (rkAV k v k2 (v2+1)) S.env,mem:=Mem.set (Mem.set (mapB (rkAV k v k2 (v2+1)) S.mem) ⟨k,v+1,.dead⟩) ⟨k2,v2+1,.vec sz rows⟩}
 |_,_=>S
def St.opn (S:St) (k k2:Nat):St:=
 match Mem.get S.mem k,Mem.get S.mem k2 with
 |some ⟨_,v,.vv rows none⟩,some ⟨_,v2,_⟩=>match rows.getLast? with
  |some xs=>if k=k2 then S else {S with mem:=Mem.set (Mem.set S.mem ⟨k,v,.vv rows.dropLast (some (.vec k2 (v2+1) 0 xs.length))⟩) ⟨k2,v2+1,.vec 1 xs⟩}
  |none=>S
 |_,_=>S
def St.cls (S:St) (k k2:Nat):St:=
 match Mem.get S.mem k,Mem.get S.mem k2 with
 |some ⟨_,v,.vv rows (some (.vec k3 v3 0 len))⟩,some ⟨_,v2,.vec 1 xs⟩=>if k=k2 then S else if k3=k2∧v3=v2∧len=xs.length then {S with mem:=Mem.set (Mem.set S.mem ⟨k,v,.vv (rows++[xs]) none⟩) ⟨k2,v2+1,.dead⟩} else S
 |_,_=>S
def St.shut (S:St) (k:Nat):St:=
 match Mem.get S.mem k with
 |some ⟨_,v,.vv rows (some _)⟩=>{S with mem:=Mem.set S.mem ⟨k,v,.vv rows none⟩}
 |_=>S
def St.adoptV (S:St) (kb j k:Nat):St:=
 match Mem.get S.mem kb,Mem.get S.mem k with
 |some ⟨_,vb,.box cs⟩,some ⟨_,v,_⟩=>match cs[j]? with
  |some (.lit (.slice none 0 0))=>if kb=k then S else {S with mem:=Mem.set (Mem.set S.mem ⟨kb,vb,.box (cs.set j (.vec k (v+1) 0 0))⟩) ⟨k,v+1,.vv [] none⟩}
  |_=>S
 |_,_=>S
def Gh.go (S:St):Gh→St
 | .opn k k2=>S.opn k k2
 | .cls k k2=>S.cls k k2
 | .shut k=>S.shut k
 | .adoptV kb j k=>S.adoptV kb j k
 | .trim k=>S.trim1 k
 | .freeze k=>S.freeze k
 | .adopt kb j k sz=>S.adopt kb j k sz
 | .rekey k k2=>S.rekey k k2
def ghs (S:St):List Gh→St
 |[]=>S
 |g::r=>ghs (g.go S) r
def uS (k:St→St):Option (XE×St)→Option (XE×St)
 |some (.normal,S)=>some (.normal,k S)
 |r=>r
def Bh (id:Nat):Option (XE×St)→Option (XE×St)
 |some (.exit mw,S)=>if mw=id then some (.normal,S)else some (.exit mw,S)
 |r=>r
def iter (f:St→Option (XE×St)):Nat→St→Option (XE×St)
 |0,_=>none
 |n+1,S=>andThen (f S) (iter f n)
def Bi (a b:Option (XE×St)):Bool×AV→Option (XE×St)
 |(true,.d (.bool t))=>if t=true then a else b
 |_=>none
def St.leave (X:Ctx) (f:FuncId) (id:Nat) (S:St):St:=ghs (S.prune (X.oW f id)) (X.gh f id)
def den (X:Ctx) (f:FuncId) (cl:bz) (n:Nat):Code→St→Option (XE×St)
 | .skip,S=>some (.normal,S)
 | .region id ops draw,S=>match draw with
  |false=>uS (St.leave X f id) (gi X cl (X.md f id) ops.toList ops.toList S)
  |true=>uS (St.leave X f id) (rE X cl (X.md f id) (X.od f id) ops.toList S (X.fl f id))
 | .seq a b,S=>andThen (den X f cl n a S) (den X f cl n b)
 | .cond c a b,S=>Bi (den X f cl n a S) (den X f cl n b S) (S.opd c)
 | .block id c,S=>Bh id (den X f cl n c S)
 | .loop c,S=>iter (den X f cl n c) n S
 | .exit id,S=>some (.exit id,ghs S (X.gh f (id+1000000)))
 | .ret,S=>some (.ret,S)
 |_,_=>none
def fin (P:Program) (p:aM) (n0:Nat) (rs:List ResultVar):Option (XE×St)→Option (Out×List (Nat×aD))
 |some (.normal,S)=>finish P p n0 rs S
 |some (.ret,S)=>finish P p n0 rs S
 |some (.panic t x,S)=>finPanic p n0 t x S
 |_=>none
def pF (X:Ctx) (f:FuncId) (cl:bz) (n:Nat) (fn:Func) (c:Code) (args:List AV) (cs:List aD):Option (Out×List (Nat×aD)):=
 if (decide (args.length≤fn.ntmps)&&decide (cs.length≤100)&&(X.fp f).sites.all (fun k=>decide (100≤k))&&decide (X.fp f).sites.Nodup)=true then
  fin X.P (X.fp f) cs.length fn.results.toList (den X f cl n c (entry fn.ntmps X.gl args cs (X.fp f).sites))
 else none
def emptyVec:Option (Out×List (Nat×aD))→Option Nat
 |some (.ret (.vec 0 0 0 0),[(0,.vec sz [])])=>some sz
 |_=>none
def splitRun (r1 r2:Option (Out×List (Nat×aD))):Option (Out×List (Nat×aD)):=
 match emptyVec r1,emptyVec r2 with
 |some a,some b=>if a=b then r1 else none
 |_,_=>none
def runSplit (run:List AV→Option (Out×List (Nat×aD))) (args:List AV):Bool→Option (Out×List (Nat×aD))
 |true=>match args with
  | .d (.list [])::r=>splitRun (run (.lit (.slice none 0 0)::r)) (run (.nn::r))
  |args=>run args
 |false=>run args
def orcAns (h:List AV→Option AV) (args:List AV):List aD→Option (Out×List (Nat×aD))
 |[]=>match h args with
  |some d=>some (.ret d,[])
  |none=>none
 |_::_=>none
def liftO (h:List D→Option D) (args:List AV):Option AV:=match gp args with
 |some ds=>(h ds).map .d
 |none=>none
abbrev DF:=FuncId×List AV
def dfv (S:St) (args:List Operand):Bool×AV→Option DF
 |(true,.fn g da)=>if (okAll S args&&decide (g<bnB))=true then some (g,argVals S args++da)else none
 |_=>none
def nA (S:St) (o:Oper):Option DF:=
 match o.guard,o.op with
 |none,.defer {callee:=.value fv,args,..}=>dfv S args.toList (S.opd fv)
 |_,_=>none
def V5 (o:Oper):Bool:=
 match o.op with
 | .defer _=>true
 |_=>false
abbrev XD:=Option (XE×St×List DF)
def En (k:St→XD) (ds:List DF):Option (XE×St)→XD
 |some (.normal,S)=>k S
 |some (e,S)=>some (e,S,ds)
 |none=>none
def fE (X:Ctx) (cl:bz) (md:Bool) (all:List Oper):List Oper→St→List DF→XD
 |[],S,ds=>some (.normal,S,ds)
 |o::r,S,ds=>match nA S o with
  |some d=>fE X cl md all r (S.put o.dst true .aW) (d::ds)
  |none=>En (fun S1=>fE X cl md all r S1 ds) ds (mj X cl md all S o)
def Bj (ops:List Oper):Bool:=ops.any V5
def xd (k:St→St):XD→XD
 |some (.normal,S,ds)=>some (.normal,k S,ds)
 |r=>r
def uT (ds:List DF):Option (XE×St)→XD
 |some (e,S)=>some (e,S,ds)
 |none=>none
def FJ (k:St→List DF→XD):XD→XD
 |some (.normal,S,ds)=>k S ds
 |r=>r
def iM (X:Ctx) (f:FuncId) (cl:bz) (n:Nat):Code→St→List DF→XD
 | .seq a b,S,ds=>FJ (iM X f cl n b) (iM X f cl n a S ds)
 | .region id ops draw,S,ds=>match !draw&&Bj ops.toList with
  |true=>xd (St.leave X f id) (fE X cl (X.md f id) ops.toList ops.toList S ds)
  |false=>uT ds (den X f cl n (.region id ops draw) S)
 |c,S,ds=>uT ds (den X f cl n c S)
def xe (o:Oper):Bool:=
 match o.guard,o.op with
 |none,.call {callee:=.builtin .recover,args,..}=>args.toList.isEmpty
 |_,_=>false
def pa (X:Ctx) (f:FuncId) (cl:bz) (n:Nat) (rv:AV):Code→St→Option (XE×St)
 | .seq a b,S=>andThen (pa X f cl n rv a S) (den X f cl n b)
 | .region id ops draw,S=>match draw,ops.toList with
  |false,o::r=>if xe o=true then uS (St.leave X f id) (gi X cl (X.md f id) (o::r) r (S.put o.dst true rv))else none
  |_,_=>none
 |_,_=>none
def R4 (P:Program) (p:aM) (n0:Nat) (rs:List ResultVar):Option (XE×St)→Option (Out×List (Nat×aD))
 |some (.normal,S)=>finish P p n0 rs S
 |some (.ret,S)=>finish P p n0 rs S
 |_=>none
def xf (X:Ctx) (f:FuncId) (cl:bz) (n:Nat) (fn:Func) (c:Code) (args:List AV) (cs:List aD):Option (Out×List (Nat×aD)):=
 match args.getLast? with
 |some rv=>if (decide (args.dropLast.length≤fn.ntmps)&&decide (cs.length≤100)&&(X.fp f).sites.all (fun k=>decide (100≤k))&&decide (X.fp f).sites.Nodup)=true then
  R4 X.P (X.fp f) cs.length fn.results.toList (pa X f cl n rv c (entry fn.ntmps X.gl args.dropLast cs (X.fp f).sites))
  else none
 |none=>none
def recA:XE→Option AV
 | .normal=>some (.lit .nilIface)
 | .ret=>some (.lit .nilIface)
 | .panic t x=>some (.gM t x)
 | .exit _=>none
def memC (S:St):Option fK→Option St
 |some ⟨.ret _,es,_⟩=>some {S with mem:=putAll S.mem es}
 |_=>none
def finM (X:Ctx) (p:aM) (n0:Nat) (rs:List ResultVar):Option St→Option (Out×List (Nat×aD))
 |some S=>finish X.P p n0 rs S
 |none=>none
def finD1 (X:Ctx) (p:aM) (n0:Nat) (rs:List ResultVar) (ss:bz) (S:St) (d:DF):Option AV→Option (Out×List (Nat×aD))
 |some rv=>finM X p n0 rs (memC S (callOp ss S.mem 0 d.1 (d.2++[rv]) (X.fp d.1).uO))
 |none=>none
def zU (X:Ctx) (p:aM) (n0:Nat) (rs:List ResultVar) (ss:bz):XD→Option (Out×List (Nat×aD))
 |some (e,S,[])=>fin X.P p n0 rs (some (e,S))
 |some (e,S,[d])=>finD1 X p n0 rs ss S d (recA e)
 |_=>none
def xg (X:Ctx) (f:FuncId) (cl ss:bz) (n:Nat) (fn:Func) (c:Code) (args:List AV) (cs:List aD):Option (Out×List (Nat×aD)):=
 if (decide (args.length≤fn.ntmps)&&decide (cs.length≤100)&&(X.fp f).sites.all (fun k=>decide (100≤k))&&decide (X.fp f).sites.Nodup)=true then
  zU X (X.fp f) cs.length fn.results.toList ss (iM X f cl n c (entry fn.ntmps X.gl args cs (X.fp f).sites) [])
 else none
def xh:Code→Bool
 | .seq a b=>xh a||xh b
 | .region _ ops _=>Bj ops.toList
 |_=>false
def uU (X:Ctx) (n:Nat) (cl:bz):bz:=fun g args cs=>
 match X.P.funcs[g]? with
 |some fn=>match fn.body with
  |some c=>xf X g cl n fn c args cs
  |none=>none
 |none=>none
def yi (X:Ctx) (f:FuncId) (cl:bz) (n:Nat) (fn:Func) (c:Code) (args:List AV) (cs:List aD):Bool→Option (Out×List (Nat×aD))
 |true=>xg X f cl (uU X n cl) n fn c args cs
 |false=>runSplit (fun args=>pF X f cl n fn c args cs) args (X.fp f).split
def aO (X:Ctx):Nat→bz
 |0,_,_,_=>none
 |n+1,f,args,cs=>match X.ov with
  |some cl=>cl f args cs
  |none=>match X.zi f with
   |some h=>orcAns h args cs
   |none=>match X.P.funcs[f]? with
    |some fn=>match fn.body with
     |some c=>yi X f (aO X n) n fn c args cs (xh c)
     |none=>none
    |none=>none
def jg (X:Ctx) (cl:bz):Prop:=∀g args cs out l,cl g args cs=some (out,l)→
 gE X.P g=true∧Ev X.P X.gl g args (inM 0 cs) fun o m=>o=out∧m=mkM 0 l
theorem rF {P:Program} {g:FuncId} {vs:Array Value} {w:World} (h:gE P g=true):(callFunc g vs).run P w=.ok (.enter g vs) w:=by
 unfold gE at h;split at h
 ·rename_i fn hf;simp only[Bool.and_eq_true,Bool.not_eq_true']at h;have h1:fn.body.isNone=false:=by
   have:=h.1;cases hb:fn.body<;>simp_all
  have h2:fn.name≠ "runtime.NumGoroutine" :=by simpa using h.2
  have h3:fn.body≠none:=by intro hb;simp[hb]at h1
  simp[callFunc,hf,h2,h3]
 ·cases h
theorem get_none {m:Mem} {k:Nat}:Mem.get m k=none↔k∉m.map (·.key):=by
 induction m with
 |nil=>simp[Mem.get]
 |cons e r ih=>
  simp only[Mem.get,List.map_cons,List.mem_cons,not_or];split
  ·rename_i h;simp[h]
  ·rename_i h;rw[ih];constructor
   ·exact fun hh=>⟨fun he=>h he.symm,hh⟩
   ·exact fun hh=>hh.2
theorem tt {m m':Mem} (hk:m'.map (·.key)=m.map (·.key)) (k:Nat):(Mem.get m' k).isNone=(Mem.get m k).isNone:=by
 have:=get_none (m:=m) (k:=k);have h2:=get_none (m:=m') (k:=k);rw[hk,←this]at h2;cases h:Mem.get m k<;>cases h':Mem.get m' k<;>simp_all
theorem tu (m:Mem):∀(n:Nat) (todo acc:List Nat),∀k∈acc,k∈collect m n todo acc
 |0,todo,acc,k,h=>h
 |n+1,[],acc,k,h=>h
 |n+1,t::todo,acc,k,h=>by
  simp only[collect];split
  ·exact tu m n todo acc k h
  ·exact tu m n _ _ k (List.mem_append_left _ h)
theorem tv {m m':Mem} (hk:m'.map (·.key)=m.map (·.key)):∀(n:Nat) (todo acc:List Nat),(∀k∈collect m n todo acc,Mem.get m' k=Mem.get m k)→collect m' n todo acc=collect m n todo acc
 |0,todo,acc,_=>rfl
 |n+1,[],acc,_=>rfl
 |n+1,t::todo,acc,h=>by
  simp only[collect,tt hk t]at h⊢;split
  ·rename_i hc;rw[hc]at h;exact tv hk n todo acc h
  ·rename_i hc;rw[hc]at h;have e:Mem.get m' t=Mem.get m t:=h t (tu m n _ _ t (by simp));rw[e];exact tv hk n _ _ h
mutual
theorem FK {m m':Mem} {ρ:List Nat} {bor:Nat→Bool} {nv:Nat→Nat→Nat} (hk:m'.map (·.key)=m.map (·.key)) (h:∀k,(k∈ρ∨bor k=true)→Mem.get m' k=Mem.get m k):∀y:AV,vw m' ρ bor nv y=vw m ρ bor nv y
 | .ptr k aj off=>by
  by_cases zj:k∈ρ
  ·simp only[vw,h k (.inl zj)]
  ·have h0:∀m0:Mem,vw m0 ρ bor nv (.ptr k aj off)=.aW:=by
    intro m0;simp only[vw,jB (ρ:=ρ) (k:=k) (j:=0) |>.2 zj];cases Mem.get m0 k<;>rfl
   rw[h0,h0]
 | .vec k aj off len=>by
  by_cases zj:k∈ρ∨bor k=true
  ·simp only[vw,h k zj]
  ·simp only[not_or]at zj;have h0:∀m0:Mem,vw m0 ρ bor nv (.vec k aj off len)=.aW:=by
    intro m0;simp only[vw,jB (ρ:=ρ) (k:=k) (j:=0) |>.2 zj.1,zj.2];cases Mem.get m0 k with
    |none=>rfl
    |some e=>
     obtain⟨_,_,c⟩:=e;cases c<;>simp
   rw[h0,h0]
 | .cG k aj i j=>by
  by_cases zj:k∈ρ
  ·simp only[vw,h k (.inl zj)]
  ·have h0:∀m0:Mem,vw m0 ρ bor nv (.cG k aj i j)=.aW:=by
    intro m0;simp only[vw,jB (ρ:=ρ) (k:=k) (j:=0) |>.2 zj];cases Mem.get m0 k<;>rfl
   rw[h0,h0]
 | .agg cs=>by simp only[vw,tW hk h cs]
 | .fn f cap=>by simp only[vw,tW hk h cap]
 | .aU vs=>by simp only[vw,tW hk h vs]
 | .aW=>rfl
 | .d x=>rfl
 | .dG x j=>rfl
 | .gM t x=>rfl
 | .lit v=>rfl
 | .nn=>rfl
 | .err=>rfl
theorem tW {m m':Mem} {ρ:List Nat} {bor:Nat→Bool} {nv:Nat→Nat→Nat} (hk:m'.map (·.key)=m.map (·.key)) (h:∀k,(k∈ρ∨bor k=true)→Mem.get m' k=Mem.get m k):∀l:List AV,vws m' ρ bor nv l=vws m ρ bor nv l
 |[]=>rfl
 |x::r=>by simp only[vws,FK hk h x,tW hk h r]
end
theorem FL {m m':Mem} {ρ:List Nat} {bor:Nat→Bool} {nv:Nat→Nat→Nat} (hk:m'.map (·.key)=m.map (·.key)) (h:∀k,(k∈ρ∨bor k=true)→Mem.get m' k=Mem.get m k):
 ∀(l:List Nat) (i:Nat),(∀k∈l,k∈ρ)→selL m' ρ bor nv i l=selL m ρ bor nv i l
 |[],i,_=>rfl
 |k::r,i,hl=>by
  simp only[selL,h k (.inl (hl k (by simp))),FL hk h r (i+1) (fun x hx=>hl x (by simp[hx]))];congr 1;cases Mem.get m k with
  |none=>rfl
  |some e=>
   simp only[selE,Prod.mk.injEq,true_and];cases e.cont with
   |box cs=>simp only[selC,tW hk h cs]
   |vv rows y=>
    cases y with
    |none=>rfl
    |some x=>simp only[selC,Option.map_some,FK hk h x]
   |_=>rfl
theorem Bk {b:Bool} {m m':Mem} {ρ B:List Nat} (hk:m'.map (·.key)=m.map (·.key)) (h:∀k,(k∈ρ∨B.contains k=true)→Mem.get m' k=Mem.get m k):∀l:List AV,vwArgs b m' ρ B l=vwArgs b m ρ B l
 |[]=>rfl
 |x::r=>by simp only[vwArgs,FK (nv:=nv0) hk h x,Bk hk h r]
theorem zV {m m':Mem} (d:Nat):∀(l:List Nat),(∀k∈l,Mem.get m' k=Mem.get m k)→base m' d l=base m d l
 |[],_=>rfl
 |k::r,h=>by simp only[base,h k (by simp),zV d r (fun x hx=>h x (by simp[hx]))]
theorem FM {m m':Mem} (ρ:List Nat) (hk:m'.map (·.key)=m.map (·.key)):∀(l:List Nat),frOk m' ρ l=frOk m ρ l
 |[]=>rfl
 |k::r=>by
  have:(Mem.get m' k).isSome=(Mem.get m k).isSome:=by
   have:=tt hk k;cases h:Mem.get m k<;>cases h':Mem.get m' k<;>simp_all
  simp only[frOk,this,FM ρ hk r]
theorem Bl {cl:bz} {m m':Mem} {k0:Nat} {g:FuncId} {ys:List AV} {mt:List Nat} {res:fK} (hk:m'.map (·.key)=m.map (·.key)) (h:callOp cl m k0 g ys mt=some res) (hs:∀k∈res.ks,Mem.get m' k=Mem.get m k):
 callOp cl m' k0 g ys mt=some res:=by
 unfold callOp callOp2 callOp3 at h⊢;obtain⟨ρ,hρ⟩:∃ρ,ρ=collect m 64 (argKeys mt 0 ys) []:=⟨_,rfl⟩;rw[←hρ]at h;obtain⟨B,hB⟩:∃B,B=(argBor mt 0 ys).filter fun k=>!ρ.contains k:=⟨_,rfl⟩;rw[←hB]at h;have gZ:∀k,k∈ρ∨B.contains k=true→Mem.get m' k=Mem.get m k:=by
  intro k ck;refine hs k ?_;unfold callBack at h;split at h
  ·split at h
   ·cases h;simp only[List.mem_append];rcases ck with h1|h1
    ·exact .inl (.inl h1)
    ·exact .inl (.inr (by simpa using h1))
   ·cases h
  ·cases h
 have e1:collect m' 64 (argKeys mt 0 ys) []=ρ:=by
  rw[hρ];exact tv hk 64 _ _ (fun k ck=>gZ k (.inl (hρ▸ck)))
 rw[e1,←hB,Bk hk gZ,FL hk gZ ρ 0 (fun _ h=>h),tt hk];unfold callBack at h⊢;split
 ·rename_i out l2 aP;rw[aP]at h;simp only at h;rw[FM ρ hk];split
  ·rename_i hc;rw[if_pos hc]at h;cases h;have e2:∀d,base m' d ρ=base m d ρ:=fun d=>zV d ρ (fun k ck=>gZ k (.inl ck));have e3:∀d,base m' d (List.range' (k0+1) (l2.length-ρ.length))=base m d (List.range' (k0+1) (l2.length-ρ.length)):=fun d=>zV d _ (fun k ck=>hs k (by simp only[List.mem_append];exact .inr ck));rw[e2,e3]
  ·rename_i hc;rw[if_neg hc]at h;cases h
 ·rename_i aP;rw[aP]at h;cases h
theorem tw (S:St):∀(l:List Operand) (i:Nat),(argVals S l)[i]?=(l[i]?).map fun x=>(S.opd x).2
 |[],i=>by simp[argVals]
 |x::r,i=>by cases i with|zero=>simp[argVals]|succ i=>simp[argVals,tw S r i]
theorem iW (S:St):∀(l:List Operand),(argVals S l).length=l.length
 |[]=>rfl
 |x::r=>by simp[argVals,iW S r]
theorem uV (b m ρ B):∀(l:List AV) (i:Nat),(vwArgs b m ρ B l)[i]?=(l[i]?).map fun y=>nrm b (vw m ρ (fun k=>B.contains k) nv0 y)
 |[],i=>by simp[vwArgs]
 |x::r,i=>by cases i with|zero=>simp[vwArgs]|succ i=>simp[vwArgs,uV b m ρ B r i]
theorem qo (b m ρ B):∀(l:List AV),(vwArgs b m ρ B l).length=l.length
 |[]=>rfl
 |x::r=>by simp[vwArgs,qo b m ρ B r]
theorem xj (m ρ bor):∀(l:List Nat) (i j:Nat),inM i (conts (selL m ρ bor nv0 j l))=mkM i (selL m ρ bor nv0 j l)
 |[],i,j=>rfl
 |k::r,i,j=>by
  have:selE m ρ bor nv0 j (Mem.get m k)=(0,(selE m ρ bor nv0 j (Mem.get m k)).2):=by
   cases Mem.get m k<;>rfl
  simp only[selL];rw[this];simp only[conts,inM,mkM,xj m ρ bor r (i+1) (j+1)]
theorem zW {m:Mem} {ρ:List Nat}:∀{l:List Nat},frOk m ρ l=true→∀k∈l,(Mem.get m k).isSome=true∧k∉ρ
 |[],_,k,hk=>by simp at hk
 |x::r,h,k,hk=>by
  simp only[frOk,Bool.and_eq_true,Bool.not_eq_true',List.contains_eq_mem,decide_eq_false_iff_not]at h;rcases List.mem_cons.1 hk with rfl|hk
  ·exact h.1
  ·exact zW h.2 k hk
theorem uW:∀{l:List (Nat×aD)},plainL l=true→∀e∈l,plainC e.2=true
 |[],_,e,he=>by simp at he
 |(v,c)::r,h,e,he=>by
  simp only[plainL,Bool.and_eq_true]at h;rcases List.mem_cons.1 he with rfl|he
  ·exact h.1
  ·exact uW h.2 e he
theorem tX:∀(l:List (Nat×aD)) (i k:Nat),i≤k→k<i+l.length→(Mem.get (mkM i l) k).isSome=true
 |[],i,k,h1,h2=>by simp at h2;omega
 |(v,c)::r,i,k,h1,h2=>by
  simp only[mkM,Mem.get];split
  ·rfl
  ·rename_i bE;exact tX r (i+1) k (by have Ye:i≠k:=bE;omega) (by simp at h2;omega)
theorem Ev.Yf {P:Program} {gl f args} {cs:List aD} {out:Out} {l2:List (Nat×aD)} (h:Ev P gl f args (inM 0 cs) fun o m=>o=out∧m=mkM 0 l2) (hl:cs.length≤l2.length):
 Ev P gl f args (inM 0 cs) fun o m=>o=frzO cs.length l2 out∧m=mkM 0 (selL (mkM 0 l2) (List.range cs.length) (fun _=>true) (fun _ v=>v) 0 (List.range cs.length)):=by
 intro φ G w vs hm hg kj ha;refine (h φ G w vs hm hg kj ha).mono ?_;rintro e w' ⟨φ',m',iN,⟨rfl,rfl⟩,dr,aN,fj⟩;obtain⟨s1,s2,s3⟩:=ye (G1:=G) (ρ:=List.range cs.length) (bor:=fun _=>true) (nv:=fun _ v=>v) dr List.nodup_range (fun k hk=>tX l2 0 k (Nat.zero_le _) (by simp at hk;omega)) (fun b h=>.inl h) (fun b h=>dr.jZ b h.own)
  (fun k e L b hg _ _ hL ho=>dr.jZ _ ⟨e,(Mem.get_mem hg).1,L,by rw[(Mem.get_mem hg).2];exact hL,ho⟩)
 refine⟨_,_,_,⟨rfl,rfl⟩,s1,⟨?_,aN.wa,?_,aN.size,aN.os,aN.tape,aN.output⟩,?_⟩
 ·intro k L hL;have hk:k<cs.length:=by
   have:=hm.oE k L hL;rw[Fu,oX]at this;simpa using this
  obtain⟨L',h1,h2,h3⟩:=aN.le k L hL;exact⟨L',by simp[bI.hP,hk,h1],h2,h3⟩
 ·intro b hb ho;exact aN.own b hb ((tT (φ:=φ') (nv:=fun _ v=>v) (bor:=fun _=>true) (fun k hk=>tX l2 0 k (Nat.zero_le _) (by simp at hk;omega)) b).1 ho).own
 ·cases iN with
  |ret x=>
   cases e with
   |returned v=>exact (s2 x v fj).norm
   |_=>exact fj.elim
  |panic t x=>
   cases e with
   |panicked chain=>
    obtain⟨v,hc,hx⟩:=fj;exact⟨v,hc,hx.mono (fun _ _ _=>rfl) (Nat.le_refl _) (fun b _=>s3 b)⟩
   |_=>exact fj.elim
theorem rG:∀(l:List (Nat×aD)),(conts l).length=l.length
 |[]=>rfl
 |(_,_)::r=>by simp[conts,rG r]
theorem xk {n0:Nat} {b:Bool} {r:Option (Out×List (Nat×aD))} {out:Out} {l:List (Nat×aD)} (h:frzR n0 b r=some (out,l)):∃FN l0,r=some (FN,l0)∧
 ((out=FN∧l=l0)∨(n0<l0.length∧out=frzO n0 l0 FN∧l=selL (mkM 0 l0) (List.range n0) (fun _=>true) (fun _ v=>v) 0 (List.range n0))):=by
 cases r with
 |none=>cases h
 |some p=>
  obtain⟨o0,l0⟩:=p;refine⟨o0,l0,rfl,?_⟩;simp only[frzR]at h;split at h
  ·rename_i hc;simp only[Bool.and_eq_true,decide_eq_true_eq]at hc;simp only[Option.some.injEq,Prod.mk.injEq]at h;exact .inr ⟨hc.2,h.1.symm,h.2.symm⟩
  ·simp only[Option.some.injEq,Prod.mk.injEq]at h;exact .inl ⟨h.1.symm,h.2.symm⟩
theorem V6 {n g:Nat} (h:g<n):fnIdN n g=g:=by
 unfold fnIdN;rw[decide_eq_false (Nat.not_le.2 h)]
theorem OF {n g:Nat} (h:g<n) (ys da:List AV):fnArgsN n g ys da=ys++da:=by
 unfold fnArgsN;rw[decide_eq_false (Nat.not_le.2 h)]
theorem V7 (n g:Nat):fnIdN n (g+n)=g:=by
 unfold fnIdN;rw[decide_eq_true (Nat.le_add_left n g)];exact Nat.add_sub_cancel g n
theorem OG (n g:Nat) (ys da:List AV):fnArgsN n (g+n) ys da=da++ys:=by
 unfold fnArgsN;rw[decide_eq_true (Nat.le_add_left n g)]
theorem Yg {g:FuncId} (h:g<bnB):fnId g=g:=V6 h
theorem FO {g:FuncId} (h:g<bnB) (ys da:List AV):fnArgs g ys da=ys++da:=OF h ys da
theorem Yh (g:FuncId):fnId (g+bnB)=g:=V7 bnB g
theorem FP (g:FuncId) (ys da:List AV):fnArgs (g+bnB) ys da=da++ys:=OG bnB g ys da
theorem su {X:Ctx} {cl:bz} (aP:jg X cl) {S:St} {o:Oper} {fv:Operand} {args:Array Operand} {hU:Array TypeId} {g g0:FuncId} {da:List AV} {k0:Nat} {mt:List Nat} {res:fK}
 (ho:o.op=.call {callee:=.value fv,args,argTypes:=hU}) (gv:S.opd fv=(true,.fn g0 da)) (IP:fnId g0=g) (dt:okAll S args.toList=true)
 (h:callOp cl S.mem k0 g (fnArgs g0 (argVals S args.toList) da) mt=some res) (cq:S.gl=X.gl) {φ G a w} (hr:Rel φ G S a w) {next:Act→World→Prop} {R:Exit→Act→World→Prop}
 (ahW:∀x,res.out=.ret x→∀φ' w' v,Rel φ' G {S with mem:=putAll S.mem res.es} a w'→aQ φ S.mem w φ' (putAll S.mem res.es) w'→az φ' w' (Fo G φ' (putAll S.mem res.es)) x v→next (a.put o.dst v) w')
 (FC:∀t x,res.out=.panic t x→∀φ' w' v,Rel φ' G {S with mem:=putAll S.mem res.es} a w'→aQ φ S.mem w φ' (putAll S.mem res.es) w'→aH w' (Fo G φ' (putAll S.mem res.es)) x v→R (.panic [{v:=.iface t v,recovered:=false}]) a w'):o.wp X.P a w next R:=by
 unfold callOp callOp2 callOp3 at h;obtain⟨ρ,hρ⟩:∃ρ,ρ=collect S.mem 64 (argKeys mt 0 (fnArgs g0 (argVals S args.toList) da)) []:=⟨_,rfl⟩;have FQ:=nR S.mem 64 (argKeys mt 0 (fnArgs g0 (argVals S args.toList) da)) [] List.nodup_nil (by simp);rw[←hρ]at h FQ;generalize (argBor mt 0 (fnArgs g0 (argVals S args.toList) da)).filter (fun k=>!ρ.contains k)=B at h;clear hρ;obtain⟨hn,cZ⟩:=FQ;unfold callBack at h;split at h
 ·rename_i out l2 dY;split at h
  ·rename_i hc;cases h;have Yi:gE X.P g=true∧Ev X.P X.gl g (vwArgs (mt.contains 1000) S.mem ρ B (fnArgs g0 (argVals S args.toList) da)) (inM 0 (conts (selL S.mem ρ (fun k=>B.contains k) nv0 0 ρ))) fun o m=>o=out∧m=mkM 0 l2:=by
    obtain⟨FN,l0,h0,h1⟩:=xk dY;obtain⟨gQ,FR⟩:=aP _ _ _ _ _ h0;refine⟨gQ,?_⟩;rcases h1 with ⟨rfl,rfl⟩|⟨cg,rfl,rfl⟩
    ·exact FR
    ·have FT:(conts (selL S.mem ρ (fun k=>B.contains k) nv0 0 ρ)).length=ρ.length:=by rw[rG,pA]
     have:=FR.Yf (by rw[FT];omega);rw[FT]at this;exact this
   obtain⟨sw,bS⟩:=Yi;simp only[Bool.and_eq_true,Bool.or_eq_true,decide_eq_true_eq]at hc;obtain⟨⟨hlen,vQ⟩,dg⟩:=hc;rw[xj]at bS;obtain⟨v1,v2,v3⟩:=C9 (B:=B) hr.mem hn cZ;have vN:=hr.opd fv (by rw[gv]);rw[gv]at vN;generalize Uw:a.eval fv=ahX at vN;have si:∃vs:Array Value,(execOp a.eval o).run X.P w=.ok (.enter g vs) w∧(fnArgs g0 (argVals S args.toList) da).length=vs.size∧∀(i:Nat) y v,(fnArgs g0 (argVals S args.toList) da)[i]?=some y→vs[i]?=some v→az φ w (Fo G φ S.mem) y v:=by
    have kD:∀(i:Nat) y v,(argVals S args.toList)[i]?=some y→(args.map a.eval)[i]?=some v→az φ w (Fo G φ S.mem) y v:=by
     intro i y v hy hv;rw[tw]at hy;simp only[Array.getElem?_map,Option.map_eq_some_iff]at hv;obtain⟨z,hz,rfl⟩:=hv;obtain⟨z',qz,rfl⟩:=Option.map_eq_some_iff.1 hy;rw[Array.getElem?_toList,hz]at qz;cases qz;exact hr.opd z (sh dt z (by simpa using Array.mem_of_getElem? hz))
    have wG:(argVals S args.toList).length=(args.map a.eval).size:=by rw[iW];simp
    have Yj:∀(l r:List AV) (la ra:Array Value),l.length=la.size→r.length=ra.size→(∀(i:Nat) y v,l[i]?=some y→la[i]?=some v→az φ w (Fo G φ S.mem) y v)→(∀(i:Nat) y v,r[i]?=some y→ra[i]?=some v→az φ w (Fo G φ S.mem) y v)→
     ∀(i:Nat) y v,(l++r)[i]?=some y→(la++ra)[i]?=some v→az φ w (Fo G φ S.mem) y v:=by
     intro l r la ra h1 h2 h3 h4 i y v hy hv;by_cases hi:i<l.length
     ·rw[List.getElem?_append_left hi]at hy;rw[Array.getElem?_append_left (by omega)]at hv;exact h3 i y v hy hv
     ·rw[List.getElem?_append_right (by omega)]at hy;rw[Array.getElem?_append_right (by omega),←h1]at hv;exact h4 _ y v hy hv
    cases vN with
    |fn _ _ ca cg fX b8=>
     have e2:g0=g:=by rw[←IP,Yg cg]
     subst e2;refine⟨args.map a.eval++ca,by simp[execOp,ho,resolve,Uw,Deferred.ofValue,invoke,rF sw],?_,?_⟩
     ·rw[FO cg,List.length_append,wG,fX,Array.size_append]
     ·rw[FO cg];exact Yj _ _ _ _ wG fX kD b8
    |qu f _ ca fX b8=>
     have e2:f=g:=by rw[←IP,Yh]
     subst e2;refine⟨ca++args.map a.eval,by simp[execOp,ho,resolve,Uw,Deferred.ofValue,invoke,rF sw],?_,?_⟩
     ·rw[FP,List.length_append,wG,fX,Array.size_append]
     ·rw[FP];exact Yj _ _ _ _ fX wG b8 kD
   obtain⟨vs,bB,LK,ej⟩:=si
   ·unfold Oper.wp;rw[bB];have acO:(vwArgs (mt.contains 1000) S.mem ρ B (fnArgs g0 (argVals S args.toList) da)).length=vs.size:=by
     rw[qo];exact LK
    have bX:∀(i:Nat) x v,(vwArgs (mt.contains 1000) S.mem ρ B (fnArgs g0 (argVals S args.toList) da))[i]?=some x→vs[i]?=some v→az (φ.hP ρ nv0) w (Fo (kC φ G S.mem ρ B) (φ.hP ρ nv0) (mkM 0 (selL S.mem ρ (fun k=>B.contains k) nv0 0 ρ))) x v:=by
     intro i x v hx hv;rw[uV]at hx;obtain⟨y,hy,rfl⟩:=Option.map_eq_some_iff.1 hx;exact (v2 y v (ej i y v hy hv)).nrm
    have n6:eI w (Fo (kC φ G S.mem ρ B) (φ.hP ρ nv0) (mkM 0 (selL S.mem ρ (fun k=>B.contains k) nv0 0 ρ))) X.gl:=by
     rw[←cq];exact hr.j0.mono (fun _ _ _=>rfl) (Nat.le_refl _) (fun b _=>v3 b)
    refine (bS (φ.hP ρ nv0) (kC φ G S.mem ρ B) w _ v1 n6 acO bX).mono ?_;rintro e w' ⟨φ2,m2,iN,⟨rfl,rfl⟩,jT,ck,fj⟩;have zX:B=[]∨(plainO iN=true∧plainL l2=true):=dg.imp (by simp) id;obtain⟨φ',dr,aN,qx⟩:=Da (B:=B) hr.mem hn cZ (fr:=List.range' (k0+1) (l2.length-ρ.length)) List.nodup_range' (zW vQ) jT ck (by simp;omega) (zX.imp id fun hp=>uW hp.2);have b7:=hr.wc dr aN;cases iN with
    |ret x=>
     cases e with
     |returned v=>exact ahW _ rfl φ' w' v b7 aN (qx x v (zX.imp id fun hp=>hp.1) fj)
     |_=>exact fj.elim
    |panic t x=>
     cases e with
     |panicked chain=>
      obtain⟨v,rfl,hx⟩:=fj;have:=qx (.d x) v (zX.imp id fun hp=>hp.1) (.d _ _ hx);cases this with
      |d _ _ hd=>exact FC t x rfl φ' w' v b7 aN hd
     |_=>exact fj.elim
  ·cases h
 ·cases h
abbrev Is (e:XE) (S':St):XE→St→Prop:=fun e' Fp=>e'=e∧Fp=S'
def IQ (P:Program) (S:St) (o:Oper) (e:XE) (S':St):Prop:=
 S'.n=S.n∧S'.gl=S.gl∧(e=.normal∨∃t x,e=.panic t x)∧∀φ G a w,Rel φ G S a w→∀(next:Act→World→Prop) (R:Exit→Act→World→Prop),
  (e=.normal→∀φ' a' w',Rel φ' G S' a' w'→aQ φ S.mem w φ' S'.mem w'→next a' w')→
  (∀t x,e=.panic t x→∀φ' a' w' v,Rel φ' G S' a' w'→aQ φ S.mem w φ' S'.mem w'→aH w' (Fo G φ' S'.mem) x v→R (.panic [{v:=.iface t v,recovered:=false}]) a' w')→o.wp P a w next R
theorem kO (S:St) (d g x):(S.put d g x).gl=S.gl:=by cases d<;>rfl
section
variable {X:Ctx} {cl:bz} {S S':St} {o:Oper} {e:XE}
theorem yj {c:Bool} {x:AV} {gb:Bool} (hs:stepv X.P S o=.val c x) (dt:(opOk S o&&c)=true) (hd:∀t,o.dst=some t→t<S.n):IQ X.P S o .normal (S.put o.dst gb x):=by
 simp only[Bool.and_eq_true]at dt;have:=Fj X.P S o dt.1;rw[hs]at this;refine⟨lA ..,kO ..,.inl rfl,fun φ G a w hr next R hn _=>?_⟩;exact RJ this dt.2 hr hd (fun a' w' b7 aN=>hn rfl φ a' w' b7 (by rw[ff];exact aN))
theorem IS {c:Bool} {x:AV} {Dk:cJ} (hs:stepv X.P S o=.cW c x Dk) (dt:(opOk S o&&c)=true) (hd:∀t,o.dst=some t→t<S.n):IQ X.P S o .normal (({S with mem:=Mem.set S.mem Dk}:St).put o.dst true x):=by
 simp only[Bool.and_eq_true]at dt;have:=Fj X.P S o dt.1;rw[hs]at this;refine⟨lA ..,kO ..,.inl rfl,fun φ G a w hr next R hn _=>?_⟩;exact RL this dt.2 hr hd (fun φ' a' w' b7 aN=>hn rfl φ' a' w' b7 (by rw[ff];exact aN))
theorem lP {args:List Operand} {fv:Bool×AV} {res:fK} (h:callVal X cl S o args fv=some res):∃g da,fv=(true,.fn g da)∧okAll S args=true∧callOp cl S.mem (keyOf o) (fnId g) (fnArgs g (argVals S args) da) (X.fp (fnId g)).uO=some res:=by
 unfold callVal at h;split at h
 ·rename_i g da;split at h
  ·rename_i dt;exact⟨g,da,rfl,dt,h⟩
  ·cases h
 ·cases h
theorem R5 (aP:jg X cl) {fv:Operand} {args:Array Operand} {hU:Array TypeId} (ho:o.op=.call {callee:=.value fv,args,argTypes:=hU}) (cq:S.gl=X.gl) (hd:∀t,o.dst=some t→t<S.n)
 (h:dh S o.dst (callVal X cl S o args.toList (S.opd fv))=some (e,S')):IQ X.P S o e S':=by
 cases mK:callVal X cl S o args.toList (S.opd fv)with
 |none=>rw[mK]at h;cases h
 |some res=>
  rw[mK]at h;obtain⟨g,da,gv,dt,dY⟩:=lP mK;obtain⟨out,es,ks⟩:=res;cases out with
  |ret x=>
   simp only[dh,Option.some.injEq,Prod.mk.injEq]at h;obtain⟨rfl,rfl⟩:=h;refine⟨lA ..,kO ..,.inl rfl,fun φ G a w hr next R hn _=>?_⟩;refine su aP ho gv rfl dt dY cq hr (fun x' hx φ' w' v b7 aN hv=>?_) (fun t x' hx=>by cases hx);cases hx;exact hn rfl φ' _ w' (b7.put o.dst hd true x v (fun _=>hv)) (by rw[ff];exact aN)
  |panic t x=>
   simp only[dh,Option.some.injEq,Prod.mk.injEq]at h;obtain⟨rfl,rfl⟩:=h;refine⟨rfl,rfl,.inr ⟨t,x,rfl⟩,fun φ G a w hr next R _ hp=>?_⟩;refine su aP ho gv rfl dt dY cq hr (fun x' hx=>by cases hx) (fun t' x' hx φ' w' v b7 aN hv=>?_);cases hx;exact hp t x rfl φ' a w' v b7 aN hv
theorem OH {x:Operand} (ho:o.op=.panic x) (h:zR S (S.opd x)=some (e,S')):IQ X.P S o e S':=by
 cases hx:S.opd x with
 |mk g y=>
  rw[hx]at h;unfold zR at h;split at h
  ·rename_i t d heq;cases heq;simp only[Option.some.injEq,Prod.mk.injEq]at h;obtain⟨rfl,rfl⟩:=h;refine⟨rfl,rfl,.inr ⟨t,d,rfl⟩,fun φ G a w hr next R _ hp=>?_⟩;have hv:=hr.opd x (by rw[hx]);rw[hx]at hv;generalize bS:a.eval x=u at hv;cases hv with
   |gM _ _ v hd=>
    have bB:(execOp a.eval o).run X.P w=.halt (.panic (.iface t v)) w:=by
     simp[execOp,ho,bS,Instr.panic]
    unfold Oper.wp;rw[bB];exact hp t d rfl φ a w v hr (aQ.refl ..) hd
  ·cases h
theorem xl (aP:jg X cl) (cq:S.gl=X.gl) (hd:∀t,o.dst=some t→t<S.n) (h:gR X cl S o (stepv X.P S o)=some (e,S')):IQ X.P S o e S':=by
 generalize hs:stepv X.P S o=r at h;cases r with
 |val c x=>
  simp only[gR]at h;split at h
  ·rename_i dt;cases h;exact yj hs dt hd
  ·cases h
 |cW c x Dk=>
  simp only[gR]at h;split at h
  ·rename_i dt;cases h;exact IS hs dt hd
  ·cases h
 |no=>
  simp only[gR,p6]at h;split at h
  ·rename_i fv args hU ho;exact R5 aP ho cq hd h
  ·rename_i x ho;exact OH ho h
  ·cases h
def xm (P:Program) (all:List Oper) (S:St) (o:Oper) (e:XE) (S':St):Prop:=
 S'.n=S.n∧S'.gl=S.gl∧(e=.normal∨∃t x,e=.panic t x)∧∀φ G a w,Rel φ G S a w→∀(next:Act→World→Prop) (R:Exit→Act→World→Prop),
  (e=.normal→∀φ' a' w',Rel φ' G S' a' w'→aQ φ S.mem w φ' S'.mem w'→next a' w')→
  (∀t x,e=.panic t x→∀φ' a' w' v,Rel φ' G S' a' w'→aQ φ S.mem w φ' S'.mem w'→aH w' (Fo G φ' S'.mem) x v→R (.panic [{v:=.iface t v,recovered:=false}]) a' w')→
  if Region.wanted o (yielded all.toArray a.tmps)then o.wp P a w next R else next (a.put o.dst undef) w
theorem yk {all:List Oper} (h:IQ X.P S o e S') (hw:∀φ G a w,Rel φ G S a w→Region.wanted o (yielded all.toArray a.tmps)=true):xm X.P all S o e S':=by
 obtain⟨h1,h2,h3,h4⟩:=h;refine⟨h1,h2,h3,fun φ G a w hr next R hn hp=>?_⟩;rw[if_pos (hw φ G a w hr)];exact h4 φ G a w hr next R hn hp
theorem xn {φ:bI} {w:World} {F:Nat→Prop} {x:AV} (hx:x=.aW∨x=.aU []):az φ w F x undef:=by
 rcases hx with rfl|rfl
 ·exact .aW _
 ·exact .aU [] #[] rfl (fun i c v h=>by simp at h)
theorem Bm {all:List Oper} {j:Nat} {φ G a w} (h:Rel φ G S a w) (hg:grd all S j=some (true,.aU [])):yielded all.toArray a.tmps j=none:=by
 unfold grd at hg;split at hg
 ·rename_i o ho;split at hg
  ·rename_i t ht;have h1:=h.env t _ hg;unfold yielded;simp only[List.getElem?_toArray,ho,Option.bind_some,ht];rw[Array.getD_eq_getD_getElem?]at h1;cases hq:a.tmps[t]? with
   |none=>rfl
   |some v=>
    rw[hq]at h1;simp only[Option.getD_some]at h1;cases h1;rfl
  ·cases hg
 ·cases hg
theorem FU {all:List Oper} {gb:Bool} {x:AV} (hx:gb=true→x=.aW∨x=.aU []) (hd:∀t,o.dst=some t→t<S.n) (hw:∀φ G a w,Rel φ G S a w→Region.wanted o (yielded all.toArray a.tmps)=false):xm X.P all S o .normal (S.put o.dst gb x):=by
 refine⟨lA ..,kO ..,.inl rfl,fun φ G a w hr next R hn _=>?_⟩;rw[if_neg (by rw[hw φ G a w hr];simp)];exact hn rfl φ _ w (hr.put o.dst hd gb x undef (fun hg=>xn (hx hg))) (by rw[ff];exact aQ.refl ..)
theorem Dl {all:List Oper} {j:Nat} {want t:Bool} (hg:o.guard=some (j,want)) (gf:grd all S j=some (true,.d (.bool t))) {φ G a w} (hr:Rel φ G S a w):Region.wanted o (yielded all.toArray a.tmps)=(t == want):=by
 have hy:=Oh hr gf;simp only[Region.wanted,hg,hy];cases t<;>cases want<;>rfl
theorem zY (S:St) (d b):(S.cz d b).n=S.n:=lA ..
theorem yl (S:St) (d b):(S.cz d b).gl=S.gl:=kO ..
theorem Bn (S:St) (d b):(S.cz d b).mem=S.mem:=ff ..
theorem Ux {all:List Oper} {S:St} {j:Nat} {t b:Bool} (gf:grd all S j=some (true,.d (.bool t))) (hb:t=b) (u:Nat):Env.lk (S.cz (dstAt all j) b).env u=Env.lk S.env u:=by
 subst hb;unfold grd at gf;unfold St.cz dstAt;split at gf
 ·rename_i oj hj;split at gf
  ·rename_i d hd;simp only[hj,hd,St.put,Env.lk];split
   ·rename_i hu;subst hu;exact gf.symm
   ·rfl
  ·cases gf
 ·cases gf
theorem Yk {all:List Oper} {S:St} {j:Nat} {t b:Bool} (gf:grd all S j=some (true,.d (.bool t))) (hb:t=b) {φ G a w} (hr:Rel φ G S a w):Rel φ G (S.cz (dstAt all j) b) a w:=
 Rel.eqv hr ⟨(zY ..).symm,(yl ..).symm,(Bn ..).symm,fun u=>(Ux gf hb u).symm⟩
theorem rH {all:List Oper} (aP:jg X cl) (cq:S.gl=X.gl) (hd:∀t,o.dst=some t→t<S.n) {md:Bool} (h:mj X cl md all S o=some (e,S')):xm X.P all S o e S':=by
 unfold mj at h;split at h
 ·rename_i hg;exact yk (xl aP cq hd h) (fun _ _ _ _ _=>by simp[Region.wanted,hg])
 ·rename_i j want hg;split at h
  ·rename_i t gf;replace gf:=FD gf;have hw:∀φ G a w,Rel φ G S a w→Region.wanted o (yielded all.toArray a.tmps)=(t == want):=fun φ G a w hr=>Dl hg gf hr;have other:∀{r:dj},stepv X.P S o=r→(if (t == want)=true then gR X cl S o r else some (.normal,S.put o.dst true .aW))=some (e,S')→xm X.P all S o e S':=by
    intro r hs h;split at h
    ·rename_i hb;exact yk (xl aP cq hd (by rw[hs];exact h)) (fun φ G a w hr=>by rw[hw φ G a w hr];exact hb)
    ·rename_i hb;cases h;exact FU (fun _=>.inl rfl) hd (fun φ G a w hr=>by rw[hw φ G a w hr];simpa using hb)
   cases md with
   |true=>
    simp only at h;have hcz:∀b,t=b→∀φ G a w,Rel φ G S a w→Rel φ G (S.cz (dstAt all j) b) a w:=fun b hb φ G a w hr=>Yk gf hb hr;split at h
    ·rename_i hb;have pP:t=want:=by simpa using hb
     have:=xl (S:=S.cz (dstAt all j) want) aP (by rw[yl];exact cq) (fun t ht=>by rw[zY];exact hd t ht) h;obtain⟨h1,h2,h3,h4⟩:=this;refine yk ⟨by rw[h1,zY],by rw[h2,yl],h3,fun φ G a w hr next R hn hp=>?_⟩ (fun φ G a w hr=>by rw[hw φ G a w hr];exact hb);have h5:=h4 φ G a w (hcz want pP φ G a w hr) next R
     rw[Bn]at h5;exact h5 hn hp
    ·rename_i hb;have pP:t=!want:=by cases t<;>cases want<;>simp_all
     cases h;refine⟨by rw[lA,zY],by rw[kO,yl],.inl rfl,fun φ G a w hr next R hn _=>?_⟩;rw[if_neg (by rw[hw φ G a w hr];simpa using hb)];exact hn rfl φ _ w ((hcz _ pP φ G a w hr).put o.dst (fun t ht=>by rw[zY];exact hd t ht) true (.aU []) undef (fun _=>xn (.inr rfl))) (by rw[ff,Bn];exact aQ.refl ..)
   |false=>
   simp only at h;unfold nz at h;split at h
   ·rename_i c x hs;split at h
    ·rename_i hc;cases h;cases hb:(t == want)
     ·exact FU (by simp) hd (fun φ G a w hr=>by rw[hw φ G a w hr];exact hb)
     ·exact yk (yj hs (hc hb) hd) (fun φ G a w hr=>by rw[hw φ G a w hr];exact hb)
    ·cases h
   ·rename_i r hr;exact other rfl h
  ·rename_i gf;replace gf:=Dj gf;cases h;exact FU (fun _=>.inr rfl) hd (fun φ G a w hr=>by
    simp only[Region.wanted,hg,Bm hr gf];cases want<;>rfl)
  ·cases h
theorem gF {r:Option (XE×St)} {k:St→Option (XE×St)} {y:XE×St} (h:andThen r k=some y):(∃S1,r=some (.normal,S1)∧k S1=some y)∨(r=some y∧y.1≠.normal):=by
 unfold andThen at h;split at h
 ·rename_i S1;exact .inl ⟨S1,rfl,h⟩
 ·rename_i hr;refine .inr ⟨h,fun he=>?_⟩;obtain⟨e,S1⟩:=y;simp only at he;subst he;exact hr S1 h
theorem aQ.post {n:Nat} {φ φ':bI} {G:Fr} {m:Mem} {w w':World} {e:XE} {S':St} {a':Act} (hn:S'.n=n) (hr:Rel φ' G S' a' w') (hk:aQ φ m w φ' S'.mem w') (he:e=.normal):mD n φ G m w (Is e S') .normal a' w':=
 ⟨φ',S',hn,⟨he.symm,rfl⟩,hr,hk⟩
theorem xo {md:Bool} {all:List Oper} (aP:jg X cl):∀(ops:List Oper) (S:St) (e:XE) (S':St),gi X cl md all ops S=some (e,S')→S.gl=X.gl→jA S.n ops=true→
 S'.n=S.n∧S'.gl=S.gl∧∀φ G a w,Rel φ G S a w→∀Q:Exit→Act→World→Prop,(∀e' a' w',mD S.n φ G S.mem w (Is e S') e' a' w'→Q e' a' w')→wpList X.P all.toArray Q ops a w
 |[],S,e,S',h,cq,hd=>by
  simp only[gi,Option.some.injEq,Prod.mk.injEq]at h;obtain⟨rfl,rfl⟩:=h;exact⟨rfl,rfl,fun φ G a w hr Q hQ=>hQ _ _ _ (aQ.post rfl hr (aQ.refl ..) rfl)⟩
 |o::rest,S,e,S',h,cq,hd=>by
  simp only[jA,List.all_cons,Bool.and_eq_true]at hd;obtain⟨p8,hd⟩:=hd;have qB:∀t,o.dst=some t→t<S.n:=fun t ht=>by rw[ht]at p8;simpa using p8
  simp only[gi]at h;rcases gF h with ⟨S1,h1,h2⟩|⟨h1,h2⟩
  ·obtain⟨dW,dK,_,cR⟩:=rH aP cq qB h1;obtain⟨my,mz,Bo⟩:=xo aP rest S1 e S' h2 (dK.trans cq) (by rw[dW];exact hd);refine⟨my.trans dW,mz.trans dK,fun φ G a w hr Q hQ=>?_⟩;have:=cR φ G a w hr (wpList X.P all.toArray Q rest) Q
    (fun _ φ' a' w' b7 aN=>Bo φ' G a' w' b7 Q (fun e' a2 w2 hp=>hQ e' a2 w2 (by rw[←dW];exact hp.weaken aN))) (fun t x he=>by cases he)
   unfold wpList;split
   ·rename_i hw;rw[if_pos hw]at this;exact .inl this
   ·rename_i hw;rw[if_neg hw]at this;exact this
  ·obtain⟨dW,dK,hee,cR⟩:=rH aP cq qB h1;refine⟨dW,dK,fun φ G a w hr Q hQ=>?_⟩;have:=cR φ G a w hr (wpList X.P all.toArray Q rest) Q
    (fun he=>absurd he h2) (fun t x he φ' a' w' v b7 aN hv=>hQ _ _ _ ⟨φ',S',t,x,v,rfl,hv,dW,⟨he.symm,rfl⟩,b7,aN⟩)
   unfold wpList;split
   ·rename_i hw;rw[if_pos hw]at this;exact .inl this
   ·rename_i hw;rw[if_neg hw]at this;exact this
theorem p9 {all:List Oper} {ks:List Nat} {S' S:St} (h:jW all o ks S' S) {x:Operand} (hx:x∈o.op.operands.toList):S'.opd x=S.opd x:=by
 cases x with
 |tmp t=>
  simp only[St.opd];rw[h.env t (by simp only[looks,List.mem_append,List.mem_filterMap];exact .inl ⟨.tmp t,hx,rfl⟩)]
 |global g=>simp only[St.opd,h.gl]
 |_=>rfl
theorem Dm {all:List Oper} {ks:List Nat} {S' S:St} (h:jW all o ks S' S) {j want} (hg:o.guard=some (j,want)):Am.grd all S' j=Am.grd all S j:=by
 unfold Am.grd;split
 ·rename_i oj hj;split
  ·rename_i t ht;exact h.env t (by simp only[looks,List.mem_append,hg,Uu,hj,ht];exact .inr (by simp))
  ·rfl
 ·rfl
theorem sx {S' S:St}:∀{l:List Operand},(∀x∈l,S'.opd x=S.opd x)→okAll S' l=okAll S l
 |[],_=>rfl
 |x::r,h=>by simp only[okAll,h x (by simp),sx (l:=r) (fun y hy=>h y (List.mem_cons_of_mem _ hy))]
theorem tA {S' S:St}:∀{l:List Operand},(∀x∈l,S'.opd x=S.opd x)→argVals S' l=argVals S l
 |[],_=>rfl
 |x::r,h=>by simp only[argVals,h x (by simp),tA (l:=r) (fun y hy=>h y (List.mem_cons_of_mem _ hy))]
theorem FV {S' S:St} (h:∀x∈o.op.operands.toList,S'.opd x=S.opd x):opOk S' o=opOk S o:=by
 unfold opOk;split
 ·rfl
 ·exact sx h
theorem Dn {all:List Oper} {c:Bool} {x:AV} {gb:Bool} (hd:∀t,o.dst=some t→t<S.n) (hs:stepv X.P S o=.val c x) (dt:(opOk S o&&c)=true)
 (hw:∀S',jW all o (touch S o) S' S→∀φ G a w,Rel φ G S' a w→Region.wanted o (yielded all.toArray a.tmps)=true):jX X.P all S o ⟨touch S o,[],gb,x⟩:=by
 intro S' ha φ G a w hr next R hn
 rw[if_pos (hw S' ha φ G a w hr)];have hx:∀x∈o.op.operands.toList,S'.opd x=S.opd x:=fun x hx=>p9 ha hx;have pJ:stepv X.P S' o=.val c x:=by rw[De hx ha.mem];exact hs
 obtain⟨_,_,_,h4⟩:=yj (gb:=gb) pJ (by rw[FV hx];exact dt) (fun t ht=>by rw[ha.n];exact hd t ht);exact h4 φ G a w hr next R (fun _ φ' a' w' b7 aN=>hn φ' a' w' b7 aN) (fun t x he=>by cases he)
theorem OI {all:List Oper} {c:Bool} {x:AV} {Dk:cJ} (hd:∀t,o.dst=some t→t<S.n) (hs:stepv X.P S o=.cW c x Dk) (dt:(opOk S o&&c)=true)
 (hw:∀S',jW all o (touch S o) S' S→∀φ G a w,Rel φ G S' a w→Region.wanted o (yielded all.toArray a.tmps)=true):jX X.P all S o ⟨touch S o,[Dk],true,x⟩:=by
 intro S' ha φ G a w hr next R hn
 rw[if_pos (hw S' ha φ G a w hr)];have hx:∀x∈o.op.operands.toList,S'.opd x=S.opd x:=fun x hx=>p9 ha hx;have pJ:stepv X.P S' o=.cW c x Dk:=by rw[De hx ha.mem];exact hs
 obtain⟨_,_,_,h4⟩:=IS pJ (by rw[FV hx];exact dt) (fun t ht=>by rw[ha.n];exact hd t ht);exact h4 φ G a w hr next R (fun _ φ' a' w' b7 aN=>hn φ' a' w' b7 aN) (fun t x he=>by cases he)
theorem qQ {all:List Oper} {ks:List Nat} {gb:Bool} {x:AV} (hd:∀t,o.dst=some t→t<S.n) (hx:gb=true→x=.aW∨x=.aU [])
 (hw:∀S',jW all o ks S' S→∀φ G a w,Rel φ G S' a w→Region.wanted o (yielded all.toArray a.tmps)=false):jX X.P all S o ⟨ks,[],gb,x⟩:=by
 intro S' ha φ G a w hr next R hn
 rw[if_neg (by rw[hw S' ha φ G a w hr];simp)];exact hn φ _ w (hr.put o.dst (fun t ht=>by rw[ha.n];exact hd t ht) gb x undef (fun hg=>xn (hx hg))) (by simp only[aR.app,ff];exact aQ.refl ..)
theorem LL {all:List Oper} (aP:jg X cl) (cq:S.gl=X.gl) (hd:∀t,o.dst=some t→t<S.n) {fv:Operand} {args:Array Operand} {hU:Array TypeId} (ho:o.op=.call {callee:=.value fv,args,argTypes:=hU})
 {x:AV} {es:List cJ} {ks:List Nat} (h:callVal X cl S o args.toList (S.opd fv)=some ⟨.ret x,es,ks⟩)
 (hw:∀S',jW all o ks S' S→∀φ G a w,Rel φ G S' a w→Region.wanted o (yielded all.toArray a.tmps)=true):jX X.P all S o ⟨ks,es,true,x⟩:=by
 intro S' ha φ G a w hr next R hn
 rw[if_pos (hw S' ha φ G a w hr)];have hx:∀x∈o.op.operands.toList,S'.opd x=S.opd x:=fun x hx=>p9 ha hx;have OJ:∀x∈args.toList,S'.opd x=S.opd x:=fun x gr=>hx x (by simp[ho,Op.operands,Call.operands];exact .inr (by simpa using gr));obtain⟨g,da,gv,dt,dY⟩:=lP h;have zZ:S'.opd fv=(true,.fn g da):=by rw[hx fv (by simp[ho,Op.operands,Call.operands])];exact gv
 have FW:callOp cl S'.mem (keyOf o) (fnId g) (fnArgs g (argVals S' args.toList) da) (X.fp (fnId g)).uO=some ⟨.ret x,es,ks⟩:=by
  rw[tA OJ];exact Bl ha.keys dY (fun k hk=>ha.mem k hk)
 refine su aP ho zZ rfl (by rw[sx OJ];exact dt) FW (ha.gl.trans cq) hr (fun x' nr φ' w' v b7 aN hv=>?_) (fun t x' nr=>by cases nr);cases nr;exact hn φ' _ w' (b7.put o.dst (fun t ht=>by show t<S'.n;rw[ha.n];exact hd t ht) true x v (fun _=>hv)) (by simp only[aR.app,ff];exact aN)
theorem FX {all:List Oper} {S1:St} {p:aR} (aP:jg X cl) (cq:S.gl=X.gl) (hd:∀t,o.dst=some t→t<S.n) {r:dj} (hs:stepv X.P S o=r) (h:dstep X cl S o r=some (S1,p))
 (hw:∀(ks:List Nat) S',jW all o ks S' S→∀φ G a w,Rel φ G S' a w→Region.wanted o (yielded all.toArray a.tmps)=true):S1=p.app o S∧(∀e∈p.es,e.key∈p.ks)∧jX X.P all S o p:=by
 cases r with
 |val c x=>
  simp only[dstep]at h;split at h
  ·rename_i dt;cases h;exact⟨rfl,by simp,Dn hd hs dt (hw _)⟩
  ·cases h
 |cW c x Dk=>
  simp only[dstep]at h;split at h
  ·rename_i dt;cases h;simp only[Bool.and_eq_true,List.contains_eq_mem,decide_eq_true_eq]at dt;exact⟨rfl,by simpa using dt.2,OI hd hs (by simpa using dt.1) (hw _)⟩
  ·cases h
 |no=>
  simp only[dstep,kE]at h;split at h
  ·rename_i fv args hU ho;cases mK:callVal X cl S o args.toList (S.opd fv)with
   |none=>rw[mK]at h;cases h
   |some res=>
    rw[mK]at h;obtain⟨out,es,ks⟩:=res;cases out with
    |panic=>cases h
    |ret x=>
     cases h;refine⟨rfl,?_,LL aP cq hd ho mK (hw _)⟩;obtain⟨g,da,gv,dt,dY⟩:=lP mK;unfold callOp callOp2 callOp3 callBack at dY;split at dY
     ·rename_i out l2 _;split at dY
      ·rename_i hc;simp only[Bool.and_eq_true,decide_eq_true_eq]at hc;simp only[Option.some.injEq,fK.mk.injEq]at dY;obtain⟨_,rfl,rfl⟩:=dY;intro e he;obtain⟨j,v,c,hj,rfl⟩:=pV.1 he;have im:=(List.getElem?_eq_some_iff.1 hj).1;simp only[Nat.zero_add];generalize collect S.mem 64 (argKeys (X.fp (fnId g)).uO 0 (fnArgs g (argVals S args.toList) da)) []=ρ at hc im⊢;have cg:j<(ρ++List.range' (keyOf o+1) (l2.length-ρ.length)).length:=by simp;omega
       have hm:=List.getElem_mem cg;have e2:(ρ++List.range' (keyOf o+1) (l2.length-ρ.length)).getD j 0=(ρ++List.range' (keyOf o+1) (l2.length-ρ.length))[j]:=by
        rw[List.getD_eq_getElem?_getD,List.getElem?_eq_getElem cg];rfl
       rw[e2];rcases List.mem_append.1 hm with h1|h1
       ·exact List.mem_append_left _ (List.mem_append_left _ h1)
       ·exact List.mem_append_right _ h1
      ·cases dY
     ·cases dY
  ·cases h
theorem gD.refl (S:St):gD S S:=⟨rfl,rfl,rfl,fun _=>rfl⟩
theorem gD.symm {S S':St} (h:gD S S'):gD S' S:=⟨h.n.symm,h.gl.symm,h.mem.symm,fun t=>(h.env t).symm⟩
theorem gD.trans {S S' Fp:St} (h:gD S S') (k:gD S' Fp):gD S Fp:=⟨h.n.trans k.n,h.gl.trans k.gl,h.mem.trans k.mem,fun t=>(h.env t).trans (k.env t)⟩
theorem gD.app {S S':St} (h:gD S S') (p:aR) (o:Oper):gD (p.app o S) (p.app o S'):=
 ⟨by rw[sn,sn,h.n],by rw[pZ,pZ,h.gl],by simp only[aR.app,ff,h.mem],fun t=>by rw[rD,rD,h.env]⟩
theorem jW.eqv {all:List Oper} {ks:List Nat} {S' S S0:St} (h:jW all o ks S' S) (he:gD S S0):jW all o ks S' S0:=
 ⟨h.n.trans he.n,h.gl.trans he.gl,by rw[h.keys,he.mem],fun t ht=>(h.env t ht).trans (he.env t),fun k hk=>by rw[h.mem k hk,he.mem]⟩
theorem jX.eqv {P:Program} {all:List Oper} {S S0:St} {p:aR} (h:jX P all S o p) (he:gD S S0):jX P all S0 o p:=fun S' ha=>h S' (ha.eqv he.symm)
theorem qN.eqv {P:Program} {I:Mem→Prop} {all:List Oper} {S S0:St} {p:aR} (h:qN P I all S o p) (he:gD S S0):qN P I all S0 o p:=fun S' ha=>h S' (ha.eqv he.symm)
theorem z6 {P:Program} {I:Mem→Prop} {all ops:List Oper} {S S1:St} {ps:List aR} (h:Cert P I all ops S ps S1):∀{S0:St},gD S S0→∃S2,Cert P I all ops S0 ps S2∧gD S1 S2:=by
 induction h with
 |nil S=>exact fun he=>⟨_,.nil _,he⟩
 |cons o rest S p ps S1 hk hI h hr ih=>
  intro S0 he;obtain⟨S2,h2,h3⟩:=ih (he.app p o);exact⟨S2,.cons o rest S0 p ps S2 hk hI (h.eqv he) h2,h3⟩
theorem OK {all:List Oper} {S:St} {j:Nat} {t b:Bool} (gf:grd all S j=some (true,.d (.bool t))) (hb:t=b):gD (S.cz (dstAt all j) b) S:=
 ⟨zY ..,yl ..,Bn ..,fun u=>Ux gf hb u⟩
theorem xp {md:Bool} {all:List Oper} {S1:St} {p:aR} (aP:jg X cl) (cq:S.gl=X.gl) (hd:∀t,o.dst=some t→t<S.n) (h:dX X cl md all S o=some (S1,p)):gD S1 (p.app o S)∧(∀e∈p.es,e.key∈p.ks)∧jX X.P all S o p:=by
 have yes:∀{r:dj},stepv X.P S o=r→dstep X cl S o r=some (S1,p)→(∀(ks:List Nat) S',jW all o ks S' S→∀φ G a w,Rel φ G S' a w→Region.wanted o (yielded all.toArray a.tmps)=true)→gD S1 (p.app o S)∧(∀e∈p.es,e.key∈p.ks)∧jX X.P all S o p:=by
  intro r hs h hw;obtain⟨h1,h2,h3⟩:=FX aP cq hd hs h hw;exact⟨by rw[h1];exact gD.refl _,h2,h3⟩
 unfold dX at h;split at h
 ·rename_i hg;exact yes rfl h (fun _ _ _ _ _ _ _ _=>by simp[Region.wanted,hg])
 ·rename_i j want hg;split at h
  ·rename_i t gf;replace gf:=FD gf;have hw:∀(ks:List Nat) S',jW all o ks S' S→∀φ G a w,Rel φ G S' a w→Region.wanted o (yielded all.toArray a.tmps)=(t == want):=
    fun ks S' ha φ G a w hr=>Dl hg (by rw[Dm ha hg];exact gf) hr
   have other:∀{r:dj},stepv X.P S o=r→(if (t == want)=true then dstep X cl S o r else some (S.put o.dst true .aW,⟨[],[],true,.aW⟩))=some (S1,p)→gD S1 (p.app o S)∧(∀e∈p.es,e.key∈p.ks)∧jX X.P all S o p:=by
    intro r hs h;split at h
    ·rename_i hb;exact yes hs h (fun ks S' ha φ G a w hr=>by rw[hw ks S' ha φ G a w hr];exact hb)
    ·rename_i hb;cases h;exact⟨gD.refl _,by simp,qQ hd (fun _=>.inl rfl) (fun S' ha φ G a w hr=>by rw[hw _ S' ha φ G a w hr];simpa using hb)⟩
   cases md with
   |true=>
    simp only at h;split at h
    ·rename_i hb;have pP:t=want:=by simpa using hb
     have he:=OK gf pP;obtain⟨h1,h2,h3⟩:=FX (S:=S.cz (dstAt all j) want) aP (by rw[yl];exact cq) (fun t ht=>by rw[zY];exact hd t ht) rfl h
      (fun ks S' ha φ G a w hr=>by rw[hw ks S' (ha.eqv he) φ G a w hr];exact hb)
     exact⟨by rw[h1];exact he.app p o,h2,h3.eqv he⟩
    ·rename_i hb;have pP:t=!want:=by cases t<;>cases want<;>simp_all
     cases h;have he:=OK gf pP;exact⟨he.app ⟨[],[],true,.aU []⟩ o,by simp,qQ hd (fun _=>.inr rfl) (fun S' ha φ G a w hr=>by rw[hw _ S' ha φ G a w hr];simpa using hb)⟩
   |false=>
   simp only at h;unfold p7 at h;split at h
   ·rename_i c x hs;split at h
    ·rename_i hc;cases h;refine⟨gD.refl _,by simp,?_⟩;cases hb:(t == want)
     ·exact qQ hd (by simp) (fun S' ha φ G a w hr=>by rw[hw _ S' ha φ G a w hr];exact hb)
     ·exact Dn hd hs (hc hb) (fun S' ha φ G a w hr=>by rw[hw _ S' ha φ G a w hr];exact hb)
    ·cases h
   ·exact other rfl h
  ·rename_i gf;replace gf:=Dj gf;cases h;exact⟨gD.refl _,by simp,qQ hd (fun _=>.inr rfl) (fun S' ha φ G a w hr=>by
    have:=Bm hr (by rw[Dm ha hg];exact gf);simp only[Region.wanted,hg,this];cases want<;>rfl)⟩
  ·cases h
inductive jE (T:Nat→St→Oper→aR→Prop):Nat→List Oper→St→List aR→Prop
 |nil (i S):jE T i [] S []
 |cons (i o rest S p ps) (h:T i S o p) (hr:jE T (i+1) rest (p.app o S) ps):jE T i (o::rest) S (p::ps)
theorem jE.eqv {T:Nat→St→Oper→aR→Prop} (hT:∀i S S0 o p,gD S S0→T i S o p→T i S0 o p) {i:Nat} {ops:List Oper} {S:St} {ps:List aR} (h:jE T i ops S ps):∀{S0:St},gD S S0→jE T i ops S0 ps:=by
 induction h with
 |nil i S=>exact fun _=>.nil _ _
 |cons i o rest S p ps h hr ih=>exact fun he=>.cons _ _ _ _ _ _ (hT _ _ _ _ _ he h) (ih (he.app p o))
theorem jE.mono {T T':Nat→St→Oper→aR→Prop} {i:Nat} {ops:List Oper} {S:St} {ps:List aR} (h:jE T i ops S ps):(∀k S o p,i≤k→T k S o p→T' k S o p)→jE T' i ops S ps:=by
 induction h with
 |nil i S=>exact fun _=>.nil _ _
 |cons i o rest S p ps h hr ih=>exact fun hk=>.cons _ _ _ _ _ _ (hk _ _ _ _ (Nat.le_refl _) h) (ih fun k S o p hi=>hk k S o p (by omega))
theorem jE.len {T:Nat→St→Oper→aR→Prop} {i:Nat} {ops:List Oper} {S:St} {ps:List aR} (h:jE T i ops S ps):ps.length=ops.length:=by
 induction h with
 |nil i S=>rfl
 |cons i o rest S p ps h hr ih=>simp[ih]
theorem jE.at {T:Nat→St→Oper→aR→Prop} {all:List Oper} {ps:List aR} {i:Nat} {rest:List Oper} {S0 S:St} {qs:List aR} (h:jE T i rest S qs):∀(pre:List Oper) (pp:List aR),pre.length=i→pre.length=pp.length→all=pre++rest→ps=pp++qs→aE all ps S0 (List.range pre.length)=S→
 ∀j o p,pre.length≤j→all[j]?=some o→ps[j]?=some p→T j (aE all ps S0 (List.range j)) o p:=by
 induction h with
 |nil i S=>
  intro pre pp hi hl ha jS hS j o p hj ho;simp only[List.append_nil]at ha;subst ha;rw[List.getElem?_eq_none (by omega)]at ho;cases ho
 |cons i o rest S p qs hT hr ih=>
  intro pre pp hi hl ha jS hS j o' p' hj cx lB;have e1:all[pre.length]?=some o:=by rw[ha];simp
  have e2:ps[pre.length]?=some p:=by rw[jS,hl];simp
  rcases Nat.eq_or_lt_of_le hj with rfl|hj
  ·rw[e1]at cx;rw[e2]at lB;cases cx;cases lB;rw[hS,hi];exact hT
  ·exact ih (pre++[o]) (pp++[p]) (by simp[hi]) (by simp[hl]) (by rw[ha];simp) (by rw[jS];simp) (by
    rw[List.length_append,List.length_singleton,List.range_succ,m4,hS];simp[aE,e1,e2]) j o' p' (by simp;omega) cx lB
theorem yh.eqv {P:Program} {all:List Oper} {S S0:St} {p:aR} {t:TypeId} {x:D} (h:yh P all S o p t x) (he:gD S S0):yh P all S0 o p t x:=fun S' ha=>h S' (ha.eqv he.symm)
def TT (P:Program) (all:List Oper) (j:Nat) (js:List Nat) (t:TypeId) (x:D) (N:Nat) (S1:St) (i:Nat) (S:St) (o:Oper) (p:aR):Prop:=
 (∀e∈p.es,e.key∈p.ks)∧(i≠j→(i<j∨js.contains i=true)→jX P all S o p)∧(i=j→yh P all S o p t x∧S1.n=S.n∧S1.gl=S.gl∧S1.mem=killM N (putAll S.mem p.es))
theorem TT.eqv {P:Program} {all:List Oper} {j:Nat} {js:List Nat} {t:TypeId} {x:D} {N:Nat} {S1:St} (i:Nat) (S S0:St) (o:Oper) (p:aR) (he:gD S S0) (h:TT P all j js t x N S1 i S o p):TT P all j js t x N S1 i S0 o p:=
 ⟨h.1,fun a b=>(h.2.1 a b).eqv he,fun a=>⟨(h.2.2 a).1.eqv he,(h.2.2 a).2.1.trans he.n,(h.2.2 a).2.2.1.trans he.gl,by rw[←he.mem];exact (h.2.2 a).2.2.2⟩⟩
theorem Yl {X:Ctx}:jg X (fun _ _ _=>none):=fun g args cs out l h=>by cases h
theorem xq {md:Bool} {all:List Oper} {js:List Nat}:∀(ops:List Oper) (i:Nat) (S:St) (acc qs:List aR),qn X md all js i ops S acc=some qs→S.gl=X.gl→jA S.n ops=true→
 ∃ps,qs=acc.reverse++ps∧jE (fun i S o p=>(∀e∈p.es,e.key∈p.ks)∧(js.contains i=true→jX X.P all S o p)) i ops S ps
 |[],i,S,acc,qs,h,cq,hd=>by
  simp only[qn,Option.some.injEq]at h;exact⟨[],by simp[h],.nil _ _⟩
 |o::rest,i,S,acc,qs,h,cq,hd=>by
  simp only[jA,List.all_cons,Bool.and_eq_true]at hd;obtain⟨p8,hd⟩:=hd;have qB:∀t,o.dst=some t→t<S.n:=fun t ht=>by rw[ht]at p8;simpa using p8
  simp only[qn]at h;cases hj:js.contains i with
  |true=>
   rw[hj]at h;simp only at h;cases hg:dX X (fun _ _ _=>none) md all S o with
   |none=>rw[hg]at h;cases h
   |some q=>
    obtain⟨S2,p⟩:=q;rw[hg]at h;simp only at h;obtain⟨heq,gZ,eB⟩:=xp Yl cq qB hg;obtain⟨ps,h1,h2⟩:=xq rest (i+1) S2 (p::acc) qs h (by rw[heq.gl,pZ];exact cq) (by rw[heq.n,sn];exact hd);exact⟨p::ps,by rw[h1];simp,.cons _ _ _ _ _ _ ⟨gZ,fun _=>eB⟩ (h2.eqv (fun _ _ _ _ _ he h=>⟨h.1,fun a=>(h.2 a).eqv he⟩) heq)⟩
  |false=>
   rw[hj]at h;simp only at h;obtain⟨ps,h1,h2⟩:=xq rest (i+1) (S.put o.dst false .aW) _ qs h (by rw[kO];exact cq) (by rw[lA];exact hd);exact⟨⟨[],[],false,.aW⟩::ps,by rw[h1];simp,.cons _ _ _ _ _ _ ⟨by simp,fun hh=>by rw[hj]at hh;cases hh⟩ h2⟩
theorem Dp {q:FE} (h:ki X cl S o=some q):o.guard=none∧stepv X.P S o=.no∧∃fv args hU,o.op=.call {callee:=.value fv,args,argTypes:=hU}∧callVal X cl S o args.toList (S.opd fv)=some ⟨.panic q.t q.x,q.es,q.ks⟩∧q.S={S with mem:=putAll S.mem q.es}:=by
 unfold ki at h;split at h
 ·rename_i hg;unfold zS at h;split at h
  ·rename_i hs;refine⟨hg,hs,?_⟩;unfold FG at h;split at h
   ·rename_i fv args hU ho;unfold th at h;split at h
    ·rename_i t x es ks hc;cases h;exact⟨fv,args,hU,ho,hc,rfl⟩
    ·cases h
   ·cases h
  ·cases h
 ·cases h
theorem FY {args:List Operand} {fv:Bool×AV} {out:Out} {es:List cJ} {ks:List Nat} (mK:callVal X cl S o args fv=some ⟨out,es,ks⟩):∀e∈es,e.key∈ks:=by
 obtain⟨g,da,gv,dt,dY⟩:=lP mK;unfold callOp callOp2 callOp3 callBack at dY;split at dY
 ·rename_i out l2 _;split at dY
  ·rename_i hc;simp only[Bool.and_eq_true,decide_eq_true_eq]at hc;simp only[Option.some.injEq,fK.mk.injEq]at dY;obtain⟨_,rfl,rfl⟩:=dY;intro e he;obtain⟨j,v,c,hj,rfl⟩:=pV.1 he;have im:=(List.getElem?_eq_some_iff.1 hj).1;simp only[Nat.zero_add];generalize collect S.mem 64 (argKeys (X.fp (fnId g)).uO 0 (fnArgs g (argVals S args) da)) []=ρ at hc im⊢;have cg:j<(ρ++List.range' (keyOf o+1) (l2.length-ρ.length)).length:=by simp;omega
   have hm:=List.getElem_mem cg;have e2:(ρ++List.range' (keyOf o+1) (l2.length-ρ.length)).getD j 0=(ρ++List.range' (keyOf o+1) (l2.length-ρ.length))[j]:=by
    rw[List.getD_eq_getElem?_getD,List.getElem?_eq_getElem cg];rfl
   rw[e2];rcases List.mem_append.1 hm with h1|h1
   ·exact List.mem_append_left _ (List.mem_append_left _ h1)
   ·exact List.mem_append_right _ h1
  ·cases dY
 ·cases dY
theorem LM {all:List Oper} (aP:jg X cl) (cq:S.gl=X.gl) {fv:Operand} {args:Array Operand} {hU:Array TypeId} (hg:o.guard=none) (ho:o.op=.call {callee:=.value fv,args,argTypes:=hU})
 {t:TypeId} {x:D} {es:List cJ} {ks:List Nat} (h:callVal X cl S o args.toList (S.opd fv)=some ⟨.panic t x,es,ks⟩):yh X.P all S o ⟨ks,es,true,.aW⟩ t x:=by
 intro S' ha φ G a w hr next R hn
 rw[if_pos (by simp[Region.wanted,hg])];have hx:∀x∈o.op.operands.toList,S'.opd x=S.opd x:=fun x hx=>p9 ha hx;have OJ:∀x∈args.toList,S'.opd x=S.opd x:=fun x gr=>hx x (by simp[ho,Op.operands,Call.operands];exact .inr (by simpa using gr));obtain⟨g,da,gv,dt,dY⟩:=lP h;have zZ:S'.opd fv=(true,.fn g da):=by rw[hx fv (by simp[ho,Op.operands,Call.operands])];exact gv
 have FW:callOp cl S'.mem (keyOf o) (fnId g) (fnArgs g (argVals S' args.toList) da) (X.fp (fnId g)).uO=some ⟨.panic t x,es,ks⟩:=by
  rw[tA OJ];exact Bl ha.keys dY (fun k hk=>ha.mem k hk)
 refine su aP ho zZ rfl (by rw[sx OJ];exact dt) FW (ha.gl.trans cq) hr (fun x' nr=>by cases nr) (fun t' x' nr φ' w' v b7 aN hv=>?_);cases nr;exact hn φ' a w' v b7 aN hv
theorem zn {md:Bool} {nd:Nat×List (List Nat)} {all:List Oper} (aP:jg X cl):∀(ops:List Oper) (S:St) (acc:List aR) (e:XE) (S1:St),gS X cl md nd all ops S acc=some (e,S1)→S.gl=X.gl→jA S.n ops=true→
 (e=.normal∧∃ps S2,Cert X.P (fun _=>True) all ops S ps S2∧gD S1 S2∧ordD nd.2 (acc.reverse++ps)=true)∨
 (∃t x j ps,e=.panic t x∧acc.length≤j∧j<acc.length+ops.length∧jE (TT X.P all j (nd.2.getD j []) t x (nd.1+verSums (acc.reverse++ps)+1) S1) acc.length ops S ps∧ordD nd.2 (acc.reverse++ps)=true∧farJ (acc.reverse++ps) (nd.2.getD j [])=true∧S1.env=[])
 |[],S,acc,e,S1,h,cq,hd=>by
  simp only[gS]at h;split at h
  ·rename_i cI;cases h;exact .inl ⟨rfl,[],S,.nil S,gD.refl _,by simpa using cI⟩
  ·cases h
 |o::rest,S,acc,e,S1,h,cq,hd=>by
  have yS:=hd;simp only[jA,List.all_cons,Bool.and_eq_true]at hd;obtain⟨p8,hd⟩:=hd;have qB:∀t,o.dst=some t→t<S.n:=fun t ht=>by rw[ht]at p8;simpa using p8
  simp only[gS]at h;cases hp:ki X cl S o with
  |some q=>
   right;rw[hp]at h;simp only[mE,panE]at h;obtain⟨hg,hs,fv,args,hU,ho,hc,hqS⟩:=Dp hp;obtain⟨qS,t,x,es,ks⟩:=q;simp only at hc hqS h;subst hqS;cases Ym:qn X md all (nd.2.getD acc.length []) (acc.length+1) rest (({S with mem:=putAll S.mem es}:St).put o.dst true .aW) (⟨ks,es,true,.aW⟩::acc)with
   |none=>rw[Ym]at h;cases h
   |some qs=>
    rw[Ym]at h;simp only[pEnd]at h;split at h
    ·rename_i Dq;simp only[Bool.and_eq_true]at Dq;obtain⟨rfl,rfl⟩:XE.panic t x=e∧St.kill {S with mem:=putAll S.mem es} (nd.1+verSums qs+1)=S1:=by simpa using h
     obtain⟨ps,rfl,acP⟩:=xq rest (acc.length+1) _ _ _ Ym (by rw[kO];exact cq) (by rw[lA];exact hd);have e1:(⟨ks,es,true,.aW⟩::acc:List aR).reverse++ps=acc.reverse++(⟨ks,es,true,.aW⟩::ps):=by simp
     rw[e1]at Dq⊢;refine⟨t,x,acc.length,⟨ks,es,true,.aW⟩::ps,rfl,Nat.le_refl _,by simp,.cons _ _ _ _ _ _ ⟨FY hc,fun hh=>absurd rfl hh,fun _=>⟨LM aP cq hg ho hc,rfl,rfl,rfl⟩⟩ (acP.mono fun k S o p hk hT=>?_),Dq.1,Dq.2,rfl⟩;exact⟨hT.1,fun _ hh=>hT.2 (hh.resolve_left (by omega)),fun hh=>by omega⟩
    ·cases h
  |none=>
   rw[hp]at h;simp only[mE]at h;cases hg:dX X cl md all S o with
   |none=>rw[hg]at h;cases h
   |some q=>
    obtain⟨S2,p⟩:=q;rw[hg]at h;simp only[uR]at h;obtain⟨heq,gZ,eB⟩:=xp aP cq qB hg;rcases zn aP rest S2 (p::acc) e S1 h (by rw[heq.gl,pZ];exact cq) (by rw[heq.n,sn];exact hd)with ⟨he,ps,S3,hc,Yn,cI⟩|⟨t,x,j,ps,he,Dr,zh,hc,cI,nX,FZ⟩
    ·left;obtain⟨S4,OL,OM⟩:=z6 hc heq;exact⟨he,p::ps,S4,.cons o rest S p ps S4 gZ (fun _ _=>trivial) eB.toI OL,Yn.trans OM,by simpa using cI⟩
    ·right;have e1:(p::acc).reverse++ps=acc.reverse++(p::ps):=by simp
     rw[e1]at cI nX hc;simp only[List.length_cons]at Dr zh hc;exact⟨t,x,j,p::ps,he,by omega,by simp;omega,.cons _ _ _ _ _ _ ⟨gZ,fun _ _=>eB,fun hh=>by omega⟩ (hc.eqv TT.eqv heq),cI,nX,FZ⟩
def cellOf:Bool→aD→Nat→Option AV
 |false,.box cs,j=>cs[j]?
 |true,.vv rows (some x),j=>if rows.length=j then some x else none
 |_,_,_=>none
def qp (LI:List Cl) (m:Mem):Prop:=∀q∈LI,∃c,Mem.get m q.k=some ⟨q.k,q.v,c⟩∧cellOf q.vv c q.j=some q.x
theorem LN {c:aD} {j:Nat} {x:AV} (h:cellOf false c j=some x):∃cs,c=.box cs∧cs[j]?=some x:=by
 cases c with
 |box cs=>exact⟨cs,rfl,h⟩
 |dead=>cases h
 |vec _ _=>cases h
 |vv _ _=>cases h
theorem ON {c:aD} {j:Nat} {x:AV} (h:cellOf true c j=some x):∃rows,c=.vv rows (some x)∧rows.length=j:=by
 cases c with
 |box cs=>cases h
 |dead=>cases h
 |vec _ _=>cases h
 |vv rows y=>
  cases y with
  |none=>cases h
  |some y=>
   simp only[cellOf]at h;split at h
   ·rename_i hj;cases h;exact⟨rows,rfl,hj⟩
   ·cases h
theorem OO:∀{x y:AV},FH x y=true→x=y:=by
 intro x y h;unfold FH at h;split at h
 ·simp only[Bool.and_eq_true,decide_eq_true_eq]at h;obtain⟨⟨⟨rfl,rfl⟩,rfl⟩,rfl⟩:=h;rfl
 ·simp only[Bool.and_eq_true,decide_eq_true_eq]at h;obtain⟨⟨rfl,rfl⟩,rfl⟩:=h;rfl
 ·simp only[Bool.and_eq_true,decide_eq_true_eq]at h;obtain⟨rfl,rfl⟩:=h;rfl
 ·simp only[decide_eq_true_eq]at h;subst h;rfl
 ·cases h
theorem uX {m:Mem}:∀{fl:List (Nat×Nat)} {LI:List Cl},eZ m fl=some LI→qp LI m
 |[],LI,h=>by simp[eZ]at h;subst h;exact fun q hq=>by simp at hq
 |(k,j)::r,LI,h=>by
  unfold eZ at h;split at h
  ·rename_i key v cs l hg hl;split at h
   ·rename_i x hx;cases h;have hk:key=k:=(Mem.get_mem hg).2;subst hk;intro q hq;rcases List.mem_cons.1 hq with rfl|hq
    ·exact⟨.box cs,hg,hx⟩
    ·exact uX hl q hq
   ·cases h
  ·rename_i key v rows x l hg hl;cases h;have hk:key=k:=(Mem.get_mem hg).2;subst hk;intro q hq;rcases List.mem_cons.1 hq with rfl|hq
   ·exact⟨.vv rows (some x),hg,by simp[cellOf]⟩
   ·exact uX hl q hq
  ·cases h
theorem R6 {q:Cl} {v:Nat} {c:aD} (h:IN q v c=true):v=q.v∧cellOf q.vv c q.j=some q.x:=by
 unfold IN at h;split at h
 ·rename_i cs;simp only[Bool.and_eq_true,decide_eq_true_eq,Bool.not_eq_true']at h;obtain⟨⟨h1,h2⟩,h3⟩:=h;refine⟨h2,?_⟩;rw[h1];simp only[cellOf];unfold OE at h3;split at h3
  ·rename_i x hx;rw[hx,OO h3]
  ·cases h3
 ·rename_i rows x;simp only[Bool.and_eq_true,decide_eq_true_eq]at h;obtain⟨⟨⟨h1,h2⟩,h3⟩,h4⟩:=h;refine⟨h2,?_⟩;rw[h1];simp only[cellOf,h3,if_true,OO h4]
 ·cases h
theorem F0 {e:cJ}:∀{LI:List Cl},zT e LI=true→∀q∈LI,e.key=q.k→∃c,e=⟨q.k,q.v,c⟩∧cellOf q.vv c q.j=some q.x
 |[],_,q,hq,_=>by simp at hq
 |p::r,h,q,hq,hk=>by
  simp only[zT,Bool.and_eq_true]at h;rcases List.mem_cons.1 hq with rfl|hq
  ·have h1:=h.1;simp only[hk,decide_true]at h1;obtain⟨key,aj,cont⟩:=e;simp only at hk h1;subst hk;obtain⟨rfl,h2⟩:=R6 h1;exact⟨cont,rfl,h2⟩
  ·exact F0 h.2 q hq hk
theorem Ds {LI:List Cl}:∀{es:List cJ},sr LI es=true→∀m,qp LI m→qp LI (putAll m es)
 |[],_,m,hm=>hm
 |e::r,h,m,hm=>by
  simp only[sr,Bool.and_eq_true]at h;refine Ds h.2 _ (fun q hq=>?_);obtain⟨cs,h1,h2⟩:=hm q hq;by_cases hk:e.key=q.k
  ·obtain⟨lq,he,hx⟩:=F0 h.1 q hq hk;refine⟨lq,?_,hx⟩;have de:e.key∈m.map (·.key):=by
    obtain⟨h3,h4⟩:=Mem.get_mem h1;rw[hk];exact List.mem_map_of_mem h3
   rw[←hk,Mem.nJ de,he]
  ·exact⟨cs,by rw[Mem.nK hk];exact h1,h2⟩
theorem xr {b:Bool} {k v j:Nat} {x:AV}:∀{LI:List Cl},qO b k v j LI=some x→∃q∈LI,q.vv=b∧q.k=k∧q.v=v∧q.j=j∧q.x=x
 |[],h=>by simp[qO]at h
 |q::r,h=>by
  unfold qO at h;split at h
  ·rename_i hb;simp only[Bool.and_eq_true,decide_eq_true_eq]at hb;cases h;exact⟨q,by simp,hb.1.1.1.symm,hb.1.1.2.symm,hb.1.2.symm,hb.2.symm,rfl⟩
  ·obtain⟨q',h1,h2⟩:=xr h;exact⟨q',by simp[h1],h2⟩
theorem uY {b:Bool} {k v:Nat}:∀{LI:List Cl},tj b k v LI=true→∃q∈LI,q.vv=b∧q.k=k∧q.v=v
 |[],h=>by simp[tj]at h
 |q::r,h=>by
  unfold tj at h;split at h
  ·rename_i hb;simp only[Bool.and_eq_true,decide_eq_true_eq]at hb;exact⟨q,by simp,hb.1.1.symm,hb.1.2.symm,hb.2.symm⟩
  ·obtain⟨q',h1,h2⟩:=uY h;exact⟨q',by simp[h1],h2⟩
theorem Cm {LI:List Cl} {m:Mem} (hm:qp LI m) {q:Cl} (hq:q∈LI) (hv:q.vv=false):∃cs,Mem.get m q.k=some ⟨q.k,q.v,.box cs⟩∧cs[q.j]?=some q.x:=by
 obtain⟨c,h1,h2⟩:=hm q hq;rw[hv]at h2;obtain⟨cs,rfl,h3⟩:=LN h2;exact⟨cs,h1,h3⟩
theorem OP {LI:List Cl} {m:Mem} (hm:qp LI m) {q:Cl} (hq:q∈LI) (hv:q.vv=true):∃rows,Mem.get m q.k=some ⟨q.k,q.v,.vv rows (some q.x)⟩∧rows.length=q.j:=by
 obtain⟨c,h1,h2⟩:=hm q hq;rw[hv]at h2;obtain⟨cs,rfl,h3⟩:=ON h2;exact⟨cs,h1,h3⟩
theorem R7 {P:Program} {LI:List Cl} {S:St} {x:AV} (h:qP P LI S o.op=some x) (hm:qp LI S.mem):∃c,stepv P S o=.val c x∧(opOk S o&&c)=true:=by
 unfold qP at h;split at h
 ·rename_i t y ho;unfold Bc at h;split at h
  ·rename_i k v off heq;split at h
   ·rename_i j8 o8;obtain⟨q,hq,Bp,rfl,rfl,rfl,rfl⟩:=xr h;obtain⟨cs,h1,h2⟩:=Cm hm hq Bp;have cg:q.j<cs.length:=(List.getElem?_eq_some_iff.1 h2).1;refine⟨true,?_,by simp[opOk,ho,okAll,Op.operands,heq]⟩;unfold stepv;rw[ho];simp only[heq,loadR,h1,j8,h2,Option.getD_some];simp only[decide_eq_false_iff_not]at o8;simp[o8,cg]
   ·cases h
  ·rename_i k v i j heq;split at h
   ·rename_i j8 o8 hj;obtain⟨q,hq,Bp,rfl,rfl,rfl,rfl⟩:=xr h;obtain⟨rows,h1,h2⟩:=OP hm hq Bp;simp only[decide_eq_true_eq]at hj;subst hj;refine⟨true,?_,by simp[opOk,ho,okAll,Op.operands,heq]⟩;unfold stepv;rw[ho];simp only[heq,loadR,h1,j8];simp only[decide_eq_false_iff_not]at o8;simp[o8,h2]
   ·cases h
  ·cases h
 ·rename_i s y f ho;unfold Be at h;split at h
  ·rename_i n k v off hn heq;split at h
   ·rename_i hc;cases h;obtain⟨q,hq,Bp,rfl,rfl⟩:=uY hc;obtain⟨cs,h1,h2⟩:=Cm hm hq Bp;refine⟨true,?_,by simp[opOk,ho,okAll,Op.operands,heq]⟩;unfold stepv;rw[ho];simp[heq,fieldRm,hn,h1]
   ·cases h
  ·cases h
 ·rename_i y ho;unfold Bf at h;split at h
  ·rename_i k v off heq;split at h
   ·rename_i hc;cases h;obtain⟨q,hq,Bp,rfl,rfl⟩:=uY hc;obtain⟨cs,h1,h2⟩:=Cm hm hq Bp;refine⟨true,?_,by simp[opOk,ho,okAll,Op.operands,heq]⟩;unfold stepv;rw[ho];simp[heq,nilCheckR,h1]
   ·cases h
  ·cases h
 ·rename_i t y z ho;unfold Bg at h;split at h
  ·rename_i e k v off len kd n lu heq Yo;split at h
   ·rename_i bN hc eL wg;cases h;simp only[decide_eq_true_eq]at bN eL wg;obtain⟨q,hq,Bp,rfl,rfl⟩:=uY hc;obtain⟨rows,h1,h2⟩:=OP hm hq Bp;refine⟨true,?_,by simp[opOk,ho,okAll,Op.operands,heq,Yo]⟩;unfold stepv;rw[ho];simp[heq,Yo,indexR,lu,bN,h1,eL,wg]
   ·cases h
  ·cases h
 ·cases h
theorem OQ {P:Program} {LI:List Cl} {S' S:St} (h:∀x∈o.op.operands.toList,S'.opd x=S.opd x):qP P LI S' o.op=qP P LI S o.op:=by
 unfold qP;split
 ·rename_i t y ho;rw[h y (by simp[ho,Op.operands])]
 ·rename_i s y f ho;rw[h y (by simp[ho,Op.operands])]
 ·rename_i y ho;rw[h y (by simp[ho,Op.operands])]
 ·rename_i t y z ho;rw[h y (by simp[ho,Op.operands]),h z (by simp[ho,Op.operands])]
 ·rfl
theorem LO {all:List Oper} {LI:List Cl} {x:AV} (hd:∀t,o.dst=some t→t<S.n) (h:nZ X.P LI S o=some x):qN X.P (qp LI) all S o ⟨[],[],true,x⟩:=by
 intro S' ha hI φ G a w hr next R hn
 unfold nZ at h;split at h
 ·rename_i hg;rw[if_pos (by simp[Region.wanted,hg])];have hx:∀x∈o.op.operands.toList,S'.opd x=S.opd x:=fun x hx=>p9 ha hx;obtain⟨c,pJ,dt⟩:=R7 (by rw[OQ hx];exact h) hI;obtain⟨_,_,_,h4⟩:=yj (gb:=true) pJ dt (fun t ht=>by rw[ha.n];exact hd t ht);exact h4 φ G a w hr next R (fun _ φ' a' w' b7 aN=>hn φ' a' w' b7 aN) (fun t x he=>by cases he)
 ·cases h
theorem Ic {l:List Nat} {r:List Oper} (h:lO l r=true):l=[]∧r=[]:=by
 cases l<;>cases r<;>simp_all [lO]
theorem R8 {all:List Oper} {nd:List (List Nat)} {ps:List aR} (hs:zP all nd=true) (hl:ps.length+1=all.length) (hn:nd.getD (all.length-1) []=[]) (hd:ordD nd ps=true):mg all (ps++[ze])=true:=by
 have wY:=zc hs hn;unfold mg;refine List.all_eq_true.2 fun j hj=>?_;have h1:=List.all_eq_true.1 hs j hj;have oG:j<all.length:=List.mem_range.1 hj;unfold wX at h1;unfold Em;have pY:(ps++[ze])[j]?=some ((ps++[ze])[j]'(by simp;omega)):=by simp[hl,oG]
 rw[pY];cases ho:all[j]? with
 |none=>rw[ho]at h1;cases h1
 |some o=>
  rw[ho]at h1;simp only[Bool.and_eq_true,List.all_eq_true,decide_eq_true_eq,Bool.or_eq_true,List.mem_range]at h1⊢;refine⟨h1.1,fun i hi=>?_⟩;by_cases im:j+1=all.length
  ·left;have:=wY i (by omega);rw[←im]at this;simpa using this
  ·rcases h1.2 i hi with h2|h2
   ·exact .inl h2
   ·right;have p4:j<ps.length:=by omega
    have jD:(ps++[ze])[i]?=some (ps[i]'(by omega)):=by rw[List.getElem?_append_left (by omega)];simp[show i<ps.length by omega]
    have ahY:(ps++[ze])[j]'(by simp;omega)=ps[j]'p4:=List.getElem_append_left p4
    rw[ahY];cases hZ:all[i]? with
    |none=>rw[hZ]at h2;cases h2
    |some o'=>
     rw[hZ]at h2;rw[jD];simp only[Bool.and_eq_true]at h2;simp only[wR];have e1:=uQ (o7 hd i _ (List.getElem?_eq_getElem (show i<ps.length by omega))) j (by simpa using h2.2.1) _ (List.getElem?_eq_getElem p4);have e2:=uQ (o7 hd j _ (List.getElem?_eq_getElem p4)) i (by simpa using h2.2.2) _ (List.getElem?_eq_getElem (show i<ps.length by omega));have e3:=h2.1;simp only[zO,Bool.and_eq_true]at e3;simp only[Bool.and_eq_true];exact⟨⟨e3,e1⟩,e2⟩
def OR (P:Program) (I:Mem→Prop) (nd:List (List Nat)) (all ops:List Oper) (S:St) (acc:List aR) (e:XE) (S1:St):Prop:=
 (e=.normal∧∃ps S2,Cert P I all ops S ps S2∧gD S1 S2∧ordD nd (acc.reverse++ps)=true)∨
  (∃init ol ps S2,ops=init++[ol]∧Cert P I all init S ps S2∧nd.getD (all.length-1) []=[]∧ordD nd (acc.reverse++ps)=true∧xm P all S2 ol e S1)
theorem xm.eqv {P:Program} {all:List Oper} {S S0 S1:St} {e:XE} (h:xm P all S o e S1) (he:gD S S0):xm P all S0 o e S1:=by
 obtain⟨h1,h2,h3,h4⟩:=h;refine⟨h1.trans he.n,h2.trans he.gl,h3,fun φ G a w hr next R hn hp=>?_⟩;have:=h4 φ G a w (hr.eqv he.symm) next R
 rw[he.mem]at this;exact this hn hp
theorem Dt {md:Bool} {nd:List (List Nat)} {LI:List Cl} {all:List Oper} (aP:jg X cl):∀(ops:List Oper) (S:St) (acc:List aR) (e:XE) (S1:St),acc.length+ops.length=all.length→mF X cl md nd LI all ops S acc=some (e,S1)→S.gl=X.gl→jA S.n ops=true→
 OR X.P (qp LI) nd all ops S acc e S1
 |[],S,acc,e,S1,_,h,cq,hd=>by
  simp only[mF]at h;split at h
  ·rename_i cI;cases h;exact .inl ⟨rfl,[],S,.nil S,gD.refl _,by simpa using cI⟩
  ·cases h
 |o::rest,S,acc,e,S1,hlen,h,cq,hd=>by
  have yS:=hd;simp only[jA,List.all_cons,Bool.and_eq_true]at hd;obtain⟨p8,hd⟩:=hd;have qB:∀t,o.dst=some t→t<S.n:=fun t ht=>by rw[ht]at p8;simpa using p8
  simp only[List.length_cons]at hlen;simp only[mF]at h;cases iA:lO (nd.getD acc.length []) rest with
  |true=>
   rw[iA]at h;simp only[FI]at h;obtain⟨wT,rfl⟩:=Ic iA;split at h
   ·rename_i cI;right;refine⟨[],o,[],S,rfl,.nil S,?_,by simpa using cI,?_⟩
    ·have:all.length-1=acc.length:=by simp at hlen;omega
     rw[this];exact wT
    ·simp only[gi]at h;rcases gF h with ⟨S3,h1,h2⟩|⟨h1,h2⟩
     ·cases h2;exact rH aP cq qB h1
     ·exact rH aP cq qB h1
   ·cases h
  |false=>
  rw[iA]at h;simp only at h;have glue:∀(p:aR) (S':St),(∀e∈p.es,e.key∈p.ks)→(∀m,qp LI m→qp LI (putAll m p.es))→qN X.P (qp LI) all S o p→gD S' (p.app o S)→mF X cl md nd LI all rest S' (p::acc)=some (e,S1)→OR X.P (qp LI) nd all (o::rest) S acc e S1:=by
   intro p S' hk hI eB heq bB;rcases Dt aP rest S' (p::acc) e S1 (by simp;omega) bB (by rw[heq.gl,pZ];exact cq) (by rw[heq.n,sn];exact hd)with ⟨he,ps,S3,hc,Yn,cI⟩|⟨init,ol,ps,S3,hr,hc,hn,cI,gn⟩
   ·obtain⟨S4,OL,OM⟩:=z6 hc heq;exact .inl ⟨he,p::ps,S4,.cons o rest S p ps S4 hk hI eB OL,Yn.trans OM,by simpa using cI⟩
   ·obtain⟨S4,OL,OM⟩:=z6 hc heq;exact .inr ⟨o::init,ol,p::ps,S4,by rw[hr];rfl,.cons o init S p ps S4 hk hI eB OL,hn,by simpa using cI,gn.eqv OM⟩
  cases hl:nZ X.P LI S o with
  |some x=>
   rw[hl]at h;simp only[m5,uR]at h;exact glue ⟨[],[],true,x⟩ _ (by simp) (fun _ h=>h) (LO (X:=X) (all:=all) qB hl) (gD.refl _) h
  |none=>
   rw[hl]at h;simp only[m5]at h;cases hg:dX X cl md all S o with
   |none=>rw[hg]at h;cases h
   |some q=>
    obtain⟨S2,p⟩:=q;rw[hg]at h;simp only[Ck]at h;split at h
    ·rename_i hinv;simp only[uR]at h;obtain⟨heq,gZ,eB⟩:=xp aP cq qB hg;exact glue p S2 gZ (Ds hinv) eB.toI heq h
    ·cases h
end
theorem bj.R9 {φ:bI} {G:Fr} {m:Mem} {w:World} (h:bj φ G m w) {e1 e2 e1' e2':cJ} (yM:e1∈m) (vJ:e2∈m) (bE:e1.key≠e2.key) {L1 L2 L1' L2':Loc} (Oy:φ e1.key=some L1) (dU:φ e2.key=some L2)
 (gu:e1'.key=e1.key) (ck:e2'.key=e2.key) (Ub:L1.aj≤L1'.aj) (rj:L2.aj≤L2'.aj) (pN:L1'.aj=L1.aj→L1'={L1 with cM:=L1'.cM}) (qv:L2'.aj=L2.aj→L2'={L2 with cM:=L2'.cM})
 (oJ:L1'.aj=e1'.aj) (hw2:L2'.aj=e2'.aj) (Yp:∀b,e1'.cont.cN L1' b→e1.cont.cN L1 b∨e2.cont.cN L2 b) (A9:∀b,e2'.cont.cN L2' b→e1.cont.cN L1 b∨e2.cont.cN L2 b)
 (Uv:∀b,e1'.cont.cN L1' b→e2'.cont.cN L2' b→False)
 (hc:∀(φ':bI) (F':Nat→Prop),φ.le φ'→φ' e1.key=some L1'→φ' e2.key=some L2'→(∀b,F' b→Fo G φ m b)→dR φ' w F' L1' e1'.cont∧dR φ' w F' L2' e2'.cont):
 ∃φ',bj φ' G (Mem.set (Mem.set m e1') e2') w∧aQ φ m w φ' (Mem.set (Mem.set m e1') e2') w:=by
 obtain⟨m',dr⟩:∃m',m'=Mem.set (Mem.set m e1') e2':=⟨_,rfl⟩;rw[←dr];have dW:((Mem.set m e1').map (·.key)).Nodup:=by rw[Mem.gw];exact h.nodup
 have mi:m'.map (·.key)=m.map (·.key):=by rw[dr,Mem.gw,Mem.gw]
 have fa:∀y,y∈m'→y=e2'∨y=e1'∨(y∈m∧y.key≠e1.key∧y.key≠e2.key):=by
  intro y hy;rw[dr]at hy;rcases (Mem.mem_set dW).1 hy with ⟨h1,_⟩|⟨h1,h2⟩
  ·exact .inl h1
  ·rcases (Mem.mem_set h.nodup).1 h1 with ⟨h1,_⟩|⟨h1,h3⟩
   ·exact .inr (.inl h1)
   ·exact .inr (.inr ⟨h1,by rw[←gu];exact h3,by rw[←ck];exact h2⟩)
 obtain⟨φ',jq⟩:∃φ':bI,φ'=fun j=>if j=e1.key then some L1' else if j=e2.key then some L2' else φ j:=⟨_,rfl⟩
 have f1:φ' e1.key=some L1':=by simp[jq]
 have f2:φ' e2.key=some L2':=by simp[jq,show ¬e2.key=e1.key from fun h=>bE h.symm]
 have f3:∀j,j≠e1.key→j≠e2.key→φ' j=φ j:=fun j h1 h2=>by simp[jq,h1,h2]
 have hle:φ.le φ':=by
  intro j L0 h0;by_cases h1:j=e1.key
  ·subst h1;rw[Oy]at h0;cases h0;exact⟨_,f1,Ub,pN⟩
  ·by_cases h2:j=e2.key
   ·subst h2;rw[dU]at h0;cases h0;exact⟨_,f2,rj,qv⟩
   ·exact⟨L0,by rw[f3 j h1 h2];exact h0,Nat.le_refl _,fun _=>rfl⟩
 have kD:∀b,e1.cont.cN L1 b∨e2.cont.cN L2 b→iy φ m b:=fun b hb=>hb.elim (fun hb=>⟨e1,yM,L1,Oy,hb⟩) (fun hb=>⟨e2,vJ,L2,dU,hb⟩);have fD:∀b,iy φ' m' b→iy φ m b:=by
  rintro b ⟨y,hy,Ly,dA,gN⟩;rcases fa y hy with rfl|rfl|⟨h1,h2,h3⟩
  ·rw[ck,f2]at dA;cases dA;exact kD b (A9 b gN)
  ·rw[gu,f1]at dA;cases dA;exact kD b (Yp b gN)
  ·rw[f3 _ h2 h3]at dA;exact⟨y,h1,Ly,dA,gN⟩
 have hF:∀b,Fo G φ' m' b→Fo G φ m b:=fun b=>Or.imp id (fD b);have fu:=hc φ' (Fo G φ' m') hle f1 f2 hF;have o8:∀y∈m,y.key≠e1.key→y.key≠e2.key→∀Ly,φ y.key=some Ly→∀b,y.cont.cN Ly b→e1.cont.cN L1 b∨e2.cont.cN L2 b→False:=by
  intro y hy h2 h3 Ly dA b gN hb;rcases hb with hb|hb
  ·exact h2 (h.apart y hy e1 yM Ly L1 dA Oy ⟨b,gN,hb⟩)
  ·exact h3 (h.apart y hy e2 vJ Ly L2 dA dU ⟨b,gN,hb⟩)
 refine⟨φ',⟨by rw[mi];exact h.nodup,?_,?_,?_,fun b hb=>h.jZ b (fD b hb),h.bound⟩,⟨hle,fun _ _ _=>rfl,fun b _ hb=>fD b hb,Nat.le_refl _,rfl,rfl,rfl⟩⟩
 ·intro j L0 h0;rw[mi];by_cases h1:j=e1.key
  ·subst h1;exact List.mem_map_of_mem yM
  ·by_cases h2:j=e2.key
   ·subst h2;exact List.mem_map_of_mem vJ
   ·rw[f3 j h1 h2]at h0;exact h.oE j L0 h0
 ·intro y hy;rcases fa y hy with rfl|rfl|⟨h1,h2,h3⟩
  ·exact⟨L2',by rw[ck];exact f2,hw2,fu.2⟩
  ·exact⟨L1',by rw[gu];exact f1,oJ,fu.1⟩
  ·obtain⟨Ly,dA,On,kL⟩:=h.eZ y h1;exact⟨Ly,by rw[f3 _ h2 h3];exact dA,On,kL.mono hle (fun _ _ _=>rfl) (Nat.le_refl _) (fun b _=>hF b) (fun _ _=>rfl)⟩
 ·rintro y hy z hz Ly Lz dA iI ⟨b,gN,nx⟩;rcases fa y hy with rfl|rfl|⟨h1,h2,h3⟩
  ·rw[ck,f2]at dA;cases dA;rcases fa z hz with rfl|rfl|⟨g1,g2,g3⟩
   ·rfl
   ·rw[gu,f1]at iI;cases iI;exact (Uv b nx gN).elim
   ·rw[f3 _ g2 g3]at iI;exact (o8 z g1 g2 g3 Lz iI b nx (A9 b gN)).elim
  ·rw[gu,f1]at dA;cases dA;rcases fa z hz with rfl|rfl|⟨g1,g2,g3⟩
   ·rw[ck,f2]at iI;cases iI;exact (Uv b gN nx).elim
   ·rfl
   ·rw[f3 _ g2 g3]at iI;exact (o8 z g1 g2 g3 Lz iI b nx (Yp b gN)).elim
  ·rw[f3 _ h2 h3]at dA;rcases fa z hz with rfl|rfl|⟨g1,g2,g3⟩
   ·rw[ck,f2]at iI;cases iI;exact (o8 y h1 h2 h3 Ly dA b gN (A9 b nx)).elim
   ·rw[gu,f1]at iI;cases iI;exact (o8 y h1 h2 h3 Ly dA b gN (Yp b nx)).elim
   ·rw[f3 _ g2 g3]at iI;exact h.apart y h1 z g1 Ly Lz dA iI ⟨b,gN,nx⟩
theorem LP (S:St) (kb j k sz:Nat):dV S (S.adopt kb j k sz):=by
 unfold St.adopt;split
 ·rename_i key vb cs dS v cont Yq hg;split
  ·rename_i hj;split
   ·exact dV.refl S
   ·rename_i bE;refine⟨rfl,rfl,fun φ G a w hr=>?_⟩;obtain⟨hm,hk,L,hL,aw,b8⟩:=hr.mem.get hg;simp only at hk aw;subst hk;obtain⟨φ1,sl,gu,hφ1,ep⟩:=hr.mem.cW (e':=⟨dS,v+1,.vec sz []⟩) hm hL rfl (L':=⟨v+1,0,sz,0,0,[]⟩) (by simp only;omega) (fun hh=>by simp only at hh;omega) rfl
     (w':=w) (fun _ _ _=>rfl) (Nat.le_refl _) (fun _ ho=>absurd ho.1 (by simp)) rfl rfl rfl (fun φ' jq kX=>⟨rfl,by simp,by simp,fun hc=>by simp at hc⟩)
    have ahZ:Mem.get (Mem.set S.mem ⟨dS,v+1,.vec sz []⟩) kb=some ⟨key,vb,.box cs⟩:=by
     rw[Mem.nK (by simpa using fun h=>bE h.symm)];exact Yq
    obtain⟨Uy,OS,Lb,Uz,Bq,Sa⟩:=sl.get ahZ;simp only at OS Bq;subst OS;obtain⟨φ2,jT,ck,hφ2,arP⟩:=sl.cW (e':=⟨key,vb,.box (cs.set j (.vec dS (v+1) 0 0))⟩) Uy Uz rfl (L':=Lb) (Nat.le_refl _) (fun _=>rfl) Bq
     (w':=w) (fun _ _ _=>rfl) (Nat.le_refl _) (fun _ ho=>.inl ho) rfl rfl rfl (fun φ' jq kX=>by
      obtain⟨g0,arr,elem,g1,g2,g3,g4⟩:=Sa;have Un:∀b,Fo G φ' (Mem.set (Mem.set S.mem ⟨dS,v+1,.vec sz []⟩) ⟨key,vb,.box (cs.set j (.vec dS (v+1) 0 0))⟩) b→Fo G φ1 (Mem.set S.mem ⟨dS,v+1,.vec sz []⟩) b:=by
       rintro b (h|⟨x,hx,Lx,eo,iz⟩)
       ·exact .inl h
       ·right;rcases (Mem.mem_set sl.nodup).1 hx with ⟨rfl,_⟩|⟨gr,Yr⟩
        ·simp only[jq,if_true]at eo;cases eo;exact⟨_,Uy,Lb,Uz,iz⟩
        ·simp only[jq,Yr,if_false]at eo;exact⟨x,gr,Lx,eo,iz⟩
      refine⟨by simpa using g0,arr,elem,g1,by simp[g2],g3,fun i c u hc hu=>?_⟩;rw[List.getElem?_set]at hc;split at hc
      ·rename_i ka;subst ka;split at hc
       ·cases hc;have:=g4 j _ u hj hu;cases this;refine .vec dS (v+1) 0 0 _ ⟨v+1,0,sz,0,0,[]⟩ ?_ (Nat.le_refl _) (fun _=>⟨_,_,rfl,by simp,fun h=>by omega⟩) rfl;rw[jq];simp only
        rw[if_neg (fun h=>bE h.symm)];exact hφ1
       ·cases hc
      ·exact (g4 i c u hc hu).mono kX (fun _ _ _=>rfl) (Nat.le_refl _) (fun b _=>Un b))
    have nw:=gu.trans ck;exact⟨φ2,hr.wc jT nw,nw⟩
  ·exact dV.refl S
 ·exact dV.refl S
theorem xu (τ:AV→AV):∀m:Mem,(mapB τ m).map (·.key)=m.map (·.key)
 |[]=>rfl
 |e::r=>by simp[mapB,xu τ r]
theorem F2 {τ:AV→AV}:∀{m:Mem} {x:cJ},x∈mapB τ m↔∃e∈m,x=⟨e.key,e.aj,mapC τ e.cont⟩
 |[],x=>by simp[mapB]
 |e::r,x=>by simp[mapB,F2 (m:=r)]
theorem LQ (S:St) (k k2:Nat):dV S (S.rekey k k2):=by
 unfold St.rekey;split
 ·rename_i key v sz rows dS v2 cont hg mz;split
  ·exact dV.refl S
  ·rename_i bE;refine⟨rfl,rfl,fun φ G a w hr=>?_⟩;obtain⟨hm,hk,L,hL,aw,b8⟩:=hr.mem.get hg;obtain⟨jT,ck,L2,dU,ym,_⟩:=hr.mem.get mz;simp only at hk aw ck ym;subst hk;subst ck;have Ye:¬dS=key:=fun h=>bE h.symm;obtain⟨τ,hτ⟩:∃τ,τ=rkAV key v dS (v2+1):=⟨_,rfl⟩;rw[←hτ];obtain⟨m1,sl⟩:∃m1,m1=Mem.set (mapB τ S.mem) ⟨key,v+1,.dead⟩:=⟨_,rfl⟩;have eL:((mapB τ S.mem).map (·.key)).Nodup:=by rw[xu];exact hr.mem.nodup
   have dW:(m1.map (·.key)).Nodup:=by rw[sl,Mem.gw];exact eL
   obtain⟨m',dr⟩:∃m',m'=Mem.set m1 ⟨dS,v2+1,.vec sz rows⟩:=⟨_,rfl⟩;rw[←sl,←dr];have mi:m'.map (·.key)=S.mem.map (·.key):=by rw[dr,Mem.gw,sl,Mem.gw,xu]
   have fa:∀y,y∈m'→y=⟨dS,v2+1,.vec sz rows⟩∨y=⟨key,v+1,.dead⟩∨(∃z∈S.mem,y=⟨z.key,z.aj,mapC τ z.cont⟩∧z.key≠key∧z.key≠dS):=by
    intro y hy;rw[dr]at hy;rcases (Mem.mem_set dW).1 hy with ⟨h,_⟩|⟨h,h2⟩
    ·exact .inl h
    ·rw[sl]at h;rcases (Mem.mem_set eL).1 h with ⟨h,_⟩|⟨h,h3⟩
     ·exact .inr (.inl h)
     ·obtain⟨z,hz,rfl⟩:=F2.1 h;exact .inr (.inr ⟨z,hz,rfl,h3,h2⟩)
   obtain⟨φ',jq⟩:∃φ':bI,φ'=fun j=>if j=key then some {L with aj:=v+1} else if j=dS then some {L with aj:=v2+1} else φ j:=⟨_,rfl⟩
   have f1:φ' key=some {L with aj:=v+1}:=by simp[jq]
   have f2:φ' dS=some {L with aj:=v2+1}:=by simp[jq,Ye]
   have f3:∀j,j≠key→j≠dS→φ' j=φ j:=fun j h1 h2=>by simp[jq,h1,h2]
   have hle:φ.le φ':=by
    intro j L0 h0;by_cases h1:j=key
    ·subst h1;rw[hL]at h0;cases h0;exact⟨_,f1,by simp only;omega,fun hh=>by simp only at hh;omega⟩
    ·by_cases h2:j=dS
     ·subst h2;rw[dU]at h0;cases h0;exact⟨_,f2,by simp only;omega,fun hh=>by simp only at hh;omega⟩
     ·exact⟨L0,by rw[f3 j h1 h2];exact h0,Nat.le_refl _,fun _=>rfl⟩
   have fD:∀b,iy φ' m' b→iy φ S.mem b:=by
    rintro b ⟨y,hy,Ly,dA,gN⟩;rcases fa y hy with rfl|rfl|⟨y0,h1,rfl,h2,h3⟩
    ·simp only at dA;rw[f2]at dA;cases dA;exact⟨_,hm,L,hL,gN⟩
    ·exact gN.elim
    ·simp only at dA;rw[f3 _ h2 h3]at dA;exact⟨y0,h1,Ly,dA,ku.1 gN⟩
   have hF:∀b,Fo G φ' m' b→Fo G φ S.mem b:=fun b=>Or.imp id (fD b);have bX:∀x u,az φ w (Fo G φ S.mem) x u→az φ' w (Fo G φ' m') (τ x) u:=by
    intro y u h0;have lM:=h0.mono (φ':=φ') (F':=Fo G φ' m') hle (fun _ _ _=>rfl) (Nat.le_refl _) (fun b _=>hF b);rw[hτ];unfold rkAV;split
    ·rename_i k0 v0 o l;split
     ·rename_i hh;obtain⟨rfl,rfl⟩:=hh;cases h0 with
      |vec _ _ _ _ _ L' bM _ h h1=>
       rw[hL]at bM;cases bM;exact .vec dS (v2+1) o l _ _ f2 (Nat.le_refl _) (fun _=>h aw.symm) h1
     ·exact lM
    ·exact lM
   refine⟨φ',⟨hr.size,hr.defers,?_,⟨?_,?_,?_,?_,?_,?_⟩,hr.j0.mono (fun _ _ _=>rfl) (Nat.le_refl _) (fun b _=>hF b)⟩,Fq fD hle⟩
   ·intro t x hx;obtain⟨y,hy,rfl⟩:=wO _ S.env t true x hx;exact bX _ _ (hr.env t y hy)
   ·show (m'.map (·.key)).Nodup;rw[mi];exact hr.mem.nodup
   ·intro j L0 h0;show j∈m'.map (·.key);rw[mi];by_cases h1:j=key
    ·subst h1;exact List.mem_map_of_mem hm
    ·by_cases h2:j=dS
     ·subst h2;exact List.mem_map_of_mem jT
     ·rw[f3 j h1 h2]at h0;exact hr.mem.oE j L0 h0
   ·intro y hy;rcases fa y hy with rfl|rfl|⟨y0,h1,rfl,h2,h3⟩
    ·refine⟨_,f2,rfl,?_⟩;have:=b8.mono (φ':=φ') (F':=Fo G φ' m') hle (fun _ _ _=>rfl) (Nat.le_refl _) (fun b _=>hF b) (fun _ _=>rfl);exact this
    ·exact⟨_,f1,rfl,trivial⟩
    ·obtain⟨Ly,dA,On,kL⟩:=hr.mem.eZ y0 h1;refine⟨Ly,by simp only;rw[f3 _ h2 h3];exact dA,On,?_⟩;cases mP:y0.cont with
     |dead=>trivial
     |box cs=>
      rw[mP]at kL;obtain⟨g0,arr,elem,g1,g2,g3,g4⟩:=kL;refine⟨by simpa using g0,arr,elem,g1,by simp[g2],g3,fun i c u sk hu=>?_⟩;rw[List.getElem?_map]at sk;obtain⟨x,hx,rfl⟩:=Option.map_eq_some_iff.1 sk;exact bX x u (g4 i x u hx hu)
     |vec sz1 acQ=>
      rw[mP]at kL;exact kL.mono hle (fun _ _ _=>rfl) (Nat.le_refl _) (fun b _=>hF b) (fun _ _=>rfl)
     |vv acQ y1=>
      rw[mP]at kL;exact jY.mono τ kL (fun _ _ _ _ u hu=>hu.mono (fun _ _ _=>rfl) (Nat.le_refl _) (fun b _=>hF b)) (fun x _ v hx=>bX x v hx) (fun _ _=>rfl)
   ·rintro y hy z hz Ly Lz dA iI ⟨b,gN,nx⟩;rcases fa y hy with rfl|rfl|⟨y0,h1,rfl,h2,h3⟩
    ·rcases fa z hz with rfl|rfl|⟨z0,g1,rfl,g2,g3⟩
     ·rfl
     ·exact nx.elim
     ·simp only at dA;rw[f2]at dA;cases dA;simp only at iI;rw[f3 _ g2 g3]at iI;exact absurd (hr.mem.apart _ hm z0 g1 L Lz hL iI ⟨b,gN,ku.1 nx⟩).symm g2
    ·exact gN.elim
    ·rcases fa z hz with rfl|rfl|⟨z0,g1,rfl,g2,g3⟩
     ·simp only at iI;rw[f2]at iI;cases iI;simp only at dA;rw[f3 _ h2 h3]at dA;exact absurd (hr.mem.apart y0 h1 _ hm Ly L dA hL ⟨b,ku.1 gN,nx⟩) h2
     ·exact nx.elim
     ·simp only at dA iI;rw[f3 _ h2 h3]at dA;rw[f3 _ g2 g3]at iI;exact hr.mem.apart y0 h1 z0 g1 Ly Lz dA iI ⟨b,ku.1 gN,ku.1 nx⟩
   ·intro b hb;exact hr.mem.jZ b (fD b hb)
   ·exact hr.mem.bound
 ·exact dV.refl S
theorem OT {α:Type} {l:List α} {n:Nat} (h:l.length=n+1):∃(r:List α) (o:α),l=r++[o]∧r.length=n:=by
 refine⟨l.dropLast,l.getLast (by intro hh;simp[hh]at h),(List.dropLast_concat_getLast _).symm,by simp[h]⟩
theorem Sb (S:St) (k k2:Nat):dV S (S.opn k k2):=by
 unfold St.opn;split
 ·rename_i key v rows dS v2 cont hg mz;split
  ·rename_i xs mO;split
   ·exact dV.refl S
   ·rename_i bE;refine⟨rfl,rfl,fun φ G a w hr=>?_⟩;obtain⟨hm,hk,L,hL,aw,b8⟩:=hr.mem.get hg;obtain⟨jT,ck,L2,dU,ym,_⟩:=hr.mem.get mz;simp only at hk aw ck ym;subst hk;subst ck;have jx:rows=rows.dropLast++[xs]:=by
     rcases List.eq_nil_or_concat rows with rfl|⟨r,x,rfl⟩
     ·simp at mO
     ·simp at mO;subst mO;simp
    obtain⟨r,NY⟩:∃r,r=rows.dropLast:=⟨_,rfl⟩;rw[←NY]at jx⊢;subst jx;obtain⟨⟨h0,h1,h2⟩,h3,h4,h5⟩:jY φ w (Fo G φ S.mem) L (r++[xs]) none:=b8;simp only[List.length_append,List.length_singleton,Option.toList_none,List.length_nil,Nat.add_zero]at h1 h2;obtain⟨arr,elem,g1,g2,g3,g4,_⟩:=h5 (by omega);obtain⟨cM,o,fq,lz⟩:=OT h2;have gn:=g4 r.length xs o (by simp) (by rw[fq,←lz];simp);have de:∀b,some b∈cM→some b∈L.cM:=fun b hb=>by rw[fq];simp[hb]
    have np:∀(i:Nat) (x:Option Nat),cM[i]?=some x→L.cM[i]?=some x:=fun i x hx=>by
     rw[fq,List.getElem?_append_left (List.getElem?_eq_some_iff.1 hx).1];exact hx
    have ah0:∀b,o=some b→some b∉cM:=fun b hb hm=>by
     obtain⟨i,hi⟩:=List.getElem?_of_mem hm;have cg:=(List.getElem?_eq_some_iff.1 hi).1;have:=h3 i r.length b (np i _ hi) (by rw[fq,←lz,←hb];simp);omega
    have base:∀(L2':Loc) (x:Value),(L2'.aj=v2+1∧L2'.sz=1)→arr[L.base+r.length]?=some x→(∀(φ':bI) (F':Nat→Prop),φ' dS=some L2'→az φ' w F' (.vec dS (v2+1) 0 xs.length) x)→
     (∀b,0<L2'.cap→L2'.dx=b→o=some b)→
     (∀(φ':bI) (F':Nat→Prop),φ.le φ'→(∀b,F' b→Fo G φ S.mem b)→dR φ' w F' L2' (.vec 1 xs))→
     ∃φ',Rel φ' G {S with mem:=Mem.set (Mem.set S.mem ⟨key,v,.vv r (some (.vec dS (v2+1) 0 xs.length))⟩) ⟨dS,v2+1,.vec 1 xs⟩} a w∧aQ φ S.mem w φ' (Mem.set (Mem.set S.mem ⟨key,v,.vv r (some (.vec dS (v2+1) 0 xs.length))⟩) ⟨dS,v2+1,.vec 1 xs⟩) w:=by
     intro L2' x Cj hx bX mB acR;have sf:∀(φ':bI) (F':Nat→Prop),φ.le φ'→φ' dS=some L2'→(∀b,F' b→Fo G φ S.mem b)→dR φ' w F' {L with cM:=cM} (.vv r (some (.vec dS (v2+1) 0 xs.length))):=by
      intro φ' F' hle f2 hF;refine⟨⟨h0,by simp;omega,lz⟩,fun i j b hi hj=>h3 i j b (np _ _ hi) (np _ _ hj),fun b hb=>h4 b (de b hb),fun _=>⟨arr,elem,g1,g2,g3,fun i AQ o' hi ho=>?_,fun y hy=>?_⟩⟩
      ·have iA:=(List.getElem?_eq_some_iff.1 hi).1;exact (g4 i AQ o' (by rw[List.getElem?_append_left iA];exact hi) (np _ _ ho)).mono (fun d u _ hu=>hu.mono (fun _ _ _=>rfl) (Nat.le_refl _) (fun b _=>hF b)) (fun _ _=>rfl)
      ·cases hy;exact⟨x,hx,bX φ' F' f2⟩
     obtain⟨φ',dr,aN⟩:=hr.mem.R9 (e1':=⟨key,v,.vv r (some (.vec dS (v2+1) 0 xs.length))⟩) (e2':=⟨dS,v2+1,.vec 1 xs⟩) hm jT bE hL dU (L1':={L with cM:=cM}) (L2':=L2') rfl rfl (Nat.le_refl _) (by rw[Cj.1];omega)
      (fun _=>rfl) (fun hh=>by rw[Cj.1]at hh;omega) aw Cj.1 (fun b hb=>.inl (by
       rcases hb with hb|hb
       ·exact .inl hb
       ·exact .inr (de b hb))) (fun b hb=>.inl (.inr (by rw[fq,mB b hb.1 hb.2];simp))) (fun b aV aS=>by
       have IK:=mB b aS.1 aS.2;rcases aV with ⟨_,aV⟩|aV
       ·exact (h4 b (by rw[fq,IK];simp)).2 aV.symm
       ·exact ah0 b IK aV) (fun φ' F' hle f1 f2 hF=>⟨sf φ' F' hle f2 hF,acR φ' F' hle hF⟩)
     exact⟨φ',hr.wc dr aN,aN⟩
    cases o with
    |none=>
     obtain⟨rfl,b,hv⟩:=gn;exact base ⟨v2+1,0,1,0,0,[]⟩ _ ⟨rfl,rfl⟩ hv (fun φ' F' hf=>.vec dS _ 0 0 _ _ hf (Nat.le_refl _) (fun _=>⟨_,_,rfl,by simp,fun h=>by omega⟩) rfl) (fun b hb=>by simp at hb) (fun φ' F' hle hF=>⟨rfl,by simp,by simp,fun hc=>by simp at hc⟩)
    |some b=>
     obtain⟨row,re,off,cap,q1,q2,q3,q4,q5,q6,q7⟩:=gn;refine base ⟨v2+1,b,1,row.size-off,off,[]⟩ _ ⟨rfl,rfl⟩ q1 (fun φ' F' hf=>.vec dS _ 0 _ _ _ hf (Nat.le_refl _) (fun _=>⟨_,cap,rfl,q3,fun h=>⟨by simp,by simp only;omega⟩⟩) rfl) (fun b' _ hb=>by simp only at hb;rw[hb]) (fun φ' F' hle hF=>?_);refine⟨rfl,by simp only;omega,fun d hd=>?_,fun hc=>⟨row,re,q5,by simp only;omega,q6,fun i d hi=>?_⟩⟩
     ·obtain⟨i,hi⟩:=List.getElem?_of_mem hd;exact (q7 i d hi).1
     ·obtain⟨_,u,hu,hj⟩:=q7 i d hi;exact⟨u,hu.mono (fun _ _ _=>rfl) (Nat.le_refl _) (fun b _=>hF b),hj⟩
  ·exact dV.refl S
 ·exact dV.refl S
theorem Sc (S:St) (k k2:Nat):dV S (S.cls k k2):=by
 unfold St.cls;split
 ·rename_i key v rows k3 v3 len dS v2 xs hg mz;split
  ·exact dV.refl S
  ·rename_i bE;split
   ·rename_i acS;obtain⟨rfl,rfl,rfl⟩:=acS;refine⟨rfl,rfl,fun φ G a w hr=>?_⟩;obtain⟨hm,hk,L,hL,aw,b8⟩:=hr.mem.get hg;obtain⟨jT,ck,L2,dU,ym,ah1⟩:=hr.mem.get mz;simp only at hk aw ck ym;subst hk;subst ck;obtain⟨⟨h0,h1,h2⟩,h3,h4,h5⟩:jY φ w (Fo G φ S.mem) L rows (some (.vec dS v3 0 xs.length)):=b8;simp only[Option.toList_some,List.length_singleton]at h1;obtain⟨arr,elem,g1,g2,g3,g4,g5⟩:=h5 (by omega);obtain⟨y,gy,gav⟩:=g5 _ rfl;obtain⟨z0,z1,z2,z3⟩:=ah1;have fj:∀b,0<L2.cap→L2.dx=b→(L.dx=b∨some b∈L.cM)→False:=by
     intro b hc hb hh;refine bE (hr.mem.apart _ hm _ jT L L2 hL dU ⟨b,?_,⟨hc,hb⟩⟩);rcases hh with hh|hh
     ·exact .inl ⟨by omega,hh⟩
     ·exact .inr hh
    have base:∀(o:Option Nat),(∀b,o=some b→0<L2.cap∧L2.dx=b)→(∀F':Nat→Prop,(∀b,F' b→Fo G φ S.mem b)→v8 w F' (some y) xs o)→
     ∃φ',Rel φ' G {S with mem:=Mem.set (Mem.set S.mem ⟨key,v,.vv (rows++[xs]) none⟩) ⟨dS,v3+1,.dead⟩} a w∧aQ φ S.mem w φ' (Mem.set (Mem.set S.mem ⟨key,v,.vv (rows++[xs]) none⟩) ⟨dS,v3+1,.dead⟩) w:=by
     intro o ho IH;have OB:∀(i b:Nat),(L.cM++[o])[i]?=some (some b)→(L.cM[i]?=some (some b)∧i<L.cM.length)∨(i=L.cM.length∧o=some b):=by
      intro i b hi;rcases Nat.lt_trichotomy i L.cM.length with cg|heq|sd
      ·rw[List.getElem?_append_left cg]at hi;exact .inl ⟨hi,cg⟩
      ·subst heq;simp at hi;exact .inr ⟨rfl,hi⟩
      ·rw[List.getElem?_append_right (by omega)]at hi;have:i-L.cM.length=(i-L.cM.length-1)+1:=by omega
       rw[this]at hi;simp at hi
     have sf:∀(φ':bI) (F':Nat→Prop),(∀b,F' b→Fo G φ S.mem b)→dR φ' w F' {L with cM:=L.cM++[o]} (.vv (rows++[xs]) none):=by
      intro φ' F' hF;refine⟨⟨h0,by simp;omega,by simp[h2]⟩,fun i j b hi hj=>?_,fun b hb=>?_,fun _=>⟨arr,elem,g1,g2,g3,fun i AQ o' hi cx=>?_,fun y hy=>by cases hy⟩⟩
      ·rcases OB i b hi with ⟨np,iA⟩|⟨Xt,np⟩<;>rcases OB j b hj with ⟨Dr,im⟩|⟨Oc,Dr⟩
       ·exact h3 i j b np Dr
       ·exact (fj b (ho b Dr).1 (ho b Dr).2 (.inr (List.mem_of_getElem? np))).elim
       ·exact (fj b (ho b np).1 (ho b np).2 (.inr (List.mem_of_getElem? Dr))).elim
       ·rw[Xt,Oc]
      ·simp only[List.mem_append,List.mem_singleton]at hb;refine⟨by simp only;omega,?_⟩;rcases hb with hb|hb
       ·exact (h4 b hb).2
       ·exact fun hh=>fj b (ho b hb.symm).1 (ho b hb.symm).2 (.inl hh.symm)
      ·rcases Nat.lt_or_ge i rows.length with cg|wb
       ·rw[List.getElem?_append_left cg]at hi;rw[List.getElem?_append_left (by omega)]at cx;exact (g4 i AQ o' hi cx).mono (fun d u _ hu=>hu.mono (fun _ _ _=>rfl) (Nat.le_refl _) (fun b _=>hF b)) (fun _ _=>rfl)
       ·have yT:i=rows.length:=by have:=(List.getElem?_eq_some_iff.1 hi).1;simp at this;omega
        subst yT;simp at hi;subst hi;rw[←h2]at cx;simp at cx;subst cx;simp only
        rw[gy];exact IH F' hF
     obtain⟨φ',dr,aN⟩:=hr.mem.R9 (e1':=⟨key,v,.vv (rows++[xs]) none⟩) (e2':=⟨dS,v3+1,.dead⟩) hm jT bE hL dU (L1':={L with cM:=L.cM++[o]}) (L2':={L2 with aj:=v3+1}) rfl rfl (Nat.le_refl _) (by simp only;omega)
      (fun _=>rfl) (fun hh=>by simp only at hh;omega) aw rfl (fun b hb=>by
       rcases hb with hb|hb
       ·exact .inl (.inl hb)
       ·simp only[List.mem_append,List.mem_singleton]at hb;rcases hb with hb|hb
        ·exact .inl (.inr hb)
        ·exact .inr (ho b hb.symm)) (fun b hb=>hb.elim) (fun b _ aS=>aS) (fun φ' F' hle f1 f2 hF=>⟨sf φ' F' hF,trivial⟩)
     exact⟨φ',hr.wc dr aN,aN⟩
    cases gav with
    |vec _ _ _ _ _ L' bM r5 hq sf=>
     rw[dU]at bM;cases bM;obtain⟨ad,cap,rfl,fX,di⟩:=hq ym.symm;by_cases zp:0<cap
     ·obtain⟨rfl,aP⟩:=di zp;obtain⟨ah2,e2,t1,t2,t3,t4⟩:=z3 (by omega);refine base (some L2.dx) (fun b hb=>by cases hb;exact⟨by omega,rfl⟩) (fun F' hF=>⟨ah2,e2,L2.base,cap,by simp,zp,fX,by rw[t2,z0];omega,t1,t3,fun i d hd=>?_⟩);obtain⟨u,hu,hj⟩:=t4 i d hd;rw[z0]at hj;exact⟨by rw[z2 d (List.mem_of_getElem? hd),z0],u,hu.mono (fun _ _ _=>rfl) (Nat.le_refl _) (fun b _=>hF b),hj⟩
     ·have fG:xs=[]:=List.length_eq_zero_iff.1 (by omega);have gQ:cap=0:=by omega
      subst gQ;refine base none (fun b hb=>by cases hb) (fun F' hF=>⟨fG,ad,by rw[fG];rfl⟩)
   ·exact dV.refl S
 ·exact dV.refl S
theorem OU (S:St) (k:Nat):dV S (S.shut k):=by
 unfold St.shut;split
 ·rename_i key v rows y hg;refine⟨rfl,rfl,fun φ G a w hr=>?_⟩;obtain⟨hm,hk,L,hL,aw,b8⟩:=hr.mem.get hg;simp only at hk aw;subst hk;obtain⟨φ',dr,aN,_,_⟩:=hr.mem.cW (e':=⟨key,v,.vv rows none⟩) hm hL rfl (L':=L) (Nat.le_refl _) (fun _=>rfl) aw
   (w':=w) (fun _ _ _=>rfl) (Nat.le_refl _) (fun _ ho=>.inl ho) rfl rfl rfl (fun φ' jq kX=>by
    obtain⟨⟨h0,h1,h2⟩,h3,h4,h5⟩:jY φ w (Fo G φ S.mem) L rows (some y):=b8;refine⟨⟨h0,by simp at h1⊢;omega,h2⟩,h3,h4,fun hc=>?_⟩;obtain⟨arr,elem,g1,g2,g3,g4,g5⟩:=h5 hc;refine⟨arr,elem,g1,g2,g3,fun i xs o hi ho=>(g4 i xs o hi ho).mono (fun d u _ hu=>hu.mono (fun _ _ _=>rfl) (Nat.le_refl _) (fun b _ hb=>?_)) (fun _ _=>rfl),fun y hy=>by cases hy⟩;rcases hb with hb|⟨x,hx,Lx,eo,iz⟩
    ·exact .inl hb
    ·right;rcases (Mem.mem_set hr.mem.nodup).1 hx with ⟨rfl,_⟩|⟨gr,Yr⟩
     ·simp only[jq,if_true]at eo;cases eo;exact⟨_,hm,L,hL,iz⟩
     ·simp only[jq,Yr,if_false]at eo;exact⟨x,gr,Lx,eo,iz⟩)
  exact⟨φ',hr.wc dr aN,aN⟩
 ·exact dV.refl S
theorem Ie (S:St) (kb j k:Nat):dV S (S.adoptV kb j k):=by
 unfold St.adoptV;split
 ·rename_i key vb cs dS v cont Yq hg;split
  ·rename_i hj;split
   ·exact dV.refl S
   ·rename_i bE;refine⟨rfl,rfl,fun φ G a w hr=>?_⟩;obtain⟨Uy,OS,Lb,Uz,Bq,Sa⟩:=hr.mem.get Yq;obtain⟨hm,hk,L,hL,aw,b8⟩:=hr.mem.get hg;simp only at OS Bq hk aw;subst OS;subst hk;have sf:∀(φ':bI) (F':Nat→Prop),φ.le φ'→φ' dS=some ⟨v+1,0,1,0,0,[]⟩→(∀b,F' b→Fo G φ S.mem b)→dR φ' w F' Lb (.box (cs.set j (.vec dS (v+1) 0 0))):=by
     intro φ' F' hle f2 hF;obtain⟨g0,arr,elem,g1,g2,g3,g4⟩:=Sa;refine⟨by simpa using g0,arr,elem,g1,by simp[g2],g3,fun i c u hc hu=>?_⟩;rw[List.getElem?_set]at hc;split at hc
     ·rename_i ka;subst ka;split at hc
      ·cases hc;have:=g4 j _ u hj hu;cases this;exact .vec dS (v+1) 0 0 _ _ f2 (Nat.le_refl _) (fun _=>⟨_,_,rfl,by simp,fun h=>by omega⟩) rfl
      ·cases hc
     ·exact (g4 i c u hc hu).mono hle (fun _ _ _=>rfl) (Nat.le_refl _) (fun b _=>hF b)
    obtain⟨φ',dr,aN⟩:=hr.mem.R9 (e1':=⟨key,vb,.box (cs.set j (.vec dS (v+1) 0 0))⟩) (e2':=⟨dS,v+1,.vv [] none⟩) Uy hm bE Uz hL (L1':=Lb) (L2':=⟨v+1,0,1,0,0,[]⟩) rfl rfl (Nat.le_refl _) (by simp only;omega)
     (fun _=>rfl) (fun hh=>by simp only at hh;omega) Bq rfl (fun b hb=>.inl hb) (fun b hb=>by
      rcases hb with ⟨hb,_⟩|hb
      ·simp at hb
      ·simp at hb) (fun b _ hb=>by
      rcases hb with ⟨hb,_⟩|hb
      ·simp at hb
      ·simp at hb) (fun φ' F' hle f1 f2 hF=>⟨sf φ' F' hle f2 hF,⟨⟨rfl,by simp,rfl⟩,fun i j b hi=>by simp at hi,fun b hb=>by simp at hb,fun hc=>by simp at hc⟩⟩)
    exact⟨φ',hr.wc dr aN,aN⟩
  ·exact dV.refl S
 ·exact dV.refl S
theorem V8 (S:St) (g:Gh):dV S (g.go S):=by
 cases g with
 |trim k=>exact A1 S k
 |freeze k=>exact H6 S k
 |adopt kb j k sz=>exact LP S kb j k sz
 |rekey k k2=>exact LQ S k k2
 |opn k k2=>exact Sb S k k2
 |cls k k2=>exact Sc S k k2
 |shut k=>exact OU S k
 |adoptV kb j k=>exact Ie S kb j k
theorem z7:∀(l:List Gh) (S:St),dV S (ghs S l)
 |[],S=>dV.refl S
 |g::r,S=>(V8 S g).trans (z7 r _)
theorem qR (X:Ctx) (f:FuncId) (id:Nat) (S:St):dV S (S.leave X f id):=(Lo S _).trans (z7 _ _)
def er (X:Ctx) (f:FuncId) (n:Nat):Code→Bool
 | .region id ops draw=>jA n ops.toList&&(!draw||zP ops.toList (X.od f id))
 | .seq a b=>er X f n a&&er X f n b
 | .cond _ a b=>er X f n a&&er X f n b
 | .block _ c=>er X f n c
 | .loop c=>er X f n c
 |_=>true
structure jF (X:Ctx):Prop where
 ov:X.ov=none
 names:∀(g:FuncId) (fn:Func),X.P.funcs[g]?=some fn→fn.name≠ "runtime.NumGoroutine"
 Sd:∀(g:FuncId) (fn:Func) (c:Code),X.P.funcs[g]?=some fn→fn.body=some c→er X g fn.ntmps c=true
 mixed:X.P.follows .mixedOrders=true
 zi:∀(g:FuncId) (h:List AV→Option AV),X.zi g=some h→gE X.P g=true∧∀(Br:List AV) (a:AV),h Br=some a→∀(φ:bI) (F:Nat→Prop) (w:World) (vs:Array Value),eI w F X.gl→(∀b,F b→b<w.heap.size)→Br.length=vs.size→
  (∀(i:Nat) x v,Br[i]?=some x→vs[i]?=some v→az φ w F x v)→Calls X.P g vs w fun e w'=>∃v,e=.returned v∧Go.RowKit.Below w.heap.size w w'∧az φ w' F a v
theorem mD.is {n:Nat} {φ:bI} {G:Fr} {m:Mem} {w:World} {e:XE} {S':St} {e':Exit} {a':Act} {w':World} (h:mD n φ G m w (Is e S') e' a' w'):
 ∃φ',S'.n=n∧Rel φ' G S' a' w'∧aQ φ m w φ' S'.mem w'∧(match e' with
  | .normal=>e=.normal
  | .exit id=>e=.exit id
  | .ret=>e=.ret
  | .panic chain=>∃t x v,e=.panic t x∧chain=[{v:=.iface t v,recovered:=false}]∧aH w' (Fo G φ' S'.mem) x v
  |_=>False):=by
 cases e' with
 |normal=>obtain⟨φ',S2,hn,⟨h1,rfl⟩,h2,h3⟩:=h;exact⟨φ',hn,h2,h3,h1.symm⟩
 |exit id=>obtain⟨φ',S2,hn,⟨h1,rfl⟩,h2,h3⟩:=h;exact⟨φ',hn,h2,h3,h1.symm⟩
 |ret=>obtain⟨φ',S2,hn,⟨h1,rfl⟩,h2,h3⟩:=h;exact⟨φ',hn,h2,h3,h1.symm⟩
 |panic chain=>obtain⟨φ',S2,t,x,v,hc,hd,hn,⟨h1,rfl⟩,h2,h3⟩:=h;exact⟨φ',hn,h2,h3,t,x,v,h1.symm,hc,hd⟩
 |_=>exact h.elim
section
variable {X:Ctx} {cl:bz} {f:FuncId} {n:Nat}
theorem F3 {P:Program} {S:St} {e:XE} {c:Code} {k:St→St} (hk:∀S,dV S (k S)) {r:Option (XE×St)} {S':St} (h:uS k r=some (e,S'))
 (hr:∀e1 S1,r=some (e1,S1)→S1.n=S.n∧S1.gl=S.gl∧nu P c S (Is e1 S1)):S'.n=S.n∧S'.gl=S.gl∧nu P c S (Is e S'):=by
 unfold uS at h;split at h
 ·rename_i S1;cases h;obtain⟨h1,h2,h3⟩:=hr _ _ rfl;obtain⟨t1,t2,t3⟩:=hk S1;refine⟨t1.trans h1,t2.trans h2,fun φ G a w ej=>wp_mono (h3 φ G a w ej) fun e' a' w' hp=>?_⟩;obtain⟨φ',hn,b7,aN,he⟩:=hp.is;cases e' with
  |normal=>
   obtain⟨φ2,iS,ck⟩:=t3 φ' G a' w' b7;exact⟨φ2,k S1,t1.trans hn,⟨rfl,rfl⟩,iS,aN.trans ck⟩
  |exit id=>cases he
  |ret=>cases he
  |panic chain=>obtain⟨t,x,v,h4,_⟩:=he;cases h4
  |_=>exact he.elim
 ·exact hr _ _ h
theorem V9 {P:Program} {I:Mem→Prop} {all:List Oper} {ops:List Oper} {S:St} {ps:List aR} {S1:St} (h:Cert P I all ops S ps S1):S1.n=S.n∧S1.gl=S.gl:=by
 induction h with
 |nil S=>exact⟨rfl,rfl⟩
 |cons o rest S p ps S1 _ _ _ _ ih=>exact⟨ih.1.trans (sn ..),ih.2.trans (pZ ..)⟩
theorem F4 {P:Program} {I:Mem→Prop} {all:List Oper}:∀{ops:List Oper} {S:St} {ps:List aR} {S1:St},Cert P I all ops S ps S1→ps.length=ops.length:=by
 intro ops S ps S1 h;induction h with
 |nil S=>rfl
 |cons o rest S p ps S1 _ _ _ _ ih=>simp[ih]
theorem Du:∀{es:List cJ},farE es=true→∀e∈es,100≤e.key
 |_::r,h,e,he=>by
  simp only[farE,Bool.and_eq_true,decide_eq_true_eq]at h;rcases List.mem_cons.1 he with rfl|he
  ·exact h.1
  ·exact Du h.2 e he
theorem Dv {ps:List aR}:∀{js:List Nat},farJ ps js=true→∀i∈js,∀p,ps[i]?=some p→∀e∈p.es,100≤e.key
 |k::r,h,i,hi,p,hp,e,he=>by
  simp only[farJ,Bool.and_eq_true]at h;rcases List.mem_cons.1 hi with rfl|hi
  ·have:=h.1;rw[hp]at this;exact Du this e he
  ·exact Dv h.2 i hi p hp e he
theorem xw {all:List Oper} {nd:List (List Nat)} (h:zP all nd=true) {i j:Nat} (ka:i<j) (hj:j<all.length) (hn:i∉(gC all []).getD j []):(nd.getD i []).contains j=true∧(nd.getD j []).contains i=true:=by
 have h1:=List.all_eq_true.1 h j (List.mem_range.2 hj);unfold wX at h1;rw[List.getElem?_eq_getElem hj]at h1;simp only[Bool.and_eq_true,List.all_eq_true,Bool.or_eq_true,List.mem_range]at h1;rcases h1.2 i ka with h2|h2
 ·exact absurd (by simpa using h2) hn
 ·rw[List.getElem?_eq_getElem (by omega)]at h2;simp only[Bool.and_eq_true]at h2;exact h2.2
theorem LR {P:Program} {S S1:St} {id:Nat} {ops:List Oper} {nd:List (List Nat)} {ps:List aR} {j N:Nat} {t:TypeId} {x:D} (hm:P.follows .mixedOrders=true) (qT:zP ops nd=true)
 (hc:jE (TT P ops j (nd.getD j []) t x N S1) 0 ops S ps) (acT:ordD nd ps=true) (nX:farJ ps (nd.getD j [])=true) (FZ:S1.env=[]) (im:j<ops.length) (hN:N=verSum S.mem+verSums ps+1):
 S1.n=S.n∧S1.gl=S.gl∧∀{φ:bI} {G:Fr} {a:Act} {w:World},Rel φ G S a w→∀{Q:Exit→Act→World→Prop},
 (∀φ' a' w' v,Rel φ' G S1 a' w'→aQ φ S.mem w φ' S1.mem w'→aH w' (Fo G φ' S1.mem) x v→Q (.panic [{v:=.iface t v,recovered:=false}]) a' w')→(Code.region id ops.toArray true).wp P Q a w:=by
 have hlen:=hc.len;have fg:=jE.at (ps:=ps) (S0:=S) hc [] [] rfl rfl rfl rfl rfl;have cI:=OA qT acT hlen;obtain⟨oj,FB⟩:∃oj,ops[j]?=some oj:=⟨ops[j],by simp[im]⟩;obtain⟨pj,pY⟩:∃pj,ps[j]?=some pj:=⟨ps[j]'(by omega),by simp[show j<ps.length by omega]⟩
 obtain⟨FC,dW,dK,sl⟩:=(fg j oj pj (by simp) FB pY).2.2 rfl;rw[m9]at dW;rw[lL]at dK;refine⟨dW,dK,fun {φ G a w} hr {Q} hQ=>wp_region_any hm ?_⟩;have gZ:∀(i:Nat) (p:aR),ps[i]?=some p→∀e∈p.es,e.key∈p.ks:=fun i p hp=>by
  have iA:i<ps.length:=(List.getElem?_eq_some_iff.1 hp).1;exact (fg i (ops[i]'(by omega)) p (by simp) (by simp[show i<ops.length by omega]) hp).1
 have jb:Rel φ G S a {w with drawn:=w.drawn+1}:=hr.grow (fun _ _=>rfl) (Nat.le_refl _);have cw:(hY ops.length fun i=>(Array.replicate ops.length false).getD i false)=[]:=by
  rw[hY,List.filter_eq_nil_iff];intro i hi;simp[Array.getD_eq_getD_getElem?,List.mem_range.1 hi]
 refine OC (S0:=S) (S1:=S1) (φ0:=φ) (w0:=w) (G:=G) (j:=j) hlen cI hr.mem.nodup gZ ?_ FB pY FC ?_ dW dK FZ (by rw[sl,hN];rfl) (fun φ' a' w' v b7 aN hv=>hQ φ' a' w' v b7 aN hv) _ _ φ a _ (by simp) ?_ ?_ ?_ ?_ ?_
 ·intro i o p ho hp ka p4;have iA:i<ops.length:=(List.getElem?_eq_some_iff.1 ho).1;refine (fg i o p (by simp) ho hp).2.1 ka ?_;rcases Nat.lt_or_ge i j with h|h
  ·exact .inl h
  ·exact .inr (xw qT (by omega) iA p4).1
 ·intro i p hp ka hi p4 e he;have iA:i<ops.length:=by have:=(List.getElem?_eq_some_iff.1 hp).1;omega
  have de:(nd.getD j []).contains i=true:=by
   rcases Nat.lt_or_ge i j with h|h
   ·exact (xw qT h im hi).2
   ·exact (xw qT (by omega) iA p4).1
  exact Dv nX i (by simpa using de) p hp e he
 ·intro j o _ hj;exfalso;simp only[Array.getD_eq_getD_getElem?]at hj;by_cases h:j<ops.length
  ·simp[h]at hj
  ·simp[h]at hj
 ·simp only[Array.getD_eq_getD_getElem?];simp[im]
 ·simp only[List.size_toArray];rw[cw];exact jb
 ·simp only[List.size_toArray];rw[cw];exact aQ.grow (fun _ _=>rfl) (Nat.le_refl _) rfl rfl rfl
 ·simp only[List.size_toArray];exact Nat.le_trans (List.length_filter_le _ _) (by simp)
theorem F5 (hX:jF X) (aP:jg X cl):∀(c:Code) (S:St) (e:XE) (S':St),den X f cl n c S=some (e,S')→S.gl=X.gl→er X f S.n c=true→
 S'.n=S.n∧S'.gl=S.gl∧nu X.P c S (Is e S'):=by
 intro c;induction c with
 |skip=>
  intro S e S' h cq hd;simp only[den,Option.some.injEq,Prod.mk.injEq]at h;obtain⟨rfl,rfl⟩:=h;exact⟨rfl,rfl,RN ⟨rfl,rfl⟩⟩
 |region id ops draw=>
  intro S e S' h cq hd;simp only[den]at h;simp only[er,Bool.and_eq_true]at hd;cases draw with
  |false=>
   refine F3 (qR X f id) h (fun e1 S1 h1=>?_);obtain⟨h2,h3,h4⟩:=xo aP ops.toList S e1 S1 h1 cq hd.1;exact⟨h2,h3,fun φ G a w hr=>wp_region_lit (h4 φ G a w hr _ (fun _ _ _ h=>h))⟩
  |true=>
   refine F3 (qR X f id) h (fun e1 S1 h1=>?_);have qT:zP ops.toList (X.od f id)=true:=by simpa using hd.2
   have key:(∃I:Mem→Prop,I S.mem∧e1=.normal∧∃ps S2,Cert X.P I ops.toList ops.toList S ps S2∧gD S1 S2∧ordD (X.od f id) ps=true)∨
    (S1.n=S.n∧S1.gl=S.gl∧∀φ G a w,Rel φ G S a w→∀Q:Exit→Act→World→Prop,(e1=.normal→∀φ' a' w',Rel φ' G S1 a' w'→aQ φ S.mem w φ' S1.mem w'→Q .normal a' w')→
     (∀t x,e1=.panic t x→∀φ' a' w' v,Rel φ' G S1 a' w'→aQ φ S.mem w φ' S1.mem w'→aH w' (Fo G φ' S1.mem) x v→Q (.panic [{v:=.iface t v,recovered:=false}]) a' w')→(Code.region id ops true).wp X.P Q a w)∧(e1=.normal∨∃t x,e1=.panic t x):=by
    cases iH:X.fl f id with
    |nil=>
     rw[iH]at h1;simp only[rE]at h1;rcases zn aP ops.toList S [] e1 S1 h1 cq hd.1 with ⟨he,ps,S2,hc,heq,cI⟩|⟨t,x,j,ps,he,Dr,zh,hc,cI,nX,FZ⟩
     ·exact .inl ⟨_,trivial,he,ps,S2,hc,heq,by simpa using cI⟩
     ·right;obtain⟨h2,h3,h4⟩:=LR (id:=id) hX.mixed qT hc (by simpa using cI) (by simpa using nX) FZ (by simpa using zh) rfl;exact⟨⟨h2,h3,fun φ G a w hr Q _ hQ=>h4 hr (fun φ' a' w' v h5 h6 h7=>hQ t x he φ' a' w' v h5 h6 h7)⟩,.inr ⟨t,x,he⟩⟩
    |cons q r=>
     rw[iH]at h1;simp only[rE]at h1;cases UA:eZ S.mem (q::r)with
     |none=>rw[UA]at h1;cases h1
     |some LI=>
      rw[UA]at h1;simp only[LJ]at h1;rcases Dt aP ops.toList S [] e1 S1 (by simp) h1 cq hd.1 with ⟨he,ps,S2,hc,heq,cI⟩|⟨init,ol,ps,S2,cZ,hc,hn,cI,h2,h3,h4,h5⟩
      ·exact .inl ⟨_,uX UA,he,ps,S2,hc,heq,by simpa using cI⟩
      ·obtain⟨my,mz⟩:=V9 hc;refine .inr ⟨⟨h2.trans my,h3.trans mz,fun φ G a w hr Q hQn hQp=>?_⟩,h4⟩;have hlen:ps.length+1=ops.toList.length:=by
        have:=F4 hc;rw[cZ];simp[this]
       refine Ia (ops:=ops.toList) cZ (zc qT hn) (uX UA) hX.mixed hc (R8 qT hlen hn (by simpa using cI)) hr (fun φ' a' w' b7 aN next hnx=>?_);exact h5 φ' G a' w' b7 next Q (fun he φ2 a2 w2 iS ck=>hnx a2 w2 (hQn he φ2 a2 w2 iS (aN.trans ck))) (fun t x he φ2 a2 w2 v iS ck hv=>hQp t x he φ2 a2 w2 v iS (aN.trans ck) hv)
   rcases key with ⟨I,hI,rfl,ps,S2,hc,heq,cI⟩|⟨⟨dW,dK,UB⟩,_⟩;rotate_left
   ·exact⟨dW,dK,fun φ G a w hr=>UB φ G a w hr _ (fun he φ' a' w' b7 aN=>⟨φ',S1,dW,⟨he.symm,rfl⟩,b7,aN⟩) (fun t x he φ' a' w' v b7 aN hv=>⟨φ',S1,t,x,v,rfl,hv,dW,⟨he.symm,rfl⟩,b7,aN⟩)⟩
   obtain⟨dW,dK⟩:=Ya hc;have cI:=OA qT cI (F4 hc);refine⟨heq.n.trans dW,heq.gl.trans dK,fun φ G a w hr=>?_⟩;exact H9 (ops:=ops.toList) hI hX.mixed hc cI hr (fun φ' a' w' b7 aN=>⟨φ',S1,heq.n.trans dW,⟨rfl,rfl⟩,b7.eqv heq.symm,by rw[heq.mem];exact aN⟩)
 |seq a b qa tY=>
  intro S e S' h cq hd;simp only[er,Bool.and_eq_true]at hd;simp only[den]at h;rcases gF h with ⟨S1,h1,h2⟩|⟨h1,h2⟩
  ·obtain⟨dW,dK,jh⟩:=qa S _ S1 h1 cq hd.1;obtain⟨my,mz,fL⟩:=tY S1 e S' h2 (dK.trans cq) (by rw[dW];exact hd.2);refine⟨my.trans dW,mz.trans dK,II (jh.mono fun e1 S2 hq=>?_)⟩;obtain⟨rfl,rfl⟩:=hq;exact fL
  ·obtain⟨dW,dK,jh⟩:=qa S _ S' h1 cq hd.1;refine⟨dW,dK,II (jh.mono fun e1 S2 hq=>?_)⟩;obtain⟨rfl,rfl⟩:=hq;cases e1 with
   |normal=>exact absurd rfl h2
   |_=>exact⟨rfl,rfl⟩
 |cond c a b qa tY=>
  intro S e S' h cq hd;simp only[er,Bool.and_eq_true]at hd;simp only[den]at h;cases hc:S.opd c with
  |mk g y=>
   rw[hc]at h;unfold Bi at h;split at h
   ·rename_i t heq;cases heq;cases t with
    |true=>
     obtain⟨h1,h2,h3⟩:=qa S e S' (by simpa using h) cq hd.1;exact⟨h1,h2,Fk hc (fun _=>h3) (fun hf=>by cases hf)⟩
    |false=>
     obtain⟨h1,h2,h3⟩:=tY S e S' (by simpa using h) cq hd.2;exact⟨h1,h2,Fk hc (fun hf=>by cases hf) (fun _=>h3)⟩
   ·cases h
 |block id c ih=>
  intro S e S' h cq hd;simp only[den]at h;unfold Bh at h;split at h
  ·rename_i mw S1 h1;obtain⟨hn,hg,ht⟩:=ih S _ S1 h1 cq hd;split at h
   ·rename_i hid;cases h;refine⟨hn,hg,wK (ht.mono fun e1 S2 hq=>?_)⟩;obtain⟨rfl,rfl⟩:=hq;simp only[hid,if_true];exact⟨rfl,rfl⟩
   ·rename_i hid;cases h;refine⟨hn,hg,wK (ht.mono fun e1 S2 hq=>?_)⟩;obtain⟨rfl,rfl⟩:=hq;simp only[hid,if_false];exact⟨rfl,rfl⟩
  ·rename_i bE;obtain⟨hn,hg,ht⟩:=ih S _ S' h cq hd;refine⟨hn,hg,wK (ht.mono fun e1 S2 hq=>?_)⟩;obtain⟨rfl,rfl⟩:=hq;cases e1 with
   |exit mw=>exact absurd h (bE mw S2)
   |_=>exact⟨rfl,rfl⟩
 |loop c ih=>
  intro S e S' h cq hd;simp only[den]at h;simp only[er]at hd;have de:∀(k:Nat) (S1:St),iter (den X f cl n c) k S1=some (e,S')→S1.gl=X.gl→er X f S1.n c=true→S'.n=S1.n∧S'.gl=S1.gl:=by
   intro k;induction k with
   |zero=>intro S1 h1;cases h1
   |succ k ihk=>
    intro S1 h1 dK vU;simp only[iter]at h1;rcases gF h1 with ⟨S2,h2,h3⟩|⟨h2,h3⟩
    ·obtain⟨a1,a2,_⟩:=ih S1 _ S2 h2 dK vU;obtain⟨b1,b2⟩:=ihk S2 h3 (a2.trans dK) (by rw[a1];exact vU);exact⟨b1.trans a1,b2.trans a2⟩
    ·obtain⟨a1,a2,_⟩:=ih S1 _ S' h2 dK vU;exact⟨a1,a2⟩
  obtain⟨hn,hg⟩:=de n S h cq hd;refine⟨hn,hg,?_⟩;refine RQ (α:=Nat×St) (fun x=>x.2) (fun x=>iter (den X f cl n c) x.1 x.2=some (e,S')∧x.2.gl=X.gl∧er X f x.2.n c=true) (fun x=>x.1) (n,S) rfl ⟨h,cq,hd⟩ ?_;rintro ⟨k,S1⟩ ⟨h1,dK,vU⟩;simp only at h1 dK vU⊢;cases k with
  |zero=>cases h1
  |succ k=>
   simp only[iter]at h1;rcases gF h1 with ⟨S2,h2,h3⟩|⟨h2,h3⟩
   ·obtain⟨a1,a2,ht⟩:=ih S1 _ S2 h2 dK vU;refine ht.mono fun e1 S3 hq=>?_;obtain⟨rfl,rfl⟩:=hq;exact⟨(k,S3),rfl,⟨h3,a2.trans dK,by rw[a1];exact vU⟩,Nat.lt_succ_self k⟩
   ·obtain⟨a1,a2,ht⟩:=ih S1 _ S' h2 dK vU;refine ht.mono fun e1 S3 hq=>?_;obtain⟨rfl,rfl⟩:=hq;cases e1 with
    |normal=>exact absurd rfl h3
    |_=>exact⟨rfl,rfl⟩
 |exit id=>
  intro S e S' h cq hd;simp only[den,Option.some.injEq,Prod.mk.injEq]at h;obtain⟨rfl,rfl⟩:=h;obtain⟨t1,t2,t3⟩:=z7 (X.gh f (id+1000000)) S;refine⟨t1,t2,fun φ G a w ej=>wp_mono ((RO (Q:=Is (.exit id) S) ⟨rfl,rfl⟩:nu X.P (.exit id) S (Is (.exit id) S)) φ G a w ej) fun e' a' w' hp=>?_⟩;obtain⟨φ',hn,b7,aN,he⟩:=hp.is;cases e' with
  |exit mw=>
   cases he;obtain⟨φ2,iS,ck⟩:=t3 φ' G a' w' b7;exact⟨φ2,_,t1.trans hn,⟨rfl,rfl⟩,iS,aN.trans ck⟩
  |normal=>cases he
  |ret=>cases he
  |panic chain=>obtain⟨t,x,v,h4,_⟩:=he;cases h4
  |_=>exact he.elim
 |ret=>
  intro S e S' h cq hd;simp only[den,Option.some.injEq,Prod.mk.injEq]at h;obtain⟨rfl,rfl⟩:=h;exact⟨rfl,rfl,V3 ⟨rfl,rfl⟩⟩
 |rangeFunc _ _ _ _=>intro S e S' h;simp[den]at h
 |scope _ _=>intro S e S' h;simp[den]at h
 |label _=>intro S e S' h;simp[den]at h
 |goto _=>intro S e S' h;simp[den]at h
 |refuse _=>intro S e S' h;simp[den]at h
theorem z8:∀(cs:List aD) (i:Nat),(inM i cs).map (·.key)=List.range' i cs.length
 |[],i=>rfl
 |c::r,i=>by simp[inM,z8 r,List.range'_succ]
theorem Cn:∀(cs:List aD) (i:Nat) (e:cJ),e∈inM i cs→e.aj=0
 |[],i,e,he=>by simp[inM]at he
 |c::r,i,e,he=>by
  simp only[inM,List.mem_cons]at he;rcases he with rfl|he
  ·rfl
  ·exact Cn r (i+1) e he
theorem bj.dv {φ:bI} {G:Fr} {m:Mem} {w:World} (h:bj φ G m w) (dv:List Deferred):bj φ ⟨G.g,dv⟩ m w:=
 ⟨h.nodup,h.oE,h.eZ,h.apart,h.jZ,h.bound⟩
theorem Ev.dv {P:Program} {gl f args m K} (h:∀φ G w (vs:Array Value),G.dv=[]→bj φ G m w→eI w (Fo G φ m) gl→args.length=vs.size→(∀(i:Nat) x v,args[i]?=some x→vs[i]?=some v→az φ w (Fo G φ m) x v)→
 Calls P f vs w fun e w'=>∃φ' m' out,K out m'∧bj φ' G m' w'∧aQ φ m w φ' m' w'∧mM φ' w' (Fo G φ' m') out e):Ev P gl f args m K:=by
 intro φ G w vs hm hg hl ha;refine (h φ ⟨G.g,[]⟩ w vs rfl (hm.dv []) hg hl ha).mono ?_;rintro e w' ⟨φ',m',out,h1,h2,h3,h4⟩;exact⟨φ',m',out,h1,h2.dv G.dv,h3,h4⟩
theorem uZ (hX:jF X) (aP:jg X cl) {fn:Func} {c:Code} {args:List AV} {cs:List aD} {out:Out} {l:List (Nat×aD)} (hf:X.P.funcs[f]?=some fn) (hb:fn.body=some c)
 (h:pF X f cl n fn c args cs=some (out,l)):Ev X.P X.gl f args (inM 0 cs) fun o m=>o=out∧m=mkM 0 l:=by
 unfold pF at h;split at h
 ·rename_i hc;simp only[Bool.and_eq_true,decide_eq_true_eq,List.all_eq_true]at hc;obtain⟨⟨⟨wG,kM⟩,pN⟩,qv⟩:=hc;refine Ev.dv ?_;intro φ G w vs qy hm n6 kj bX;have mi:∀k,k∈(inM 0 cs).map (·.key)↔k<cs.length:=fun k=>by rw[z8];simp
  have Aa:∀k∈(X.fp f).sites,k∉(inM 0 cs).map (·.key):=by
   intro k hk tV;have h1:=pN k hk;have h2:=(mi k).1 tV;omega
  have oZ:∀k L,φ k=some L→k<cs.length∧L.aj=0:=fun k L hL=>by
   have hk:=hm.oE k L hL;obtain⟨e,he,rfl⟩:=List.mem_map.1 hk;obtain⟨L',bM,aw,_⟩:=hm.eZ e he;rw[hL]at bM;cases bM;exact⟨(mi _).1 hk,by rw[aw];exact Cn cs 0 e he⟩
  have OV:=hm.add qv Aa;have rI:aQ φ (inM 0 cs) w (φ.add (X.fp f).sites) (inM 0 cs++(X.fp f).sites.map dead) w:=⟨Ft hm Aa,fun _ _ _=>rfl,fun b _ ho=>(yf Aa b).1 ho,Nat.le_refl _,rfl,rfl,rfl⟩;refine calls_of_wp hf hb ?_;obtain⟨S0,OW⟩:∃S0,S0=entry fn.ntmps X.gl args cs (X.fp f).sites:=⟨_,rfl⟩;have hr:Rel (φ.add (X.fp f).sites) G S0 {tmps:=vs++Array.replicate (fn.ntmps-vs.size) undef,defers:=[]} w:=by
   rw[OW];refine⟨by simp[entry];omega,qy.symm,fun t x hx=>?_,OV,?_⟩
   ·obtain⟨j,rfl,hj⟩:=uN 0 args t _ hx;have im:j<vs.size:=by rw[←kj];exact (List.getElem?_eq_some_iff.1 hj).1
    have e:(vs++Array.replicate (fn.ntmps-vs.size) undef).getD (0+j) undef=vs[j]:=by
     simp only[Nat.zero_add,Array.getD_eq_getD_getElem?];rw[Array.getElem?_append_left im];simp[im]
    rw[e];exact rI.av (bX j x _ hj (by simp[im]))
   ·exact rI.j0 n6
  rw[←OW]at h;cases Se:den X f cl n c S0 with
  |none=>rw[Se]at h;cases h
  |some q=>
   obtain⟨e,S'⟩:=q;rw[Se]at h;obtain⟨sg,rB,ht⟩:=F5 hX aP c S0 e S' Se (by rw[OW];rfl) (by rw[OW];exact hX.Sd f fn c hf hb);refine wp_mono (ht _ G _ w hr) fun e' a' w' hp=>?_;obtain⟨φ',_,b7,aN,he⟩:=hp.is;have ny:aQ φ (inM 0 cs) w φ' S'.mem w':=by
    have:S0.mem=inM 0 cs++(X.fp f).sites.map dead:=by rw[OW];rfl
    rw[this]at aN;exact rI.trans aN
   have F6:finish X.P (X.fp f) cs.length fn.results.toList S'=some (out,l)→
    a'.defers=[]∧∃v,(results fn a'.tmps).run X.P w'=.ok v w'∧∃mr m' iN,(iN=out∧m'=mkM 0 l)∧bj mr G m' w'∧aQ φ (inM 0 cs) w mr m' w'∧mM mr w' (Fo G mr m') iN (.returned v):=by
    intro eW;unfold finish at eW;split at eW
    ·rename_i cc xs mO;split at eW
     ·rename_i fu;obtain⟨vl,h1,h2,h3⟩:=uM b7 fn.results.toList cc xs mO fu;obtain⟨φ2,ys,rfl,g1,g2,g3,g4,_⟩:=qM eW b7.mem b7.j0 h2 h3 ny oZ;have F7:(results fn a'.tmps).run X.P w'=.ok (if h:vl.toArray.size=1 then vl.toArray[0]else .tuple vl.toArray) w':=by
       have e:results fn a'.tmps=(do let vs ←fn.results.mapM (wQ a'.tmps);pure (if h:vs.size=1 then vs[0]else .tuple vs)):=by
        unfold results;congr 1
       rw[e,Array.mapM_eq_mapM_toList];simp only[Sem.run_bind,Sem.run_map,h1,Result.andThen_ok,Sem.run_pure]
      refine⟨b7.defers.trans qy,_,F7,φ2,_,_,⟨rfl,rfl⟩,g1,g2,?_⟩;show az φ2 w' _ (oneOf ys) _;by_cases kD:vl.length=1
      ·obtain⟨v,rfl⟩:∃v,vl=[v]:=by
        cases vl with
        |nil=>simp at kD
        |cons v r=>exact⟨v,by cases r with|nil=>rfl|cons _ _=>simp at kD⟩
       obtain⟨y,rfl⟩:∃y,ys=[y]:=by
        cases ys with
        |nil=>simp at g3
        |cons v r=>exact⟨v,by cases r with|nil=>rfl|cons _ _=>simp at g3⟩
       simpa [oneOf]using g4 0 y v (by simp) (by simp)
      ·have e:oneOf ys=.aU ys:=by
        cases ys with
        |nil=>rfl
        |cons y r=>cases r with|nil=>simp at g3;omega|cons _ _=>rfl
       rw[e,dif_neg (by simpa using kD)];exact .aU ys vl.toArray (by simpa using g3) (fun i y v h h'=>g4 i y v h (by simpa using h'))
     ·cases eW
    ·cases eW
   cases e' with
   |normal=>cases he;exact F6 h
   |ret=>cases he;exact F6 h
   |exit id=>cases he;cases h
   |panic chain=>
    obtain⟨t,x,v,rfl,rfl,hd⟩:=he;have h':finVals (X.fp f) cs.length S' [] (fun _=>.panic t x)=some (out,l):=h;obtain⟨φ2,ys,rfl,g1,g2,_,_,g5⟩:=qM (vs:=[]) h' b7.mem b7.j0 rfl (by simp) ny oZ;exact⟨b7.defers.trans qy,φ2,_,_,⟨rfl,rfl⟩,g1,g2,v,rfl,hd.mono (fun _ _ _=>rfl) (Nat.le_refl _) (fun b _=>g5 b)⟩
   |_=>exact he.elim
 ·cases h
theorem Ev.split {P:Program} {gl f r m K} (h1:Ev P gl f (.lit (.slice none 0 0)::r) m K) (h2:Ev P gl f (.nn::r) m K):Ev P gl f (.d (.list [])::r) m K:=by
 intro φ G w vs hm hg hl ha;have go:∀y,(∀v,vs[0]?=some v→az φ w (Fo G φ m) y v)→∀(i:Nat) x v,(y::r)[i]?=some x→vs[i]?=some v→az φ w (Fo G φ m) x v:=by
  intro y hy i x v hx hv;cases i with
  |zero=>simp at hx;subst hx;exact hy v hv
  |succ i=>exact ha (i+1) x v (by simpa using hx) hv
 have bN:0<vs.size:=by rw[←hl];simp
 have h0:=ha 0 (.d (.list [])) vs[0] (by simp) (by simp[bN]);generalize C6:vs[0]=v0 at h0;have gW:vs[0]?=some v0:=by rw[←C6];simp[bN]
 cases h0 with
 |d _ _ hd=>
  cases hd with
  |nil a cap hn=>
   cases a with
   |none=>
    have:=hn rfl;subst this;exact h1 φ G w vs hm hg (by simpa using hl) (go _ (fun v hv=>by rw[gW]at hv;cases hv;exact .lit _ rfl))
   |some a=>exact h2 φ G w vs hm hg (by simpa using hl) (go _ (fun v hv=>by rw[gW]at hv;cases hv;exact .nn a cap))
  |list _ b off cap sz UC=>exact h2 φ G w vs hm hg (by simpa using hl) (go _ (fun v hv=>by rw[gW]at hv;cases hv;exact .nn _ cap))
theorem fA {r:Option (Out×List (Nat×aD))} {sz:Nat} (h:emptyVec r=some sz):r=some (.ret (.vec 0 0 0 0),[(0,.vec sz [])]):=by
 unfold emptyVec at h;split at h
 ·cases h;rfl
 ·cases h
theorem Ig {h:List AV→Option AV} {args:List AV} {cs:List aD} {r:Out×List (Nat×aD)} (hr:orcAns h args cs=some r):cs=[]∧∃d,h args=some d∧r=(.ret d,[]):=by
 unfold orcAns at hr;split at hr
 ·split at hr
  ·rename_i d hd;cases hr;exact⟨rfl,d,hd,rfl⟩
  ·cases hr
 ·cases hr
theorem IT:∀{args:List AV} {ds:List D},gp args=some ds→args=ds.map .d
 |[],ds,h=>by
  simp only[gp,Option.some.injEq]at h;subst h;rfl
 |y::r,ds,h=>by
  cases hr:gp r with
  |none=>unfold gp at h;rw[hr]at h;cases y<;>cases h
  |some ys=>
   unfold gp at h;rw[hr]at h;cases y<;>cases h;rw[IT hr];rfl
theorem Ys (hX:jF X) {g:FuncId} {h:List AV→Option AV} (hg:X.zi g=some h) {args:List AV} {cs:List aD} {out:Out} {l:List (Nat×aD)} (hr:orcAns h args cs=some (out,l)):
 gE X.P g=true∧Ev X.P X.gl g args (inM 0 cs) fun o m=>o=out∧m=mkM 0 l:=by
 obtain⟨hc,bS⟩:=hX.zi g h hg;refine⟨hc,?_⟩;obtain⟨rfl,d,hd,he⟩:=Ig hr;cases he;intro φ G w vs hm cq hl ha;have hO:∀b,iy φ (inM 0 []) b→False:=by
  rintro b ⟨e,he,_⟩;simp[inM]at he
 refine (bS args d hd φ (Fo G φ (inM 0 [])) w vs cq (fun b hb=>hb.elim (hm.bound b) fun h=>(hO b h).elim) hl ha).mono ?_;rintro e w' ⟨v,rfl,hb,qy⟩;refine⟨φ,inM 0 [],.ret d,⟨rfl,rfl⟩,⟨hm.nodup,hm.oE,fun e he=>by simp[inM]at he,fun e he=>by simp[inM]at he,fun b hb=>(hO b hb).elim,fun b pP=>Nat.lt_of_lt_of_le (hm.bound b pP) hb.size⟩,⟨bI.le_refl _,fun b cg _=>hb.block b cg,fun b _ ho=>ho,hb.size,hb.os,hb.tape,hb.output⟩,?_⟩;exact qy
end
def acU (φ:bI) (w:World) (F:Nat→Prop) (x:DF) (d:Deferred):Prop:=
 ∃ca:Array Value,d.target=.fn (.func x.1) ca∧x.2.length=(d.args++ca).size∧∀(i:Nat) y v,x.2[i]?=some y→(d.args++ca)[i]?=some v→az φ w F y v
def mQ (φ:bI) (w:World) (F:Nat→Prop):List DF→List Deferred→Prop
 |[],[]=>True
 |x::xs,d::ds=>acU φ w F x d∧mQ φ w F xs ds
 |_,_=>False
theorem mQ.keeps {φ m w φ' m' w'} {G:Fr} (h:aQ φ m w φ' m' w'):∀{xs:List DF} {ds:List Deferred},mQ φ w (Fo G φ m) xs ds→mQ φ' w' (Fo G φ' m') xs ds
 |[],[],_=>trivial
 |x::xs,d::ds,⟨⟨ca,h1,h2,h3⟩,h4⟩=>⟨⟨ca,h1,h2,fun i y v hy hv=>h.av (h3 i y v hy hv)⟩,mQ.keeps h h4⟩
 |[],_::_,hx=>hx.elim
 |_::_,[],hx=>hx.elim
def u0 (n:Nat) (φ:bI) (g:Nat→Prop) (m:Mem) (w:World) (e:XE) (S':St) (je:List DF) (e':Exit) (a':Act) (w':World):Prop:=
 ∃φ' sy,S'.n=n∧Rel φ' ⟨g,sy⟩ S' a' w'∧aQ φ m w φ' S'.mem w'∧mQ φ' w' (Fo ⟨g,sy⟩ φ' S'.mem) je sy∧(match e' with
  | .normal=>e=.normal
  | .exit id=>e=.exit id
  | .ret=>e=.ret
  | .panic chain=>∃t x v,e=.panic t x∧chain=[{v:=.iface t v,recovered:=false}]∧aH w' (Fo ⟨g,sy⟩ φ' S'.mem) x v
  |_=>False)
theorem u0.weaken {n:Nat} {φ φ1:bI} {g:Nat→Prop} {m m1:Mem} {w w1:World} {e S' je e' a' w'} (h:u0 n φ1 g m1 w1 e S' je e' a' w') (hk:aQ φ m w φ1 m1 w1):u0 n φ g m w e S' je e' a' w':=by
 obtain⟨φ',sy,h1,h2,h3,h4,h5⟩:=h;exact⟨φ',sy,h1,h2,hk.trans h3,h4,h5⟩
theorem F8 {S:St} {o:Oper} {d:DF} (h:nA S o=some d):o.guard=none∧∃c fv args hU g da,o.op=.defer c∧c={callee:=.value fv,args,argTypes:=hU}∧S.opd fv=(true,.fn g da)∧g<bnB∧okAll S args.toList=true∧d=(g,argVals S args.toList++da):=by
 unfold nA at h;split at h
 ·rename_i fv args hU hg ho;unfold dfv at h;split at h
  ·rename_i g da gv;split at h
   ·rename_i dt;cases h;simp only[Bool.and_eq_true,decide_eq_true_eq]at dt;exact⟨hg,_,fv,args,hU,g,da,ho,rfl,gv,dt.2,dt.1,rfl⟩
   ·cases h
  ·cases h
 ·cases h
section
variable {X:Ctx} {cl:bz} {f:FuncId} {n:Nat}
theorem u4 {md:Bool} {all:List Oper} (aP:jg X cl):∀(ops:List Oper) (S:St) (ds:List DF) (e:XE) (S':St) (je:List DF),fE X cl md all ops S ds=some (e,S',je)→S.gl=X.gl→jA S.n ops=true→
 S'.n=S.n∧S'.gl=S.gl∧∀φ g dv a w,Rel φ ⟨g,dv⟩ S a w→mQ φ w (Fo ⟨g,dv⟩ φ S.mem) ds dv→∀Q:Exit→Act→World→Prop,(∀e' a' w',u0 S.n φ g S.mem w e S' je e' a' w'→Q e' a' w')→wpList X.P all.toArray Q ops a w
 |[],S,ds,e,S',je,h,cq,hd=>by
  simp only[fE,Option.some.injEq,Prod.mk.injEq]at h;obtain⟨rfl,rfl,rfl⟩:=h;exact⟨rfl,rfl,fun φ g dv a w hr jG Q hQ=>hQ .normal _ _ ⟨φ,dv,rfl,hr,aQ.refl ..,jG,rfl⟩⟩
 |o::rest,S,ds,e,S',je,h,cq,hd=>by
  simp only[jA,List.all_cons,Bool.and_eq_true]at hd;obtain⟨p8,hd⟩:=hd;have qB:∀t,o.dst=some t→t<S.n:=fun t ht=>by rw[ht]at p8;simpa using p8
  simp only[fE]at h;cases rJ:nA S o with
  |some d=>
   rw[rJ]at h;simp only at h;obtain⟨hg,c,fv,args,hU,g0,da,ho,hc,gv,IP,dt,rfl⟩:=F8 rJ;obtain⟨my,mz,Bo⟩:=u4 aP rest (S.put o.dst true .aW) _ e S' je h ((kO ..).trans cq) (by rw[lA];exact hd);refine⟨my.trans (lA ..),mz.trans (kO ..),fun φ g dv a w hr jG Q hQ=>?_⟩;have vN:=hr.opd fv (by rw[gv]);rw[gv]at vN;generalize Uw:a.eval fv=ahX at vN;cases vN with
   |qu _ _ ca fX b8=>exact absurd IP (Nat.not_lt.2 (Nat.le_add_left _ _))
   |fn _ _ ca cg fX b8=>
    have bB:(execOp a.eval o).run X.P w=.ok (.defer {target:=.fn (.func g0) ca,args:=args.map a.eval}) w:=by
     simp[execOp,ho,hc,resolve,Uw,Deferred.ofValue]
    have hw:Region.wanted o (yielded all.toArray a.tmps)=true:=by simp[Region.wanted,hg]
    unfold wpList;rw[if_pos hw];left;unfold Oper.wp;rw[bB,Oper.upon_defer];have rz:Rel φ ⟨g,{target:=.fn (.func g0) ca,args:=args.map a.eval}::dv⟩ S {a with defers:={target:=.fn (.func g0) ca,args:=args.map a.eval}::a.defers} w:=
     ⟨hr.size,by rw[hr.defers],hr.env,hr.mem.dv _,hr.j0⟩
    have iS:=rz.put o.dst qB true .aW undef (fun _=>.aW _);refine Bo φ g _ _ w iS ⟨⟨ca,rfl,?_,?_⟩,?_⟩ Q (fun e' a2 w2 hp=>hQ e' a2 w2 ?_)
    ·rw[List.length_append,iW];simp[fX]
    ·intro i y v hy hv;rw[ff];by_cases hi:i<args.size
     ·rw[List.getElem?_append_left (by rw[iW];simpa using hi),tw]at hy;rw[Array.getElem?_append_left (by simpa using hi)]at hv;simp only[Array.getElem?_map,Option.map_eq_some_iff]at hv;obtain⟨z,hz,rfl⟩:=hv;obtain⟨z',qz,rfl⟩:=Option.map_eq_some_iff.1 hy;rw[Array.getElem?_toList,hz]at qz;cases qz;exact hr.opd z (sh dt z (by simpa using Array.mem_of_getElem? hz))
     ·rw[List.getElem?_append_right (by rw[iW];simpa using hi),iW]at hy;rw[Array.getElem?_append_right (by simpa using hi)]at hv;simp only[Array.size_map,Array.length_toList]at hy hv;exact b8 _ _ v hy hv
    ·rw[ff];exact jG
    ·rw[lA,ff]at hp;exact hp
  |none=>
   rw[rJ]at h;simp only at h;cases Yt:mj X cl md all S o with
   |none=>rw[Yt]at h;cases h
   |some p=>
    obtain⟨e1,S1⟩:=p;rw[Yt]at h;obtain⟨dW,dK,hee,cR⟩:=rH aP cq qB Yt;rcases hee with rfl|⟨t0,x0,rfl⟩
    ·simp only[En]at h;obtain⟨my,mz,Bo⟩:=u4 aP rest S1 ds e S' je h (dK.trans cq) (by rw[dW];exact hd);refine⟨my.trans dW,mz.trans dK,fun φ g dv a w hr jG Q hQ=>?_⟩;have:=cR φ ⟨g,dv⟩ a w hr (wpList X.P all.toArray Q rest) Q
      (fun _ φ' a' w' b7 aN=>Bo φ' g dv a' w' b7 (jG.keeps aN) Q (fun e' a2 w2 hp=>hQ e' a2 w2 (by rw[←dW];exact hp.weaken aN))) (fun t x he=>by cases he)
     unfold wpList;split
     ·rename_i hw;rw[if_pos hw]at this;exact .inl this
     ·rename_i hw;rw[if_neg hw]at this;exact this
    ·simp only[En,Option.some.injEq,Prod.mk.injEq]at h;obtain⟨rfl,rfl,rfl⟩:=h;refine⟨dW,dK,fun φ g dv a w hr jG Q hQ=>?_⟩;have:=cR φ ⟨g,dv⟩ a w hr (wpList X.P all.toArray Q rest) Q
      (fun he=>by cases he) (fun t x he φ' a' w' v b7 aN hv=>hQ (.panic _) a' w' ⟨φ',dv,dW,b7,aN,jG.keeps aN,t,x,v,he,rfl,hv⟩)
     unfold wpList;split
     ·rename_i hw;rw[if_pos hw]at this;exact .inl this
     ·rename_i hw;rw[if_neg hw]at this;exact this
theorem IU (hX:jF X) (aP:jg X cl) {c:Code} {S:St} {ds:List DF} {e:XE} {S':St} {je:List DF} (h:uT ds (den X f cl n c S)=some (e,S',je)) (cq:S.gl=X.gl) (hd:er X f S.n c=true):
 S'.n=S.n∧S'.gl=S.gl∧∀φ g dv a w,Rel φ ⟨g,dv⟩ S a w→mQ φ w (Fo ⟨g,dv⟩ φ S.mem) ds dv→c.wp X.P (u0 S.n φ g S.mem w e S' je) a w:=by
 cases hq:den X f cl n c S with
 |none=>rw[hq]at h;cases h
 |some p=>
  obtain⟨e1,S1⟩:=p;rw[hq]at h;simp only[uT,Option.some.injEq,Prod.mk.injEq]at h;obtain⟨rfl,rfl,rfl⟩:=h;obtain⟨h1,h2,h3⟩:=F5 hX aP c S e1 S1 hq cq hd;refine⟨h1,h2,fun φ g dv a w hr jG=>wp_mono (h3 φ ⟨g,dv⟩ a w hr) fun e' a' w' hp=>?_⟩;obtain⟨φ',sg,b7,aN,he⟩:=hp.is;exact⟨φ',dv,sg,b7,aN,jG.keeps aN,by cases e'<;>exact he⟩
theorem Wa (hX:jF X) (aP:jg X cl) (c:Code):∀(S:St) (ds:List DF) (e:XE) (S':St) (je:List DF),iM X f cl n c S ds=some (e,S',je)→S.gl=X.gl→er X f S.n c=true→
 S'.n=S.n∧S'.gl=S.gl∧∀φ g dv a w,Rel φ ⟨g,dv⟩ S a w→mQ φ w (Fo ⟨g,dv⟩ φ S.mem) ds dv→c.wp X.P (u0 S.n φ g S.mem w e S' je) a w:=by
 induction c with
 |seq a b qa tY=>
  intro S ds e S' je h cq hd;simp only[er,Bool.and_eq_true]at hd;simp only[iM]at h;cases hq:iM X f cl n a S ds with
  |none=>rw[hq]at h;cases h
  |some p=>
   obtain⟨e1,S1,sA⟩:=p;obtain⟨dW,dK,jh⟩:=qa S ds e1 S1 sA hq cq hd.1;have stop:e1≠.normal→e=e1∧S'=S1∧je=sA:=fun he=>by
    rw[hq]at h;cases e1 with
    |normal=>exact absurd rfl he
    |_=>simp only[FJ,Option.some.injEq,Prod.mk.injEq]at h;exact⟨h.1.symm,h.2.1.symm,h.2.2.symm⟩
   by_cases he:e1=.normal
   ·subst he;rw[hq]at h;simp only[FJ]at h;obtain⟨my,mz,fL⟩:=tY S1 sA e S' je h (dK.trans cq) (by rw[dW];exact hd.2);refine⟨my.trans dW,mz.trans dK,fun φ g dv ac w hr jG=>wp_seq (wp_mono (jh φ g dv ac w hr jG) fun e' a' w' hp=>?_)⟩;obtain⟨φ',sy,h1,h2,h3,h4,h5⟩:=hp;cases e' with
    |normal=>exact wp_mono (fL φ' g sy a' w' h2 h4) fun e2 a2 w2 yX=>by rw[dW]at yX;exact yX.weaken h3
    |exit id=>cases h5
    |ret=>cases h5
    |panic chain=>obtain⟨t,x,v,h6,_⟩:=h5;cases h6
    |_=>exact h5.elim
   ·obtain⟨rfl,rfl,rfl⟩:=stop he;refine⟨dW,dK,fun φ g dv ac w hr jG=>wp_seq (wp_mono (jh φ g dv ac w hr jG) fun e' a' w' hp=>?_)⟩;cases e' with
    |normal=>obtain⟨_,_,_,_,_,_,h5⟩:=hp;exact absurd h5 he
    |_=>exact hp
 |region id ops draw=>
  intro S ds e S' je h cq hd;simp only[iM]at h;split at h
  ·rename_i hb;simp only[Bool.and_eq_true,Bool.not_eq_true']at hb;obtain⟨rfl,_⟩:=hb;simp only[er,Bool.and_eq_true]at hd;have OX:jA S.n ops.toList=true:=hd.1;cases hq:fE X cl (X.md f id) ops.toList ops.toList S ds with
   |none=>rw[hq]at h;cases h
   |some p=>
    obtain⟨e1,S1,sA⟩:=p;rw[hq]at h;obtain⟨dW,dK,jh⟩:=u4 aP ops.toList S ds e1 S1 sA hq cq OX;have UB:∀φ g dv a w,Rel φ ⟨g,dv⟩ S a w→mQ φ w (Fo ⟨g,dv⟩ φ S.mem) ds dv→(Code.region id ops false).wp X.P (u0 S.n φ g S.mem w e1 S1 sA) a w:=
     fun φ g dv a w hr jG=>wp_region_lit (jh φ g dv a w hr jG _ (fun _ _ _ h=>h))
    by_cases he:e1=.normal
    ·subst he;simp only[xd,Option.some.injEq,Prod.mk.injEq]at h;obtain⟨rfl,rfl,rfl⟩:=h;obtain⟨t1,t2,t3⟩:=qR X f id S1;refine⟨t1.trans dW,t2.trans dK,fun φ g dv a w hr jG=>wp_mono (UB φ g dv a w hr jG) fun e' a' w' hp=>?_⟩;obtain⟨φ',sy,h1,h2,h3,h4,h5⟩:=hp;cases e' with
     |normal=>
      obtain⟨φ2,iS,ck⟩:=t3 φ' ⟨g,sy⟩ a' w' h2;exact⟨φ2,sy,t1.trans h1,iS,h3.trans ck,h4.keeps ck,rfl⟩
     |exit id=>cases h5
     |ret=>cases h5
     |panic chain=>obtain⟨t,x,v,h6,_⟩:=h5;cases h6
     |_=>exact h5.elim
    ·have:e=e1∧S'=S1∧je=sA:=by
      cases e1 with
      |normal=>exact absurd rfl he
      |_=>simp only[xd,Option.some.injEq,Prod.mk.injEq]at h;exact⟨h.1.symm,h.2.1.symm,h.2.2.symm⟩
     obtain⟨rfl,rfl,rfl⟩:=this;exact⟨dW,dK,UB⟩
  ·exact IU hX aP h cq hd
 |_=>intro S ds e S' je h cq hd;exact IU hX aP (by simpa only[iM]using h) cq hd
end
abbrev Ru:=FuncId→Array Value→World→(Ending→World→Prop)→Prop
def F9 (C:Ru):Prop:=∀f vs w R R',C f vs w R→(∀e w',R e w'→R' e w')→C f vs w R'
def Ga (C:Ru) (gl:List (Nat×D)) (f:FuncId) (args:List AV) (m:Mem) (K:Out→Mem→Prop):Prop:=
 ∀φ G w (vs:Array Value),bj φ G m w→eI w (Fo G φ m) gl→args.length=vs.size→(∀(i:Nat) x v,args[i]?=some x→vs[i]?=some v→az φ w (Fo G φ m) x v)→
  C f vs w fun e w'=>∃φ' m' out,K out m'∧bj φ' G m' w'∧aQ φ m w φ' m' w'∧mM φ' w' (Fo G φ' m') out e
theorem Ga.Yf {C:Ru} (hC:F9 C) {gl f args} {cs:List aD} {out:Out} {l2:List (Nat×aD)} (h:Ga C gl f args (inM 0 cs) fun o m=>o=out∧m=mkM 0 l2) (hl:cs.length≤l2.length):
 Ga C gl f args (inM 0 cs) fun o m=>o=frzO cs.length l2 out∧m=mkM 0 (selL (mkM 0 l2) (List.range cs.length) (fun _=>true) (fun _ v=>v) 0 (List.range cs.length)):=by
 intro φ G w vs hm hg kj ha;refine hC _ _ _ _ _ (h φ G w vs hm hg kj ha) ?_;rintro e w' ⟨φ',m',iN,⟨rfl,rfl⟩,dr,aN,fj⟩;obtain⟨s1,s2,s3⟩:=ye (G1:=G) (ρ:=List.range cs.length) (bor:=fun _=>true) (nv:=fun _ v=>v) dr List.nodup_range (fun k hk=>tX l2 0 k (Nat.zero_le _) (by simp at hk;omega)) (fun b h=>.inl h) (fun b h=>dr.jZ b h.own)
  (fun k e L b hg _ _ hL ho=>dr.jZ _ ⟨e,(Mem.get_mem hg).1,L,by rw[(Mem.get_mem hg).2];exact hL,ho⟩)
 refine⟨_,_,_,⟨rfl,rfl⟩,s1,⟨?_,aN.wa,?_,aN.size,aN.os,aN.tape,aN.output⟩,?_⟩
 ·intro k L hL;have hk:k<cs.length:=by
   have:=hm.oE k L hL;rw[Fu,oX]at this;simpa using this
  obtain⟨L',h1,h2,h3⟩:=aN.le k L hL;exact⟨L',by simp[bI.hP,hk,h1],h2,h3⟩
 ·intro b hb ho;exact aN.own b hb ((tT (φ:=φ') (nv:=fun _ v=>v) (bor:=fun _=>true) (fun k hk=>tX l2 0 k (Nat.zero_le _) (by simp at hk;omega)) b).1 ho).own
 ·cases iN with
  |ret x=>
   cases e with
   |returned v=>exact (s2 x v fj).norm
   |_=>exact fj.elim
  |panic t x=>
   cases e with
   |panicked chain=>
    obtain⟨v,hc,hx⟩:=fj;exact⟨v,hc,hx.mono (fun _ _ _=>rfl) (Nat.le_refl _) (fun b _=>s3 b)⟩
   |_=>exact fj.elim
theorem Ih {C:Ru} (hC:F9 C) {gl:List (Nat×D)} {cl:bz} (aP:∀g args cs out l,cl g args cs=some (out,l)→Ga C gl g args (inM 0 cs) fun o m=>o=out∧m=mkM 0 l)
 {m:Mem} {k0:Nat} {g:FuncId} {ys:List AV} {mt:List Nat} {res:fK} (h:callOp cl m k0 g ys mt=some res) {φ:bI} {G:Fr} {w:World} (hm:bj φ G m w) (cq:eI w (Fo G φ m) gl)
 {vs:Array Value} (hl:ys.length=vs.size) (bX:∀(i:Nat) x v,ys[i]?=some x→vs[i]?=some v→az φ w (Fo G φ m) x v):
 C g vs w fun e w'=>∃φ',bj φ' G (putAll m res.es) w'∧aQ φ m w φ' (putAll m res.es) w'∧mM φ' w' (Fo G φ' (putAll m res.es)) res.out e:=by
 unfold callOp callOp2 callOp3 at h;obtain⟨ρ,hρ⟩:∃ρ,ρ=collect m 64 (argKeys mt 0 ys) []:=⟨_,rfl⟩;have FQ:=nR m 64 (argKeys mt 0 ys) [] List.nodup_nil (by simp);rw[←hρ]at h FQ;generalize (argBor mt 0 ys).filter (fun k=>!ρ.contains k)=B at h;clear hρ;obtain⟨hn,cZ⟩:=FQ;unfold callBack at h;split at h
 ·rename_i out l2 dY;split at h
  ·rename_i hc;cases h;have bS:Ga C gl g (vwArgs (mt.contains 1000) m ρ B ys) (inM 0 (conts (selL m ρ (fun k=>B.contains k) nv0 0 ρ))) fun o m=>o=out∧m=mkM 0 l2:=by
    obtain⟨FN,l0,h0,h1⟩:=xk dY;have FR:=aP _ _ _ _ _ h0;rcases h1 with ⟨rfl,rfl⟩|⟨cg,rfl,rfl⟩
    ·exact FR
    ·have FT:(conts (selL m ρ (fun k=>B.contains k) nv0 0 ρ)).length=ρ.length:=by rw[rG,pA]
     have:=FR.Yf hC (by rw[FT];omega);rw[FT]at this;exact this
   simp only[Bool.and_eq_true,Bool.or_eq_true,decide_eq_true_eq]at hc;obtain⟨⟨hlen,vQ⟩,dg⟩:=hc;rw[xj]at bS;obtain⟨v1,v2,v3⟩:=C9 (B:=B) hm hn cZ;have ah3:∀(i:Nat) x v,(vwArgs (mt.contains 1000) m ρ B ys)[i]?=some x→vs[i]?=some v→az (φ.hP ρ nv0) w (Fo (kC φ G m ρ B) (φ.hP ρ nv0) (mkM 0 (selL m ρ (fun k=>B.contains k) nv0 0 ρ))) x v:=by
    intro i x v hx hv;rw[uV]at hx;obtain⟨y,hy,rfl⟩:=Option.map_eq_some_iff.1 hx;exact (v2 y v (bX i y v hy hv)).nrm
   have n6:eI w (Fo (kC φ G m ρ B) (φ.hP ρ nv0) (mkM 0 (selL m ρ (fun k=>B.contains k) nv0 0 ρ))) gl:=
    cq.mono (fun _ _ _=>rfl) (Nat.le_refl _) (fun b _=>v3 b)
   refine hC _ _ _ _ _ (bS (φ.hP ρ nv0) (kC φ G m ρ B) w _ v1 n6 (by rw[qo];exact hl) ah3) ?_;rintro e w' ⟨φ2,m2,iN,⟨rfl,rfl⟩,jT,ck,fj⟩;have zX:B=[]∨(plainO iN=true∧plainL l2=true):=dg.imp (by simp) id;obtain⟨φ',dr,aN,qx⟩:=Da (B:=B) hm hn cZ (fr:=List.range' (k0+1) (l2.length-ρ.length)) List.nodup_range' (zW vQ) jT ck (by simp;omega) (zX.imp id fun hp=>uW hp.2);refine⟨φ',dr,aN,?_⟩;cases iN with
   |ret x=>
    cases e with
    |returned v=>exact qx x v (zX.imp id fun hp=>hp.1) fj
    |_=>exact fj.elim
   |panic t x=>
    cases e with
    |panicked chain=>
     obtain⟨v,rfl,hx⟩:=fj;have:=qx (.d x) v (zX.imp id fun hp=>hp.1) (.d _ _ hx);cases this with
     |d _ _ hd=>exact⟨v,rfl,hd⟩
    |_=>exact fj.elim
  ·cases h
 ·cases h
theorem Dw {P:Program} {ops:Array Oper} {Q:Exit→Act→List Frame→World→Prop} {cs:List Frame} (yY:∀a w,¬Q .outgrown a cs w):∀(l:List Nat) (a:Act) (w:World),
 wpOps P ops (fun e a w=>Q e a cs w) l a w→wpOpsS P ops Q l a cs w
 |[],a,w,h=>h
 |i::rest,a,w,h=>by
  have ih:=Dw (P:=P) (ops:=ops) yY rest;unfold wpOps at h;unfold wpOpsS;split at h
  ·rename_i ho;simp only[ho];exact ih a w h
  ·rename_i o ho;simp only[ho];split at h
   ·rename_i hw;rw[if_pos hw];rcases h with h|⟨_,a0,w0,h⟩
    ·have h2:=Oper.wp_mono (K':=fun a' w'=>wpOpsS P ops Q rest a' cs w') ih h;unfold Oper.wp at h2;split
     ·rename_i w' hr;rw[hr]at h2;exact h2.elim
     ·exact h2
    ·exact absurd h (yY a0 w0)
   ·rename_i hw;rw[if_neg hw];exact ih _ w h
def LS (c0:Frame) (iJ:List Frame) (v:Value) (u':FrameMode):Prop:=
 recoverD (c0::iJ)=some (v,{c0 with mode:=u'}::iJ)∨(recoverD (c0::iJ)=none∧v=.nilIface∧u'=c0.mode)
theorem Co {o:Oper} (h:xe o=true):o.guard=none∧∃hU,o.op=.call {callee:=.builtin .recover,args:=#[],argTypes:=hU}:=by
 unfold xe at h;split at h
 ·rename_i args hU hg ho;refine⟨hg,hU,?_⟩;rw[ho];have:args=#[]:=by
   cases args with
   |mk l=>cases l with
    |nil=>rfl
    |cons a r=>simp at h
  rw[this]
 ·cases h
abbrev Eo (c0:Frame) (iJ:List Frame) (u':FrameMode) (n:Nat) (φ:bI) (G:Fr) (m:Mem) (w:World) (e:XE) (S':St):Exit→Act→List Frame→World→Prop:=
 fun e' a' lq w'=>lq={c0 with mode:=u'}::iJ∧mD n φ G m w (Is e S') e' a' w'
theorem u5 {P:Program} {c:Code} {Q Q':Exit→Act→List Frame→World→Prop} {a:Act} {cs:List Frame} {w:World} (h:c.wpS P Q a cs w) (hq:∀e a cs w,Q e a cs w→Q' e a cs w):c.wpS P Q' a cs w:=
 fun b k hb hr=>let ⟨e,a',lq,w',q,r⟩:=h b k hb hr;⟨e,a',lq,w',hq _ _ _ _ q,r⟩
section
variable {X:Ctx} {cl:bz} {f:FuncId} {n:Nat}
theorem Wb (hX:jF X) (aP:jg X cl) (rv:AV) (c:Code):∀(S:St) (e:XE) (S':St),pa X f cl n rv c S=some (e,S')→S.gl=X.gl→er X f S.n c=true→
 S'.n=S.n∧S'.gl=S.gl∧∀φ G a w c0 iJ v u',LS c0 iJ v u'→az φ w (Fo G φ S.mem) rv v→Rel φ G S a w→c.wpS X.P (Eo c0 iJ u' S.n φ G S.mem w e S') a (c0::iJ) w:=by
 induction c with
 |seq a b qa tY=>
  intro S e S' h cq hd;simp only[er,Bool.and_eq_true]at hd;simp only[pa]at h;rcases gF h with ⟨S1,h1,h2⟩|⟨h1,h2⟩
  ·obtain⟨dW,dK,jh⟩:=qa S .normal S1 h1 cq hd.1;obtain⟨my,mz,fL⟩:=F5 hX aP b S1 e S' h2 (dK.trans cq) (by rw[dW];exact hd.2);refine⟨my.trans dW,mz.trans dK,fun φ G ac w c0 iJ v u' pb hv hr=>wpS_seq (u5 (jh φ G ac w c0 iJ v u' pb hv hr) ?_)⟩;rintro e' a' lq w' ⟨rfl,hp⟩;obtain⟨φ',sg,b7,aN,he⟩:=hp.is;cases e' with
   |normal=>
    refine wpS_of_wp (wp_mono (fL φ' G a' w' b7) fun e2 a2 w2 yX=>⟨rfl,?_⟩);rw[dW]at yX;exact yX.weaken aN
   |exit id=>cases he
   |ret=>cases he
   |panic chain=>obtain⟨t,x,v,h6,_⟩:=he;cases h6
   |_=>exact he.elim
  ·obtain⟨dW,dK,jh⟩:=qa S e S' h1 cq hd.1;refine⟨dW,dK,fun φ G ac w c0 iJ v u' pb hv hr=>wpS_seq (u5 (jh φ G ac w c0 iJ v u' pb hv hr) ?_)⟩;rintro e' a' lq w' ⟨rfl,hp⟩;cases e' with
   |normal=>obtain⟨φ',_,_,_,he⟩:=hp.is;exact absurd he h2
   |_=>exact⟨rfl,hp⟩
 |region id ops draw=>
  intro S e S' h cq hd;simp only[pa]at h;split at h
  ·rename_i o r Yu;split at h
   ·rename_i acV;obtain⟨hg,hU,ho⟩:=Co acV;simp only[er,Bool.and_eq_true]at hd;have OX:jA S.n ops.toList=true:=hd.1;rw[Yu]at OX;simp only[jA,List.all_cons,Bool.and_eq_true]at OX;obtain⟨p8,vU⟩:=OX;have qB:∀t,o.dst=some t→t<S.n:=fun t ht=>by rw[ht]at p8;simpa using p8
    have Ep:(o::r).toArray=ops:=by rw[←Yu]
    have key:∀e1 S1,gi X cl (X.md f id) (o::r) r (S.put o.dst true rv)=some (e1,S1)→S1.n=S.n∧S1.gl=S.gl∧∀φ G a w c0 iJ v u',LS c0 iJ v u'→az φ w (Fo G φ S.mem) rv v→Rel φ G S a w→
     (Code.region id ops false).wpS X.P (Eo c0 iJ u' S.n φ G S.mem w e1 S1) a (c0::iJ) w:=by
     intro e1 S1 h1;obtain⟨dW,dK,jh⟩:=xo aP r (S.put o.dst true rv) e1 S1 h1 ((kO ..).trans cq) (by rw[lA];exact vU);rw[lA]at dW jh;rw[kO]at dK;rw[ff]at jh;refine⟨dW,dK,fun φ G a w c0 iJ v u' pb hv hr=>wpS_region ?_⟩;have bN:List.range ops.size=0::List.range' 1 r.length:=by
      rw[←Ep];simp[List.range_eq_range',List.range'_succ]
     have h0:ops[0]?=some o:=by rw[←Ep];simp
     have bB:(execOp a.eval o).run X.P w=.ok .recover w:=by
      simp[execOp,ho,resolve,Deferred.ofValue,invoke,builtin]
     have rz:=hr.put o.dst qB true rv v (fun _=>hv);have UD:=jh φ G _ w rz (fun e a w'=>Eo c0 iJ u' S.n φ G S.mem w e1 S1 e a ({c0 with mode:=u'}::iJ) w') (fun e' a' w' hp=>⟨rfl,hp⟩);rw[Ep,←wpOps_eq_wpList r 1 (fun j=>by rw[←Ep];simp[Nat.add_comm])]at UD;have hS:=Dw (Q:=Eo c0 iJ u' S.n φ G S.mem w e1 S1) (cs:={c0 with mode:=u'}::iJ) (fun _ _ hh=>hh.2) _ _ _ UD;rw[bN];unfold wpOpsS;simp only[h0];rw[if_pos (by simp[Region.wanted,hg])];simp only[bB];rcases pb with pb|⟨pb,rfl,rfl⟩
     ·rw[pb];exact hS
     ·rw[pb];exact hS
    unfold uS at h;split at h
    ·rename_i S1 h1;cases h;obtain⟨dW,dK,jh⟩:=key _ _ h1;obtain⟨t1,t2,t3⟩:=qR X f id S1;refine⟨t1.trans dW,t2.trans dK,fun φ G a w c0 iJ v u' pb hv hr=>u5 (jh φ G a w c0 iJ v u' pb hv hr) ?_⟩;rintro e' a' lq w' ⟨rfl,hp⟩;refine⟨rfl,?_⟩;obtain⟨φ',sg,b7,aN,he⟩:=hp.is;cases e' with
     |normal=>
      obtain⟨φ2,iS,ck⟩:=t3 φ' G a' w' b7;exact⟨φ2,_,t1.trans sg,⟨rfl,rfl⟩,iS,aN.trans ck⟩
     |exit id=>cases he
     |ret=>cases he
     |panic chain=>obtain⟨t,x,v,h4,_⟩:=he;cases h4
     |_=>exact he.elim
    ·exact key _ _ h
   ·cases h
  ·cases h
 |_=>intro S e S' h;simp[pa]at h
end
section
variable {X:Ctx} {cl:bz} {f:FuncId} {n:Nat}
theorem Gb {fn:Func} {args:List AV} {cs:List aD} (wG:args.length≤fn.ntmps) (kM:cs.length≤100) (pN:∀k∈(X.fp f).sites,100≤k) (qv:(X.fp f).sites.Nodup)
 {φ:bI} {G:Fr} {w:World} {vs:Array Value} (qy:G.dv=[]) (hm:bj φ G (inM 0 cs) w) (n6:eI w (Fo G φ (inM 0 cs)) X.gl) (kj:args.length=vs.size)
 (bX:∀(i:Nat) x v,args[i]?=some x→vs[i]?=some v→az φ w (Fo G φ (inM 0 cs)) x v):
 Rel (φ.add (X.fp f).sites) G (entry fn.ntmps X.gl args cs (X.fp f).sites) {tmps:=vs++Array.replicate (fn.ntmps-vs.size) undef,defers:=[]} w∧
  aQ φ (inM 0 cs) w (φ.add (X.fp f).sites) (entry fn.ntmps X.gl args cs (X.fp f).sites).mem w∧(∀k L,φ k=some L→k<cs.length∧L.aj=0):=by
 have mi:∀k,k∈(inM 0 cs).map (·.key)↔k<cs.length:=fun k=>by rw[z8];simp
 have Aa:∀k∈(X.fp f).sites,k∉(inM 0 cs).map (·.key):=by
  intro k hk tV;have h1:=pN k hk;have h2:=(mi k).1 tV;omega
 have oZ:∀k L,φ k=some L→k<cs.length∧L.aj=0:=fun k L hL=>by
  have hk:=hm.oE k L hL;obtain⟨e,he,rfl⟩:=List.mem_map.1 hk;obtain⟨L',bM,aw,_⟩:=hm.eZ e he;rw[hL]at bM;cases bM;exact⟨(mi _).1 hk,by rw[aw];exact Cn cs 0 e he⟩
 have OV:=hm.add qv Aa;have rI:aQ φ (inM 0 cs) w (φ.add (X.fp f).sites) (inM 0 cs++(X.fp f).sites.map dead) w:=⟨Ft hm Aa,fun _ _ _=>rfl,fun b _ ho=>(yf Aa b).1 ho,Nat.le_refl _,rfl,rfl,rfl⟩;refine⟨⟨by simp[entry];omega,qy.symm,fun t x hx=>?_,OV,rI.j0 n6⟩,rI,oZ⟩;obtain⟨j,rfl,hj⟩:=uN 0 args t _ hx;have im:j<vs.size:=by rw[←kj];exact (List.getElem?_eq_some_iff.1 hj).1
 have e:(vs++Array.replicate (fn.ntmps-vs.size) undef).getD (0+j) undef=vs[j]:=by
  simp only[Nat.zero_add,Array.getD_eq_getD_getElem?];rw[Array.getElem?_append_left im];simp[im]
 rw[e];exact rI.av (bX j x _ hj (by simp[im]))
theorem Dx {fn:Func} {cs:List aD} {out:Out} {l:List (Nat×aD)} {φ φ':bI} {G:Fr} {S':St} {a':Act} {w w':World} (b7:Rel φ' G S' a' w') (ny:aQ φ (inM 0 cs) w φ' S'.mem w')
 (oZ:∀k L,φ k=some L→k<cs.length∧L.aj=0) (eW:finish X.P (X.fp f) cs.length fn.results.toList S'=some (out,l)):
 ∃v,(results fn a'.tmps).run X.P w'=.ok v w'∧∃mr m' iN,(iN=out∧m'=mkM 0 l)∧bj mr G m' w'∧aQ φ (inM 0 cs) w mr m' w'∧mM mr w' (Fo G mr m') iN (.returned v):=by
 unfold finish at eW;split at eW
 ·rename_i cc xs mO;split at eW
  ·rename_i fu;obtain⟨vl,h1,h2,h3⟩:=uM b7 fn.results.toList cc xs mO fu;obtain⟨φ2,ys,rfl,g1,g2,g3,g4,_⟩:=qM eW b7.mem b7.j0 h2 h3 ny oZ;have F7:(results fn a'.tmps).run X.P w'=.ok (if h:vl.toArray.size=1 then vl.toArray[0]else .tuple vl.toArray) w':=by
    have e:results fn a'.tmps=(do let vs ←fn.results.mapM (wQ a'.tmps);pure (if h:vs.size=1 then vs[0]else .tuple vs)):=by
     unfold results;congr 1
    rw[e,Array.mapM_eq_mapM_toList];simp only[Sem.run_bind,Sem.run_map,h1,Result.andThen_ok,Sem.run_pure]
   refine⟨_,F7,φ2,_,_,⟨rfl,rfl⟩,g1,g2,?_⟩;show az φ2 w' _ (oneOf ys) _;by_cases kD:vl.length=1
   ·obtain⟨v,rfl⟩:∃v,vl=[v]:=by
     cases vl with
     |nil=>simp at kD
     |cons v r=>exact⟨v,by cases r with|nil=>rfl|cons _ _=>simp at kD⟩
    obtain⟨y,rfl⟩:∃y,ys=[y]:=by
     cases ys with
     |nil=>simp at g3
     |cons v r=>exact⟨v,by cases r with|nil=>rfl|cons _ _=>simp at g3⟩
    simpa [oneOf]using g4 0 y v (by simp) (by simp)
   ·have e:oneOf ys=.aU ys:=by
     cases ys with
     |nil=>rfl
     |cons y r=>cases r with|nil=>simp at g3;omega|cons _ _=>rfl
    rw[e,dif_neg (by simpa using kD)];exact .aU ys vl.toArray (by simpa using g3) (fun i y v h h'=>g4 i y v h (by simpa using h'))
  ·cases eW
 ·cases eW
def OY (u:FrameMode) (v:Value):Prop:=(v=.nilIface∧u=.returning)∨∃t x,v=.iface t x∧u=.panicking [{v:=.iface t x,recovered:=false}]
def Yv (P:Program):Ru:=fun f vs w R=>∀u v,vs.back?=some v→OY u v→CallsD P f vs.pop u w fun e u' w'=>settle u'=.returning∧R e w'
theorem Sf (P:Program):F9 (Yv P):=fun f vs w R R' h hr u v hv hm=>(h u v hv hm).mono fun e u' w' hh=>⟨hh.1,hr e w' hh.2⟩
theorem OZ (hX:jF X) (aP:jg X cl) {fn:Func} {c:Code} {args:List AV} {cs:List aD} {out:Out} {l:List (Nat×aD)} (hf:X.P.funcs[f]?=some fn) (hb:fn.body=some c)
 (h:xf X f cl n fn c args cs=some (out,l)):Ga (Yv X.P) X.gl f args (inM 0 cs) fun o m=>o=out∧m=mkM 0 l:=by
 unfold xf at h;split at h
 ·rename_i rv gn;split at h
  ·rename_i hc;simp only[Bool.and_eq_true,decide_eq_true_eq,List.all_eq_true]at hc;obtain⟨⟨⟨wG,kM⟩,pN⟩,qv⟩:=hc;intro φ G0 w vs OV n6 kj bX u v hv LU;obtain⟨G,hG⟩:∃G:Fr,G=⟨G0.g,[]⟩:=⟨_,rfl⟩;have qy:G.dv=[]:=by rw[hG]
   have hm:bj φ G (inM 0 cs) w:=by rw[hG];exact OV.dv []
   have cq:eI w (Fo G φ (inM 0 cs)) X.gl:=by rw[hG];exact n6
   have Yw:∀(i:Nat) x v,args[i]?=some x→vs[i]?=some v→az φ w (Fo G φ (inM 0 cs)) x v:=by rw[hG];exact bX
   have bE:args≠[]:=by rintro rfl;cases gn
   have nN:0<args.length:=List.length_pos_iff.2 bE;have ah4:args.dropLast.length=vs.pop.size:=by simp;omega
   obtain⟨e1,e2,oZ⟩:=Gb (fn:=fn) wG kM pN qv qy hm cq ah4 (fun i x v hx hv=>by
    have hi:i<args.length-1:=by have:=(List.getElem?_eq_some_iff.1 hx).1;simpa using this
    refine Yw i x v ?_ ?_
    ·rw[List.dropLast_eq_take,List.getElem?_take_of_lt (by omega)]at hx;exact hx
    ·rw[Array.getElem?_pop]at hv;rw[if_pos (by omega)]at hv;exact hv)
   have Iz:az (φ.add (X.fp f).sites) w (Fo G (φ.add (X.fp f).sites) (entry fn.ntmps X.gl args.dropLast cs (X.fp f).sites).mem) rv v:=by
    refine e2.av (Yw (args.length-1) rv v ?_ ?_)
    ·rw[←List.getLast?_eq_getElem?];exact gn
    ·rw[Array.back?]at hv;rw[kj];exact hv
   cases hq:pa X f cl n rv c (entry fn.ntmps X.gl args.dropLast cs (X.fp f).sites)with
   |none=>rw[hq]at h;cases h
   |some p=>
    obtain⟨e,S'⟩:=p;rw[hq]at h;obtain⟨sg,rB,ht⟩:=Wb hX aP rv c _ e S' hq rfl (hX.Sd f fn c hf hb);refine callsD_of_wpS hf hb fun c0 iJ hu=>?_;obtain⟨u',pb,jd⟩:∃u',LS c0 iJ v u'∧settle u'=.returning:=by
     rcases LU with ⟨rfl,rfl⟩|⟨t,x,rfl,rfl⟩
     ·exact⟨.returning,.inr ⟨by simp[recoverD,hu],rfl,hu.symm⟩,rfl⟩
     ·exact⟨.panicking [{v:=.iface t x,recovered:=true}],.inl (by simp[recoverD,hu]),by simp[settle]⟩
    refine u5 (ht _ G _ w c0 iJ v u' pb Iz e1) ?_;rintro e' a' lq w' ⟨rfl,hp⟩;obtain⟨φ',_,b7,aN,he⟩:=hp.is;have ny:=e2.trans aN;have F6:finish X.P (X.fp f) cs.length fn.results.toList S'=some (out,l)→a'.defers=[]∧∃u2,({c0 with mode:=u'}::iJ)={c0 with mode:=u2}::iJ∧∃v,(results fn a'.tmps).run X.P w'=.ok v w'∧(settle u2=.returning∧
     ∃mr m' iN,(iN=out∧m'=mkM 0 l)∧bj mr G0 m' w'∧aQ φ (inM 0 cs) w mr m' w'∧mM mr w' (Fo G0 mr m') iN (.returned v)):=by
     intro eW;obtain⟨v,h1,φ2,m2,o2,h2,h3,h4,h5⟩:=Dx b7 ny oZ eW;subst hG;exact⟨b7.defers,u',rfl,v,h1,jd,φ2,m2,o2,h2,h3.dv G0.dv,h4,h5⟩
    cases e' with
    |normal=>cases he;exact F6 h
    |ret=>cases he;exact F6 h
    |exit id=>cases he;cases h
    |panic chain=>obtain⟨t,x,v,rfl,_⟩:=he;cases h
    |_=>exact he.elim
  ·cases h
 ·cases h
end
def UE (X:Ctx) (ss:bz):Prop:=∀g args cs out l,ss g args cs=some (out,l)→gE X.P g=true∧Ga (Yv X.P) X.gl g args (inM 0 cs) fun o m=>o=out∧m=mkM 0 l
theorem Eg {cl:bz} {m:Mem} {k0:Nat} {g:FuncId} {ys:List AV} {mt:List Nat} {res:fK} (h:callOp cl m k0 g ys mt=some res):∃args cs out l,cl g args cs=some (out,l):=by
 unfold callOp callOp2 callOp3 callBack at h;split at h
 ·rename_i out l2 dY;obtain⟨o0,l0,h0,_⟩:=xk dY;exact⟨_,_,_,_,h0⟩
 ·cases h
section
variable {X:Ctx} {cl ss:bz} {f:FuncId} {n:Nat}
theorem O0 (hX:jF X) (aP:jg X cl) (Yx:UE X ss) {fn:Func} {c:Code} {args:List AV} {cs:List aD} {out:Out} {l:List (Nat×aD)} (hf:X.P.funcs[f]?=some fn) (hb:fn.body=some c)
 (h:xg X f cl ss n fn c args cs=some (out,l)):Ev X.P X.gl f args (inM 0 cs) fun o m=>o=out∧m=mkM 0 l:=by
 unfold xg at h;split at h
 ·rename_i hc;simp only[Bool.and_eq_true,decide_eq_true_eq,List.all_eq_true]at hc;obtain⟨⟨⟨wG,kM⟩,pN⟩,qv⟩:=hc;refine Ev.dv ?_;intro φ G w vs qy hm n6 kj bX;obtain⟨e1,e2,oZ⟩:=Gb (fn:=fn) wG kM pN qv qy hm n6 kj bX;obtain⟨g,dv0⟩:=G;simp only at qy;subst qy;cases hq:iM X f cl n c (entry fn.ntmps X.gl args cs (X.fp f).sites) []with
  |none=>rw[hq]at h;cases h
  |some p=>
   obtain⟨e,S',je⟩:=p;rw[hq]at h;obtain⟨sg,rB,ht⟩:=Wa hX aP c _ _ e S' je hq rfl (hX.Sd f fn c hf hb);refine calls_of_wp_defers hf hb (wp_mono (ht _ g [] _ w e1 trivial) fun e' a' w' hp=>?_);obtain⟨φ',sy,_,b7,aN,jG,he⟩:=hp;have ny:=e2.trans aN;have acW:S'.gl=X.gl:=rB;have back:∀{φ2:bI} {S2:St} {w2:World},Rel φ2 ⟨g,sy⟩ S2 a' w2→aQ φ (inM 0 cs) w φ2 S2.mem w2→finish X.P (X.fp f) cs.length fn.results.toList S2=some (out,l)→
    ∃v,(results fn a'.tmps).run X.P w2=.ok v w2∧∃mr m' iN,(iN=out∧m'=mkM 0 l)∧bj mr ⟨g,[]⟩ m' w2∧aQ φ (inM 0 cs) w mr m' w2∧mM mr w2 (Fo ⟨g,[]⟩ mr m') iN (.returned v):=by
    intro φ2 S2 w2 iS ck eW;obtain⟨v,h1,φ3,m3,o3,h2,h3,h4,h5⟩:=Dx iS ck oZ eW;exact⟨v,h1,φ3,m3,o3,h2,h3.dv [],h4,h5⟩
   match je,sy,jG with
   |[],[],_=>
    have rJ:a'.defers=[]:=b7.defers;simp only[zU]at h;cases e' with
    |normal=>cases he;show Leaves _ _ _ _ a'.defers _ _;rw[rJ];exact back b7 ny h
    |ret=>cases he;show Leaves _ _ _ _ a'.defers _ _;rw[rJ];exact back b7 ny h
    |exit id=>cases he;cases h
    |panic chain=>
     obtain⟨t,x,v,rfl,rfl,hd⟩:=he;have h':finVals (X.fp f) cs.length S' [] (fun _=>.panic t x)=some (out,l):=h;obtain⟨φ2,ys,rfl,g1,g2,_,_,g5⟩:=qM (vs:=[]) h' b7.mem b7.j0 rfl (by simp) ny oZ;show Leaves _ _ _ _ a'.defers _ _;rw[rJ];exact⟨φ2,_,_,⟨rfl,rfl⟩,g1,g2,v,rfl,hd.mono (fun _ _ _=>rfl) (Nat.le_refl _) (fun b _=>g5 b)⟩
    |_=>exact he.elim
   |[d],[dd],⟨vU,_⟩=>
    have rJ:a'.defers=[dd]:=b7.defers;simp only[zU]at h;have one:∀u rv O1,u≠FrameMode.run→OY u O1→az φ' w' (Fo ⟨g,[dd]⟩ φ' S'.mem) rv O1→recA e=some rv→
     Leaves X.P fn a'.tmps (fun e w'=>∃φ' m' iN,(iN=out∧m'=mkM 0 l)∧bj φ' ⟨g,[]⟩ m' w'∧aQ φ (inM 0 cs) w φ' m' w'∧mM φ' w' (Fo ⟨g,[]⟩ φ' m') iN e) [dd] u w':=by
     intro u rv O1 hu LU Iz hre;rw[hre]at h;simp only[finD1]at h;cases dY:callOp ss S'.mem 0 d.1 (d.2++[rv]) (X.fp d.1).uO with
     |none=>rw[dY]at h;cases h
     |some res=>
      rw[dY]at h;obtain⟨ca,Bs,hlen,si⟩:=vU;obtain⟨_,_,_,_,ah5⟩:=Eg dY;have sw:=(Yx _ _ _ _ _ ah5).1;have acX:=Ih (Sf X.P) (gl:=X.gl) (fun g args cs out l hh=>(Yx g args cs out l hh).2) dY (φ:=φ') (G:=⟨g,[dd]⟩) (w:=w') (vs:=(dd.args++ca).push O1) b7.mem (by rw[←acW];exact b7.j0)
       (by simp[hlen];omega) (fun i x v hx hv=>by
        by_cases hi:i<d.2.length
        ·rw[List.getElem?_append_left hi]at hx;rw[Array.getElem?_push,if_neg (by omega)]at hv;exact si i x v hx hv
        ·have:i=d.2.length:=by
          have:=(List.getElem?_eq_some_iff.1 hx).1;simp at this;omega
         subst this;rw[List.getElem?_append_right (Nat.le_refl _)]at hx;simp at hx;subst hx;rw[Array.getElem?_push,if_pos hlen]at hv;cases hv;exact Iz)
      have hD:=acX u O1 (by simp) LU;rw[Array.pop_push]at hD;refine⟨hu,.func d.1,ca,d.1,dd.args++ca,Bs,by rw[Bs];simp[invoke,rF sw],hD.mono ?_⟩;rintro e2 u2 w2 ⟨jd,φ2,jT,ck,fj⟩;unfold memC at h;split at h
      ·rename_i x es ks heq;cases heq;cases e2 with
       |returned v2=>
        show Leaves _ _ _ _ [] (settle u2) w2;rw[jd];exact back (b7.wc jT ck) (ny.trans ck) h
       |_=>exact fj.elim
      ·cases h
    cases e' with
    |normal=>cases he;show Leaves _ _ _ _ a'.defers _ _;rw[rJ];exact one .returning _ .nilIface (by simp) (.inl ⟨rfl,rfl⟩) (.lit _ rfl) rfl
    |ret=>cases he;show Leaves _ _ _ _ a'.defers _ _;rw[rJ];exact one .returning _ .nilIface (by simp) (.inl ⟨rfl,rfl⟩) (.lit _ rfl) rfl
    |exit id=>cases he;cases h
    |panic chain=>
     obtain⟨t,x,v,rfl,rfl,hd⟩:=he;show Leaves _ _ _ _ a'.defers _ _;rw[rJ];exact one (.panicking [{v:=.iface t v,recovered:=false}]) _ (.iface t v) (by simp) (.inr ⟨t,v,rfl,rfl⟩) (.gM _ _ _ hd) rfl
    |_=>exact he.elim
   |_::_::_,_,_=>cases h
 ·cases h
theorem Sg (hX:jF X) (aP:jg X cl):UE X (uU X n cl):=by
 intro g args cs out l h;unfold uU at h;split at h
 ·rename_i fn hf;split at h
  ·rename_i c hb;refine⟨?_,OZ hX aP hf hb h⟩;unfold gE;rw[hf];simp[hb,hX.names g fn hf]
  ·cases h
 ·cases h
theorem Gc (hX:jF X):∀n,jg X (aO X n)
 |0=>fun g args cs out l h=>by cases h
 |n+1=>fun g args cs out l h=>by
  have ih:=Gc hX n;simp only[aO,hX.ov]at h;split at h
  ·rename_i h0 IP;exact Ys hX IP h
  split at h
  ·rename_i fn hf;split at h
   ·rename_i c hb;have dY:gE X.P g=true:=by
     unfold gE;rw[hf];simp[hb,hX.names g fn hf]
    refine⟨dY,?_⟩;cases jG:xh c with
    |true=>
     rw[jG]at h;exact O0 hX ih (Sg hX ih) hf hb h
    |false=>
    rw[jG]at h;simp only[yi]at h;unfold runSplit at h;split at h
    ·split at h
     ·rename_i r;unfold splitRun at h;split at h
      ·rename_i a b ha aS;split at h
       ·rename_i sm;subst sm;have e1:=fA ha;have e2:=fA aS;rw[e1]at h;cases h;exact Ev.split (uZ hX ih hf hb e1) (uZ hX ih hf hb e2)
       ·cases h
      ·cases h
     ·exact uZ hX ih hf hb h
    ·exact uZ hX ih hf hb h
   ·cases h
  ·cases h
end
def aK {α:Type} (f:Nat→Option α):Prop:=∀n r,f n=some r→f (n+1)=some r
theorem aK.le {α:Type} {f:Nat→Option α} (h:aK f) {n m:Nat} (hnm:n≤m) {r:α} (hr:f n=some r):f m=some r:=by
 induction hnm with
 |refl=>exact hr
 |step _ ih=>exact h _ _ ih
theorem aK.const {α:Type} (x:Option α):aK fun _=>x:=fun _ _ h=>h
theorem aK.bind {α β:Type} {f:Nat→Option α} {g:α→Nat→Option β} (hf:aK f) (hg:∀x,aK (g x)):aK fun n=>(f n).bind fun x=>g x n:=by
 intro n r h;obtain⟨x,hx,hr⟩:=Option.bind_eq_some_iff.1 h;simp only[hf n x hx,Option.bind_some];exact hg x n r hr
open Classical in
noncomputable def gT {α:Type} (f:Nat→Option α):Option α:=if h:∃n,(f n).isSome=true then f (Classical.choose h)else none
theorem dz {α:Type} {f:Nat→Option α} (hf:aK f) {r:α}:gT f=some r↔∃n,f n=some r:=by
 unfold gT;constructor
 ·intro h;split at h
  ·exact⟨_,h⟩
  ·cases h
 ·rintro ⟨n,hn⟩;have hex:∃n,(f n).isSome=true:=⟨n,by rw[hn];rfl⟩;rw[dif_pos hex];have hc:=Classical.choose_spec hex;obtain⟨r',b7⟩:=Option.isSome_iff_exists.1 hc;rw[b7];rcases Nat.le_total n (Classical.choose hex)with h1|h1
  ·rw[←b7];exact hf.le h1 hn
  ·have:=hf.le h1 b7;rw[this]at hn;exact hn
theorem aX {α:Type} (x:Option α):gT (fun _=>x)=x:=by
 cases x with
 |some r=>exact (dz (aK.const _)).2 ⟨0,rfl⟩
 |none=>unfold gT;rw[dif_neg];rintro ⟨_,h⟩;cases h
theorem fZ {α β:Type} {f:Nat→Option α} {g:α→Nat→Option β} (hf:aK f) (hg:∀x,aK (g x)):gT (fun n=>(f n).bind fun x=>g x n)=(gT f).bind fun x=>gT (g x):=by
 apply Option.ext;intro r;rw[dz (hf.bind hg),Option.bind_eq_some_iff];constructor
 ·rintro ⟨n,hn⟩;obtain⟨x,hx,hr⟩:=Option.bind_eq_some_iff.1 hn;exact⟨x,(dz hf).2 ⟨n,hx⟩,(dz (hg x)).2 ⟨n,hr⟩⟩
 ·rintro ⟨x,hx,hr⟩;obtain⟨n,hn⟩:=(dz hf).1 hx;obtain⟨m,hm⟩:=(dz (hg x)).1 hr;exact⟨max n m,by rw[hf.le (Nat.le_max_left n m) hn];exact (hg x).le (Nat.le_max_right n m) hm⟩
theorem Dy {α:Type} {f:Nat→Option α} (hf:aK f):gT (fun n=>f (n+1))=gT f:=by
 have UF:aK fun n=>f (n+1):=fun n r h=>hf (n+1) r h;apply Option.ext;intro r;rw[dz UF,dz hf];exact⟨fun ⟨n,h⟩=>⟨n+1,h⟩,fun ⟨n,h⟩=>⟨n,hf n r h⟩⟩
def aT (k:St→Option (XE×St)):XE×St→Option (XE×St)
 |(.normal,S)=>k S
 |r=>some r
theorem u6 (r:Option (XE×St)) (k:St→Option (XE×St)):andThen r k=r.bind (aT k):=by
 rcases r with _|⟨e,S⟩
 ·rfl
 ·cases e<;>rfl
def mT (k:St→St):XE×St→Option (XE×St)
 |(.normal,S)=>some (.normal,k S)
 |r=>some r
theorem tZ (k:St→St) (r:Option (XE×St)):uS k r=r.bind (mT k):=by
 rcases r with _|⟨e,S⟩
 ·rfl
 ·cases e<;>rfl
def bT (id:Nat):XE×St→Option (XE×St)
 |(.exit mw,S)=>if mw=id then some (.normal,S)else some (.exit mw,S)
 |r=>some r
theorem Gd (id:Nat) (r:Option (XE×St)):Bh id r=r.bind (bT id):=by
 rcases r with _|⟨e,S⟩
 ·rfl
 ·cases e<;>rfl
def cT (m:Mem) (k0:Nat) (ρ B:List Nat) (n0:Nat) (b:Bool) (p:Out×List (Nat×aD)):Option fK:=callBack m k0 ρ B (frzR n0 b (some p))
theorem zq (m:Mem) (k0:Nat) (ρ B:List Nat) (n0:Nat) (b:Bool) (r:Option (Out×List (Nat×aD))):callBack m k0 ρ B (frzR n0 b r)=r.bind (cT m k0 ρ B n0 b):=by cases r<;>rfl
theorem Cp (S:St) (d:Option Nat) (r:Option fK):dh S d r=r.bind fun c=>dh S d (some c):=by cases r<;>rfl
theorem Ab (S:St) (o:Oper) (r:Option fK):pE S o r=r.bind fun c=>pE S o (some c):=by cases r<;>rfl
theorem lQ (acc:List aR) (r:Option (St×aR)) (k:St→List aR→Option (XE×St)):uR acc r k=r.bind fun p=>k p.1 (p.2::acc):=by cases r<;>rfl
theorem Ge (P:Program) (p:aM) (n0:Nat) (rs:List ResultVar) (r:Option (XE×St)):fin P p n0 rs r=r.bind fun q=>fin P p n0 rs (some q):=by cases r<;>rfl
def eS (C:Nat→bz):Prop:=∀g a c,aK fun k=>C k g a c
section
variable {X:Ctx} {C:Nat→bz} {S:St} {o:Oper} {md:Bool}
theorem zr (hC:eS C) (m:Mem) (k0:Nat) (g:FuncId) (ys:List AV) (mt:List Nat):aK (fun k=>callOp (C k) m k0 g ys mt):=by
 unfold callOp callOp2 callOp3;simp only[zq];exact (hC _ _ _).bind fun _=>aK.const _
theorem kl (hC:eS C) (args:List Operand) (fv:Bool×AV):aK (fun k=>callVal X (C k) S o args fv):=by
 unfold callVal;split
 ·split
  ·exact zr hC _ _ _ _ _
  ·exact aK.const _
 ·exact aK.const _
theorem Ii (hC:eS C):aK (fun k=>p6 X (C k) S o):=by
 unfold p6;split
 ·rename_i fv args hU ho;have h1:(fun k=>dh S o.dst (callVal X (C k) S o args.toList (S.opd fv)))=fun k=>(callVal X (C k) S o args.toList (S.opd fv)).bind fun c=>dh S o.dst (some c):=by
   funext k;exact Cp ..
  rw[h1];exact (kl hC args.toList (S.opd fv)).bind (fun _=>aK.const _)
 ·exact aK.const _
 ·exact aK.const _
theorem tB (hC:eS C) (r:dj):aK (fun k=>gR X (C k) S o r):=by
 cases r with
 |no=>exact Ii hC
 |val c x=>exact aK.const _
 |cW c x e=>exact aK.const _
theorem Gf (hC:eS C) (b:Bool) (r:dj):aK (fun k=>nz X (C k) S o b r):=by
 have other:∀r,aK (fun k=>if b=true then gR X (C k) S o r else some (.normal,S.put o.dst true .aW)):=by
  intro r;split
  ·exact tB hC r
  ·exact aK.const _
 cases r with
 |no=>exact other .no
 |val c x=>exact aK.const _
 |cW c x e=>exact other (.cW c x e)
theorem qU (hC:eS C) (all:List Oper):aK (fun k=>mj X (C k) md all S o):=by
 unfold mj;split
 ·exact tB hC _
 ·split
  ·split
   ·exact Gf hC _ _
   ·split
    ·exact tB hC _
    ·exact aK.const _
  ·exact aK.const _
  ·exact aK.const _
theorem n7 {F:Nat→Option (XE×St)} {K:St→Nat→Option (XE×St)} (hF:aK F) (hK:∀S,aK (K S)):aK (fun n=>andThen (F n) (fun S=>K S n)):=by
 simp only[u6];refine hF.bind (g:=fun x n=>aT (fun S=>K S n) x) fun x=>?_;obtain⟨e,S⟩:=x;cases e with
 |normal=>exact hK S
 |_=>exact aK.const _
theorem kT (hC:eS C) (all:List Oper):∀(ops:List Oper) (S:St),aK (fun k=>gi X (C k) md all ops S)
 |[],S=>aK.const _
 |o::r,S=>n7 (qU hC all) (fun S'=>kT hC all r S')
theorem LV (hC:eS C):aK (fun k=>kE X (C k) S o):=by
 unfold kE;split
 ·rename_i fv args hU ho;have h1:(fun k=>pE S o (callVal X (C k) S o args.toList (S.opd fv)))=fun k=>(callVal X (C k) S o args.toList (S.opd fv)).bind fun c=>pE S o (some c):=by
   funext k;exact Ab ..
  rw[h1];exact (kl hC args.toList (S.opd fv)).bind (fun _=>aK.const _)
 ·exact aK.const _
theorem u7 (hC:eS C) (r:dj):aK (fun k=>dstep X (C k) S o r):=by
 cases r with
 |no=>exact LV hC
 |val c x=>exact aK.const _
 |cW c x e=>exact aK.const _
theorem Ij (hC:eS C) (b:Bool) (r:dj):aK (fun k=>p7 X (C k) S o b r):=by
 have other:∀r,aK (fun k=>if b=true then dstep X (C k) S o r else some (S.put o.dst true .aW,⟨[],[],true,.aW⟩)):=by
  intro r;split
  ·exact u7 hC r
  ·exact aK.const _
 cases r with
 |no=>exact other .no
 |val c x=>exact aK.const _
 |cW c x e=>exact other (.cW c x e)
theorem kU (hC:eS C) (all:List Oper):aK (fun k=>dX X (C k) md all S o):=by
 unfold dX;split
 ·exact u7 hC _
 ·split
  ·split
   ·exact Ij hC _ _
   ·split
    ·exact u7 hC _
    ·exact aK.const _
  ·exact aK.const _
  ·exact aK.const _
theorem Cq (S:St) (r:Option fK):th S r=r.bind fun c=>th S (some c):=by cases r<;>rfl
theorem Dz (hC:eS C):aK (fun k=>ki X (C k) S o):=by
 unfold ki;split
 ·unfold zS;split
  ·unfold FG;split
   ·rename_i fv args hU ho;have h1:(fun k=>th S (callVal X (C k) S o args.toList (S.opd fv)))=fun k=>(callVal X (C k) S o args.toList (S.opd fv)).bind fun c=>th S (some c):=by
     funext k;exact Cq ..
    rw[h1];exact (kl hC args.toList (S.opd fv)).bind (fun _=>aK.const _)
   ·exact aK.const _
  ·exact aK.const _
 ·exact aK.const _
theorem Ac {cl:bz} {all:List Oper} {q:St×aR} (h:dX X cl md all S o=some q):ki X cl S o=none:=by
 cases hp:ki X cl S o with
 |none=>rfl
 |some p=>
  obtain⟨hg,hs,fv,args,hU,ho,hc,_⟩:=Dp hp;unfold dX at h;rw[hg]at h;simp only[dstep,kE,hs,ho,hc]at h;cases h
theorem O2 (hC:eS C) (nd:Nat×List (List Nat)) (all r:List Oper) (acc:List aR) {K:Nat→St→List aR→Option (XE×St)} (hK:∀S acc,aK fun k=>K k S acc):aK (fun k=>mE X (C k) md nd all r S o acc (K k) (ki X (C k) S o)):=by
 intro n y h;simp only at h⊢;cases hp:ki X (C n) S o with
 |some q=>
  rw[hp]at h;have lB:ki X (C (n+1)) S o=some q:=Dz hC n q hp;rw[lB];exact h
 |none=>
  rw[hp]at h;simp only[mE,lQ]at h;cases hg:dX X (C n) md all S o with
  |none=>rw[hg]at h;cases h
  |some p=>
   have rB:dX X (C (n+1)) md all S o=some p:=kU hC all n p hg;rw[Ac rB];simp only[mE,lQ];rw[hg]at h;rw[rB];exact hK _ _ n y h
theorem mR (hC:eS C) (nd:Nat×List (List Nat)) (all:List Oper):∀(ops:List Oper) (S:St) (acc:List aR),aK (fun k=>gS X (C k) md nd all ops S acc)
 |[],S,acc=>aK.const _
 |o::r,S,acc=>O2 hC nd all r acc fun S acc=>mR hC nd all r S acc
def LW (LI:List Cl) (p:St×aR):Option (St×aR):=if sr LI p.2.es=true then some p else none
theorem IV (LI:List Cl) (r:Option (St×aR)):Ck LI r=r.bind (LW LI):=by
 rcases r with _|⟨S,p⟩<;>rfl
theorem sB (hC:eS C) (nd:List (List Nat)) (LI:List Cl) (all:List Oper):∀(ops:List Oper) (S:St) (acc:List aR),aK (fun k=>mF X (C k) md nd LI all ops S acc)
 |[],S,acc=>aK.const _
 |o::r,S,acc=>by
  simp only[mF,lQ];cases lO (nd.getD acc.length []) r with
  |true=>
   simp only[FI];split
   ·exact kT hC all [o] S
   ·exact aK.const _
  |false=>
  simp only
  cases nZ X.P LI S o with
  |some x=>
   simp only[m5,Option.bind_some];exact sB hC nd LI all r _ _
  |none=>
   simp only[m5,IV];exact ((kU hC all).bind (g:=fun p _=>LW LI p) fun p=>aK.const _).bind (g:=fun p n=>mF X (C n) md nd LI all r p.1 (p.2::acc)) fun p=>sB hC nd LI all r p.1 (p.2::acc)
theorem DA (hC:eS C) (nd:List (List Nat)) (all:List Oper) (S:St) (fl:List (Nat×Nat)):aK (fun k=>rE X (C k) md nd all S fl):=by
 cases fl with
 |nil=>exact mR hC _ all all S []
 |cons q r=>
  simp only[rE];cases eZ S.mem (q::r)with
  |none=>exact aK.const _
  |some LI=>exact sB hC nd LI all all S []
theorem DB (f:St→Option (XE×St)):∀(j:Nat) (S:St) (r:XE×St),iter f j S=some r→iter f (j+1) S=some r
 |0,S,r,h=>by cases h
 |j+1,S,r,h=>by
  simp only[iter]at h;rw[iter];rcases gF h with ⟨S1,h1,h2⟩|⟨h1,h2⟩
  ·rw[h1];exact DB f j S1 r h2
  ·rw[h1];obtain⟨e,S1⟩:=r;cases e with
   |normal=>exact absurd rfl h2
   |_=>rfl
theorem rK (f:St→Option (XE×St)) {j k:Nat} (h:j≤k) {S:St} {r:XE×St} (hr:iter f j S=some r):iter f k S=some r:=by
 induction h with
 |refl=>exact hr
 |step _ ih=>exact DB f _ S r ih
theorem sC {F:Nat→St→Option (XE×St)} (hF:∀S,aK (fun k=>F k S)):∀(j:Nat) (S:St),aK (fun k=>iter (F k) j S)
 |0,S=>aK.const _
 |j+1,S=>n7 (hF S) (fun S'=>sC hF j S')
theorem u9 (hC:eS C) (f:FuncId) {m:Nat→Nat} (hm:∀k,m k≤m (k+1)):∀(c:Code) (S:St),aK (fun k=>den X f (C k) (m k) c S):=by
 intro c;induction c with
 |region id ops draw=>
  intro S;cases draw with
  |false=>
   simp only[den,tZ];exact (kT hC _ _ _).bind fun _=>aK.const _
  |true=>
   simp only[den,tZ];exact (DA hC _ _ _ _).bind fun _=>aK.const _
 |seq a b qa tY=>intro S;exact n7 (qa S) (fun S'=>tY S')
 |cond c a b qa tY=>
  intro S;simp only[den];unfold Bi;split
  ·split
   ·exact qa S
   ·exact tY S
  ·exact aK.const _
 |block id c ih=>
  intro S;simp only[den,Gd];exact (ih S).bind fun _=>aK.const _
 |loop c ih=>
  intro S n r h;simp only[den]at h⊢;have h1:=sC (F:=fun k=>den X f (C k) (m k) c) ih (m n) S n r h;exact rK _ (hm n) h1
 |skip=>intro S;exact aK.const _
 |exit id=>intro S;exact aK.const _
 |ret=>intro S;exact aK.const _
 |rangeFunc _ _ _ _=>intro S;exact aK.const _
 |scope _ _=>intro S;exact aK.const _
 |label _=>intro S;exact aK.const _
 |goto _=>intro S;exact aK.const _
 |refuse _=>intro S;exact aK.const _
theorem Bt (hC:eS C) (f:FuncId) {m:Nat→Nat} (hm:∀k,m k≤m (k+1)) (fn:Func) (c:Code) (args:List AV) (cs:List aD):aK (fun k=>pF X f (C k) (m k) fn c args cs):=by
 unfold pF;split
 ·simp only[Ge X.P (X.fp f) cs.length fn.results.toList (den _ _ _ _ _ _)];exact (u9 hC f hm c _).bind fun _=>aK.const _
 ·exact aK.const _
theorem vV {F G:Nat→Option (Out×List (Nat×aD))} (hF:aK F) (hG:aK G):aK (fun n=>splitRun (F n) (G n)):=by
 intro n r h;replace h:splitRun (F n) (G n)=some r:=h;show splitRun (F (n+1)) (G (n+1))=some r;unfold splitRun at h;split at h
 ·rename_i a b ha hb;have e1:=fA ha;have e2:=fA hb;have f1:=hF n _ e1;have f2:=hG n _ e2;rw[e1]at h;rw[f1,f2];simp only[splitRun,emptyVec];exact h
 ·cases h
theorem Eh {R:Nat→List AV→Option (Out×List (Nat×aD))} (hR:∀a,aK (fun n=>R n a)) (args:List AV) (b:Bool):aK (fun n=>runSplit (R n) args b):=by
 unfold runSplit;split
 ·split
  ·exact vV (hR _) (hR _)
  ·exact hR _
 ·exact hR _
def nT (k:St→XD) (ds:List DF):XE×St→XD
 |(.normal,S)=>k S
 |(e,S)=>some (e,S,ds)
theorem Ad (k:St→XD) (ds:List DF) (r:Option (XE×St)):En k ds r=r.bind (nT k ds):=by
 rcases r with _|⟨e,S⟩
 ·rfl
 ·cases e<;>rfl
def lT (k:St→St):XE×St×List DF→XD
 |(.normal,S,ds)=>some (.normal,k S,ds)
 |r=>some r
theorem xx (k:St→St) (r:XD):xd k r=r.bind (lT k):=by
 rcases r with _|⟨e,S,ds⟩
 ·rfl
 ·cases e<;>rfl
def dT (ds:List DF) (p:XE×St):XD:=some (p.1,p.2,ds)
theorem Cr (ds:List DF) (r:Option (XE×St)):uT ds r=r.bind (dT ds):=by
 rcases r with _|⟨e,S⟩<;>rfl
def sT (k:St→List DF→XD):XE×St×List DF→XD
 |(.normal,S,ds)=>k S ds
 |r=>some r
theorem IW (k:St→List DF→XD) (r:XD):FJ k r=r.bind (sT k):=by
 rcases r with _|⟨e,S,ds⟩
 ·rfl
 ·cases e<;>rfl
theorem lR (hC:eS C) (all:List Oper):∀(ops:List Oper) (S:St) (ds:List DF),aK (fun k=>fE X (C k) md all ops S ds)
 |[],S,ds=>aK.const _
 |o::r,S,ds=>by
  simp only[fE];cases nA S o with
  |some d=>exact lR hC all r _ _
  |none=>
   simp only[Ad];refine (qU hC all).bind (g:=fun x n=>nT (fun S1=>fE X (C n) md all r S1 ds) ds x) fun x=>?_;obtain⟨e,S1⟩:=x;cases e with
   |normal=>exact lR hC all r S1 ds
   |_=>exact aK.const _
theorem DC (hC:eS C) (f:FuncId) {m:Nat→Nat} (hm:∀k,m k≤m (k+1)):∀(c:Code) (S:St) (ds:List DF),aK (fun k=>iM X f (C k) (m k) c S ds):=by
 have add:∀(c:Code) (S:St) (ds:List DF),aK (fun k=>uT ds (den X f (C k) (m k) c S)):=fun c S ds=>by
  simp only[Cr];exact (u9 hC f hm c S).bind fun _=>aK.const _
 intro c;induction c with
 |seq a b qa tY=>
  intro S ds;simp only[iM,IW];refine (qa S ds).bind (g:=fun x n=>sT (iM X f (C n) (m n) b) x) fun x=>?_;obtain⟨e,S1,sA⟩:=x;cases e with
  |normal=>exact tY S1 sA
  |_=>exact aK.const _
 |region id ops draw=>
  intro S ds;simp only[iM];split
  ·simp only[xx];exact (lR hC _ _ _ _).bind fun _=>aK.const _
  ·exact add _ _ _
 |_=>intro S ds;simp only[iM];exact add _ _ _
theorem DD (hC:eS C) (f:FuncId) {m:Nat→Nat} (hm:∀k,m k≤m (k+1)) (rv:AV):∀(c:Code) (S:St),aK (fun k=>pa X f (C k) (m k) rv c S):=by
 intro c;induction c with
 |seq a b qa tY=>intro S;exact n7 (qa S) (fun S'=>u9 hC f hm b S')
 |region id ops draw=>
  intro S;simp only[pa];split
  ·split
   ·simp only[tZ];exact (kT hC _ _ _).bind fun _=>aK.const _
   ·exact aK.const _
  ·exact aK.const _
 |_=>intro S;simp only[pa];exact aK.const _
theorem Wc (P:Program) (p:aM) (n0:Nat) (rs:List ResultVar) (r:Option (XE×St)):R4 P p n0 rs r=r.bind fun q=>R4 P p n0 rs (some q):=by cases r<;>rfl
theorem Ik (hC:eS C) (f:FuncId) {m:Nat→Nat} (hm:∀k,m k≤m (k+1)) (fn:Func) (c:Code) (args:List AV) (cs:List aD):aK (fun k=>xf X f (C k) (m k) fn c args cs):=by
 unfold xf;split
 ·split
  ·simp only[Wc X.P (X.fp f) cs.length fn.results.toList (pa _ _ _ _ _ _ _)];exact (DD hC f hm _ c _).bind fun _=>aK.const _
  ·exact aK.const _
 ·exact aK.const _
theorem LX (hC:eS C) {m:Nat→Nat} (hm:∀k,m k≤m (k+1)):eS (fun k=>uU X (m k) (C k)):=by
 intro g args cs;simp only[uU];split
 ·split
  ·exact Ik hC g hm _ _ _ _
  ·exact aK.const _
 ·exact aK.const _
theorem Wd (S:St) (r:Option fK):memC S r=r.bind fun c=>memC S (some c):=by cases r<;>rfl
theorem We (X:Ctx) (p:aM) (n0:Nat) (rs:List ResultVar) (r:Option St):finM X p n0 rs r=r.bind fun S=>finish X.P p n0 rs S:=by cases r<;>rfl
theorem Wf (X:Ctx) (p:aM) (n0:Nat) (rs:List ResultVar) (ss:bz) (r:XD):zU X p n0 rs ss r=r.bind fun q=>zU X p n0 rs ss (some q):=by cases r<;>rfl
theorem LY {CR:Nat→bz} (hC:eS CR) (p:aM) (n0:Nat) (rs:List ResultVar) (S:St) (d:DF) (rv:Option AV):aK (fun k=>finD1 X p n0 rs (CR k) S d rv):=by
 cases rv with
 |none=>exact aK.const _
 |some rv=>
  simp only[finD1,We,Wd S (callOp _ _ _ _ _ _)];exact ((zr hC _ _ _ _ _).bind (g:=fun c _=>memC S (some c)) fun _=>aK.const _).bind (g:=fun S _=>finish X.P p n0 rs S) fun _=>aK.const _
theorem LZ {CR:Nat→bz} (hC:eS CR) (p:aM) (n0:Nat) (rs:List ResultVar) (q:XE×St×List DF):aK (fun k=>zU X p n0 rs (CR k) (some q)):=by
 obtain⟨e,S,ds⟩:=q;match ds with
 |[]=>exact aK.const _
 |[d]=>exact LY hC p n0 rs S d (recA e)
 |_::_::_=>exact aK.const _
theorem Il (hC:eS C) {CR:Nat→bz} (hR:eS CR) (f:FuncId) {m:Nat→Nat} (hm:∀k,m k≤m (k+1)) (fn:Func) (c:Code) (args:List AV) (cs:List aD):aK (fun k=>xg X f (C k) (CR k) (m k) fn c args cs):=by
 unfold xg;split
 ·simp only[Wf X (X.fp f) cs.length fn.results.toList _ (iM _ _ _ _ _ _ _)];exact (DC hC f hm c _ _).bind (g:=fun q n=>zU X (X.fp f) cs.length fn.results.toList (CR n) (some q)) fun q=>LZ hR _ _ _ q
 ·exact aK.const _
theorem Bu (X:Ctx):∀n g a c r,aO X n g a c=some r→aO X (n+1) g a c=some r
 |0,g,a,c,r,h=>by cases h
 |n+1,g,a,c,r,h=>by
  have ih:=Bu X n;have hC:eS fun k=>if k=0 then aO X n else aO X (n+1):=by
   intro g a c k r h;by_cases hk:k=0
   ·subst hk;exact ih g a c r h
   ·simp only[hk,if_false]at h;simpa using h
  have hm:∀k,(if k=0 then n else n+1)≤(if k+1=0 then n else n+1):=by
   intro k;by_cases hk:k=0<;>simp[hk]
  cases Bv:X.ov with
  |some c0=>simp only[aO,Bv]at h⊢;exact h
  |none=>
  cases wu:X.zi g with
  |some h0=>simp only[aO,Bv,wu]at h⊢;exact h
  |none=>
  cases hf:X.P.funcs[g]? with
  |none=>simp only[aO,Bv,wu,hf]at h;cases h
  |some fn=>
   cases hb:fn.body with
   |none=>simp only[aO,Bv,wu,hf,hb]at h;cases h
   |some code=>
    have e1:∀k,aO X (k+1) g a c=yi X g (aO X k) k fn code a c (xh code):=by
     intro k;simp only[aO,Bv,wu,hf,hb]
    rw[e1]at h⊢;cases jG:xh code with
    |true=>
     rw[jG]at h;exact Il (X:=X) (C:=fun k=>if k=0 then aO X n else aO X (n+1)) (CR:=fun k=>uU X (if k=0 then n else n+1) (if k=0 then aO X n else aO X (n+1))) hC (LX hC hm) g hm fn code a c 0 r h
    |false=>
    rw[jG]at h;exact Eh (R:=fun k args=>pF X g ((fun k=>if k=0 then aO X n else aO X (n+1)) k) ((fun k=>if k=0 then n else n+1) k) fn code args c) (fun args=>Bt hC g hm fn code args c) a _ 0 r h
theorem bQ (X:Ctx):eS (aO X):=fun g a c n r h=>Bu X n g a c r h
end
noncomputable def ai (X:Ctx):bz:=fun g a c=>gT fun k=>aO X k g a c
noncomputable def fW (X:Ctx) (f:FuncId) (c:Code) (S:St):Option (XE×St):=gT fun k=>den X f (aO X k) k c S
theorem bn {X:Ctx} {g a c r} (n:Nat) (h:aO X n g a c=some r):ai X g a c=some r:=(dz (bQ X g a c)).2 ⟨n,h⟩
theorem Sh {X:Ctx} (hX:jF X):jg X (ai X):=fun g args cs out l h=>by
 obtain⟨n,hn⟩:=(dz (bQ X g args cs)).1 h;exact Gc hX n g args cs out l hn
section
variable {X:Ctx} {S:St} {o:Oper} {f:FuncId} {md:Bool}
theorem dm (c:Code) (S:St):aK (fun k=>den X f (aO X k) k c S):=u9 (bQ X) f (m:=fun k=>k) (fun k=>Nat.le_succ k) c S
theorem L3 (m:Mem) (k0:Nat) (g:FuncId) (ys:List AV) (mt:List Nat):gT (fun k=>callOp (aO X k) m k0 g ys mt)=callOp (ai X) m k0 g ys mt:=by
 unfold callOp callOp2 callOp3;simp only[zq];rw[fZ (bQ X _ _ _) (fun _=>aK.const _)];simp only[aX];rfl
theorem tC (args:List Operand) (fv:Bool×AV):gT (fun k=>callVal X (aO X k) S o args fv)=callVal X (ai X) S o args fv:=by
 unfold callVal;split
 ·split
  ·exact L3 ..
  ·exact aX _
 ·exact aX _
theorem L4:gT (fun k=>p6 X (aO X k) S o)=p6 X (ai X) S o:=by
 unfold p6;split
 ·rename_i fv args hU ho;have h1:(fun k=>dh S o.dst (callVal X (aO X k) S o args.toList (S.opd fv)))=fun k=>(callVal X (aO X k) S o args.toList (S.opd fv)).bind fun c=>dh S o.dst (some c):=by
   funext k;exact Cp ..
  rw[h1,fZ (kl (bQ X) _ _) (fun _=>aK.const _),tC,Cp];simp only[aX]
 ·exact aX _
 ·exact aX _
theorem vd (r:dj):gT (fun k=>gR X (aO X k) S o r)=gR X (ai X) S o r:=by
 cases r with
 |no=>exact L4
 |val c x=>exact aX _
 |cW c x e=>exact aX _
theorem Im (b:Bool) (r:dj):gT (fun k=>nz X (aO X k) S o b r)=nz X (ai X) S o b r:=by
 have other:∀r,gT (fun k=>if b=true then gR X (aO X k) S o r else some (.normal,S.put o.dst true .aW))=if b=true then gR X (ai X) S o r else some (.normal,S.put o.dst true .aW):=by
  intro r;split
  ·exact vd r
  ·exact aX _
 cases r with
 |no=>exact other .no
 |val c x=>exact aX _
 |cW c x e=>exact other (.cW c x e)
theorem DE (all:List Oper):gT (fun k=>mj X (aO X k) md all S o)=mj X (ai X) md all S o:=by
 unfold mj;split
 ·exact vd _
 ·split
  ·split
   ·exact Im _ _
   ·split
    ·exact vd _
    ·exact aX _
  ·exact aX _
  ·exact aX _
theorem tD {F:Nat→Option (XE×St)} {K:St→Nat→Option (XE×St)} (hF:aK F) (hK:∀S,aK (K S)):gT (fun n=>andThen (F n) (fun S=>K S n))=andThen (gT F) (fun S=>gT (K S)):=by
 simp only[u6];rw[fZ (g:=fun x n=>aT (fun S=>K S n) x) hF (fun x=>by
  obtain⟨e,S⟩:=x;cases e with
  |normal=>exact hK S
  |_=>exact aK.const _)]
 congr 1;funext x;obtain⟨e,S⟩:=x;cases e<;>first|rfl|exact aX _
theorem vg (all:List Oper):∀(ops:List Oper) (S:St),gT (fun k=>gi X (aO X k) md all ops S)=gi X (ai X) md all ops S
 |[],S=>aX _
 |o::r,S=>by
  simp only[gi];have:=tD (F:=fun k=>mj X (aO X k) md all S o) (K:=fun S' k=>gi X (aO X k) md all r S') (qU (bQ X) all) (fun S'=>kT (bQ X) all r S');rw[DE]at this;simp only[vg all r]at this;exact this
theorem O3:gT (fun k=>kE X (aO X k) S o)=kE X (ai X) S o:=by
 unfold kE;split
 ·rename_i fv args hU ho;have h1:(fun k=>pE S o (callVal X (aO X k) S o args.toList (S.opd fv)))=fun k=>(callVal X (aO X k) S o args.toList (S.opd fv)).bind fun c=>pE S o (some c):=by
   funext k;exact Ab ..
  rw[h1,fZ (kl (bQ X) _ _) (fun _=>aK.const _),tC,Ab];simp only[aX]
 ·exact aX _
theorem xy (r:dj):gT (fun k=>dstep X (aO X k) S o r)=dstep X (ai X) S o r:=by
 cases r with
 |no=>exact O3
 |val c x=>exact aX _
 |cW c x e=>exact aX _
theorem L5 (b:Bool) (r:dj):gT (fun k=>p7 X (aO X k) S o b r)=p7 X (ai X) S o b r:=by
 have other:∀r,gT (fun k=>if b=true then dstep X (aO X k) S o r else some (S.put o.dst true .aW,(⟨[],[],true,.aW⟩:aR)))=if b=true then dstep X (ai X) S o r else some (S.put o.dst true .aW,⟨[],[],true,.aW⟩):=by
  intro r;split
  ·exact xy r
  ·exact aX _
 cases r with
 |no=>exact other .no
 |val c x=>exact aX _
 |cW c x e=>exact other (.cW c x e)
theorem Bw (all:List Oper):gT (fun k=>dX X (aO X k) md all S o)=dX X (ai X) md all S o:=by
 unfold dX;split
 ·exact xy _
 ·split
  ·split
   ·exact L5 _ _
   ·split
    ·exact xy _
    ·exact aX _
  ·exact aX _
  ·exact aX _
theorem Si:gT (fun k=>ki X (aO X k) S o)=ki X (ai X) S o:=by
 unfold ki;split
 ·unfold zS;split
  ·unfold FG;split
   ·rename_i fv args hU ho;have h1:(fun k=>th S (callVal X (aO X k) S o args.toList (S.opd fv)))=fun k=>(callVal X (aO X k) S o args.toList (S.opd fv)).bind fun c=>th S (some c):=by
     funext k;exact Cq ..
    rw[h1,fZ (kl (bQ X) _ _) (fun _=>aK.const _),tC,Cq];simp only[aX]
   ·exact aX _
  ·exact aX _
 ·exact aX _
theorem Bx (nd:Nat×List (List Nat)) (all:List Oper):∀(ops:List Oper) (S:St) (acc:List aR),gT (fun k=>gS X (aO X k) md nd all ops S acc)=gS X (ai X) md nd all ops S acc
 |[],S,acc=>aX _
 |o::r,S,acc=>by
  have hp:∀q,ki X (ai X) S o=some q↔∃k,ki X (aO X k) S o=some q:=fun q=>by rw[←Si];exact dz (Dz (bQ X))
  have hg:∀q,dX X (ai X) md all S o=some q↔∃k,dX X (aO X k) md all S o=some q:=fun q=>by rw[←Bw];exact dz (kU (bQ X) all)
  have hr:∀S acc y,gS X (ai X) md nd all r S acc=some y↔∃k,gS X (aO X k) md nd all r S acc=some y:=fun S acc y=>by rw[←Bx nd all r S acc];exact dz (mR (bQ X) nd all r S acc)
  apply Option.ext;intro y;rw[dz (mR (bQ X) nd all (o::r) S acc)];simp only[gS];constructor
  ·rintro ⟨k,hk⟩;cases Yy:ki X (aO X k) S o with
   |some q=>
    rw[Yy]at hk;rw[(hp q).2 ⟨k,Yy⟩];exact hk
   |none=>
    rw[Yy]at hk;simp only[mE,lQ]at hk;cases Yz:dX X (aO X k) md all S o with
    |none=>rw[Yz]at hk;cases hk
    |some p=>
     rw[Yz]at hk;have IX:=(hg p).2 ⟨k,Yz⟩;rw[Ac IX];simp only[mE,lQ,IX,Option.bind_some]at hk⊢;exact (hr _ _ y).2 ⟨k,hk⟩
  ·intro h;cases YA:ki X (ai X) S o with
   |some q=>
    rw[YA]at h;obtain⟨k,hk⟩:=(hp q).1 YA;exact⟨k,by rw[hk];exact h⟩
   |none=>
    rw[YA]at h;simp only[mE,lQ]at h;cases IX:dX X (ai X) md all S o with
    |none=>rw[IX]at h;cases h
    |some p=>
     rw[IX]at h;simp only[Option.bind_some]at h;obtain⟨k1,gu⟩:=(hg p).1 IX;obtain⟨k2,ck⟩:=(hr _ _ y).1 h;refine⟨max k1 k2,?_⟩;have mz:=(kU (X:=X) (S:=S) (o:=o) (md:=md) (bQ X) all).le (Nat.le_max_left k1 k2) gu;have iS:=(mR (X:=X) (md:=md) (bQ X) nd all r p.1 (p.2::acc)).le (Nat.le_max_right k1 k2) ck;rw[Ac mz];simp only[mE,lQ,mz,Option.bind_some];exact iS
theorem Ae (nd:List (List Nat)) (LI:List Cl) (all:List Oper):∀(ops:List Oper) (S:St) (acc:List aR),gT (fun k=>mF X (aO X k) md nd LI all ops S acc)=mF X (ai X) md nd LI all ops S acc
 |[],S,acc=>aX _
 |o::r,S,acc=>by
  simp only[mF,lQ];cases lO (nd.getD acc.length []) r with
  |true=>
   simp only[FI];split
   ·exact vg all [o] S
   ·exact aX _
  |false=>
  simp only
  cases nZ X.P LI S o with
  |some x=>
   simp only[m5,Option.bind_some];exact Ae nd LI all r _ _
  |none=>
   simp only[m5,IV];rw[fZ (g:=fun p n=>mF X (aO X n) md nd LI all r p.1 (p.2::acc)) ((kU (bQ X) all).bind (g:=fun p _=>LW LI p) fun p=>aK.const _) (fun p=>sB (bQ X) nd LI all r p.1 (p.2::acc)),
    fZ (g:=fun p _=>LW LI p) (kU (bQ X) all) (fun p=>aK.const _),Bw]
   simp only[Ae nd LI all r,aX]
theorem Sj (nd:List (List Nat)) (all:List Oper) (S:St) (fl:List (Nat×Nat)):gT (fun k=>rE X (aO X k) md nd all S fl)=rE X (ai X) md nd all S fl:=by
 cases fl with
 |nil=>exact Bx _ all all S []
 |cons q r=>
  simp only[rE];cases eZ S.mem (q::r)with
  |none=>exact aX _
  |some LI=>exact Ae nd LI all all S []
theorem O4:fW X f .skip S=some (.normal,S):=aX _
theorem O5 {id:Nat}:fW X f (.exit id) S=some (.exit id,ghs S (X.gh f (id+1000000))):=aX _
theorem Sk:fW X f .ret S=some (.ret,S):=aX _
theorem Sl {a b:Code}:fW X f (.seq a b) S=andThen (fW X f a S) (fW X f b):=tD (dm a S) (fun S'=>dm b S')
theorem O6 {c:Operand} {a b:Code}:fW X f (.cond c a b) S=Bi (fW X f a S) (fW X f b S) (S.opd c):=by
 unfold fW;simp only[den];unfold Bi;split
 ·split<;>rfl
 ·exact aX _
theorem L6 {id:Nat} {c:Code}:fW X f (.block id c) S=Bh id (fW X f c S):=by
 unfold fW;simp only[den,Gd];rw[fZ (dm c S) (fun _=>aK.const _)];simp only[aX]
theorem Io {id:Nat} {ops:Array Oper}:fW X f (.region id ops false) S=uS (St.leave X f id) (gi X (ai X) (X.md f id) ops.toList ops.toList S):=by
 unfold fW;simp only[den,tZ];rw[fZ (kT (bQ X) _ _ _) (fun _=>aK.const _),vg];simp only[aX]
theorem O7 {id:Nat} {ops:Array Oper}:fW X f (.region id ops true) S=uS (St.leave X f id) (rE X (ai X) (X.md f id) (X.od f id) ops.toList S (X.fl f id)):=by
 unfold fW;simp only[den,tZ];rw[fZ (DA (bQ X) _ _ _ _) (fun _=>aK.const _),Sj];simp only[aX]
theorem O8 {c:Code}:fW X f (.loop c) S=andThen (fW X f c S) (fW X f (.loop c)):=by
 apply Option.ext;intro r;have hl:∀S r,fW X f (.loop c) S=some r↔∃k,iter (den X f (aO X k) k c) k S=some r:=fun S r=>dz (dm (.loop c) S);have hi:∀{k j i:Nat} {S r},k≤j→i≤j→iter (den X f (aO X k) k c) i S=some r→iter (den X f (aO X j) j c) j S=some r:=by
  intro k j i S r hk ka h;exact rK _ ka ((sC (F:=fun k=>den X f (aO X k) k c) (fun S=>dm c S) i S).le hk h)
 rw[hl];constructor
 ·rintro ⟨k,hk⟩;cases k with
  |zero=>cases hk
  |succ k=>
   simp only[iter]at hk;rcases gF hk with ⟨S1,h1,h2⟩|⟨h1,h2⟩
   ·have:fW X f c S=some (.normal,S1):=(dz (dm c S)).2 ⟨k+1,h1⟩;rw[this];exact (hl S1 r).2 ⟨k+1,hi (Nat.le_refl _) (Nat.le_succ k) h2⟩
   ·have:fW X f c S=some r:=(dz (dm c S)).2 ⟨k+1,h1⟩;rw[this];obtain⟨e,S1⟩:=r;cases e with
    |normal=>exact absurd rfl h2
    |_=>rfl
 ·intro h;rcases gF h with ⟨S1,h1,h2⟩|⟨h1,h2⟩
  ·obtain⟨k,hk⟩:=(dz (dm c S)).1 h1;obtain⟨j,hj⟩:=(hl S1 r).1 h2;refine⟨max k j+1,?_⟩;rw[iter,(dm c S).le (show k≤max k j+1 by omega) hk];have:=(sC (F:=fun k=>den X f (aO X k) k c) (fun S=>dm c S) j S1).le (show j≤max k j+1 by omega) hj;exact rK _ (show j≤max k j by omega) this
  ·obtain⟨k,hk⟩:=(dz (dm c S)).1 h1;refine⟨k+1,?_⟩;rw[iter,(dm c S).le (Nat.le_succ k) hk];obtain⟨e,S1⟩:=r;cases e with
   |normal=>exact absurd rfl h2
   |_=>rfl
noncomputable def By (X:Ctx) (f:FuncId) (fn:Func) (c:Code) (cs:List aD) (args:List AV):Option (Out×List (Nat×aD)):=
 if (decide (args.length≤fn.ntmps)&&decide (cs.length≤100)&&(X.fp f).sites.all (fun k=>decide (100≤k))&&decide (X.fp f).sites.Nodup)=true then
  fin X.P (X.fp f) cs.length fn.results.toList (fW X f c (entry fn.ntmps X.gl args cs (X.fp f).sites))
 else none
theorem Sn {fn:Func} {c:Code} {args:List AV} {cs:List aD} (Bv:X.ov=none) (wu:X.zi f=none) (hf:X.P.funcs[f]?=some fn) (hb:fn.body=some c) (jG:xh c=false):
 ai X f args cs=runSplit (By X f fn c cs) args (X.fp f).split:=by
 have hm:∀args,aK (fun k=>pF X f (aO X k) k fn c args cs):=fun args=>Bt (bQ X) f (m:=fun k=>k) (fun k=>Nat.le_succ k) fn c args cs;have hr:∀args,gT (fun k=>pF X f (aO X k) k fn c args cs)=By X f fn c cs args:=by
  intro args;unfold pF By;split
  ·rename_i h;have h1:(fun k=>fin X.P (X.fp f) cs.length fn.results.toList (den X f (aO X k) k c (entry fn.ntmps X.gl args cs (X.fp f).sites)))=fun k=>(den X f (aO X k) k c (entry fn.ntmps X.gl args cs (X.fp f).sites)).bind fun q=>fin X.P (X.fp f) cs.length fn.results.toList (some q):=by
    funext k;exact Ge ..
   rw[h1,fZ (dm c _) (fun _=>aK.const _),Ge];simp only[aX];rfl
  ·exact aX _
 have e1:ai X f args cs=gT (fun k=>runSplit (fun args=>pF X f (aO X k) k fn c args cs) args (X.fp f).split):=by
  unfold ai;rw[←Dy (bQ X f args cs)];congr 1;funext k;rw[aO,Bv,wu,hf];simp only[hb,jG,yi]
 rw[e1];unfold runSplit;split
 ·split
  ·rename_i r;apply Option.ext;intro y;rw[dz (vV (hm _) (hm _)),←hr,←hr];constructor
   ·rintro ⟨n,hn⟩;unfold splitRun at hn⊢;split at hn
    ·rename_i a b ha aS;have f1:=(dz (hm _)).2 ⟨n,fA ha⟩;have f2:=(dz (hm _)).2 ⟨n,fA aS⟩;rw[f1,f2];rw[fA ha]at hn;exact hn
    ·cases hn
   ·intro h;unfold splitRun at h;split at h
    ·rename_i a b ha aS;obtain⟨n,hn⟩:=(dz (hm _)).1 (fA ha);obtain⟨m,jT⟩:=(dz (hm _)).1 (fA aS);refine⟨max n m,?_⟩;rw[(hm _).le (Nat.le_max_left n m) hn,(hm _).le (Nat.le_max_right n m) jT];rw[fA ha]at h;exact h
    ·cases h
  ·exact hr _
 ·exact hr _
end
end Go.Am
end
