/-
  Texts of one proof, one behind the other.
-/
import Derived.Test.YtogaccfhfhdfpaaGreatDoorC1
import Derived.Test.YtogaccfhfhdfpaaGreatDoorC2
import Derived.Test.YtogaccfhfhdfpaaGreatDoorC3
import Derived.Test.YtogaccfhfhdfpaaGreatDoorC4
import Derived.Test.YtogaccfhfhdfpaaGreatDoorC5
import Derived.Test.YtogaccfhfhdfpaaGreatDoorC6
import Derived.Test.YtogaccfhfhdfpaaGreatDoorC7
set_option linter.all false
section
namespace Go.Am
open Go Go.Proofs Go.Proofs.Tryz
variable [Inhabited bP]
set_option maxRecDepth 100000
set_option maxHeartbeats 8000000
def aiy(m:Mk)(a cell:Int)(b:List ax)(c u:Int):(m.eY.I5 a cell b c u).ex=m.ex++[db (-1) (m.out.length+3) b]:=by
 show iZ (m.ex++[[]]) _=_;rw[ky];rfl
def adm{m:Mk}{a cell:Int}{b:List ax}{c u:Int}:(m.eY.I5 a cell b c u).vo m.ex (db (-1) (m.out.length+3) b)=m.aW (jI a cell b) c u:=by
 unfold Mk.vo Mk.I5 Mk.aW Mk.eY;simp only[Mk.mk.injEq,amD];have AP:((m.out++(ins 11 0 0 0 0::ins 13 a cell 0 0::ins 10 (m.out.length+b.length+8) 0 0 0::di (m.out.length+3) b++[ins 2 a 0 0 0,ins 2 (cell+1) 0 0 0,ins 8 0 8 0 0,ins 6 a 0 0 0,ins 9 m.out.length 0 0 0])).length:Int)=m.out.length+b.length+8:=by simp;omega
 rw[AP];refine⟨Zi rfl rfl,?_,?_⟩
 .have:db (-1) m.out.length (jI a cell b)=[]:=Oy _ _;rw[this,oL]
 .rw[ab4 (by decide) (by decide)]
def ZI(a c:Int)(b:List ax):(jI a c b).length=b.length+8:=by simp[jI]
section
variable {p:Pg} (E:p.vars.length<=1000) (H:∀v∈p.vars,cJ v=true)
include E H
theorem UA{name:Tx}{to val x y z:Ex}{b:List Sm}{line:Int}{v:Vr}(A6:bk p.vars name=some v)(A7:bE x=true)(ex:(aJ p.vars x).e=0)(A8:bE y=true)(A9:(aJ p.vars y).e=0)(AA:bE z=true)(AB:(aJ p.vars z).e=0)(AQ:xz p true b)(AR:∀c,0<=c->c<=(ah p.vars b c).2)(m:Mk)(hm:0<=m.most)(Aa:0<=m.cells)(AS:jK m)
 (AC:m.out.length+((aj p.vars x).1++((aj p.vars y).1++(aj p.vars z).1)).length+3+(jI (bA p.vars name).1 m.cells (ah p.vars b (m.cells+2)).1).length<99999990) (AT:(ah p.vars b (m.cells+2)).2<99999990) (AU:m.ex.length+1+jL b<99999990):
 gX p (m.aW (jn (((aj p.vars x).1++((aj p.vars y).1++(aj p.vars z).1))++[ins 6 (m.cells+1) 0 0 0,ins 6 m.cells 0 0 0,ins 6 (bA p.vars name).1 0 0 0]) (jI (bA p.vars name).1 m.cells (ah p.vars b (m.cells+2)).1)) (ah p.vars b (m.cells+2)).2 (max (max (fE 0 [x,y,z]) 3) (aM b))) 0 (.ret (.bh [])) (ak ctx 96 [.ptr 0 0 0,.d (bZ (.mk 4 name to val [x,y,z] [] [] [b] line))] (gW p m 0)):=by
 rw[ZI]at AC;simp only[aal]at AC;have Ab:=AR (m.cells+2) (by omega);have AD:=te p E H name;rw[A6,iX A6]at AD;obtain⟨Ac,a2,a3,g1⟩:=Xe p m 0 2 ((bu _));have f1:({m with cells:=m.cells+2}:Mk).out=m.out:=rfl;generalize J:({m with cells:=m.cells+2}:Mk)=I at g1 f1;have AV:0<=I.most:=by subst J;exact hm
 obtain⟨Ad,Ae,Af,g2⟩:=ny E H x A7 ex I 0 (by omega) (by omega) AV (by rw[f1];omega);have AE:(I.aF (aj p.vars x).1 (az 0 x)).out.length=m.out.length+(aj p.vars x).1.length:=by simp[Mk.aF,f1]
 have AF:0<=(I.aF (aj p.vars x).1 (az 0 x)).most:=by simp[Mk.aF];omega
 generalize O:I.aF (aj p.vars x).1 (az 0 x)=M2 at g2 AE AF;have Ag:=j7 p.vars x;have Ah:=j7 p.vars y;have Ai:=j7 p.vars z;obtain⟨Aj,Ak,Al,g3⟩:=ny E H y A8 A9 M2 (0+1) (by omega) (by omega) AF (by omega);have AG:(M2.aF (aj p.vars y).1 (az (0+1) y)).out.length=m.out.length+(aj p.vars x).1.length+(aj p.vars y).1.length:=by simp[Mk.aF,AE]
 have AH:0<=(M2.aF (aj p.vars y).1 (az (0+1) y)).most:=by simp[Mk.aF];omega
 generalize U:M2.aF (aj p.vars y).1 (az (0+1) y)=V at g3 AG AH;obtain⟨d1,d2,d3,g4⟩:=ny E H z AA AB V (0+1+1) (by omega) (by omega) AH (by omega);have AI:(V.aF (aj p.vars z).1 (az (0+1+1) z)).out.length=m.out.length+(aj p.vars x).1.length+(aj p.vars y).1.length+(aj p.vars z).1.length:=by simp[Mk.aF,AG]
 generalize Z:V.aF (aj p.vars z).1 (az (0+1+1) z)=A' at g4 AI;obtain⟨An,Ao,Ap,g5⟩:=tc p A' (0+1+1+1) (m.cells+1) (by omega) (by decide);have AJ:(A'.put (ins 6 (m.cells+1) 0 0 0) (0+1+1+1+ -1)).out.length=m.out.length+(aj p.vars x).1.length+(aj p.vars y).1.length+(aj p.vars z).1.length+1:=by simp[Mk.put,AI]
 generalize A0:A'.put (ins 6 (m.cells+1) 0 0 0) (0+1+1+1+ -1)=A1 at g5 AJ;obtain⟨Aq,Ar,As,g6⟩:=tc p A1 (0+1+1+1+ -1) m.cells (by omega) (by decide);have AK:(A1.put (ins 6 m.cells 0 0 0) (0+1+1+1+ -1+ -1)).out.length=m.out.length+(aj p.vars x).1.length+(aj p.vars y).1.length+(aj p.vars z).1.length+2:=by simp[Mk.put,AJ]
 generalize A2:A1.put (ins 6 m.cells 0 0 0) (0+1+1+1+ -1+ -1)=A3 at g6 AK;obtain⟨i1,i2,i3,g7⟩:=tc p A3 (0+1+1+1+ -1+ -1) (bA p.vars name).1 (by omega) (by decide);have AL:(A3.put (ins 6 (bA p.vars name).1 0 0 0) (0+1+1+1+ -1+ -1+ -1)).out.length=m.out.length+(aj p.vars x).1.length+(aj p.vars y).1.length+(aj p.vars z).1.length+3:=by simp[Mk.put,AK]
 generalize A4:A3.put (ins 6 (bA p.vars name).1 0 0 0) (0+1+1+1+ -1+ -1+ -1)=D at g7 AL;have f7:D.cells=m.cells+2/\D.ex=m.ex/\0<=D.most/\D=(({m with cells:=m.cells+2}:Mk).aF (((aj p.vars x).1++((aj p.vars y).1++(aj p.vars z).1))++[ins 6 (m.cells+1) 0 0 0,ins 6 m.cells 0 0 0,ins 6 (bA p.vars name).1 0 0 0]) (max (fE 0 [x,y,z]) 3)):=by
  have t1:=nK 0 x;have t2:=nK 1 y;have t3:=nK 2 z;subst A4 A2 A0 Z U O J;refine⟨rfl,rfl,?_,?_⟩
  .simp[Mk.put,Mk.aF];omega
  .simp only[Mk.put,Mk.aF,Mk.mk.injEq,fE];simp;omega
 have AW:jK D:=by
  have q1:jK ({m with cells:=m.cells+2}:Mk):=AS;subst A4 A2 A0 Z U O J;exact (((((q1.aF _ _).aF _ _).aF _ _).put _ _).put _ _).put _ _
 have AX:D.eY.ex.length=m.ex.length+1:=by simp[Mk.eY,f7.2.1]
 have g8:=ait (name:=name) (to:=to) (val:=val) (conds:=[x,y,z]) (line:=line) (at_:=(bA p.vars name).1) (cell:=m.cells) AQ D.eY f7.2.2.1 (by show 0<=D.cells;rw[f7.1];omega) AW.eY (by simp[Mk.eY]) (by unfold dE;omega) (by show D.out.length+(ah p.vars b D.cells).1.length+8<_;rw[f7.1,AL];omega) (by show (ah p.vars b D.cells).2<_;rw[f7.1];exact AT) (by rw[AX];exact AU);rw[show D.eY.cells=m.cells+2 from f7.1]at g8;have At:=tf (-1) (ah p.vars b (m.cells+2)).1 (D.out.length+3);have AM:(D.eY.I5 (bA p.vars name).1 m.cells (ah p.vars b (m.cells+2)).1 (ah p.vars b (m.cells+2)).2 (max 2 (aM b))).out.length=D.out.length+8+(ah p.vars b (m.cells+2)).1.length:=by
  simp[Mk.I5,Mk.eY];omega
 obtain⟨v1,v2,v3,N⟩:=ZF (m:=D) (aiy D _ _ _ _ _) g8 (by omega) (by rw[AM];omega) (λi hi=>by
  obtain⟨j,e,Au⟩:=DZ _ _ _ i hi;exact⟨j,e,by rw[AM];omega⟩) (by rw[f7.2.1];omega)
 rw[adm]at N;have AN:D.aW (jI (bA p.vars name).1 m.cells (ah p.vars b (m.cells+2)).1) (ah p.vars b (m.cells+2)).2 (max 2 (aM b))=m.aW (jn (((aj p.vars x).1++((aj p.vars y).1++(aj p.vars z).1))++[ins 6 (m.cells+1) 0 0 0,ins 6 m.cells 0 0 0,ins 6 (bA p.vars name).1 0 0 0]) (jI (bA p.vars name).1 m.cells (ah p.vars b (m.cells+2)).1)) (ah p.vars b (m.cells+2)).2 (max (max (fE 0 [x,y,z]) 3) (aM b)):=by
  have AY:Flat (((aj p.vars x).1++((aj p.vars y).1++(aj p.vars z).1))++[ins 6 (m.cells+1) 0 0 0,ins 6 m.cells 0 0 0,ins 6 (bA p.vars name).1 0 0 0]):=
   (((n8 x A7 ex).app ((n8 y A8 A9).app (n8 z AA AB)))).app (.cons (by simp[ins]) (.cons (by simp[ins]) (.one (by simp[ins]))))
  rw[<-EO m _ _ (m.cells+2) _ (max (fE 0 [x,y,z]) 3) _,f7.2.2.2];have e:({m with cells:=m.cells+2}:Mk).aF (((aj p.vars x).1++((aj p.vars y).1++(aj p.vars z).1))++[ins 6 (m.cells+1) 0 0 0,ins 6 m.cells 0 0 0,ins 6 (bA p.vars name).1 0 0 0]) (max (fE 0 [x,y,z]) 3)=m.aW (((aj p.vars x).1++((aj p.vars y).1++(aj p.vars z).1))++[ins 6 (m.cells+1) 0 0 0,ins 6 m.cells 0 0 0,ins 6 (bA p.vars name).1 0 0 0]) (m.cells+2) (max (fE 0 [x,y,z]) 3):=by
   rw[<-qU AY];rfl
  rw[e];exact oM (by simp[Mk.aW];omega)
 rw[AN]at N;generalize m.aW (jn (((aj p.vars x).1++((aj p.vars y).1++(aj p.vars z).1))++[ins 6 (m.cells+1) 0 0 0,ins 6 m.cells 0 0 0,ins 6 (bA p.vars name).1 0 0 0]) (jI (bA p.vars name).1 m.cells (ah p.vars b (m.cells+2)).1)) (ah p.vars b (m.cells+2)).2 (max (max (fE 0 [x,y,z]) 3) (aM b))=M at*;clear J O U Z A0 A2 A4 AN f7 g8;have AZ:=bu (m.cells+1);have A5:IntKind.i64.wrap 1=1:=rfl;have AO:IntKind.i64.wrap 2=2:=rfl;have A_:IntKind.i64.wrap 3=3:=rfl;rw[alN (by simp)];simp at g1 g2 g3 g4 g5 g6 g7;simp[aw]at N;simp[f96,dk,AD,bx,cZ,g1,ai];rw[ag];simp[f96,aw,g2,A5];rw[ag];simp[f96,aw,g3,A5,AO];rw[ag];simp[f96,aw,g4,A5,AO,A_];rw[ag];simp[f96,g5,g6,g7,AZ,N];exact⟨_,_,_,rfl⟩
end
def Lm(c:Int):∀l:List Int,l.length%2=0->(cK c l).length=l.length
 |[],_=>by simp[cK]
 |[_],h=>by simp at h
 |a::b::r,h=>by
  have:=Lm c r (by simp only[aao]at h;omega);simp only[cK,aao];omega
def D3(c:Int)(D:List (List Int)):List (List ax×Int):=D.map λl=>(ins 1 0 0 0 0::cK c l,2)
def adn(c:Int)(D:List (List Int)):dQ (D3 c D)=D.map λl=>ins 1 0 0 0 0::cK c l:=by simp[dQ,D3]
def Po(c:Int):∀D:List (List Int),dY (D3 c D)=if D=[]then 0 else 2
 |[]=>rfl
 |l::r=>by
  have:=Po c r;have e:dY (D3 c (l::r))=max 2 (dY (D3 c r)):=rfl;rw[e,this];rw[aaf (List.cons_ne_nil _ _)];split<;>rfl
def Cj(vs:List Vr)(conds:List Ex):List (List ax×Int):=conds.map λx=>((aj vs x).1,az 0 x)
def JV(vs:List Vr)(conds:List Ex):dQ (Cj vs conds)=conds.map λx=>(aj vs x).1:=by simp[dQ,Cj]
def Pp(vs:List Vr):∀conds:List Ex,dY (Cj vs conds)=eL conds
 |[]=>rfl
 |x::r=>by
  have:=Pp vs r;have e:dY (Cj vs (x::r))=max (az 0 x) (dY (Cj vs r)):=rfl;rw[e,this];rfl
section
variable {p:Pg} {lp:Bool} (y:p.vars.length<=1000) (A':∀v∈p.vars,cJ v=true)
include y A'
theorem ZJ{to val:Ex}{D:List (List Int)}{blocks:List (List Sm)}{line:Int}(A0:bE val=true)(A1:(aJ p.vars val).e=0)(A8:D.all oE=true)(A9:D.length<=blocks.length)(AA:blocks.length<=D.length+1)(AB:blocks.length<99999980)
 (A2:∀b∈blocks,xz p lp b) (N:∀b∈blocks,∀c,0<=c->c<=(ah p.vars b c).2) (m:Mk) (hm:0<=m.most) (AM:0<=m.cells) (AC:jK m) (hex:lp=true->m.ex≠[])
 (AN:m.out.length+(aj p.vars val).1.length+1+(ck (D.map λl=>ins 1 0 0 0 0::cK m.cells l) (ay p.vars blocks (m.cells+1)).1).length<99999990) (AD:(ay p.vars blocks (m.cells+1)).2<99999990) (AE:∀b∈blocks,m.ex.length+jL b<99999990):
 gX p (m.aW (jn ((aj p.vars val).1++[ins 6 m.cells 0 0 0]) (ck (D.map λl=>ins 1 0 0 0 0::cK m.cells l) (ay p.vars blocks (m.cells+1)).1)) (ay p.vars blocks (m.cells+1)).2 (max (az 0 val) (max (if D=[]then 0 else 2) (bz blocks)))) 0 (.ret (.bh []))
  (ak ctx 95 [.ptr 0 0 0,.d (bZ (.mk 3 [] to val [] D [] blocks line))] (gW p m 0)):=by
 have AO:=BQ blocks (m.cells+1) (by omega) N;obtain⟨AP,a2,a3,g1⟩:=Xe p m 0 1 ((bu _));have f1:({m with cells:=m.cells+1}:Mk).out=m.out:=rfl;generalize I:({m with cells:=m.cells+1}:Mk)=J at g1 f1;have AF:0<=J.most:=by subst I;exact hm
 obtain⟨AQ,AR,AS,g2⟩:=ny y A' val A0 A1 J 0 (by omega) (by omega) AF (by rw[f1];omega);have A3:(J.aF (aj p.vars val).1 (az 0 val)).out.length=m.out.length+(aj p.vars val).1.length:=by simp[Mk.aF,f1]
 generalize O:J.aF (aj p.vars val).1 (az 0 val)=M2 at g2 A3;obtain⟨AT,AU,AV,g3⟩:=tc p M2 (0+1) m.cells (by omega) (by decide);have A4:(M2.put (ins 6 m.cells 0 0 0) (0+1+ -1)).out.length=m.out.length+(aj p.vars val).1.length+1:=by simp[Mk.put,A3]
 generalize U:M2.put (ins 6 m.cells 0 0 0) (0+1+ -1)=E at g3 A4;have AG:Flat ((aj p.vars val).1++[ins 6 m.cells 0 0 0]):=(n8 val A0 A1).app (.one (by simp[ins]));have f3:E.cells=m.cells+1/\E.ex=m.ex/\0<=E.most/\E=m.aW ((aj p.vars val).1++[ins 6 m.cells 0 0 0]) (m.cells+1) (az 0 val):=by
  have t1:=nK 0 val;have e:({m with cells:=m.cells+1}:Mk).aF ((aj p.vars val).1++[ins 6 m.cells 0 0 0]) (az 0 val)=m.aW ((aj p.vars val).1++[ins 6 m.cells 0 0 0]) (m.cells+1) (az 0 val):=by
   rw[<-qU AG];rfl
  rw[<-e];subst U O I;refine⟨rfl,rfl,?_,?_⟩
  .simp[Mk.put,Mk.aF];omega
  .simp only[Mk.put,Mk.aF,Mk.mk.injEq];simp;omega
 have q3:jK E:=by
  have q1:jK ({m with cells:=m.cells+1}:Mk):=AC;subst U O I;exact (q1.aF _ _).put _ _
 have V:=adn m.cells D;have H:=Uy (p:=p) (lp:=lp) (s:=.mk 3 [] to val [] D [] blocks line) (q:=m.cells) (blocks:=blocks) (ts:=D3 m.cells D) AB (by simpa [D3]using A9) (by simpa [D3]using AA)
  (by
   rw[V];intro x AH;obtain⟨l,_,rfl⟩:=aaD.1 AH;exact .cons (by simp[ins]) (aaY _ _))
  (by
   intro i t A5 M AI AJ;simp only[D3,aaV,aap]at A5;obtain⟨l,A6,rfl⟩:=A5;have Z:oE l=true:=aaR.1 A8 l (aaz A6);have AK:l.length%2=0:=by
    simp only[oE,Ds,aaw]at Z;exact Z.2.1
   have:=Lm m.cells l AK;simp only[aao]at AJ;exact ZE (.mk 3 [] to val [] D [] blocks line) m.cells i l A6 Z M AI (by omega))
  A2 N E f3.2.2.1 (by rw[f3.1];omega) q3 (λh=>by rw[f3.2.1];exact hex h) (by rw[f3.1,A4,V];omega) (by rw[f3.1];exact AD) (λb AL=>by rw[f3.2.1];exact AE b AL)
 rw[f3.1,V,Po]at H;have A7:E.aW (ck (D.map λl=>ins 1 0 0 0 0::cK m.cells l) (ay p.vars blocks (m.cells+1)).1) (ay p.vars blocks (m.cells+1)).2 (max (if D=[]then 0 else 2) (bz blocks))=m.aW (jn ((aj p.vars val).1++[ins 6 m.cells 0 0 0]) (ck (D.map λl=>ins 1 0 0 0 0::cK m.cells l) (ay p.vars blocks (m.cells+1)).1)) (ay p.vars blocks (m.cells+1)).2 (max (az 0 val) (max (if D=[]then 0 else 2) (bz blocks))):=by
  rw[<-EO m _ _ (m.cells+1) _ (az 0 val) _,<-f3.2.2.2]
 rw[A7]at H;generalize m.aW (jn ((aj p.vars val).1++[ins 6 m.cells 0 0 0]) (ck (D.map λl=>ins 1 0 0 0 0::cK m.cells l) (ay p.vars blocks (m.cells+1)).1)) (ay p.vars blocks (m.cells+1)).2 (max (az 0 val) (max (if D=[]then 0 else 2) (bz blocks)))=M at*;obtain⟨v1,v2,v3,H⟩:=H;clear I O U A7 f3 A2 N;have el:(D3 m.cells D).length=D.length:=by simp[D3]
 rw[el]at H;rw[alM (by simp)];simp at g1 g2 g3;simp at H;simp[f95,dk,g1,g2,g3,H];exact⟨_,_,_,rfl⟩
end
section
variable {p:Pg} {x:Sm} {m M:Mk} (I:m.out.length<99999990)
include I
theorem abg(D:bM x=1)(h:gX p M 0 (.ret (.bh [])) (ak ctx 91 [.ptr 0 0 0,.d (bZ x)] (gW p (m.put (ins 11 0 0 0 0) 0) 0))):
 gX p M 0 (.ret (.bh [])) (ak ctx 55 [.ptr 0 0 0,.d (bZ x)] (gW p m 0)):=by
 obtain⟨J,a2,a3,E⟩:=oK p m 0 (by omega) (by decide);obtain⟨Z,y,A',h⟩:=h;generalize m.put (ins 11 0 0 0 0) 0=N at*;rw[yB (by simp)];simp[dk,D]at h;simp at E;simp[f55,dk,D,E,h];exact⟨_,_,_,rfl⟩
theorem al1(D:bM x=3)(h:gX p M 0 (.ret (.bh [])) (ak ctx 95 [.ptr 0 0 0,.d (bZ x)] (gW p (m.put (ins 11 0 0 0 0) 0) 0))):
 gX p M 0 (.ret (.bh [])) (ak ctx 55 [.ptr 0 0 0,.d (bZ x)] (gW p m 0)):=by
 obtain⟨J,a2,a3,E⟩:=oK p m 0 (by omega) (by decide);obtain⟨Z,y,A',h⟩:=h;generalize m.put (ins 11 0 0 0 0) 0=N at*;rw[yB (by simp)];simp[dk,D]at h;simp at E;simp[f55,dk,D,E,h];exact⟨_,_,_,rfl⟩
theorem al2(D:bM x=4)(h:gX p M 0 (.ret (.bh [])) (ak ctx 96 [.ptr 0 0 0,.d (bZ x)] (gW p (m.put (ins 11 0 0 0 0) 0) 0))):
 gX p M 0 (.ret (.bh [])) (ak ctx 55 [.ptr 0 0 0,.d (bZ x)] (gW p m 0)):=by
 obtain⟨J,a2,a3,E⟩:=oK p m 0 (by omega) (by decide);obtain⟨Z,y,A',h⟩:=h;generalize m.put (ins 11 0 0 0 0) 0=N at*;rw[yB (by simp)];simp[dk,D]at h;simp at E;simp[f55,dk,D,E,h];exact⟨_,_,_,rfl⟩
theorem Xp(D:bM x=5\/bM x=6)(h:gX p M 0 (.ret (.bh [])) (ak ctx 97 [.ptr 0 0 0,.d (bZ x)] (gW p (m.put (ins 11 0 0 0 0) 0) 0))):
 gX p M 0 (.ret (.bh [])) (ak ctx 55 [.ptr 0 0 0,.d (bZ x)] (gW p m 0)):=by
 obtain⟨J,a2,a3,E⟩:=oK p m 0 (by omega) (by decide);obtain⟨Z,y,A',h⟩:=h;generalize m.put (ins 11 0 0 0 0) 0=N at*;rw[yB (by simp)];simp at E;rcases D with D|D
 .simp[dk,D]at h;simp[f55,dk,D,E,h];exact⟨_,_,_,rfl⟩
 .simp[dk,D]at h;simp[f55,dk,D,E,h];exact⟨_,_,_,rfl⟩
theorem al3(D:bM x=9)(h:gX p M 0 (.ret (.bh [])) (ak ctx 99 [.ptr 0 0 0,.d (bZ x)] (gW p (m.put (ins 11 0 0 0 0) 0) 0))):
 gX p M 0 (.ret (.bh [])) (ak ctx 55 [.ptr 0 0 0,.d (bZ x)] (gW p m 0)):=by
 obtain⟨J,a2,a3,E⟩:=oK p m 0 (by omega) (by decide);obtain⟨Z,y,A',h⟩:=h;generalize m.put (ins 11 0 0 0 0) 0=N at*;rw[yB (by simp)];simp[dk,D]at h;simp at E;simp[f55,dk,D,E,h];exact⟨_,_,_,rfl⟩
theorem al4(D:bM x=2)(h:MkJ p M x (ak ctx 92 [.ptr 0 0 0,.d (.list ((aV x).map dr)),.d (.int .i64 (bS x).length),.fn 93 [.ptr 1 0 0,.ptr 2 0 0]] [iY p (m.put (ins 11 0 0 0 0) 0) 0 3 4 5 0 0 0,.box [.ptr 0 0 0],bB x,.vec 5 ((m.put (ins 11 0 0 0 0) 0).out.map aZ),.vv ((m.put (ins 11 0 0 0 0) 0).ex.map gV) none,.vec 1 ((m.put (ins 11 0 0 0 0) 0).lv.map du)])):
 gX p M 0 (.ret (.bh [])) (ak ctx 55 [.ptr 0 0 0,.d (bZ x)] (gW p m 0)):=by
 obtain⟨J,a2,a3,E⟩:=oK p m 0 (by omega) (by decide);obtain⟨Z,y,A',h⟩:=h;generalize m.put (ins 11 0 0 0 0) 0=N at*;rw[yB (by simp)];simp[D]at h;simp at E;simp[f55,dk,D,E,h];exact⟨_,_,_,rfl⟩
end
def al5(p:Pg)(m:Mk)(h H:Int)(x:ax)(I:m.out.length<100000000)(hw:IntKind.i64.wrap (h+H)=h+H):ak ctx 32 [.ptr 0 0 0,.d (aZ x),.d (.int .i64 H)] (gW p m h)=some (.ret (.d (.int .i64 m.out.length)),RZ p (m.put x (h+H)) (h+H) 1 0 0):=by
 have w0:=bu (m.out.length:Int);have A0:m.out.length<=4611686018427387903:=by omega
 have A1:(m.out.length+1)*40<=140737488355328:=by omega
 rw[Ul (by simp)];simp[f32,ai,hw,w0,A0,A1,DX,Mk.put]
def aiz(p:Pg)(m:Mk)(h to:Int)(I:m.out.length<100000000)(hw:IntKind.i64.wrap h=h):ak ctx 98 [.ptr 0 0 0,.d (.int .i64 to)] (gW p m h)=some (.ret (.d (.int .i64 m.out.length)),RZ p (m.put (ins 9 to 0 0 0) h) h 1 0 0):=by
 have O:=al5 p m h 0 (ins 9 to 0 0 0) I (by simpa using hw);rw[show h+0=h by omega]at O;generalize m.put (ins 9 to 0 0 0) h=M at*;rw[Um (by simp)];simp[ins]at O;simp[f98,O]
@[simp] def mkO(p:Pg)(m:Mk)(h:Int)(pre:List (List Int))(row:List Int):List aE:=[.box [.d (.str p.name),.d (.list (p.vars.map bx)),.d (.list (p.body.map bZ)),.vec 1 0 0 m.out.length,.d (.int .i64 m.cells),.d (.int .i64 h),.d (.int .i64 m.most),.vec 2 0 0 (pre.length+1),.vec 3 0 0 m.lv.length],.vec 5 (m.out.map aZ),.vv (pre.map gV) (some (.vec 4 0 0 row.length)),.vec 1 (m.lv.map du),.vec 1 (row.map du)]
@[simp] def mkP(p:Pg)(m:Mk)(h:Int)(pre:List (List Int))(row:List Int):List (Nat×aE):=[(0,.box [.d (.str p.name),.d (.list (p.vars.map bx)),.d (.list (p.body.map bZ)),.vec 1 1 0 m.out.length,.d (.int .i64 m.cells),.d (.int .i64 h),.d (.int .i64 m.most),.vec 2 0 0 (pre.length+1),.vec 3 0 0 m.lv.length]),(1,.vec 5 (m.out.map aZ)),(0,.vv (pre.map gV) (some (.vec 4 0 0 row.length))),(0,.vec 1 (m.lv.map du)),(0,.vec 1 (row.map du))]
def al6(p:Pg)(m:Mk)(h H:Int)(x:ax)(pre:List (List Int))(row:List Int)(I:m.out.length<100000000)(hw:IntKind.i64.wrap (h+H)=h+H):ak ctx 32 [.ptr 0 0 0,.d (aZ x),.d (.int .i64 H)] (mkO p m h pre row)=some (.ret (.d (.int .i64 m.out.length)),mkP p (m.put x (h+H)) (h+H) pre row):=by
 have w0:=bu (m.out.length:Int);have A0:m.out.length<=4611686018427387903:=by omega
 have A1:(m.out.length+1)*40<=140737488355328:=by omega
 rw[Ul (by simp)];simp[f32,ai,hw,w0,A0,A1,DX,Mk.put]
def aiA(p:Pg)(m:Mk)(h to:Int)(pre:List (List Int))(row:List Int)(I:m.out.length<100000000)(hw:IntKind.i64.wrap h=h):ak ctx 98 [.ptr 0 0 0,.d (.int .i64 to)] (mkO p m h pre row)=some (.ret (.d (.int .i64 m.out.length)),mkP p (m.put (ins 9 to 0 0 0) h) h pre row):=by
 have O:=al6 p m h 0 (ins 9 to 0 0 0) pre row I (by simpa using hw);rw[show h+0=h by omega]at O;generalize m.put (ins 9 to 0 0 0) h=M at*;rw[Um (by simp)];simp[ins]at O;simp[f98,O]
def Mk.ext(m:Mk):Mk:={m with out:=m.out++[ins 9 0 0 0 0],most:=max m.most 0,ex:=iZ m.ex [(m.out.length:Int)]}
def Mk.ret(m:Mk):Mk:={m with out:=m.out++[ins 9 0 0 0 0],most:=max m.most 0,lv:=m.lv++[(m.out.length:Int)]}
def al7{p:Pg}{x:Sm}{m:Mk}(I:m.out.length<99999989)(A5:m.lv.length<99999989)(D:bM x=8):gX p (m.put (ins 11 0 0 0 0) 0).ret 0 (.ret (.bh [])) (ak ctx 55 [.ptr 0 0 0,.d (bZ x)] (gW p m 0)):=by
 obtain⟨J,a2,a3,E⟩:=oK p m 0 (by omega) (by decide);have A8:(m.put (ins 11 0 0 0 0) 0).lv.length<99999989:=A5;have A6:(m.put (ins 11 0 0 0 0) 0).out.length<99999990:=by simp[Mk.put];omega
 generalize m.put (ins 11 0 0 0 0) 0=N at*;have U:=aiz p N 0 0 (by omega) (by decide);have e:N.ret={(N.put (ins 9 0 0 0 0) 0)with lv:=N.lv++[(N.out.length:Int)]}:=rfl;have V:(N.put (ins 9 0 0 0 0) 0).lv=N.lv:=rfl;rw[e];generalize N.put (ins 9 0 0 0 0) 0=P at*;have A2:N.lv.length<=4611686018427387903:=by omega
 have A3:(N.lv.length+1)*8<=140737488355328:=by omega
 rw[yB (by simp)];simp[ins]at E U;rw[V]at U;simp[f55,dk,D,E,U,V,A2,A3,JD,LZ,LY,Bq,DC,Et,ou,vC,rC,vB,HP,HQ,HR,HS,gg,vA,yY,Ju,x8,Gb,Q6,Vy,Nn,eT,fK,m7,tJ,bn.app];exact⟨1,(if a2=0 then 0 else 1),1,by simp⟩
def al8{p:Pg}{x:Sm}{m:Mk}{pre:List (List Int)}{row:List Int}(V:m.ex=pre++[row])(I:m.out.length<99999989)(A9:row.length<99999990)(AA:pre.length<99999990)(D:bM x=7):gX p (m.put (ins 11 0 0 0 0) 0).ext 0 (.ret (.bh [])) (ak ctx 55 [.ptr 0 0 0,.d (bZ x)] (gW p m 0)):=by
 obtain⟨J,a2,a3,E⟩:=oK p m 0 (by omega) (by decide);have A4:(m.put (ins 11 0 0 0 0) 0).ex=pre++[row]:=V;have A6:(m.put (ins 11 0 0 0 0) 0).out.length<99999990:=by simp[Mk.put];omega
 generalize m.put (ins 11 0 0 0 0) 0=N at*;have U:=aiA p N 0 0 pre row (by omega) (by decide);have e:N.ext={(N.put (ins 9 0 0 0 0) 0)with ex:=pre++[row++[(N.out.length:Int)]]}:=by
  unfold Mk.ext;rw[A4,ky];rfl
 have A7:(N.put (ins 9 0 0 0 0) 0).ex=pre++[row]:=A4;rw[e];generalize N.put (ins 9 0 0 0 0) 0=P at*;have A2:row.length<=4611686018427387903:=by omega
 have A3:(row.length+1)*8<=140737488355328:=by omega
 have A0:IntKind.i64.wrap ((pre.length:Int)+1-1)=pre.length:=by rw[show (pre.length:Int)+1-1=pre.length by omega];exact (bu _)
 have A1:=bu (pre.length:Int);rw[yB (by simp)];simp[ins,A4,A7,V]at E U;simp[f55,dk,D,V,E,U,A2,A3,A0,A1,JD,LZ,LY,Bq,DC,Et,ou,vC,rC,vB,HP,HQ,HR,HS,gg,vA,yY,Ju,x8,Gb,Q6,Vy,Nn,eT,fK,m7,tJ,bn.app];exact⟨1,(if a2=0 then 0 else 1),(if a3=0 then 0 else 1),by simp⟩
def Xq(p:Pg)(lp:Bool)(x:Sm):Prop:=∀(m:Mk),0<=m.most->0<=m.cells->jK m->(lp=true->m.ex≠[])->m.out.length+(lS p.vars x m.cells).length<99999990->(b6 p.vars x m.cells).2<99999990->m.ex.length+AA x<99999990->
 gX p (m.aW (lS p.vars x m.cells) (b6 p.vars x m.cells).2 (dN x)) 0 (.ret (.bh [])) (ak ctx 55 [.ptr 0 0 0,.d (bZ x)] (gW p m 0))
def JW(vs:List Vr):∀(l:List Sm)(c:Int),l.length<=(ah vs l c).1.length
 |[],c=>by simp
 |x::r,c=>by
  have:=JW vs r (b6 vs x c).2;unfold ah;simp only[cv,aao,aay];omega
def I6{p:Pg}{lp:Bool}(l:List Sm)(A0:l.length<99999999)(k:Kt)(Q:Mk->bU->Prop)
 (H:∀(Y:Env) M v1 v2 v3 v6 X6,Q M (k (.exit 0) ⟨16,aC,(0,true,.ptr 0 0 0)::Y,mqM p M 0 v1 v2 v3++[⟨350,v6,X6⟩]⟩)):
 ∀(D pre:List Sm)(m:Mk)(v1 v2 v3 v6:Nat)(X6:aE),l=pre++D->(∀x∈D,Xq p lp x)->0<=m.most->0<=m.cells->jK m->(lp=true->m.ex≠[])->m.out.length+(ah p.vars D m.cells).1.length<99999990->(ah p.vars D m.cells).2<99999990->m.ex.length+jL D<99999990->
 Q (m.aW (ah p.vars D m.cells).1 (ah p.vars D m.cells).2 (aM D)) (aK ctx 29 (.loop (Code.at (aU f29) [1,0,0])) ⟨16,aC,[(0,true,.ptr 0 0 0),(6,true,.d (.list (l.map bZ))),(7,true,.d (.int .i64 l.length)),(8,true,.d (.int .i64 pre.length))],mqM p m 0 v1 v2 v3++[⟨350,v6,X6⟩]⟩ k)
 |[],pre,m,v1,v2,v3,v6,X6,I,E,hm,V,J,hex,O,U,Z=>by
  have e:m.aW (ah p.vars [] m.cells).1 (ah p.vars [] m.cells).2 (aM [])=m:=ZC m hm;rw[e];have A3:pre.length=l.length:=by rw[I];simp
  have:=H [(6,true,.d (.list (l.map bZ))),(7,true,.d (.int .i64 l.length)),(8,true,.d (.int .i64 l.length)),(9,true,.d (.bool false))] m v1 v2 v3 v6 X6;simp at this;rw[A3,ag];simp[f29,this]
 |x::r,pre,m,v1,v2,v3,v6,X6,I,E,hm,V,J,hex,O,U,Z=>by
  have A4:ah p.vars (x::r) m.cells=(jn (lS p.vars x m.cells) (ah p.vars r (b6 p.vars x m.cells).2).1,(ah p.vars r (b6 p.vars x m.cells).2).2):=rfl;have A5:jL (x::r)=max (AA x) (jL r):=by simp[jL]
  have A6:aM (x::r)=max (dN x) (aM r):=by simp[aM]
  have AF:=uC (vs:=p.vars) x m.cells;have AG:=fm (vs:=p.vars) r (b6 p.vars x m.cells).2;rw[A4]at O U⊢;rw[A5]at Z;rw[A6];simp only[cv]at O;simp only at U;obtain⟨AH,a2,a3,A1⟩:=E x (by simp) m hm V J hex (by omega) (by omega) (by omega);have A7:(m.aW (lS p.vars x m.cells) (b6 p.vars x m.cells).2 (dN x)).out.length=m.out.length+(lS p.vars x m.cells).length:=by
   show (m.out++di _ _).length=_;rw[aal,oZ]
  have A':(m.aW (lS p.vars x m.cells) (b6 p.vars x m.cells).2 (dN x)).ex.length=m.ex.length:=by
   show (iZ _ _).length=_;rw[Xh]
  have ih:=λv1 v2 v3 v6 X6=>I6 l A0 k Q H r (pre++[x]) (m.aW (lS p.vars x m.cells) (b6 p.vars x m.cells).2 (dN x)) v1 v2 v3 v6 X6 (by simp[I]) (λy A8=>E y (by simp[A8])) (by show 0<=max m.most _;omega) (by show 0<=(b6 p.vars x m.cells).2;omega) (J.aW _ _ _)
   (λh=>by
    have:=hex h;intro A9;rw[A9]at A';exact this (aaB A'.symm))
   (by rw[A7];show _+(ah p.vars r (b6 p.vars x m.cells).2).1.length<_;omega) (by show (ah p.vars r (b6 p.vars x m.cells).2).2<_;omega) (by rw[A'];omega)
  rw[show (m.aW (lS p.vars x m.cells) (b6 p.vars x m.cells).2 (dN x)).cells=(b6 p.vars x m.cells).2 from rfl,EO]at ih;clear H E;generalize m.aW (lS p.vars x m.cells) (b6 p.vars x m.cells).2 (dN x)=M at*;have AB:pre.length<l.length:=by rw[I];simp
  have AC:l[pre.length]=x:=by simp[I]
  have AD:=bu ((pre.length:Int)+1);rw[ag];simp[dk]at A1;simp[f29]at ih⊢;simp[AB,AC,dk,A1,ai,AD,ih]
def GM{p:Pg}{lp:Bool}(l:List Sm)(E:∀x∈l,Xq p lp x):xz p lp l:=by
 intro m hm V J hex O U Z;have A0:=JW p.vars l m.cells;have A2:=λ(k:Kt) (Q:Mk->bU->Prop) H v6 X6=>I6 l (by omega) k Q H l [] m 0 0 0 v6 X6 rfl E hm V J hex O U Z;rw[alk (by simp)];generalize m.aW (ah p.vars l m.cells).1 (ah p.vars l m.cells).2 (aM l)=N at*;simp[f29]at A2⊢;refine A2 _ (λX r=>X=N->gX p N 0 (.ret (.bh [])) r) (λY X v1 v2 v3 v6 X6 AE=>?_) _ _ rfl;subst AE;simp[f29];exact⟨_,_,_,rfl⟩
def R9{vs:List Vr}{name:Tx}:∀(fs:List Tx)(xs:List Ex),xs.length=fs.length->fs.length<=(cV vs name fs xs).length
 |[],xs,_=>by simp
 |_::_,[],h=>by simp at h
 |f::fs,x::xs,h=>by
  have:=R9 (vs:=vs) (name:=name) fs xs (by simpa using h);simp only[cV,aal,aao];omega
def I7:∀(ts bs:List (List ax)),(∀t∈ts,1<=t.length)->bs.length<=ts.length+1->2*bs.length<=(ck ts bs).length+2
 |_,[],_,_=>by simp
 |[],b::r,_,h=>by
  have AW:r=[]:=aaB (by simpa using h);subst AW;simp
 |t::ts,b::r,J,h=>by
  have ih:=I7 ts r (λy Ac=>J y (by simp[Ac])) (by simpa using h);have A3:=J t (by simp);unfold ck;simp only[cv,aal,aao,aay,nI];omega
def AE(vs:List Vr):∀(l:List (List Sm))(c:Int),(ay vs l c).1.length=l.length
 |[],c=>by simp[ay]
 |b::r,c=>by simp[ay,AE vs r]
def Xr{m:Mk}(h:0<=m.most)(l:List ax)(c t:Int):(m.put (ins 11 0 0 0 0) 0).aW l c t=m.aW (jn [ins 11 0 0 0 0] l) c t:=by
 rw[ZD,<-qU (Flat.one (by simp[ins])),EO];exact oM (by omega)
section
variable {p:Pg} (V:p.vars.length<=1000) (Z:∀v∈p.vars,cJ v=true)
include V Z
theorem al9{lp:Bool}{x:Sm}(H:jr x=true)(h:(kr p.vars lp x).1=0)(A8:∀(lp:Bool) (cs:List Ex),cA (aV x)=true->(eO p.vars lp cs (aV x)).1=0->∀b∈aV x,xz p lp b):Xq p lp x:=by
 intro m hm A9 AS hex D I AB;rw[Gy]at D;have Ad:lS p.vars x m.cells=jn [ins 11 0 0 0 0] (b6 p.vars x m.cells).1:=rfl;rw[Ad,<-Xr hm];have AC:(m.put (ins 11 0 0 0 0) 0).out.length=m.out.length+1:=by simp[Mk.put]
 have AD:(m.put (ins 11 0 0 0 0) 0).cells=m.cells:=rfl;have AF:(m.put (ins 11 0 0 0 0) 0).ex=m.ex:=rfl;have A4:0<=(m.put (ins 11 0 0 0 0) 0).most:=by simp[Mk.put];omega
 have AG:jK (m.put (ins 11 0 0 0 0) 0):=AS.put _ _;cases EJ H h with
 |@WD to val line v M AH Ae ft E A0 AT J=>
  have Af:=Ao ft E;have AX:=n8 val A0 AT;cases Af with
  |num h=>simp[bO]at M
  |sk h=>simp[bO]at M
  |Rx _ _ _ _=>simp[bO]at M
  |one o _ _ _=>simp[bO]at M;omega
  |two o _ _ _ _ _ _=>simp[bO]at M;omega
  |@var name AI AU AO AY Ag=>
   refine abg (by omega) rfl ?_;have e:b6 p.vars (.mk 1 [] (.mk 3 0 name [] [] AI) val [] [] [] [] line) m.cells=((aj p.vars val).1++[ins 6 (bA p.vars name).1 0 0 0],m.cells):=by simp[b6,bO,dI]
   have E:dN (.mk 1 [] (.mk 3 0 name [] [] AI) val [] [] [] [] line)=az 0 val:=by simp[dN,bO]
   rw[e]at D⊢;rw[E];simp only[aal,aao,aay]at D;show gX p ((m.put (ins 11 0 0 0 0) 0).aW _ (m.put (ins 11 0 0 0 0) 0).cells _) 0 _ _;rw[qU (Flat.app AX (Flat.one (by simp[ins])))];exact Xj V Z AO A0 AT _ A4 (by omega)
  |@idx name AI AU y AO AY Ag AP AZ ty=>
   refine abg (by omega) rfl ?_;have Ah:=n8 y AP AZ;have e:b6 p.vars (.mk 1 [] (.mk 4 0 name [] [y] AI) val [] [] [] [] line) m.cells=((aj p.vars y).1++((aj p.vars val).1++[ins 7 (bA p.vars name).1 0 AU.lo AU.hi]),m.cells):=by simp[b6,bO,dI,da,pE,iX AO]
   have E:dN (.mk 1 [] (.mk 4 0 name [] [y] AI) val [] [] [] [] line)=max (fE 0 [y]) (az 1 val):=by simp[dN,bO,da]
   have Ai:fE 0 [y]=max (az 0 y) 0:=by simp[fE]
   rw[e]at D⊢;rw[E,Ai];simp only[aal,aao,aay]at D;show gX p ((m.put (ins 11 0 0 0 0) 0).aW _ (m.put (ins 11 0 0 0 0) 0).cells _) 0 _ _;rw[qU (Flat.app Ah (Flat.app AX (Flat.one (by simp[ins])))),show max (max (az 0 y) 0) (az 1 val)=max (az 0 y) (az 1 val) by have:=nK 0 y;omega];exact Xk V Z AO AP AZ A0 AT _ A4 (by omega)
 |@Oo to val conds blocks line M AQ AR A3 N A5 A1 hh=>
  have A6:∀c∈conds,bE c=true/\(aJ p.vars c).e=0:=λc A'=>⟨(gT _).1 AR c A',(eZ (qQ N hh c A')).1⟩;have A2:=A8 lp conds A1 hh;have e:b6 p.vars (.mk 2 [] to val conds [] [] blocks line) m.cells=(ck (dQ (Cj p.vars conds)) (ay p.vars blocks m.cells).1,(ay p.vars blocks m.cells).2):=by simp[b6,JV]
  have E:dN (.mk 2 [] to val conds [] [] blocks line)=max (dY (Cj p.vars conds)) (bz blocks):=by simp[dN,Pp]
  rw[e]at D I⊢;rw[E];simp only at D I;have A_:(Cj p.vars conds).length=conds.length:=by simp[Cj]
  have AJ:=I7 (dQ (Cj p.vars conds)) (ay p.vars blocks m.cells).1 (λt J=>by
   rw[JV]at J;obtain⟨c,_,rfl⟩:=aaD.1 J;have:=j7 p.vars c;omega) (by rw[AE];simpa [dQ,A_]using A5)
  rw[AE]at AJ;refine al4 (by omega) rfl ?_;have:=Ux (p:=p) (lp:=lp) (s:=.mk 2 [] to val conds [] [] blocks line) (blocks:=blocks) (ts:=Cj p.vars conds) (by omega) (by omega) (by omega)
   (λt J=>by
    rw[JV]at J;obtain⟨c,A',rfl⟩:=aaD.1 J;exact n8 c (A6 c A').1 (A6 c A').2)
   (λi t hi m hm AK=>by
    simp only[Cj,aaV,aap]at hi;obtain⟨c,Aa,rfl⟩:=hi;have A':=aaz Aa;exact adb V Z (.mk 2 [] to val conds [] [] blocks line) i c Aa (A6 c A').1 (A6 c A').2 m hm (by simp only at AK;omega))
   A2 (λb _ c _=>fm b c) (m.put (ins 11 0 0 0 0) 0) A4 A9 AG hex (by rw[AD,AC];omega) I (λb O=>by
    have:=GJ O;rw[AF];simp only[AA]at AB;omega)
  rw[A_]at this;exact this
 |@WE to val A7 blocks line M A0 AL N A5 Aj A1 hh=>
  have A2:=A8 lp [] A1 hh;have e:b6 p.vars (.mk 3 [] to val [] A7 [] blocks line) m.cells=(jn ((aj p.vars val).1++[ins 6 m.cells 0 0 0]) (ck (A7.map λl=>ins 1 0 0 0 0::cK m.cells l) (ay p.vars blocks (m.cells+1)).1),(ay p.vars blocks (m.cells+1)).2):=by simp[b6]
  have E:dN (.mk 3 [] to val [] A7 [] blocks line)=max (az 0 val) (max (if A7=[]then 0 else 2) (bz blocks)):=by simp[dN]
  rw[e]at D I⊢;rw[E];simp only[cv,aal,aao,aay]at D I;have AJ:=I7 (A7.map λl=>ins 1 0 0 0 0::cK m.cells l) (ay p.vars blocks (m.cells+1)).1 (λt J=>by
   obtain⟨l,_,rfl⟩:=aaD.1 J;simp) (by rw[AE];simpa using A5)
  rw[AE]at AJ;exact al1 (by omega) rfl (ZJ V Z A0 (eZ AL).1 Aj N A5 (by omega) A2 (λb _ c _=>fm b c) (m.put (ins 11 0 0 0 0) 0) A4 A9 AG hex (by rw[AD,AC];omega) I (λb O=>by
   have:=GJ O;rw[AF];simp only[AA]at AB;omega))
 |@WG name to val x y z b line v AJ M AQ AH Ae AY J Ak Al AP An Ap Aq A1 hh=>
  have A2:=A8 true [] (by simpa [aV,cA]using A1) (by simp[aV,eO,fu,hh]) b (by simp[aV]);have e:b6 p.vars (.mk 4 name to val [x,y,z] [] [] [b] line) m.cells=(jn (((aj p.vars x).1++((aj p.vars y).1++(aj p.vars z).1))++[ins 6 (m.cells+1) 0 0 0,ins 6 m.cells 0 0 0,ins 6 (bA p.vars name).1 0 0 0]) (jI (bA p.vars name).1 m.cells (ah p.vars b (m.cells+2)).1),(ah p.vars b (m.cells+2)).2):=by simp[b6,gd,lR]
  have E:dN (.mk 4 name to val [x,y,z] [] [] [b] line)=max (max (fE 0 [x,y,z]) 3) (max (aM b) 0):=by simp[dN,bz]
  have AM:AA (.mk 4 name to val [x,y,z] [] [] [b] line)=max (jL b) 0+1:=by simp[AA,zz]
  rw[e]at D I⊢;rw[E,oM (u:=max (max (fE 0 [x,y,z]) 3) (aM b)) (by omega)];rw[AM]at AB;simp only[cv,aal,aao,aay]at D I;exact al2 (by omega) rfl (UA V Z AH Ak (eZ Al).1 AP (eZ An).1 Ap (eZ Aq).1 A2 (λc _=>fm b c) (m.put (ins 11 0 0 0 0) 0) A4 A9 AG (by simp only[aal];rw[AD,AC];omega) I (by rw[AF];omega))
 |@WH to val b line M A0 AL A1 hh=>
  have A2:=A8 true [] (by simpa [aV,cA]using A1) (by simp[aV,eO,fu,hh]) b (by simp[aV]);have e:b6 p.vars (.mk 5 [] to val [] [] [] [b] line) m.cells=(ig (aj p.vars val).1 (ah p.vars b m.cells).1,(ah p.vars b m.cells).2):=by simp[b6,lR]
  have E:dN (.mk 5 [] to val [] [] [] [b] line)=max (az 0 val) (max (aM b) 0):=by simp[dN,bz]
  have AM:AA (.mk 5 [] to val [] [] [] [b] line)=max (jL b) 0+1:=by simp[AA,zz]
  rw[e]at D I⊢;rw[E,oM (u:=max (az 0 val) (aM b)) (by omega)];rw[AM]at AB;simp only at D I;exact Xp (by omega) (.inl rfl) (ZH V Z A0 (eZ AL).1 A2 (m.put (ins 11 0 0 0 0) 0) A4 A9 AG (by rw[AD,AC];omega) I (by rw[AF];omega))
 |@rep to val b line M A0 AL A1 hh=>
  have A2:=A8 true [] (by simpa [aV,cA]using A1) (by simp[aV,eO,fu,hh]) b (by simp[aV]);have e:b6 p.vars (.mk 6 [] to val [] [] [] [b] line) m.cells=(lP (aj p.vars val).1 (ah p.vars b m.cells).1,(ah p.vars b m.cells).2):=by simp[b6,lR]
  have E:dN (.mk 6 [] to val [] [] [] [b] line)=max (az 0 val) (max (aM b) 0):=by simp[dN,bz]
  have AM:AA (.mk 6 [] to val [] [] [] [b] line)=max (jL b) 0+1:=by simp[AA,zz]
  rw[e]at D I⊢;rw[E,oM (u:=max (az 0 val) (aM b)) (by omega)];rw[AM]at AB;simp only at D I;exact Xp (by omega) (.inr rfl) (Xo V Z A0 (eZ AL).1 A2 (m.put (ins 11 0 0 0 0) 0) A4 A9 AG (by rw[AD,AC];omega) I (by rw[AF];omega))
 |@ext to val line M AQ Ar=>
  have e:b6 p.vars (.mk 7 [] to val [] [] [] [] line) m.cells=([ins 9 (-1) 0 0 0],m.cells):=by simp[b6]
  have E:dN (.mk 7 [] to val [] [] [] [] line)=0:=by simp[dN]
  rw[e]at D⊢;rw[E];simp only[aao,aay]at D;rcases aiu m.ex with U|⟨pre,row,U⟩
  .exact absurd U (hex Ar)
  .rw[ajt]at U;have AW:=AS.2 row (by rw[U];simp);have At:m.ex.length=pre.length+1:=by rw[U];simp
   have:=al8 (p:=p) (x:=.mk 7 [] to val [] [] [] [] line) U (by omega) (by omega) (by omega) rfl;have AV:(m.put (ins 11 0 0 0 0) 0).ext=(m.put (ins 11 0 0 0 0) 0).aW [ins 9 (-1) 0 0 0] m.cells 0:=by
    simp[Mk.ext,Mk.aW,di,lY,db,ins,Mk.put]
   rw[AV]at this;exact this
 |@ret to val line M AQ=>
  have e:b6 p.vars (.mk 8 [] to val [] [] [] [] line) m.cells=([ins 9 (-2) 0 0 0],m.cells):=by simp[b6]
  have E:dN (.mk 8 [] to val [] [] [] [] line)=0:=by simp[dN]
  rw[e]at D⊢;rw[E];simp only[aao,aay]at D;have:=al7 (p:=p) (x:=.mk 8 [] to val [] [] [] [] line) (m:=m) (by omega) (by have:=AS.1;omega) rfl;have AV:(m.put (ins 11 0 0 0 0) 0).ret=(m.put (ins 11 0 0 0 0) 0).aW [ins 9 (-2) 0 0 0] m.cells 0:=by
   simp[Mk.ret,Mk.aW,di,lY,db,ins,Mk.put,oL]
  rw[AV]at this;exact this
 |@WI name to val conds fields line v AJ M AQ AH J AR AK Au hh=>
  have Ab:=As fields conds [] AK hh;have A6:∀c∈conds,bE c=true/\(aJ p.vars c).e=0:=λc A'=>⟨(gT _).1 AR c A',Ab c A'⟩;have Av:=R9 (vs:=p.vars) (name:=name) fields conds AK;have e:b6 p.vars (.mk 9 name to val conds [] fields [] line) m.cells=(cV p.vars name fields conds++[ins 12 (bA p.vars name).1 v.ty 0 0],m.cells):=by simp[b6,iX AH]
  have E:dN (.mk 9 name to val conds [] fields [] line)=eL conds:=by simp[dN]
  rw[e]at D⊢;rw[E];simp only[aal,aao,aay]at D;refine al3 (by omega) rfl ?_;show gX p ((m.put (ins 11 0 0 0 0) 0).aW _ (m.put (ins 11 0 0 0 0) 0).cells _) 0 _ _;rw[qU (Flat.app (OF fields conds AR Ab) (Flat.one (by simp[ins])))];exact ada V Z AH AK (by omega) A6 _ A4 (by omega)
mutual
theorem aiC:∀(x:Sm)(lp:Bool),jr x=true->(kr p.vars lp x).1=0->Xq p lp x
 | .mk op name to val conds A7 fields blocks line,lp,H,h=>al9 V Z H h (λlp cs A3 N=>GN blocks lp cs A3 N)
theorem BR:∀(l:List Sm)(lp:Bool),eF l=true->(eK p.vars lp l).1=0->∀x∈l,Xq p lp x
 |[],_,_,_,x,U=>absurd U (aaH)
 |y::r,lp,H,h,x,U=>by
  simp only[eF,Ds]at H;simp only[eK]at h;obtain⟨A3,N⟩:=b9.1 h;rcases aam.1 U with AN|U
  .rw[AN];exact aiC y lp H.1 A3
  .exact BR r lp H.2 N x U
theorem GN:∀(l:List (List Sm))(lp:Bool)(cs:List Ex),cA l=true->(eO p.vars lp cs l).1=0->∀b∈l,xz p lp b
 |[],_,_,_,_,b,O=>absurd O (aaH)
 |y::r,lp,[],H,h,b,O=>by
  simp only[cA,Ds]at H;simp only[eO]at h;obtain⟨A3,N⟩:=b9.1 h;rcases aam.1 O with AN|O
  .rw[AN];exact GM y (BR y lp H.1 A3)
  .exact GN r lp [] H.2 N b O
 |y::r,lp,c::cs,H,h,b,O=>by
  simp only[cA,Ds]at H;simp only[eO]at h;obtain⟨A3,N⟩:=b9.1 h;obtain⟨N,A5⟩:=b9.1 N;rcases aam.1 O with AN|O
  .rw[AN];exact GM y (BR y lp H.1 N)
  .exact GN r lp cs H.2 A5 b O
end
theorem ado{l:List Sm}{lp:Bool}(H:eF l=true)(h:(eK p.vars lp l).1=0):xz p lp l:=GM l (BR V Z l lp H h)
end
end Go.Am
end
