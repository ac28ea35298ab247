/-
  Texts of one proof, one behind the other.
-/
import Derived.Test.YtdjlcobfpppbbaaGreatDoorT6
import Derived.Test.YtdjlcobfpppbbaaGreatDoorProg
import Derived.Shelf.Lays
import Derived.KernelRfl
import Derived.Shelf.Strings.Search3
import Derived.Shelf.Strings.Prefix
import Derived.LaidLaws
import Derived.JoinedCond
set_option linter.all false
section
namespace Go.Am
open Go Go.Proofs Go.Proofs.Tryz
variable [Inhabited b9]
set_option maxRecDepth 20000
theorem akI(m:Mk)(t b:List ak)(c u:Int):(m.fS.HD t b c u).ex=m.ex++[df (-1) (m.out.length+t.length+2) b]:=by
 show iZ (m.ex++[[]]) _=_;rw[kA];rfl
theorem afq{m:Mk}{t b:List ak}{c u:Int}(E:Flat t):(m.fS.HD t b c u).uR m.ex (df (-1) (m.out.length+t.length+2) b)=m.aU (iy t b) c u:=by
 unfold Mk.uR Mk.HD Mk.aU Mk.fS;simp only[Mk.mk.injEq,akC];have T:((m.out++(ins 11 0 0 0 0::t++(ins 10 (m.out.length+t.length+3+b.length) 0 0 0::dj (m.out.length+t.length+2) b++[ins 9 m.out.length 0 0 0]))).length:Int)=m.out.length+t.length+3+b.length:=by simp;omega
 rw[T];refine⟨UQ E rfl rfl,?_,?_⟩
 ·have:df (-1) m.out.length (iy t b)=[]:=NT _ _;rw[this,oS]
 ·rw[YA (by decide) (by decide) E]
theorem akJ(m:Mk)(t b:List ak)(c u:Int):(m.fS.HE t b c u).ex=m.ex++[df (-1) m.out.length b]:=by
 show iZ (m.ex++[[]]) _=_;rw[kA];rfl
theorem afr{m:Mk}{t b:List ak}{c u:Int}(E:Flat t):(m.fS.HE t b c u).uR m.ex (df (-1) m.out.length b)=m.aU (mO t b) c u:=by
 unfold Mk.uR Mk.HE Mk.aU Mk.fS;simp only[Mk.mk.injEq,akC];have T:((m.out++(dj m.out.length b++(ins 11 0 0 0 0::t++[ins 10 m.out.length 0 0 0]))).length:Int)=m.out.length+b.length+t.length+2:=by simp;omega
 rw[T];refine⟨abJ E rfl rfl,?_,?_⟩
 ·have:df (-1) m.out.length (mO t b)=[]:=NT _ _;rw[this,oS]
 ·rw[ae9 (by decide) (by decide) E]
theorem UX(t b:List ak):(iy t b).length=t.length+3+b.length:=by simp[iy];omega
theorem abU(t b:List ak):(mO t b).length=t.length+2+b.length:=by simp[mO];omega
section
variable {p:Pg} (U:p.vars.length<=1000) (V:∀v∈p.vars,dQ v=true)
include U V
theorem abV{to val:Ex}{b:List Sm}{line:Int}(H:bC val=true)(I:(aK p.vars val).e=0)(Y:wJ p true b)(m:Mk)(hm:0<=m.most)(Z:0<=m.cells)(y:jR m)
 (A':m.out.length+(iy (au p.vars val).1 (ah p.vars b m.cells).1).length<99999990) (A0:(ah p.vars b m.cells).2<99999990) (A1:m.ex.length+1+jS b<99999990):
 gX p (m.aU (iy (au p.vars val).1 (ah p.vars b m.cells).1) (ah p.vars b m.cells).2 (max (aR 0 val) (bu b))) 0 (.ret (.bh [])) (ai ctx 140 [.ptr 0 0 0,.d (dc (.mk 5 [] to val [] [] [] [b] line))] (gW p m 0)):=by
 rw[UX]at A';have A2:m.fS.ex.length=m.ex.length+1:=by simp[Mk.fS]
 have J:=akD U V (to:=to) (line:=line) H I Y m.fS hm Z y.fS (by simp[Mk.fS]) (by show m.out.length+_+(ah p.vars b m.cells).1.length+3<_;omega) A0 (by rw[A2];exact A1);rw[show m.fS.cells=m.cells from rfl]at J;have A3:=sN (-1) (ah p.vars b m.cells).1 (m.out.length+(au p.vars val).1.length+2);have O:(m.fS.HD (au p.vars val).1 (ah p.vars b m.cells).1 (ah p.vars b m.cells).2 (max (aR 0 val) (bu b))).out.length=m.out.length+(au p.vars val).1.length+3+(ah p.vars b m.cells).1.length:=by
  simp[Mk.HD,Mk.fS];omega
 obtain⟨v1,v2,v3,D⟩:=N8 (m:=m) (akI m _ _ _ _) J (by omega) (by rw[O];omega) (λi hi=>by
  obtain⟨j,e,A4⟩:=CZ _ _ _ i hi;exact⟨j,e,by rw[O];omega⟩) (by omega)
 rw[afq (n9 val H I)]at D;generalize m.aU (iy (au p.vars val).1 (ah p.vars b m.cells).1) (ah p.vars b m.cells).2 (max (aR 0 val) (bu b))=M at*;rw[XJ (by simp)];simp at D;simp[f140,fR,D];exact⟨_,_,_,rfl⟩
theorem YP{to val:Ex}{b:List Sm}{line:Int}(H:bC val=true)(I:(aK p.vars val).e=0)(Y:wJ p true b)(m:Mk)(hm:0<=m.most)(Z:0<=m.cells)(y:jR m)
 (A':m.out.length+(mO (au p.vars val).1 (ah p.vars b m.cells).1).length<99999990) (A0:(ah p.vars b m.cells).2<99999990) (A1:m.ex.length+1+jS b<99999990):
 gX p (m.aU (mO (au p.vars val).1 (ah p.vars b m.cells).1) (ah p.vars b m.cells).2 (max (aR 0 val) (bu b))) 0 (.ret (.bh [])) (ai ctx 140 [.ptr 0 0 0,.d (dc (.mk 6 [] to val [] [] [] [b] line))] (gW p m 0)):=by
 rw[abU]at A';have A2:m.fS.ex.length=m.ex.length+1:=by simp[Mk.fS]
 have J:=akE U V (to:=to) (line:=line) H I Y m.fS hm Z y.fS (by simp[Mk.fS]) (by show m.out.length+_+(ah p.vars b m.cells).1.length+2<_;omega) A0 (by rw[A2];exact A1);rw[show m.fS.cells=m.cells from rfl]at J;have A3:=sN (-1) (ah p.vars b m.cells).1 m.out.length;have O:(m.fS.HE (au p.vars val).1 (ah p.vars b m.cells).1 (ah p.vars b m.cells).2 (max (aR 0 val) (bu b))).out.length=m.out.length+(au p.vars val).1.length+2+(ah p.vars b m.cells).1.length:=by
  simp[Mk.HE,Mk.fS];omega
 obtain⟨v1,v2,v3,D⟩:=N8 (m:=m) (akJ m _ _ _ _) J (by omega) (by rw[O];omega) (λi hi=>by
  obtain⟨j,e,A4⟩:=CZ _ _ _ i hi;exact⟨j,e,by rw[O];omega⟩) (by omega)
 rw[afr (n9 val H I)]at D;generalize m.aU (mO (au p.vars val).1 (ah p.vars b m.cells).1) (ah p.vars b m.cells).2 (max (aR 0 val) (bu b))=M at*;rw[XJ (by simp)];simp at D;simp[f140,fR,D];exact⟨_,_,_,rfl⟩
end
theorem akK(m:Mk)(a cell:Int)(b:List ak)(c u:Int):(m.fS.HF a cell b c u).ex=m.ex++[df (-1) (m.out.length+3) b]:=by
 show iZ (m.ex++[[]]) _=_;rw[kA];rfl
theorem afs{m:Mk}{a cell:Int}{b:List ak}{c u:Int}:(m.fS.HF a cell b c u).uR m.ex (df (-1) (m.out.length+3) b)=m.aU (lj a cell b) c u:=by
 unfold Mk.uR Mk.HF Mk.aU Mk.fS;simp only[Mk.mk.injEq,akC];have AO:((m.out++(ins 11 0 0 0 0::ins 13 a cell 0 0::ins 10 (m.out.length+b.length+8) 0 0 0::dj (m.out.length+3) b++[ins 2 a 0 0 0,ins 2 (cell+1) 0 0 0,ins 8 0 8 0 0,ins 6 a 0 0 0,ins 9 m.out.length 0 0 0])).length:Int)=m.out.length+b.length+8:=by simp;omega
 rw[AO];refine⟨abK rfl rfl,?_,?_⟩
 ·have:df (-1) m.out.length (lj a cell b)=[]:=NT _ _;rw[this,oS]
 ·rw[afa (by decide) (by decide)]
theorem abW(a c:Int)(b:List ak):(lj a c b).length=b.length+8:=by simp[lj]
section
variable {p:Pg} (E:p.vars.length<=1000) (H:∀v∈p.vars,dQ v=true)
include E H
theorem UY{name:Tx}{to val x y z:Ex}{b:List Sm}{line:Int}{v:Vr}(A5:bq p.vars name=some v)(A6:bC x=true)(ex:(aK p.vars x).e=0)(A7:bC y=true)(A8:(aK p.vars y).e=0)(A9:bC z=true)(AA:(aK p.vars z).e=0)(AP:wJ p true b)(AQ:∀c,0<=c->c<=(ah p.vars b c).2)(m:Mk)(hm:0<=m.most)(A_:0<=m.cells)(AR:jR m)
 (AB:m.out.length+((au p.vars x).1++((au p.vars y).1++(au p.vars z).1)).length+3+(lj (cm p.vars name).1 m.cells (ah p.vars b (m.cells+2)).1).length<99999990) (AS:(ah p.vars b (m.cells+2)).2<99999990) (AT:m.ex.length+1+jS b<99999990):
 gX p (m.aU (jn (((au p.vars x).1++((au p.vars y).1++(au p.vars z).1))++[ins 6 (m.cells+1) 0 0 0,ins 6 m.cells 0 0 0,ins 6 (cm p.vars name).1 0 0 0]) (lj (cm p.vars name).1 m.cells (ah p.vars b (m.cells+2)).1)) (ah p.vars b (m.cells+2)).2 (max (max (gQ 0 [x,y,z]) 3) (bu b))) 0 (.ret (.bh [])) (ai ctx 139 [.ptr 0 0 0,.d (dc (.mk 4 name to val [x,y,z] [] [] [b] line))] (gW p m 0)):=by
 rw[abW]at AB;simp only[acm]at AB;have Aa:=AQ (m.cells+2) (by omega);have AC:=sM p E H name;rw[A5,iV A5]at AC;obtain⟨Ab,a2,a3,g1⟩:=YE p m 0 2 (aA (by unfold aY;omega));have f1:({m with cells:=m.cells+2}:Mk).out=m.out:=rfl;generalize J:({m with cells:=m.cells+2}:Mk)=I at g1 f1;have AU:0<=I.most:=by subst J;exact hm
 obtain⟨Ac,Ad,Ae,g2⟩:=nz E H x A6 ex I 0 (by omega) (by omega) AU (by rw[f1];omega);have AD:(I.aE (au p.vars x).1 (aR 0 x)).out.length=m.out.length+(au p.vars x).1.length:=by simp[Mk.aE,f1]
 have AE:0<=(I.aE (au p.vars x).1 (aR 0 x)).most:=by simp[Mk.aE];omega
 generalize T:I.aE (au p.vars x).1 (aR 0 x)=M2 at g2 AD AE;have Af:=ma p.vars x;have Ag:=ma p.vars y;have Ah:=ma p.vars z;obtain⟨Ai,Aj,Ak,g3⟩:=nz E H y A7 A8 M2 (0+1) (by omega) (by omega) AE (by omega);have AF:(M2.aE (au p.vars y).1 (aR (0+1) y)).out.length=m.out.length+(au p.vars x).1.length+(au p.vars y).1.length:=by simp[Mk.aE,AD]
 have AG:0<=(M2.aE (au p.vars y).1 (aR (0+1) y)).most:=by simp[Mk.aE];omega
 generalize U:M2.aE (au p.vars y).1 (aR (0+1) y)=V at g3 AF AG;obtain⟨d1,d2,d3,g4⟩:=nz E H z A9 AA V (0+1+1) (by omega) (by omega) AG (by omega);have AH:(V.aE (au p.vars z).1 (aR (0+1+1) z)).out.length=m.out.length+(au p.vars x).1.length+(au p.vars y).1.length+(au p.vars z).1.length:=by simp[Mk.aE,AF]
 generalize Y:V.aE (au p.vars z).1 (aR (0+1+1) z)=Z at g4 AH;obtain⟨Al,An,Ao,g5⟩:=sL p Z (0+1+1+1) (m.cells+1) (by omega) (by decide);have AI:(Z.put (ins 6 (m.cells+1) 0 0 0) (0+1+1+1+ -1)).out.length=m.out.length+(au p.vars x).1.length+(au p.vars y).1.length+(au p.vars z).1.length+1:=by simp[Mk.put,AH]
 generalize A':Z.put (ins 6 (m.cells+1) 0 0 0) (0+1+1+1+ -1)=A0 at g5 AI;obtain⟨Ap,Aq,Ar,g6⟩:=sL p A0 (0+1+1+1+ -1) m.cells (by omega) (by decide);have AJ:(A0.put (ins 6 m.cells 0 0 0) (0+1+1+1+ -1+ -1)).out.length=m.out.length+(au p.vars x).1.length+(au p.vars y).1.length+(au p.vars z).1.length+2:=by simp[Mk.put,AI]
 generalize A1:A0.put (ins 6 m.cells 0 0 0) (0+1+1+1+ -1+ -1)=A2 at g6 AJ;obtain⟨i1,i2,i3,g7⟩:=sL p A2 (0+1+1+1+ -1+ -1) (cm p.vars name).1 (by omega) (by decide);have AK:(A2.put (ins 6 (cm p.vars name).1 0 0 0) (0+1+1+1+ -1+ -1+ -1)).out.length=m.out.length+(au p.vars x).1.length+(au p.vars y).1.length+(au p.vars z).1.length+3:=by simp[Mk.put,AJ]
 generalize A3:A2.put (ins 6 (cm p.vars name).1 0 0 0) (0+1+1+1+ -1+ -1+ -1)=D at g7 AK;have f7:D.cells=m.cells+2/\D.ex=m.ex/\0<=D.most/\D=(({m with cells:=m.cells+2}:Mk).aE (((au p.vars x).1++((au p.vars y).1++(au p.vars z).1))++[ins 6 (m.cells+1) 0 0 0,ins 6 m.cells 0 0 0,ins 6 (cm p.vars name).1 0 0 0]) (max (gQ 0 [x,y,z]) 3)):=by
  have t1:=nH 0 x;have t2:=nH 1 y;have t3:=nH 2 z;subst A3 A1 A' Y U T J;refine⟨rfl,rfl,?_,?_⟩
  ·simp[Mk.put,Mk.aE];omega
  ·simp only[Mk.put,Mk.aE,Mk.mk.injEq,gQ];simp;omega
 have AV:jR D:=by
  have q1:jR ({m with cells:=m.cells+2}:Mk):=AR;subst A3 A1 A' Y U T J;exact (((((q1.aE _ _).aE _ _).aE _ _).put _ _).put _ _).put _ _
 have AW:D.fS.ex.length=m.ex.length+1:=by simp[Mk.fS,f7.2.1]
 have g8:=akF (name:=name) (to:=to) (val:=val) (conds:=[x,y,z]) (line:=line) (at_:=(cm p.vars name).1) (cell:=m.cells) AP D.fS f7.2.2.1 (by show 0<=D.cells;rw[f7.1];omega) AV.fS (by simp[Mk.fS]) (by unfold aY;omega) (by show D.out.length+(ah p.vars b D.cells).1.length+8<_;rw[f7.1,AK];omega) (by show (ah p.vars b D.cells).2<_;rw[f7.1];exact AS) (by rw[AW];exact AT);rw[show D.fS.cells=m.cells+2 from f7.1]at g8;have As:=sN (-1) (ah p.vars b (m.cells+2)).1 (D.out.length+3);have AL:(D.fS.HF (cm p.vars name).1 m.cells (ah p.vars b (m.cells+2)).1 (ah p.vars b (m.cells+2)).2 (max 2 (bu b))).out.length=D.out.length+8+(ah p.vars b (m.cells+2)).1.length:=by
  simp[Mk.HF,Mk.fS];omega
 obtain⟨v1,v2,v3,O⟩:=abT (m:=D) (akK D _ _ _ _ _) g8 (by omega) (by rw[AL];omega) (λi hi=>by
  obtain⟨j,e,At⟩:=CZ _ _ _ i hi;exact⟨j,e,by rw[AL];omega⟩) (by rw[f7.2.1];omega)
 rw[afs]at O;have AM:D.aU (lj (cm p.vars name).1 m.cells (ah p.vars b (m.cells+2)).1) (ah p.vars b (m.cells+2)).2 (max 2 (bu b))=m.aU (jn (((au p.vars x).1++((au p.vars y).1++(au p.vars z).1))++[ins 6 (m.cells+1) 0 0 0,ins 6 m.cells 0 0 0,ins 6 (cm p.vars name).1 0 0 0]) (lj (cm p.vars name).1 m.cells (ah p.vars b (m.cells+2)).1)) (ah p.vars b (m.cells+2)).2 (max (max (gQ 0 [x,y,z]) 3) (bu b)):=by
  have AX:Flat (((au p.vars x).1++((au p.vars y).1++(au p.vars z).1))++[ins 6 (m.cells+1) 0 0 0,ins 6 m.cells 0 0 0,ins 6 (cm p.vars name).1 0 0 0]):=
   (((n9 x A6 ex).app ((n9 y A7 A8).app (n9 z A9 AA)))).app (.cons (by simp[ins]) (.cons (by simp[ins]) (.one (by simp[ins]))))
  rw[<-DH m _ _ (m.cells+2) _ (max (gQ 0 [x,y,z]) 3) _,f7.2.2.2];have e:({m with cells:=m.cells+2}:Mk).aE (((au p.vars x).1++((au p.vars y).1++(au p.vars z).1))++[ins 6 (m.cells+1) 0 0 0,ins 6 m.cells 0 0 0,ins 6 (cm p.vars name).1 0 0 0]) (max (gQ 0 [x,y,z]) 3)=m.aU (((au p.vars x).1++((au p.vars y).1++(au p.vars z).1))++[ins 6 (m.cells+1) 0 0 0,ins 6 m.cells 0 0 0,ins 6 (cm p.vars name).1 0 0 0]) (m.cells+2) (max (gQ 0 [x,y,z]) 3):=by
   rw[<-qL AX];rfl
  rw[e];exact oT (by simp[Mk.aU];omega)
 rw[AM]at O;generalize m.aU (jn (((au p.vars x).1++((au p.vars y).1++(au p.vars z).1))++[ins 6 (m.cells+1) 0 0 0,ins 6 m.cells 0 0 0,ins 6 (cm p.vars name).1 0 0 0]) (lj (cm p.vars name).1 m.cells (ah p.vars b (m.cells+2)).1)) (ah p.vars b (m.cells+2)).2 (max (max (gQ 0 [x,y,z]) 3) (bu b))=M at*;clear J T U Y A' A1 A3 AM f7 g8;have AY:IntKind.i64.wrap (m.cells+1)=m.cells+1:=aA (by unfold aY;omega);have A4:IntKind.i64.wrap 1=1:=rfl;have AN:IntKind.i64.wrap 2=2:=rfl;have AZ:IntKind.i64.wrap 3=3:=rfl;rw[aie (by simp)];simp at g1 g2 g3 g4 g5 g6 g7;simp[aI]at O;simp[f139,fR,AC,b8,fB,g1,ay];rw[ag];simp[f139,aI,g2,A4];rw[ag];simp[f139,aI,g3,A4,AN];rw[ag];simp[f139,aI,g4,A4,AN,AZ];rw[ag];simp[f139,g5,g6,g7,AY,O];exact⟨_,_,_,rfl⟩
end
theorem J4(c:Int):∀l:List Int,l.length%2=0->(dX c l).length=l.length
 |[],_=>by simp[dX]
 |[_],h=>by simp at h
 |a::b::r,h=>by
  have:=J4 c r (by simp only[acq]at h;omega);simp only[dX,acq];omega
def C4(c:Int)(D:List (List Int)):List (List ak×Int):=D.map λl=>(ins 1 0 0 0 0::dX c l,2)
theorem aft(c:Int)(D:List (List Int)):ea (C4 c D)=D.map λl=>ins 1 0 0 0 0::dX c l:=by simp[ea,C4]
theorem N9(c:Int):∀D:List (List Int),ek (C4 c D)=if D=[]then 0 else 2
 |[]=>rfl
 |l::r=>by
  have:=N9 c r;have e:ek (C4 c (l::r))=max 2 (ek (C4 c r)):=rfl;rw[e,this];rw[ach (List.cons_ne_nil _ _)];split<;>rfl
def Bg(vs:List Vr)(conds:List Ex):List (List ak×Int):=conds.map λx=>((au vs x).1,aR 0 x)
theorem IB(vs:List Vr)(conds:List Ex):ea (Bg vs conds)=conds.map λx=>(au vs x).1:=by simp[ea,Bg]
theorem Oa(vs:List Vr):∀conds:List Ex,ek (Bg vs conds)=lZ conds
 |[]=>rfl
 |x::r=>by
  have:=Oa vs r;have e:ek (Bg vs (x::r))=max (aR 0 x) (ek (Bg vs r)):=rfl;rw[e,this];rfl
section
variable {p:Pg} {lp:Bool} (Z:p.vars.length<=1000) (y:∀v∈p.vars,dQ v=true)
include Z y
theorem abX{to val:Ex}{D:List (List Int)}{blocks:List (List Sm)}{line:Int}(A':bC val=true)(A0:(aK p.vars val).e=0)(A7:D.all sE=true)(A8:D.length<=blocks.length)(A9:blocks.length<=D.length+1)(AA:blocks.length<99999980)
 (A1:∀b∈blocks,wJ p lp b) (O:∀b∈blocks,∀c,0<=c->c<=(ah p.vars b c).2) (m:Mk) (hm:0<=m.most) (AM:0<=m.cells) (AB:jR m) (hex:lp=true->m.ex≠[])
 (AN:m.out.length+(au p.vars val).1.length+1+(cI (D.map λl=>ins 1 0 0 0 0::dX m.cells l) (aC p.vars blocks (m.cells+1)).1).length<99999990) (AC:(aC p.vars blocks (m.cells+1)).2<99999990) (AD:∀b∈blocks,m.ex.length+jS b<99999990):
 gX p (m.aU (jn ((au p.vars val).1++[ins 6 m.cells 0 0 0]) (cI (D.map λl=>ins 1 0 0 0 0::dX m.cells l) (aC p.vars blocks (m.cells+1)).1)) (aC p.vars blocks (m.cells+1)).2 (max (aR 0 val) (max (if D=[]then 0 else 2) (cC blocks)))) 0 (.ret (.bh []))
  (ai ctx 138 [.ptr 0 0 0,.d (dc (.mk 3 [] to val [] D [] blocks line))] (gW p m 0)):=by
 have AO:=AL blocks (m.cells+1) (by omega) O;obtain⟨AP,a2,a3,g1⟩:=YE p m 0 1 (aA (by unfold aY;omega));have f1:({m with cells:=m.cells+1}:Mk).out=m.out:=rfl;generalize I:({m with cells:=m.cells+1}:Mk)=J at g1 f1;have AE:0<=J.most:=by subst I;exact hm
 obtain⟨AQ,AR,AS,g2⟩:=nz Z y val A' A0 J 0 (by omega) (by omega) AE (by rw[f1];omega);have A2:(J.aE (au p.vars val).1 (aR 0 val)).out.length=m.out.length+(au p.vars val).1.length:=by simp[Mk.aE,f1]
 generalize T:J.aE (au p.vars val).1 (aR 0 val)=M2 at g2 A2;obtain⟨AT,AU,AV,g3⟩:=sL p M2 (0+1) m.cells (by omega) (by decide);have A3:(M2.put (ins 6 m.cells 0 0 0) (0+1+ -1)).out.length=m.out.length+(au p.vars val).1.length+1:=by simp[Mk.put,A2]
 generalize U:M2.put (ins 6 m.cells 0 0 0) (0+1+ -1)=E at g3 A3;have AF:Flat ((au p.vars val).1++[ins 6 m.cells 0 0 0]):=(n9 val A' A0).app (.one (by simp[ins]));have f3:E.cells=m.cells+1/\E.ex=m.ex/\0<=E.most/\E=m.aU ((au p.vars val).1++[ins 6 m.cells 0 0 0]) (m.cells+1) (aR 0 val):=by
  have t1:=nH 0 val;have e:({m with cells:=m.cells+1}:Mk).aE ((au p.vars val).1++[ins 6 m.cells 0 0 0]) (aR 0 val)=m.aU ((au p.vars val).1++[ins 6 m.cells 0 0 0]) (m.cells+1) (aR 0 val):=by
   rw[<-qL AF];rfl
  rw[<-e];subst U T I;refine⟨rfl,rfl,?_,?_⟩
  ·simp[Mk.put,Mk.aE];omega
  ·simp only[Mk.put,Mk.aE,Mk.mk.injEq];simp;omega
 have q3:jR E:=by
  have q1:jR ({m with cells:=m.cells+1}:Mk):=AB;subst U T I;exact (q1.aE _ _).put _ _
 have V:=aft m.cells D;have H:=UW (p:=p) (lp:=lp) (s:=.mk 3 [] to val [] D [] blocks line) (q:=m.cells) (blocks:=blocks) (ts:=C4 m.cells D) AA (by simpa [C4]using A8) (by simpa [C4]using A9)
  (by
   rw[V];intro x AG;obtain⟨l,_,rfl⟩:=acF.1 AG;exact .cons (by simp[ins]) (ad4 _ _))
  (by
   intro i t A4 M AH AI;simp only[C4,adD,acp]at A4;obtain⟨l,A5,rfl⟩:=A4;have Y:sE l=true:=acI.1 A7 l (acu A5);have AJ:l.length%2=0:=by
    simp only[sE,Ds,acn]at Y;exact Y.2.1
   have:=J4 m.cells l AJ;simp only[acq]at AI;exact abS (.mk 3 [] to val [] D [] blocks line) m.cells i l A5 Y M AH (by omega))
  A1 O E f3.2.2.1 (by rw[f3.1];omega) q3 (λh=>by rw[f3.2.1];exact hex h) (by rw[f3.1,A3,V];omega) (by rw[f3.1];exact AC) (λb AK=>by rw[f3.2.1];exact AD b AK)
 rw[f3.1,V,N9]at H;have A6:E.aU (cI (D.map λl=>ins 1 0 0 0 0::dX m.cells l) (aC p.vars blocks (m.cells+1)).1) (aC p.vars blocks (m.cells+1)).2 (max (if D=[]then 0 else 2) (cC blocks))=m.aU (jn ((au p.vars val).1++[ins 6 m.cells 0 0 0]) (cI (D.map λl=>ins 1 0 0 0 0::dX m.cells l) (aC p.vars blocks (m.cells+1)).1)) (aC p.vars blocks (m.cells+1)).2 (max (aR 0 val) (max (if D=[]then 0 else 2) (cC blocks))):=by
  rw[<-DH m _ _ (m.cells+1) _ (aR 0 val) _,<-f3.2.2.2]
 rw[A6]at H;generalize m.aU (jn ((au p.vars val).1++[ins 6 m.cells 0 0 0]) (cI (D.map λl=>ins 1 0 0 0 0::dX m.cells l) (aC p.vars blocks (m.cells+1)).1)) (aC p.vars blocks (m.cells+1)).2 (max (aR 0 val) (max (if D=[]then 0 else 2) (cC blocks)))=M at*;obtain⟨v1,v2,v3,H⟩:=H;clear I T U A6 f3 A1 O;have el:(C4 m.cells D).length=D.length:=by simp[C4]
 rw[el]at H;rw[aid (by simp)];simp at g1 g2 g3;simp at H;simp[f138,fR,g1,g2,g3,H];exact⟨_,_,_,rfl⟩
end
section
variable {p:Pg} {x:Sm} {m M:Mk} (I:m.out.length<99999990)
include I
theorem aec(D:bJ x=1)(h:gX p M 0 (.ret (.bh [])) (ai ctx 134 [.ptr 0 0 0,.d (dc x)] (gW p (m.put (ins 11 0 0 0 0) 0) 0))):
 gX p M 0 (.ret (.bh [])) (ai ctx 91 [.ptr 0 0 0,.d (dc x)] (gW p m 0)):=by
 obtain⟨J,a2,a3,E⟩:=oR p m 0 (by omega) (by decide);obtain⟨V,Y,Z,h⟩:=h;generalize m.put (ins 11 0 0 0 0) 0=N at*;rw[xB (by simp)];simp[fR,D]at h;simp at E;simp[f91,fR,D,E,h];exact⟨_,_,_,rfl⟩
theorem aoA(D:bJ x=3)(h:gX p M 0 (.ret (.bh [])) (ai ctx 138 [.ptr 0 0 0,.d (dc x)] (gW p (m.put (ins 11 0 0 0 0) 0) 0))):
 gX p M 0 (.ret (.bh [])) (ai ctx 91 [.ptr 0 0 0,.d (dc x)] (gW p m 0)):=by
 obtain⟨J,a2,a3,E⟩:=oR p m 0 (by omega) (by decide);obtain⟨V,Y,Z,h⟩:=h;generalize m.put (ins 11 0 0 0 0) 0=N at*;rw[xB (by simp)];simp[fR,D]at h;simp at E;simp[f91,fR,D,E,h];exact⟨_,_,_,rfl⟩
theorem aoB(D:bJ x=4)(h:gX p M 0 (.ret (.bh [])) (ai ctx 139 [.ptr 0 0 0,.d (dc x)] (gW p (m.put (ins 11 0 0 0 0) 0) 0))):
 gX p M 0 (.ret (.bh [])) (ai ctx 91 [.ptr 0 0 0,.d (dc x)] (gW p m 0)):=by
 obtain⟨J,a2,a3,E⟩:=oR p m 0 (by omega) (by decide);obtain⟨V,Y,Z,h⟩:=h;generalize m.put (ins 11 0 0 0 0) 0=N at*;rw[xB (by simp)];simp[fR,D]at h;simp at E;simp[f91,fR,D,E,h];exact⟨_,_,_,rfl⟩
theorem YQ(D:bJ x=5\/bJ x=6)(h:gX p M 0 (.ret (.bh [])) (ai ctx 140 [.ptr 0 0 0,.d (dc x)] (gW p (m.put (ins 11 0 0 0 0) 0) 0))):
 gX p M 0 (.ret (.bh [])) (ai ctx 91 [.ptr 0 0 0,.d (dc x)] (gW p m 0)):=by
 obtain⟨J,a2,a3,E⟩:=oR p m 0 (by omega) (by decide);obtain⟨V,Y,Z,h⟩:=h;generalize m.put (ins 11 0 0 0 0) 0=N at*;rw[xB (by simp)];simp at E;rcases D with D|D
 ·simp[fR,D]at h;simp[f91,fR,D,E,h];exact⟨_,_,_,rfl⟩
 ·simp[fR,D]at h;simp[f91,fR,D,E,h];exact⟨_,_,_,rfl⟩
theorem aoC(D:bJ x=9)(h:gX p M 0 (.ret (.bh [])) (ai ctx 142 [.ptr 0 0 0,.d (dc x)] (gW p (m.put (ins 11 0 0 0 0) 0) 0))):
 gX p M 0 (.ret (.bh [])) (ai ctx 91 [.ptr 0 0 0,.d (dc x)] (gW p m 0)):=by
 obtain⟨J,a2,a3,E⟩:=oR p m 0 (by omega) (by decide);obtain⟨V,Y,Z,h⟩:=h;generalize m.put (ins 11 0 0 0 0) 0=N at*;rw[xB (by simp)];simp[fR,D]at h;simp at E;simp[f91,fR,D,E,h];exact⟨_,_,_,rfl⟩
theorem aoD(D:bJ x=2)(h:MkJ p M x (ai ctx 135 [.ptr 0 0 0,.d (.list ((bG x).map dR)),.d (.int .i64 (cV x).length),.fn 136 [.ptr 1 0 0,.ptr 2 0 0]] [iY p (m.put (ins 11 0 0 0 0) 0) 0 3 4 5 0 0 0,.box [.ptr 0 0 0],bx x,.vec 5 ((m.put (ins 11 0 0 0 0) 0).out.map cA),.vv ((m.put (ins 11 0 0 0 0) 0).ex.map gV) none,.vec 1 ((m.put (ins 11 0 0 0 0) 0).lv.map eo)])):
 gX p M 0 (.ret (.bh [])) (ai ctx 91 [.ptr 0 0 0,.d (dc x)] (gW p m 0)):=by
 obtain⟨J,a2,a3,E⟩:=oR p m 0 (by omega) (by decide);obtain⟨V,Y,Z,h⟩:=h;generalize m.put (ins 11 0 0 0 0) 0=N at*;rw[xB (by simp)];simp[D]at h;simp at E;simp[f91,fR,D,E,h];exact⟨_,_,_,rfl⟩
end
theorem aoE(p:Pg)(m:Mk)(h H:Int)(x:ak)(I:m.out.length<100000000)(hw:IntKind.i64.wrap (h+H)=h+H):ai ctx 53 [.ptr 0 0 0,.d (cA x),.d (.int .i64 H)] (gW p m h)=some (.ret (.d (.int .i64 m.out.length)),RA p (m.put x (h+H)) (h+H) 1 0 0):=by
 have w0:IntKind.i64.wrap (m.out.length:Int)=m.out.length:=aA (by unfold aY;omega);have c:m.out.length<=4611686018427387903:=by omega
 have y:(m.out.length+1)*40<=140737488355328:=by omega
 rw[Ur (by simp)];simp[f53,ay,hw,w0,c,y,mxI,Mk.put]
theorem akL(p:Pg)(m:Mk)(h to:Int)(I:m.out.length<100000000)(hw:IntKind.i64.wrap h=h):ai ctx 141 [.ptr 0 0 0,.d (.int .i64 to)] (gW p m h)=some (.ret (.d (.int .i64 m.out.length)),RA p (m.put (ins 9 to 0 0 0) h) h 1 0 0):=by
 have O:=aoE p m h 0 (ins 9 to 0 0 0) I (by simpa using hw);rw[show h+0=h by omega]at O;generalize m.put (ins 9 to 0 0 0) h=M at*;rw[ME (by simp)];simp[ins]at O;simp[f141,O]
@[simp] def mkO(p:Pg)(m:Mk)(h:Int)(pre:List (List Int))(row:List Int):List aJ:=[.box [.d (.str p.name),.d (.list (p.vars.map b8)),.d (.list (p.body.map dc)),.vec 1 0 0 m.out.length,.d (.int .i64 m.cells),.d (.int .i64 h),.d (.int .i64 m.most),.vec 2 0 0 (pre.length+1),.vec 3 0 0 m.lv.length],.vec 5 (m.out.map cA),.vv (pre.map gV) (some (.vec 4 0 0 row.length)),.vec 1 (m.lv.map eo),.vec 1 (row.map eo)]
@[simp] def mkP(p:Pg)(m:Mk)(h:Int)(pre:List (List Int))(row:List Int):List (Nat×aJ):=[(0,.box [.d (.str p.name),.d (.list (p.vars.map b8)),.d (.list (p.body.map dc)),.vec 1 1 0 m.out.length,.d (.int .i64 m.cells),.d (.int .i64 h),.d (.int .i64 m.most),.vec 2 0 0 (pre.length+1),.vec 3 0 0 m.lv.length]),(1,.vec 5 (m.out.map cA)),(0,.vv (pre.map gV) (some (.vec 4 0 0 row.length))),(0,.vec 1 (m.lv.map eo)),(0,.vec 1 (row.map eo))]
theorem aoF(p:Pg)(m:Mk)(h H:Int)(x:ak)(pre:List (List Int))(row:List Int)(I:m.out.length<100000000)(hw:IntKind.i64.wrap (h+H)=h+H):ai ctx 53 [.ptr 0 0 0,.d (cA x),.d (.int .i64 H)] (mkO p m h pre row)=some (.ret (.d (.int .i64 m.out.length)),mkP p (m.put x (h+H)) (h+H) pre row):=by
 have w0:IntKind.i64.wrap (m.out.length:Int)=m.out.length:=aA (by unfold aY;omega);have c:m.out.length<=4611686018427387903:=by omega
 have y:(m.out.length+1)*40<=140737488355328:=by omega
 rw[Ur (by simp)];simp[f53,ay,hw,w0,c,y,mxI,Mk.put]
theorem akM(p:Pg)(m:Mk)(h to:Int)(pre:List (List Int))(row:List Int)(I:m.out.length<100000000)(hw:IntKind.i64.wrap h=h):ai ctx 141 [.ptr 0 0 0,.d (.int .i64 to)] (mkO p m h pre row)=some (.ret (.d (.int .i64 m.out.length)),mkP p (m.put (ins 9 to 0 0 0) h) h pre row):=by
 have O:=aoF p m h 0 (ins 9 to 0 0 0) pre row I (by simpa using hw);rw[show h+0=h by omega]at O;generalize m.put (ins 9 to 0 0 0) h=M at*;rw[ME (by simp)];simp[ins]at O;simp[f141,O]
def Mk.ext(m:Mk):Mk:={m with out:=m.out++[ins 9 0 0 0 0],most:=max m.most 0,ex:=iZ m.ex [(m.out.length:Int)]}
def Mk.ret(m:Mk):Mk:={m with out:=m.out++[ins 9 0 0 0 0],most:=max m.most 0,lv:=m.lv++[(m.out.length:Int)]}
theorem aoG{p:Pg}{x:Sm}{m:Mk}(I:m.out.length<99999989)(A2:m.lv.length<99999989)(D:bJ x=8):gX p (m.put (ins 11 0 0 0 0) 0).ret 0 (.ret (.bh [])) (ai ctx 91 [.ptr 0 0 0,.d (dc x)] (gW p m 0)):=by
 obtain⟨J,a2,a3,E⟩:=oR p m 0 (by omega) (by decide);have A5:(m.put (ins 11 0 0 0 0) 0).lv.length<99999989:=A2;have A3:(m.put (ins 11 0 0 0 0) 0).out.length<99999990:=by simp[Mk.put];omega
 generalize m.put (ins 11 0 0 0 0) 0=N at*;have T:=akL p N 0 0 (by omega) (by decide);have e:N.ret={(N.put (ins 9 0 0 0 0) 0)with lv:=N.lv++[(N.out.length:Int)]}:=rfl;have U:(N.put (ins 9 0 0 0 0) 0).lv=N.lv:=rfl;rw[e];generalize N.put (ins 9 0 0 0 0) 0=P at*;have A':N.lv.length<=4611686018427387903:=by omega
 have A0:(N.lv.length+1)*8<=140737488355328:=by omega
 rw[xB (by simp)];simp[ins]at E T;rw[U]at T;simp[f91,fR,D,E,T,U,A',A0,Ie,Kx,Kw,Ar,Cr,Dp,oz,pY,rl,u0,Gn,Gp,Gq,Gr,gv,uZ,yk,H3,xk,EN,Px,VO,LQ,eZ,fO,nf,s5,bf.app];exact⟨1,(if a2=0 then 0 else 1),1,by simp⟩
theorem aoH{p:Pg}{x:Sm}{m:Mk}{pre:List (List Int)}{row:List Int}(U:m.ex=pre++[row])(I:m.out.length<99999989)(A6:row.length<99999990)(A7:pre.length<99999990)(D:bJ x=7):gX p (m.put (ins 11 0 0 0 0) 0).ext 0 (.ret (.bh [])) (ai ctx 91 [.ptr 0 0 0,.d (dc x)] (gW p m 0)):=by
 obtain⟨J,a2,a3,E⟩:=oR p m 0 (by omega) (by decide);have A1:(m.put (ins 11 0 0 0 0) 0).ex=pre++[row]:=U;have A3:(m.put (ins 11 0 0 0 0) 0).out.length<99999990:=by simp[Mk.put];omega
 generalize m.put (ins 11 0 0 0 0) 0=N at*;have T:=akM p N 0 0 pre row (by omega) (by decide);have e:N.ext={(N.put (ins 9 0 0 0 0) 0)with ex:=pre++[row++[(N.out.length:Int)]]}:=by
  unfold Mk.ext;rw[A1,kA];rfl
 have A4:(N.put (ins 9 0 0 0 0) 0).ex=pre++[row]:=A1;rw[e];generalize N.put (ins 9 0 0 0 0) 0=P at*;have A':row.length<=4611686018427387903:=by omega
 have A0:(row.length+1)*8<=140737488355328:=by omega
 have c:IntKind.i64.wrap ((pre.length:Int)+1-1)=pre.length:=by rw[show (pre.length:Int)+1-1=pre.length by omega];exact aA (by unfold aY;omega)
 have y:IntKind.i64.wrap (pre.length:Int)=pre.length:=aA (by unfold aY;omega);rw[xB (by simp)];simp[ins,A1,A4,U]at E T;simp[f91,fR,D,U,E,T,A',A0,c,y,Ie,Kx,Kw,Ar,Cr,Dp,oz,pY,rl,u0,Gn,Gp,Gq,Gr,gv,uZ,yk,H3,xk,EN,Px,VO,LQ,eZ,fO,nf,s5,bf.app];exact⟨1,(if a2=0 then 0 else 1),(if a3=0 then 0 else 1),by simp⟩
def YR(p:Pg)(lp:Bool)(x:Sm):Prop:=∀(m:Mk),0<=m.most->0<=m.cells->jR m->(lp=true->m.ex≠[])->m.out.length+(uB p.vars x m.cells).length<99999990->(cB p.vars x m.cells).2<99999990->m.ex.length+zy x<99999990->
 gX p (m.aU (uB p.vars x m.cells) (cB p.vars x m.cells).2 (iC x)) 0 (.ret (.bh [])) (ai ctx 91 [.ptr 0 0 0,.d (dc x)] (gW p m 0))
theorem RH(vs:List Vr):∀(l:List Sm)(c:Int),l.length<=(ah vs l c).1.length
 |[],c=>by simp
 |x::r,c=>by
  have:=RH vs r (cB vs x c).2;unfold ah;simp only[eO,acq,acw];omega
theorem HG{p:Pg}{lp:Bool}(l:List Sm)(A':l.length<99999999)(k:Kt)(Q:Mk->b7->Prop)
 (H:∀(Y:Env) M v1 v2 v3 v6 X6,Q M (k (.exit 0) ⟨16,aD,(0,true,.ptr 0 0 0)::Y,mqM p M 0 v1 v2 v3++[⟨350,v6,X6⟩]⟩)):
 ∀(D pre:List Sm)(m:Mk)(v1 v2 v3 v6:Nat)(X6:aJ),l=pre++D->(∀x∈D,YR p lp x)->0<=m.most->0<=m.cells->jR m->(lp=true->m.ex≠[])->m.out.length+(ah p.vars D m.cells).1.length<99999990->(ah p.vars D m.cells).2<99999990->m.ex.length+jS D<99999990->
 Q (m.aU (ah p.vars D m.cells).1 (ah p.vars D m.cells).2 (bu D)) (aO ctx 51 (.loop (Code.at (bg f51) [1,0,0])) ⟨16,aD,[(0,true,.ptr 0 0 0),(6,true,.d (.list (l.map dc))),(7,true,.d (.int .i64 l.length)),(8,true,.d (.int .i64 pre.length))],mqM p m 0 v1 v2 v3++[⟨350,v6,X6⟩]⟩ k)
 |[],pre,m,v1,v2,v3,v6,X6,I,E,hm,U,J,hex,O,T,V=>by
  have e:m.aU (ah p.vars [] m.cells).1 (ah p.vars [] m.cells).2 (bu [])=m:=abQ m hm;rw[e];have A2:pre.length=l.length:=by rw[I];simp
  have:=H [(6,true,.d (.list (l.map dc))),(7,true,.d (.int .i64 l.length)),(8,true,.d (.int .i64 l.length)),(9,true,.d (.bool false))] m v1 v2 v3 v6 X6;simp at this;rw[A2,ag];simp[f51,this]
 |x::r,pre,m,v1,v2,v3,v6,X6,I,E,hm,U,J,hex,O,T,V=>by
  have A3:ah p.vars (x::r) m.cells=(jn (uB p.vars x m.cells) (ah p.vars r (cB p.vars x m.cells).2).1,(ah p.vars r (cB p.vars x m.cells).2).2):=rfl;have A4:jS (x::r)=max (zy x) (jS r):=by simp[jS]
  have A5:bu (x::r)=max (iC x) (bu r):=by simp[bu]
  have AD:=CT (vs:=p.vars) x m.cells;have AE:=iW (vs:=p.vars) r (cB p.vars x m.cells).2;rw[A3]at O T⊢;rw[A4]at V;rw[A5];simp only[eO]at O;simp only at T;obtain⟨AF,a2,a3,A0⟩:=E x (by simp) m hm U J hex (by omega) (by omega) (by omega);have A6:(m.aU (uB p.vars x m.cells) (cB p.vars x m.cells).2 (iC x)).out.length=m.out.length+(uB p.vars x m.cells).length:=by
   show (m.out++dj _ _).length=_;rw[acm,pg]
  have Z:(m.aU (uB p.vars x m.cells) (cB p.vars x m.cells).2 (iC x)).ex.length=m.ex.length:=by
   show (iZ _ _).length=_;rw[YI]
  have ih:=λv1 v2 v3 v6 X6=>HG l A' k Q H r (pre++[x]) (m.aU (uB p.vars x m.cells) (cB p.vars x m.cells).2 (iC x)) v1 v2 v3 v6 X6 (by simp[I]) (λy A7=>E y (by simp[A7])) (by show 0<=max m.most _;omega) (by show 0<=(cB p.vars x m.cells).2;omega) (J.aU _ _ _)
   (λh=>by
    have:=hex h;intro A8;rw[A8]at Z;exact this (acL Z.symm))
   (by rw[A6];show _+(ah p.vars r (cB p.vars x m.cells).2).1.length<_;omega) (by show (ah p.vars r (cB p.vars x m.cells).2).2<_;omega) (by rw[Z];omega)
  rw[show (m.aU (uB p.vars x m.cells) (cB p.vars x m.cells).2 (iC x)).cells=(cB p.vars x m.cells).2 from rfl,DH]at ih;clear H E;generalize m.aU (uB p.vars x m.cells) (cB p.vars x m.cells).2 (iC x)=M at*;have A9:pre.length<l.length:=by rw[I];simp
  have AA:l[pre.length]=x:=by simp[I]
  have AB:IntKind.i64.wrap ((pre.length:Int)+1)=(pre.length:Int)+1:=aA (by unfold aY;omega);rw[ag];simp[fR]at A0;simp[f51]at ih⊢;simp[A9,AA,fR,A0,ay,AB,ih]
theorem Fu{p:Pg}{lp:Bool}(l:List Sm)(E:∀x∈l,YR p lp x):wJ p lp l:=by
 intro m hm U J hex O T V;have A':=RH p.vars l m.cells;have A1:=λ(k:Kt) (Q:Mk->b7->Prop) H v6 X6=>HG l (by omega) k Q H l [] m 0 0 0 v6 X6 rfl E hm U J hex O T V;rw[anI (by simp)];generalize m.aU (ah p.vars l m.cells).1 (ah p.vars l m.cells).2 (bu l)=N at*;simp[f51]at A1⊢;refine A1 _ (λX r=>X=N->gX p N 0 (.ret (.bh [])) r) (λY X v1 v2 v3 v6 X6 AC=>?_) _ _ rfl;subst AC;simp[f51];exact⟨_,_,_,rfl⟩
end Go.Am
end
section
namespace Go.Am
open Go Go.Proofs
variable [Inhabited b9]
set_option maxRecDepth 20000
theorem RI{vs:List Vr}{name:Tx}:∀(A7:List Tx)(xs:List Ex),xs.length=A7.length->A7.length<=(dE vs name A7 xs).length
 |[],xs,_=>by simp
 |_::_,[],h=>by simp at h
 |f::A7,x::xs,h=>by
  have:=RI (vs:=vs) (name:=name) A7 xs (by simpa using h);simp only[dE,acm,acq];omega
theorem UZ:∀(ts bs:List (List ak)),(∀t∈ts,1<=t.length)->bs.length<=ts.length+1->2*bs.length<=(cI ts bs).length+2
 |_,[],_,_=>by simp
 |[],b::r,_,h=>by
  have AV:r=[]:=acL (by simpa using h);subst AV;simp
 |t::ts,b::r,J,h=>by
  have ih:=UZ ts r (λy Ab=>J y (by simp[Ab])) (by simpa using h);have A2:=J t (by simp);unfold cI;simp only[eO,acm,acq,acw,nG];omega
theorem zA(vs:List Vr):∀(l:List (List Sm))(c:Int),(aC vs l c).1.length=l.length
 |[],c=>by simp[aC]
 |b::r,c=>by simp[aC,zA vs r]
theorem YS{m:Mk}(h:0<=m.most)(l:List ak)(c t:Int):(m.put (ins 11 0 0 0 0) 0).aU l c t=m.aU (jn [ins 11 0 0 0 0] l) c t:=by
 rw[abR,<-qL (Flat.one (by simp[ins])),DH];exact oT (by omega)
section
variable {p:Pg} (V:p.vars.length<=1000) (Y:∀v∈p.vars,dQ v=true)
include V Y
theorem aoI{lp:Bool}{x:Sm}(H:j7 x=true)(h:(kZ p.vars lp x).1=0)(A8:∀(lp:Bool) (cs:List Ex),da (bG x)=true->(fW p.vars lp cs (bG x)).1=0->∀b∈bG x,wJ p lp b):YR p lp x:=by
 intro m hm A9 AR hex D I AA;rw[aby]at D;have Ac:uB p.vars x m.cells=jn [ins 11 0 0 0 0] (cB p.vars x m.cells).1:=rfl;rw[Ac,<-YS hm];have AB:(m.put (ins 11 0 0 0 0) 0).out.length=m.out.length+1:=by simp[Mk.put]
 have AC:(m.put (ins 11 0 0 0 0) 0).cells=m.cells:=rfl;have AD:(m.put (ins 11 0 0 0 0) 0).ex=m.ex:=rfl;have A3:0<=(m.put (ins 11 0 0 0 0) 0).most:=by simp[Mk.put];omega
 have AE:jR (m.put (ins 11 0 0 0 0) 0):=AR.put _ _;cases Iy H h with
 |@asg to val line v M AF Ad ft E A' AS J=>
  have Ae:=zv ft E;have AW:=n9 val A' AS;cases Ae with
  |num h=>simp[cq]at M
  |r5 h=>simp[cq]at M
  |Ry _ _ _ _=>simp[cq]at M
  |one o _ _ _=>simp[cq]at M;omega
  |two o _ _ _ _ _ _=>simp[cq]at M;omega
  |@var name AG AT AN AX Af=>
   refine aec (by omega) rfl ?_;have e:cB p.vars (.mk 1 [] (.mk 3 0 name [] [] AG) val [] [] [] [] line) m.cells=((au p.vars val).1++[ins 6 (cm p.vars name).1 0 0 0],m.cells):=by simp[cB,cq,ew]
   have E:iC (.mk 1 [] (.mk 3 0 name [] [] AG) val [] [] [] [] line)=aR 0 val:=by simp[iC,cq]
   rw[e]at D⊢;rw[E];simp only[acm,acq,acw]at D;show gX p ((m.put (ins 11 0 0 0 0) 0).aU _ (m.put (ins 11 0 0 0 0) 0).cells _) 0 _ _;rw[qL (Flat.app AW (Flat.one (by simp[ins])))];exact YK V Y AN A' AS _ A3 (by omega)
  |@idx name AG AT y AN AX Af AO AY ty=>
   refine aec (by omega) rfl ?_;have Ag:=n9 y AO AY;have e:cB p.vars (.mk 1 [] (.mk 4 0 name [] [y] AG) val [] [] [] [] line) m.cells=((au p.vars y).1++((au p.vars val).1++[ins 7 (cm p.vars name).1 0 AT.lo AT.hi]),m.cells):=by simp[cB,cq,ew,dq,nj,iV AN]
   have E:iC (.mk 1 [] (.mk 4 0 name [] [y] AG) val [] [] [] [] line)=max (gQ 0 [y]) (aR 1 val):=by simp[iC,cq,dq]
   have Ah:gQ 0 [y]=max (aR 0 y) 0:=by simp[gQ]
   rw[e]at D⊢;rw[E,Ah];simp only[acm,acq,acw]at D;show gX p ((m.put (ins 11 0 0 0 0) 0).aU _ (m.put (ins 11 0 0 0 0) 0).cells _) 0 _ _;rw[qL (Flat.app Ag (Flat.app AW (Flat.one (by simp[ins])))),show max (max (aR 0 y) 0) (aR 1 val)=max (aR 0 y) (aR 1 val) by have:=nH 0 y;omega];exact YL V Y AN AO AY A' AS _ A3 (by omega)
 |@cnd to val conds blocks line M AP AQ A2 O A4 A0 hh=>
  have A5:∀c∈conds,bC c=true/\(aK p.vars c).e=0:=λc Z=>⟨(jN _).1 AQ c Z,(ib (ui O hh c Z)).1⟩;have A1:=A8 lp conds A0 hh;have e:cB p.vars (.mk 2 [] to val conds [] [] blocks line) m.cells=(cI (ea (Bg p.vars conds)) (aC p.vars blocks m.cells).1,(aC p.vars blocks m.cells).2):=by simp[cB,IB]
  have E:iC (.mk 2 [] to val conds [] [] blocks line)=max (ek (Bg p.vars conds)) (cC blocks):=by simp[iC,Oa]
  rw[e]at D I⊢;rw[E];simp only at D I;have AZ:(Bg p.vars conds).length=conds.length:=by simp[Bg]
  have AH:=UZ (ea (Bg p.vars conds)) (aC p.vars blocks m.cells).1 (λt J=>by
   rw[IB]at J;obtain⟨c,_,rfl⟩:=acF.1 J;have:=ma p.vars c;omega) (by rw[zA];simpa [ea,AZ]using A4)
  rw[zA]at AH;refine aoD (by omega) rfl ?_;have:=UU (p:=p) (lp:=lp) (s:=.mk 2 [] to val conds [] [] blocks line) (blocks:=blocks) (ts:=Bg p.vars conds) (by omega) (by omega) (by omega)
   (λt J=>by
    rw[IB]at J;obtain⟨c,Z,rfl⟩:=acF.1 J;exact n9 c (A5 c Z).1 (A5 c Z).2)
   (λi t hi m hm AI=>by
    simp only[Bg,adD,acp]at hi;obtain⟨c,A_,rfl⟩:=hi;have Z:=acu A_;exact afj V Y (.mk 2 [] to val conds [] [] blocks line) i c A_ (A5 c Z).1 (A5 c Z).2 m hm (by simp only at AI;omega))
   A1 (λb _ c _=>iW b c) (m.put (ins 11 0 0 0 0) 0) A3 A9 AE hex (by rw[AC,AB];omega) I (λb T=>by
    have:=Fq T;rw[AD];simp only[zy]at AA;omega)
  rw[AZ]at this;exact this
 |@cas to val A6 blocks line M A' AJ O A4 Ai A0 hh=>
  have A1:=A8 lp [] A0 hh;have e:cB p.vars (.mk 3 [] to val [] A6 [] blocks line) m.cells=(jn ((au p.vars val).1++[ins 6 m.cells 0 0 0]) (cI (A6.map λl=>ins 1 0 0 0 0::dX m.cells l) (aC p.vars blocks (m.cells+1)).1),(aC p.vars blocks (m.cells+1)).2):=by simp[cB]
  have E:iC (.mk 3 [] to val [] A6 [] blocks line)=max (aR 0 val) (max (if A6=[]then 0 else 2) (cC blocks)):=by simp[iC]
  rw[e]at D I⊢;rw[E];simp only[eO,acm,acq,acw]at D I;have AH:=UZ (A6.map λl=>ins 1 0 0 0 0::dX m.cells l) (aC p.vars blocks (m.cells+1)).1 (λt J=>by
   obtain⟨l,_,rfl⟩:=acF.1 J;simp) (by rw[zA];simpa using A4)
  rw[zA]at AH;exact aoA (by omega) rfl (abX V Y A' (ib AJ).1 Ai O A4 (by omega) A1 (λb _ c _=>iW b c) (m.put (ins 11 0 0 0 0) 0) A3 A9 AE hex (by rw[AC,AB];omega) I (λb T=>by
   have:=Fq T;rw[AD];simp only[zy]at AA;omega))
 |@cnt name to val x y z b line v AH M AP AF Ad AX J Aj Ak AO Al An Ao A0 hh=>
  have A1:=A8 true [] (by simpa [bG,da]using A0) (by simp[bG,fW,gj,hh]) b (by simp[bG]);have e:cB p.vars (.mk 4 name to val [x,y,z] [] [] [b] line) m.cells=(jn (((au p.vars x).1++((au p.vars y).1++(au p.vars z).1))++[ins 6 (m.cells+1) 0 0 0,ins 6 m.cells 0 0 0,ins 6 (cm p.vars name).1 0 0 0]) (lj (cm p.vars name).1 m.cells (ah p.vars b (m.cells+2)).1),(ah p.vars b (m.cells+2)).2):=by simp[cB,gd,kq]
  have E:iC (.mk 4 name to val [x,y,z] [] [] [b] line)=max (max (gQ 0 [x,y,z]) 3) (max (bu b) 0):=by simp[iC,cC]
  have AK:zy (.mk 4 name to val [x,y,z] [] [] [b] line)=max (jS b) 0+1:=by simp[zy,yB]
  rw[e]at D I⊢;rw[E,oT (u:=max (max (gQ 0 [x,y,z]) 3) (bu b)) (by omega)];rw[AK]at AA;simp only[eO,acm,acq,acw]at D I;exact aoB (by omega) rfl (UY V Y AF Aj (ib Ak).1 AO (ib Al).1 An (ib Ao).1 A1 (λc _=>iW b c) (m.put (ins 11 0 0 0 0) 0) A3 A9 AE (by simp only[acm];rw[AC,AB];omega) I (by rw[AD];omega))
 |@whl to val b line M A' AJ A0 hh=>
  have A1:=A8 true [] (by simpa [bG,da]using A0) (by simp[bG,fW,gj,hh]) b (by simp[bG]);have e:cB p.vars (.mk 5 [] to val [] [] [] [b] line) m.cells=(iy (au p.vars val).1 (ah p.vars b m.cells).1,(ah p.vars b m.cells).2):=by simp[cB,kq]
  have E:iC (.mk 5 [] to val [] [] [] [b] line)=max (aR 0 val) (max (bu b) 0):=by simp[iC,cC]
  have AK:zy (.mk 5 [] to val [] [] [] [b] line)=max (jS b) 0+1:=by simp[zy,yB]
  rw[e]at D I⊢;rw[E,oT (u:=max (aR 0 val) (bu b)) (by omega)];rw[AK]at AA;simp only at D I;exact YQ (by omega) (.inl rfl) (abV V Y A' (ib AJ).1 A1 (m.put (ins 11 0 0 0 0) 0) A3 A9 AE (by rw[AC,AB];omega) I (by rw[AD];omega))
 |@rep to val b line M A' AJ A0 hh=>
  have A1:=A8 true [] (by simpa [bG,da]using A0) (by simp[bG,fW,gj,hh]) b (by simp[bG]);have e:cB p.vars (.mk 6 [] to val [] [] [] [b] line) m.cells=(mO (au p.vars val).1 (ah p.vars b m.cells).1,(ah p.vars b m.cells).2):=by simp[cB,kq]
  have E:iC (.mk 6 [] to val [] [] [] [b] line)=max (aR 0 val) (max (bu b) 0):=by simp[iC,cC]
  have AK:zy (.mk 6 [] to val [] [] [] [b] line)=max (jS b) 0+1:=by simp[zy,yB]
  rw[e]at D I⊢;rw[E,oT (u:=max (aR 0 val) (bu b)) (by omega)];rw[AK]at AA;simp only at D I;exact YQ (by omega) (.inr rfl) (YP V Y A' (ib AJ).1 A1 (m.put (ins 11 0 0 0 0) 0) A3 A9 AE (by rw[AC,AB];omega) I (by rw[AD];omega))
 |@ext to val line M AP Ap=>
  have e:cB p.vars (.mk 7 [] to val [] [] [] [] line) m.cells=([ins 9 (-1) 0 0 0],m.cells):=by simp[cB]
  have E:iC (.mk 7 [] to val [] [] [] [] line)=0:=by simp[iC]
  rw[e]at D⊢;rw[E];simp only[acq,acw]at D;rcases ajs m.ex with U|⟨pre,row,U⟩
  ·exact absurd U (hex Ap)
  ·rw[alg]at U;have AV:=AR.2 row (by rw[U];simp);have Aq:m.ex.length=pre.length+1:=by rw[U];simp
   have:=aoH (p:=p) (x:=.mk 7 [] to val [] [] [] [] line) U (by omega) (by omega) (by omega) rfl;have AU:(m.put (ins 11 0 0 0 0) 0).ext=(m.put (ins 11 0 0 0 0) 0).aU [ins 9 (-1) 0 0 0] m.cells 0:=by
    simp[Mk.ext,Mk.aU,dj,mf,df,ins,Mk.put]
   rw[AU]at this;exact this
 |@ret to val line M AP=>
  have e:cB p.vars (.mk 8 [] to val [] [] [] [] line) m.cells=([ins 9 (-2) 0 0 0],m.cells):=by simp[cB]
  have E:iC (.mk 8 [] to val [] [] [] [] line)=0:=by simp[iC]
  rw[e]at D⊢;rw[E];simp only[acq,acw]at D;have:=aoG (p:=p) (x:=.mk 8 [] to val [] [] [] [] line) (m:=m) (by omega) (by have:=AR.1;omega) rfl;have AU:(m.put (ins 11 0 0 0 0) 0).ret=(m.put (ins 11 0 0 0 0) 0).aU [ins 9 (-2) 0 0 0] m.cells 0:=by
   simp[Mk.ret,Mk.aU,dj,mf,df,ins,Mk.put,oS]
  rw[AU]at this;exact this
 |@cal name to val conds fields line v AH M AP AF J AQ AI Ar hh=>
  have Aa:=DG fields conds [] AI hh;have A5:∀c∈conds,bC c=true/\(aK p.vars c).e=0:=λc Z=>⟨(jN _).1 AQ c Z,Aa c Z⟩;have As:=RI (vs:=p.vars) (name:=name) fields conds AI;have e:cB p.vars (.mk 9 name to val conds [] fields [] line) m.cells=(dE p.vars name fields conds++[ins 12 (cm p.vars name).1 v.ty 0 0],m.cells):=by simp[cB,iV AF]
  have E:iC (.mk 9 name to val conds [] fields [] line)=lZ conds:=by simp[iC]
  rw[e]at D⊢;rw[E];simp only[acm,acq,acw]at D;refine aoC (by omega) rfl ?_;show gX p ((m.put (ins 11 0 0 0 0) 0).aU _ (m.put (ins 11 0 0 0 0) 0).cells _) 0 _ _;rw[qL (Flat.app (NU fields conds AQ Aa) (Flat.one (by simp[ins])))];exact afi V Y AF AI (by omega) A5 _ A3 (by omega)
mutual
theorem akO:∀(x:Sm)(lp:Bool),j7 x=true->(kZ p.vars lp x).1=0->YR p lp x
 | .mk op name to val conds A6 fields blocks line,lp,H,h=>aoI V Y H h (λlp cs A2 O=>Fv blocks lp cs A2 O)
theorem AM:∀(l:List Sm)(lp:Bool),eP l=true->(fg p.vars lp l).1=0->∀x∈l,YR p lp x
 |[],_,_,_,x,U=>absurd U (adQ)
 |y::r,lp,H,h,x,U=>by
  simp only[eP,Ds]at H;simp only[fg]at h;obtain⟨A2,O⟩:=cg.1 h;rcases aco.1 U with AL|U
  ·rw[AL];exact akO y lp H.1 A2
  ·exact AM r lp H.2 O x U
theorem Fv:∀(l:List (List Sm))(lp:Bool)(cs:List Ex),da l=true->(fW p.vars lp cs l).1=0->∀b∈l,wJ p lp b
 |[],_,_,_,_,b,T=>absurd T (adQ)
 |y::r,lp,[],H,h,b,T=>by
  simp only[da,Ds]at H;simp only[fW]at h;obtain⟨A2,O⟩:=cg.1 h;rcases aco.1 T with AL|T
  ·rw[AL];exact Fu y (AM y lp H.1 A2)
  ·exact Fv r lp [] H.2 O b T
 |y::r,lp,c::cs,H,h,b,T=>by
  simp only[da,Ds]at H;simp only[fW]at h;obtain⟨A2,O⟩:=cg.1 h;obtain⟨O,A4⟩:=cg.1 O;rcases aco.1 T with AL|T
  ·rw[AL];exact Fu y (AM y lp H.1 O)
  ·exact Fv r lp cs H.2 A4 b T
end
theorem afu{l:List Sm}{lp:Bool}(H:eP l=true)(h:(fg p.vars lp l).1=0):wJ p lp l:=Fu l (AM V Y l lp H h)
end
end Go.Am
end
section
namespace Go.Am
open Go Go.Proofs Go.Proofs.Tryz
variable [Inhabited b9]
set_option maxRecDepth 20000
def Fw:List Vr->Int->List Int
 |[],_=>[]
 |v::r,n=>n::Fw r (n+bX v)
def Fx:List Vr->List Int
 |[]=>[]
 |v::r=>(if v.arr=false/\v.ty<=2 then [v.init]else List.replicate (bX v).toNat 0)++Fx r
@[simp] def akP(v1 v2 v3:Nat)(E:aJ)(S:List Int)(n:Int)(F:List Int):List dk:=[⟨250,1,.box [.vec 251 v1 0 S.length,.d (.int .i64 n),.vec 252 v2 0 F.length]⟩,⟨251,v1,.vec 1 (S.map eo)⟩,⟨252,v2,.vec 1 (F.map eo)⟩,⟨350,v3,E⟩]
theorem Ob(l:List Vr)(V:l.length<=1000)(I:∀v∈l,dQ v=true)(B C:dk)(J:B.key=150)(M:C.key=200)(k:Kt)(Q:List Int->Int->List Int->b7->Prop)
 (U:∀(Y:Env) S n F v1 v2 v3 E,Q S n F (k (.exit 0) ⟨51,aD,(2,true,.ptr 200 1 0)::(3,true,.ptr 250 1 0)::Y,B::C::akP v1 v2 v3 E S n F⟩)):∀(rest pre:List Vr)(S:List Int)(n:Int)(F:List Int)(v1 v2 v3:Nat)(E:aJ),l=pre++rest->0<=n->n<=1000*pre.length->S.length=pre.length->(F.length:Int)=n->
 Q (S++Fw rest n) (n+cJ rest) (F++Fx rest) (aO ctx 50 (.loop (Code.at (bg f50) [1,1,0,1,0,0])) ⟨51,aD,[(2,true,.ptr 200 1 0),(3,true,.ptr 250 1 0),(8,true,.d (.list (l.map b8))),(9,true,.d (.int .i64 l.length)),(10,true,.d (.int .i64 pre.length))],B::C::akP v1 v2 v3 E S n F⟩ k)
 |[],pre,S,n,F,v1,v2,v3,E,H,A9,AA,A1,A2=>by
  have AB:pre.length=l.length:=by rw[H];simp
  have:=U [(8,true,.d (.list (l.map b8))),(9,true,.d (.int .i64 l.length)),(10,true,.d (.int .i64 l.length)),(11,true,.d (.bool false))] S n F v1 v2 v3 E;simp[Fw,cJ,Fx]at this⊢;rw[AB,ag];simp[f50,this]
 |w::rest,pre,S,n,F,v1,v2,v3,E,H,A9,AA,A1,A2=>by
  have A3:pre.length<l.length:=by rw[H];simp
  have A4:l[pre.length]=w:=by simp[H]
  have O:=MF (I w (by rw[H];simp));have AC:=tc (I w (by rw[H];simp));have ih:=λF' h v1 v2 v3 E=>Ob l V I B C J M k Q U rest (pre++[w]) (S++[n]) (n+bX w) F' v1 v2 v3 E (by simp[H]) (by omega) (by simp;omega) (by simp[A1]) h;have A5:IntKind.i64.wrap ((pre.length:Int)+1)=(pre.length:Int)+1:=aA (by unfold aY;omega);have Z:IntKind.i64.wrap (n+bX w)=n+bX w:=aA (by unfold aY;omega);have A6:S.length<=4611686018427387903:=by omega
  have A7:(S.length+1)*8<=140737488355328:=by omega
  rw[ag];simp only[Fw,cJ,Fx];rw[<-Int.add_assoc];by_cases T:w.arr=false/\w.ty<=2
  ·have c:bX w=1:=by unfold bX;rw[ach (by simp[T.1]),ach (by omega)]
   rw[c]at O ih Z AC⊢;have ih:=ih (F++[w.init]) (by simp;omega);have y:F.length<=4611686018427387903:=by omega
   have A':(F.length+1)*8<=140737488355328:=by omega
   have A0:IntKind.i64.wrap n=F.length:=by rw[<-A2];exact aA (by unfold aY;omega)
   have AD:(F.map eo++[D.int .i64 0]).set F.length (D.int .i64 w.init)=F.map eo++[D.int .i64 w.init]:=by
    rw[List.set_append_right _ _ (by simp)];simp
   simp[f50,b8,fB,T,eo]at ih O⊢;simp[A3,A4,J,M,b8,fB,T,O,A5,Z,A6,A7,y,A',A0,AD,ih,eo]
  ·have ih:=ih (F++List.replicate (bX w).toNat 0) (by simp;omega);have A0:0<=bX w/\bX w<=4611686018427387904:=by omega
   have y:F.length+(bX w).toNat<=4611686018427387904:=by omega
   have A':(F.length+(bX w).toNat)*8<=140737488355328:=by omega
   simp[f50,b8,fB,T,eo]at ih O⊢;simp[A3,A4,J,M,b8,fB,T,O,A5,Z,A6,A7,y,A',A0,ih,eo]
theorem afv(p:Pg)(V:p.vars.length<=1000)(I:∀v∈p.vars,dQ v=true):ai ctx 50 [.d (uo p)] []=some (.ret (.d (.agg [.list ((Fw p.vars 0).map eo),.int .i64 (cJ p.vars),.list ((Fx p.vars).map eo)])),[]):=by
 have A8:=λB C J M k Q U v1 v2 v3 E=>Ob p.vars V I B C J M k Q U p.vars [] [] 0 [] v1 v2 v3 E rfl (by omega) (by simp) rfl rfl;rw[anH (by simp)];simp[f50]at A8⊢;refine A8 _ _ ?_ ?_ _ (λS n F r=>S=Fw p.vars 0->n=cJ p.vars->F=Fx p.vars->r=some (.ret (.d (.agg [.list ((Fw p.vars 0).map eo),.int .i64 (cJ p.vars),.list ((Fx p.vars).map eo)])),[])) (λY S n F v1 v2 v3 E c AE AF=>?_) _ _ _ _ rfl rfl rfl
 ·rfl
 ·rfl
 ·subst c AE AF;simp
end Go.Am
end
section
namespace Go.Am
open Go Go.Proofs Go.Proofs.Tryz
variable [Inhabited b9]
set_option maxRecDepth 20000
set_option maxHeartbeats 1000000
theorem abZ(p:Pg)(c:p.vars.length<=1000)(y:∀v∈p.vars,dQ v=true)
 (I:ai ctx 37 [.d (uo p)] []=some (.ret (.d (uo (Ym p))),[]))
 (M:Mk) (D:gX p M 0 (.ret (.bh [])) (ai ctx 51 [.ptr 0 0 0,.d (.list ((eE p.body).map dc))] (gW p ⟨[],cJ p.vars,0,[],[]⟩ 0))) (A1:M.out.length<99999990) (A':M.lv.length<100000000) (J:Pl M.out.length M.lv):
 ai ctx 20 [.d (uo p)] []=(if 4096<(((M.cW M.lv).put (ins 15 0 0 0 0) 0).out.length:Int)\/64<((M.cW M.lv).put (ins 15 0 0 0 0) 0).most then some (.ret (.bh [.d (.agg [.list [],.int .i64 0,.int .i64 0]),.d (.int .i64 13)]),[])else some (.ret (.bh [.d (.agg [.list (((M.cW M.lv).put (ins 15 0 0 0 0) 0).out.map cA),.int .i64 (cJ p.vars),.int .i64 M.cells]),.d (.int .i64 0)]),[])):=by
 have A0:=afv p c y;obtain⟨A2,a2,a3,D⟩:=D;have H:=abP p M 0 A' (by omega) J;have O:(M.cW M.lv).out.length=M.out.length:=by
  have:∀(ps:List Int)(m:Mk),(m.cW ps).out.length=m.out.length:=by
   intro ps;induction ps with
   |nil=>intro m;rfl
   |cons i r ih=>intro m;rw[wI,ih,Fp]
  exact this _ _
 obtain⟨A3,A4,A5,E⟩:=kX p (M.cW M.lv) 0 0 (ins 15 0 0 0 0) (by rw[O];omega) (by decide);rw[ant (by simp)];simp[Ym]at I;simp at D H;simp[ins]at E;have T:(M.cW M.lv).ex=M.ex:=rfl;have U:(M.cW M.lv).lv=M.lv:=rfl;have V:(M.cW M.lv).most=M.most:=rfl;have Y:(M.cW M.lv).cells=M.cells:=rfl;simp[T,U,V,Y]at H E;have Z:((M.cW M.lv).put (ins 15 0 0 0 0) 0).cells=M.cells:=rfl;rw[<-Z];simp only[ins]at E⊢;clear T U V Y Z O J;generalize M.cW M.lv=N at*;simp[f20,A0,I,D,H,E,ay];split<;>rename_i h<;>first|simp[h]|simp_all
end Go.Am
end
section
namespace Go.Am
open Go
theorem auZ{x:ak}(h:x.op=9\/x.op=10->0<=x.a):mf 0 x=x:=by
 unfold mf;split
 ·rename_i D;have:=h D;rw[acs this];obtain⟨op,a,b,n,m⟩:=x;simp
 ·rfl
theorem au0{l:List ak}(h:∀x∈l,x.op=9\/x.op=10->0<=x.a):dj 0 l=l:=by
 unfold dj;exact (ao9 (g:=id) (λx E=>auZ (h x E))).trans (List.map_id l)
theorem afw{l:List ak}(J:Jf false l):kU (dj 0 l) (df (-2) 0 l) l.length=l.map (ny l.length):=by
 have h:=uk (k:= -2) (to:=(l.length:Int)) (by decide) (by omega) 0 l [] [] 0 rfl;simp only[ad8,ad9]at h;rw[show ((l.length:Int)+((0:Nat):Int))=(l.length:Int) by omega]at h;rw[h];have e:(λx=>kI (-2) (l.length:Int) x)=ny (l.length:Int):=rfl;rw[show l.map (kI (-2) (l.length:Int))=l.map (ny (l.length:Int))from rfl];refine au0 (λx E D=>?_);obtain⟨y,M,rfl⟩:=acF.1 E;have H:=J y M;unfold ny at D⊢;split
 ·show 0<=(l.length:Int);omega
 ·rename_i I;rw[ach I]at D;rcases D with D|D
  ·rcases H.2 D with h|h|h
   ·exact h
   ·exact absurd ⟨D,h⟩ I
   ·exact absurd h.1 (by decide)
  ·exact H.1 D
section
variable {vs:List Vr}
mutual
theorem zB:∀x:Ex,(au vs x).1.length<=eT (cj x)
 | .mk op n name field sub line=>by
  have E:=IC sub;have H:=YT sub;unfold au;simp only[cj,eT,bW];split
  ·simp only[acq,acw];omega
  ·split
   ·simp only[acq,acw];omega
   ·split
    ·simp only[acq,acw];omega
    ·split
     ·simp only[acm,acq,acw];omega
     ·simp only[acm,acq,acw];omega
theorem IC:∀l:List Ex,(gd vs l).1.length<=bW (il l)
 |[]=>by simp[gd]
 |[x]=>by
  have:=zB x;simp only[gd,il,bW];omega
 |x::y::r=>by
  have E:=zB x;have H:=IC (y::r);simp only[il,bW]at H;simp only[gd,il,bW,acm]at H⊢;omega
theorem YT:∀l:List Ex,(nj vs l).length<=bW (il l)
 |[]=>by simp[nj]
 |x::r=>by
  have:=zB x;simp only[nj,il,bW];omega
end
theorem akQ(x:Ex):(au vs x).1.length<=bW (yY x)+1:=by
 have:=zB (vs:=vs) x;rw[ze]at this;exact this
theorem afx(x:Ex):(nj vs (dq x)).length<=bW (yY x):=by
 obtain⟨op,n,name,field,sub,line⟩:=x;have:=YT (vs:=vs) sub;simp only[yY,rB,bW,eT];omega
end
theorem KN(x:Ex):7<=eT (cj x):=by
 obtain⟨op,n,name,field,sub,line⟩:=x;simp only[cj,eT,bW];omega
theorem aed(x:Ex):6<=bW (yY x):=by
 have:=KN x;rw[ze]at this;omega
theorem akR(n:Int)(t:Bool)(line:Int):eT (cj (n8 n t line))<=14:=by
 unfold n8;split
 ·simp[cj,il,eT,bW]
 ·split
  ·simp[cj,il,eT,bW]
  ·simp[cj,il,eT,bW]
theorem aoJ(x:Ex):eT (cj (mX x))<=eT (cj x):=by
 unfold mX;split
 ·omega
 ·split
  ·omega
  ·rename_i l J;split
   ·omega
   ·rename_i r T;split
    ·omega
    ·have hm:=λU=>akR r.1 r.2.1 U;obtain⟨op,n,name,field,sub,line⟩:=x;simp only[rB]at J;cases sub with
     |nil=>
      simp only[p4,acE]at J;subst J;simp[No]at T
     |cons y q=>
      have:=KN y;refine agQ (hm _) ?_;simp only[cj,il,eT,bW];omega
mutual
theorem aee:∀x:Ex,eT (cj (dI x))<=eT (cj x)
 | .mk op n name field sub line=>by
  have h:=Oc sub;have E:=aoJ (.mk op n name field (dB sub) line);unfold dI;refine agQ E ?_;simp only[cj,eT,bW];omega
theorem Oc:∀l:List Ex,bW (il (dB l))<=bW (il l)
 |[]=>by simp[dB]
 |x::r=>by
  have E:=aee x;have H:=Oc r;simp only[dB,il,bW];omega
end
theorem aef(x:Ex):bW (yY (dI x))<=bW (yY x):=by
 have:=aee x;rw[ze,ze]at this;omega
mutual
theorem aoK:∀x:Sm,eT (dc (uP x))<=eT (dc x)
 | .mk op name to val conds I fields blocks line=>by
  have E:=aef to;have H:=aef val;have M:=Oc conds;have V:=YU blocks;simp only[uP,dc,eT,bW,sF];omega
theorem Od:∀l:List Sm,bW (nM (eE l))<=bW (nM l)
 |[]=>by simp[eE]
 |x::r=>by
  have E:=aoK x;have H:=Od r;simp only[eE,nM,bW];omega
theorem YU:∀l:List (List Sm),bW (nL (jQ l))<=bW (nL l)
 |[]=>by simp[jQ]
 |b::r=>by
  have E:=Od b;have H:=YU r;simp only[jQ,nL,bW,eT];omega
end
def rN(l:List (List ak)):Nat:=(l.map λt=>t.length+1).sum
theorem KO:∀(ts bs:List (List ak)),(cI ts bs).length<=rN ts+rN bs
 |[],[]=>by simp[cI]
 |_::_,[]=>by simp[cI]
 |[],b::r=>by
  have ih:=KO [] r;rw[zu];simp only[rN,adM,akH,api,List.sum_nil]at ih⊢;split
  ·omega
  ·simp only[eO,acm,acq,acw];omega
 |t::ts,b::r=>by
  have ih:=KO ts r;rw[cI];simp only[rN,adM,akH]at ih⊢;generalize cI ts r=out at ih⊢;rw[eO];simp only[acm,acq,acw,nG];split
  ·omega
  ·simp only[acm,acq,acw];omega
theorem YV(c:Int):∀l:List Int,(dX c l).length<=l.length
 |[]=>by simp[dX]
 |[_]=>by simp[dX]
 |a::b::r=>by
  have:=YV c r;simp only[dX,acq];omega
theorem YW(c:Int):∀l:List (List Int),rN (l.map λl=>ins 1 0 0 0 0::dX c l)<=2*bW (l.map pt)
 |[]=>by simp[rN]
 |x::r=>by
  have E:=YW c r;have H:=YV c x;have M:=adF x;have V:1+x.length<=eT (pt x):=by
   have:=Az (λn=>D.int .i64 n) x;simp only[pt,eT];omega
  simp only[rN,adM,akH,bW,acq]at E⊢;omega
section
variable {vs:List Vr}
theorem RJ:∀l:List Ex,rN (l.map λx=>(au vs x).1)<=2*bW (il l)
 |[]=>by simp[rN]
 |x::r=>by
  have E:=RJ r;have H:=zB (vs:=vs) x;have M:=KN x;simp only[rN,adM,akH,il,bW]at E⊢;omega
theorem RL(name:Tx):∀(O:List Tx)(xs:List Ex),(dE vs name O xs).length<=2*bW (il xs)
 |[],xs=>by cases xs<;>simp[dE]
 |_::_,[]=>by simp[dE]
 |f::O,x::xs=>by
  have E:=RL name O xs;have H:=zB (vs:=vs) x;have M:=KN x;simp only[dE,acm,acq,il,bW];omega
mutual
theorem akS:∀(s:Sm)(c:Int),(cB vs s c).1.length+1<=2*eT (dc s)
 | .mk op name to val conds I fields blocks line,c=>by
  have E:=λc=>RN blocks c;have H:=λc=>akT blocks c;have Y:=aed to;have a2:=aed val;have a3:=akQ (vs:=vs) val;have a4:=afx (vs:=vs) to;have a5:=RJ (vs:=vs) conds;have Z:=IC (vs:=vs) conds;have A':=RL (vs:=vs) name fields conds;simp only[dc,eT,bW,sF];unfold cB;split
  ·split
   ·simp only[acm,acq,acw];omega
   ·simp only[acm,acq,acw];omega
  ·split
   ·have q1:=E c;have q2:=KO (conds.map λx=>(au vs x).1) (aC vs blocks c).1;simp only;omega
   ·split
    ·have q1:=E (c+1);have q2:=KO (I.map λl=>ins 1 0 0 0 0::dX c l) (aC vs blocks (c+1)).1;have q3:=YW c I;simp only[eO,acm,acq,acw];omega
    ·split
     ·have q1:=H (c+2);simp only[eO,lj,qf,nG,acm,acq,acw];omega
     ·split
      ·have q1:=H c;simp only[iy,qf,nG,acm,acq,acw];omega
      ·split
       ·have q1:=H c;simp only[mO,qf,nG,acm,acq,acw];omega
       ·split
        ·simp only[acq,acw];omega
        ·split
         ·simp only[acq,acw];omega
         ·simp only[acm,acq,acw];omega
theorem DK:∀(l:List Sm)(c:Int),(ah vs l c).1.length<=2*bW (nM l)
 |[],c=>by simp[ah]
 |x::r,c=>by
  have E:=akS x c;have H:=DK r (cB vs x c).2;simp only[ah,nM,bW,eO,acq,acw];omega
theorem RN:∀(l:List (List Sm))(c:Int),rN (aC vs l c).1<=2*bW (nL l)
 |[],c=>by simp[aC,rN]
 |b::r,c=>by
  have E:=DK b c;have H:=RN r (ah vs b c).2;simp only[rN]at H;simp only[aC,nL,bW,eT,rN,adM,akH];omega
theorem akT:∀(l:List (List Sm))(c:Int),(kq vs l c).1.length<=2*bW (nL l)
 |[],c=>by simp[kq]
 |b::r,c=>by
  have E:=DK b c;simp only[kq,nL,bW,eT];omega
end
end
mutual
theorem aoL:∀s:Sm,zy s<=eT (dc s)
 | .mk op name to val conds I fields blocks line=>by
  have:=YX blocks;simp only[zy,dc,eT,bW,sF];omega
theorem Oe:∀l:List Sm,jS l<=bW (nM l)
 |[]=>by simp[jS]
 |x::r=>by
  have E:=aoL x;have H:=Oe r;simp only[jS,nM,bW];omega
theorem YX:∀l:List (List Sm),yB l<=bW (nL l)
 |[]=>by simp[yB]
 |b::r=>by
  have E:=Oe b;have H:=YX r;simp only[yB,nL,bW,eT];omega
end
theorem U0(p:Pg){n:Nat}(h:eT (.agg [.str p.name,.list (p.vars.map b8),.list (p.body.map dc)])<n):
 (∀c,(ah p.vars (eE p.body) c).1.length<2*n)/\jS (eE p.body)<n/\(eE p.body).length<n:=by
 simp only[eT,bW]at h;rw[<-yZ]at h;have A0:=Od p.body;have E:=Oe (eE p.body);have H:=oI (nM (eE p.body));rw[Fb]at H;refine⟨λc=>?_,by omega,by omega⟩;have:=DK (vs:=p.vars) (eE p.body) c;omega
end Go.Am
end
section
namespace Go.Am
open Go Go.Proofs Go.Proofs.Tryz
variable [Inhabited b9]
set_option maxRecDepth 20000
@[simp] def okZ(p:Int×Bool):AV:=.bh [.d (.int .i64 p.1),.d (.bool p.2)]
@[simp] def akU(p:Int×Int):AV:=.bh [.d (.int .i64 p.1),.d (.int .i64 p.2)]
theorem ab0(a b:Int)(H:aY a)(Z:aY b):ai ctx 265 [.d (.int .i64 a),.d (.int .i64 b)] []=some (.ret (okZ (ng (a+b))),[]):=by
 have hw:IntKind.i64.wrap (a+b)=(a+b+9223372036854775808)%18446744073709551616-9223372036854775808:=IntKind.wrap_i64 _;unfold aY at H Z;rw[aiI (by simp)];unfold ng;by_cases E:0<=a<;>by_cases D:0<=b<;>by_cases U:0<=IntKind.i64.wrap (a+b)<;>by_cases T:(-9223372036854775808<=a+b/\a+b<=9223372036854775807)<;>
  first
  |(exfalso;omega)
  |(simp[f265,E,D,U,T];try omega)
theorem Of(a b:Int)(H:aY a)(Z:aY b):ai ctx 264 [.d (.int .i64 a),.d (.int .i64 b)] []=some (.ret (okZ (ng (a-b))),[]):=by
 have hw:IntKind.i64.wrap (a-b)=(a-b+9223372036854775808)%18446744073709551616-9223372036854775808:=IntKind.wrap_i64 _;unfold aY at H Z;rw[aiH (by simp)];unfold ng;by_cases E:0<=a<;>by_cases D:0<=b<;>by_cases U:0<=IntKind.i64.wrap (a-b)<;>by_cases T:(-9223372036854775808<=a-b/\a-b<=9223372036854775807)<;>
  first
  |(exfalso;omega)
  |(simp[f264,E,D,U,T];try omega)
theorem J5(a:Int)(H:aY a):ai ctx 298 [.d (.int .i64 a)] []=some (.ret (.d (.int .u64 (a.natAbs:Nat))),[]):=by
 unfold aY at H;rw[aiN (by simp)];have E:=IntKind.wrap_u64 a;by_cases h:a<0
 ·have D:IntKind.u64.wrap (-IntKind.u64.wrap a)=(a.natAbs:Nat):=by rw[E,IntKind.wrap_u64];omega
  simp[f298,h,D]
 ·have D:IntKind.u64.wrap a=(a.natAbs:Nat):=by rw[E];omega
  simp[f298,h,D]
theorem O8(n:Nat)(Aq:n<18446744073709551616)(s:Bool):ai ctx 299 [.d (.int .u64 n),.d (.bool s)] []=some (.ret (okZ (ng (if s=true then-(n:Int)else n))),[]):=by
 rw[aiO (by simp)];have E:=IntKind.wrap_i64 (n:Int);unfold ng;cases s
 ·by_cases h:n<=9223372036854775807
  ·have D:(n:Int)<=9223372036854775807:=by omega
   have U:IntKind.i64.wrap (n:Int)=n:=by rw[E];omega
   have T: -9223372036854775808<=(n:Int):=by omega
   simp[f299,D,U,T]
  ·have D:¬(n:Int)<=9223372036854775807:=by omega
   simp[f299,D]
 ·by_cases h:n<=9223372036854775808
  ·have D:(n:Int)<=9223372036854775808:=by omega
   have U:IntKind.i64.wrap (-(IntKind.i64.wrap (n:Int)))= -(n:Int):=by rw[E,IntKind.wrap_i64];omega
   have T: -9223372036854775808<= -(n:Int):=by omega
   have Aa: -(n:Int)<=9223372036854775807:=by omega
   simp[f299,D,U,T,Aa]
  ·have D:¬(n:Int)<=9223372036854775808:=by omega
   have T:¬ -9223372036854775808<= -(n:Int):=by omega
   simp[f299,D,T]
def AN(k:IntKind)(a b:Int):Int:=k.wrap (BitVec.ofInt k.bits a &&& BitVec.ofInt k.bits b).toNat
def Og(k:IntKind)(a b:Int):Int:=k.wrap (BitVec.ofInt k.bits a ||| BitVec.ofInt k.bits b).toNat
theorem HH(k:IntKind)(a b:Int):gn .and k a b=some (true,.int k (AN k a b)):=rfl
theorem YY(k:IntKind)(a b:Int):gn .or k a b=some (true,.int k (Og k a b)):=rfl
theorem aoM(a:Nat)(H:a<18446744073709551616):AN .u64 (a:Int) 4294967295=((a%4294967296:Nat):Int):=by
 show IntKind.u64.wrap (BitVec.ofInt 64 (a:Int) &&& BitVec.ofInt 64 4294967295).toNat=_;have e:(BitVec.ofInt 64 (a:Int) &&& BitVec.ofInt 64 4294967295).toNat=a%4294967296:=by
  rw[BitVec.toNat_and,BitVec.toNat_ofInt,BitVec.toNat_ofInt];have Ab:((a:Int)%((2^64:Nat):Int)).toNat=a:=by omega
  have Ac:((4294967295:Int)%((2^64:Nat):Int)).toNat=4294967295:=by decide
  rw[Ab,Ac];exact Nat.and_two_pow_sub_one_eq_mod a 32
 rw[e,IntKind.wrap_u64];omega
theorem YZ(x y:Nat)(A5:x<18446744073709551616)(A6:y<18446744073709551616):
 ai ctx 297 [.d (.int .u64 x),.d (.int .u64 y)] []=some (.ret (.bh [.d (.int .u64 (x*y/18446744073709551616:Nat)),.d (.int .u64 (x*y%18446744073709551616:Nat))]),[]):=by
 have A7:∀a:Nat,a<18446744073709551616->AN .u64 (a:Int) 4294967295=((a%4294967296:Nat):Int):=λa H=>aoM a H;have A':∀a:Nat,(a:Int).fdiv 4294967296=((a/4294967296:Nat):Int):=λa=>by rw[Int.fdiv_eq_ediv_of_nonneg _ (by decide)];omega
 have mul':∀a b:Nat,(a:Int)*(b:Int)=((a*b:Nat):Int):=λa b=>(Int.natCast_mul a b).symm;have A2:∀a b:Nat,(a:Int)+(b:Int)=((a+b:Nat):Int):=λa b=>(Int.natCast_add a b).symm;have V:∀a:Nat,a<18446744073709551616->IntKind.u64.wrap (a:Int)=(a:Int):=λa h=>by rw[IntKind.wrap_u64];omega
 have AK:∀a:Nat,IntKind.u64.wrap (a:Int)=((a%18446744073709551616:Nat):Int):=λa=>by rw[IntKind.wrap_u64];omega
 obtain⟨A3,A0,A1,Y⟩:=Lib.mul64_hi x y A5 A6;have A8:=Lib.half_mul_le (a:=x/4294967296) (b:=y/4294967296) (by omega) (by omega);have A9:=Lib.half_mul_le (a:=x/4294967296) (b:=y%4294967296) (by omega) (by omega);have AA:=Lib.half_mul_le (a:=x%4294967296) (b:=y/4294967296) (by omega) (by omega);have AL:=A7 x A5;have AM:=A7 y A6;have f1:=A' x;have f2:=A' y;have Ad:x%4294967296<4294967296:=by omega
 have Ae:x/4294967296<4294967296:=by omega
 have Af:y%4294967296<4294967296:=by omega
 have Ag:y/4294967296<4294967296:=by omega
 have AO:IntKind.u64.wrap ((x:Int)*(y:Int))=((x*y%18446744073709551616:Nat):Int):=by rw[mul',AK]
 have AP:x*y/18446744073709551616<18446744073709551616:=by
  have:x*y<18446744073709551616*18446744073709551616:=Nat.mul_lt_mul_of_lt_of_lt A5 A6;omega
 generalize x*y%18446744073709551616=lo at AO⊢;generalize x*y/18446744073709551616=hi at Y AP⊢;generalize x%4294967296=I at A3 A0 A1 Y A8 A9 AA AL Ad;generalize x/4294967296=J at A3 A0 A1 Y A8 A9 AA f1 Ae;generalize y%4294967296=M at A3 A0 A1 Y A8 A9 AA AM Af;generalize y/4294967296=O at A3 A0 A1 Y A8 A9 AA f2 Ag;generalize AQ:J*M+I*M/4294967296=t at A0 A1 Y;generalize AR:t%4294967296+I*O=AB at A1 Y;have AS:IntKind.u64.wrap ((I:Int)*(M:Int))=((I*M:Nat):Int):=by rw[mul',V _ A3]
 have AT:IntKind.u64.wrap ((J:Int)*(M:Int))=((J*M:Nat):Int):=by rw[mul',V _ (by omega)]
 have AE:IntKind.u64.wrap (((J*M:Nat):Int)+((I*M/4294967296:Nat):Int))=(t:Int):=by rw[A2,AQ,V _ A0]
 have AU:IntKind.u64.wrap ((I:Int)*(O:Int))=((I*O:Nat):Int):=by rw[mul',V _ (by omega)]
 have AF:IntKind.u64.wrap (((t%4294967296:Nat):Int)+((I*O:Nat):Int))=(AB:Int):=by rw[A2,AR,V _ A1]
 have AW:IntKind.u64.wrap ((J:Int)*(O:Int))=((J*O:Nat):Int):=by rw[mul',V _ (by omega)]
 have AC:IntKind.u64.wrap (((J*O:Nat):Int)+((t/4294967296:Nat):Int))=((J*O+t/4294967296:Nat):Int):=by rw[A2,V _ (by omega)]
 have AD:IntKind.u64.wrap (((J*O+t/4294967296:Nat):Int)+((AB/4294967296:Nat):Int))=(hi:Int):=by rw[A2,Y,V _ AP]
 have Ah:=λa=>A' a;have mt:=A7 t A0;rw[aiM (by simp)];have f3:=A' t;have f4:=A' AB;have f5:=A' (I*M);clear Ah A7 A' A2 V AK AQ AR Y;generalize Ar:I*M/4294967296=As at AE f5;generalize At:I*M=Au at AS f5;generalize Av:J*M=Aw at AT AE;generalize Ax:I*O=Ay at AU AF;generalize Az:t/4294967296=Ai at AC AD f3;generalize B':t%4294967296=B0 at AF mt;generalize B1:AB/4294967296=wd at AD f4;generalize B2:J*O+Ai=B3 at AC AD;generalize B4:J*O=B5 at AW AC;simp[f297, -gn.eq_6,HH,Ez,IntKind.bits,AL,AM,f1,f2,f3,f4,f5,mt,AS,AT,AE,AU,AF,AW,AC,AD,AO]
theorem ab1(a b:Int)(H:aY a)(Z:aY b):ai ctx 266 [.d (.int .i64 a),.d (.int .i64 b)] []=some (.ret (okZ (ng (a*b))),[]):=by
 have AX:=J5 a H;have AY:=J5 b Z;unfold aY at H Z;have Aj:a.natAbs<18446744073709551616:=by omega
 have Ak:b.natAbs<18446744073709551616:=by omega
 have hm:=YZ _ _ Aj Ak;have AZ:=aeJ a b;have A_:=λs=>O8 (a.natAbs*b.natAbs%18446744073709551616) (by omega) s;generalize A5:a.natAbs=x at*;generalize A6:b.natAbs=y at*;have mul':((x*y:Nat):Int)=(x:Int)*(y:Int):=Int.natCast_mul x y;generalize x*y=p at*;have A4:(a<0↔b<0)=(decide (a<0)=decide (b<0)):=by simp
 rw[aiJ (by simp)];have AG:¬p/18446744073709551616=0->ng (a*b)=(0,false):=by
  intro h;unfold ng;rw[ach];rw[AZ];split<;>omega
 by_cases AH:p/18446744073709551616=0
 ·have Al:p%18446744073709551616=p:=by omega
  rw[Al]at A_ hm;rw[AH]at hm;have e:(if (decide (a<0) != decide (b<0))=true then-(p:Int)else (p:Int))=a*b:=by
   rw[AZ];by_cases h:decide (a<0)=decide (b<0)<;>simp[h]
  have AI:=A_ (decide (a<0) != decide (b<0));rw[e]at AI;try simp at hm
  try simp at AI
  simp[f266,AX,AY,hm,AI]
 ·have AG:=AG AH;have An:¬((p/18446744073709551616:Nat):Int)=0:=by omega
  generalize p/18446744073709551616=q at*;generalize p%18446744073709551616=r at*;try simp at hm
  simp[f266,AX,AY,hm,AG,AH,An]
theorem ab2(a b:Int)(H:aY a)(Z:aY b):ai ctx 267 [.d (.int .i64 a),.d (.int .i64 b)] []=some (.ret (akU (Cs a b)),[]):=by
 rw[aiK (by simp)];unfold Cs;by_cases c:b=0
 ·simp[f267,c]
 ·by_cases E:a= -9223372036854775808
  ·by_cases D:b= -1
   ·simp[f267,c,E,D]
   ·have w:IntKind.i64.wrap (a.tdiv b)=a.tdiv b:=aA (by
     have AJ:=Mx a b;unfold aY at*;have hle:a.natAbs/b.natAbs<=9223372036854775808:=by
      have:=Nat.div_le_self a.natAbs b.natAbs;omega
     have Ao:decide (a<0)=decide (b<0)->a.natAbs/b.natAbs<=4611686018427387904:=by
      intro A4;rw[E]at A4;simp at A4;have Ap:2<=b.natAbs:=by omega
      have U:=Nat.div_le_div_left Ap (by decide) (a:=a.natAbs);have T:a.natAbs=9223372036854775808:=by omega
      rw[T]at U⊢;exact U
     generalize a.natAbs/b.natAbs=q at*;split at AJ
     ·rename_i A4;have:=Ao A4;omega
     ·omega)
    rw[E]at w;simp at w;simp[f267,c,E,D,w]
  ·have w:IntKind.i64.wrap (a.tdiv b)=a.tdiv b:=aA (by
    have AJ:=Mx a b;unfold aY at*;have hle:a.natAbs/b.natAbs<=a.natAbs:=Nat.div_le_self _ _;generalize a.natAbs/b.natAbs=q at*;split at AJ<;>omega)
   simp[f267,c,E,w]
theorem ab3(a b:Int)(H:aY a)(Z:aY b):ai ctx 268 [.d (.int .i64 a),.d (.int .i64 b)] []=some (.ret (akU (E7 a b)),[]):=by
 rw[aiL (by simp)];unfold E7;by_cases c:b=0
 ·simp[f268,c]
 ·by_cases D:b= -1
  ·simp[f268,c,D]
  ·simp[f268,c,D]
theorem rO(b:Bool):ai ctx 194 [.d (.bool b)] []=some (.ret (.d (.int .i64 (eL b))),[]):=by
 rw[aip (by simp)];cases b<;>simp[f194,eL]
@[simp] theorem wr0:IntKind.i64.wrap 0=0:=rfl
@[simp] theorem wr1:IntKind.i64.wrap 1=1:=rfl
@[simp] theorem wr2:IntKind.i64.wrap 2=2:=rfl
@[simp] theorem wr3:IntKind.i64.wrap 3=3:=rfl
@[simp] theorem wr4:IntKind.i64.wrap 4=4:=rfl
@[simp] theorem aCA:IntKind.i64.wrap (-1)= -1:=rfl
@[simp] theorem wu0:IntKind.u64.wrap 0=0:=rfl
@[simp] theorem wu1:IntKind.u64.wrap 1=1:=rfl
theorem Y0(op a:Int)(t:Bool)(D:aY a)(Z:t=true->a=0\/a=1):ai ctx 212 [.d (.int .i64 op),.d (.int .i64 a),.d (.bool t)] []=some (.ret (PF (uK op a t)),[]):=by
 have V:=Of 0 a (by unfold aY;omega) D;rw[aiB (by simp)];unfold uK;generalize ng (0-a)=p at*;cases t
 ·by_cases Y:op=6
  ·simp at V;cases E:p.2<;>simp[f212,Y,E,V,yu]
  ·simp[f212,Y,nK]
 ·rcases Z rfl with rfl|rfl<;>by_cases M:op=7
  ·simp[f212,M,eL,wr0,wr1]
  ·simp[f212,M,nK]
  ·simp[f212,M,eL,wr0,wr1]
  ·simp[f212,M,nK]
theorem Oi(op a b:Int)(D:a=0\/a=1)(H:b=0\/b=1):ai ctx 213 [.d (.int .i64 op),.d (.int .i64 a),.d (.int .i64 b)] []=some (.ret (PF (My op a b)),[]):=by
 have c:AN .i64 0 0=0:=by decide
 have y:AN .i64 0 1=0:=by decide
 have A':AN .i64 1 0=0:=by decide
 have A0:AN .i64 1 1=1:=by decide
 have A1:Og .i64 0 0=0:=by decide
 have A2:Og .i64 0 1=1:=by decide
 have A3:Og .i64 1 0=1:=by decide
 have A4:Og .i64 1 1=1:=by decide
 rw[aiC (by simp)];unfold My;have J:op=13\/op=14\/op=20\/op=19\/op=21\/(op≠13/\op≠14/\op≠20/\op≠19/\op≠21):=by omega
 rcases D with rfl|rfl<;>rcases H with rfl|rfl<;>rcases J with rfl|rfl|rfl|rfl|rfl|⟨A5,A6,I,A7,A8⟩<;>
  simp[f213,rO, -gn.eq_6, -gn.eq_7,HH,YY,eL,nK, *]
theorem Oj(op a b:Int)(h:13<=op/\op<=18):ai ctx 215 [.d (.int .i64 op),.d (.int .i64 a),.d (.int .i64 b)] []=some (.ret (PF (GQ op a b)),[]):=by
 rw[aiE (by simp)];unfold GQ;have J:op=13\/op=14\/op=15\/op=16\/op=17\/op=18:=by omega
 rcases J with rfl|rfl|rfl|rfl|rfl|rfl<;>simp[f215,rO,bne]
theorem Ok(op a b:Int)(h:8<=op/\op<=12)(D:aY a)(H:aY b):ai ctx 214 [.d (.int .i64 op),.d (.int .i64 a),.d (.int .i64 b)] []=some (.ret (PF (GQ op a b)),[]):=by
 have q1:=ab0 a b D H;have q2:=Of a b D H;have q3:=ab1 a b D H;have O:=ab2 a b D H;have T:=ab3 a b D H;have J:op=8\/op=9\/op=10\/op=11\/op=12:=by omega
 rw[aiD (by simp)];unfold GQ;generalize ng (a+b)=f1 at*;generalize ng (a-b)=f2 at*;generalize ng (a*b)=f3 at*;generalize Cs a b=f4 at*;generalize E7 a b=f5 at*;simp at q1 q2 q3 O T;rcases J with rfl|rfl|rfl|rfl|rfl
 ·cases E:f1.2<;>simp[f214,q1,E,yu]
 ·cases E:f2.2<;>simp[f214,q2,E,yu]
 ·cases E:f3.2<;>simp[f214,q3,E,yu]
 ·by_cases I:f4.2=3
  ·simp[f214,O,I,sD]
  ·by_cases U:f4.2=0<;>simp[f214,O,U,I,sD]
 ·by_cases I:f5.2=3
  ·simp[f214,T,I,sD]
  ·by_cases U:f5.2=0<;>simp[f214,T,U,I,sD]
theorem O9(op a:Int)(t:Bool)(M:aY a):ai ctx 152 [.d (.int .i64 op),.d (.list [.int .i64 a]),.d (.bool t)] []=some (.ret (PF (uK op a t)),[]):=by
 rw[XK (by simp)];by_cases H:t=true/\a≠0/\a≠1
 ·obtain⟨rfl,U,D⟩:=H;simp[f152];rw[ag];simp[U,D,uK,nK]
 ·have D:=Y0 op a t M (by intro h;subst h;simp at H;omega);have V:(t&&(a != 0))=true->a=1:=by simp;intro D E;simp[D]at H;exact H E
  generalize uK op a t=p at*;simp at D;cases t
  ·simp[f152];rw[ag];simp;rw[ag];simp[D]
  ·have Y:a=0\/a=1:=by simp at V;omega
   rcases Y with rfl|rfl
   ·simp[f152];rw[ag];simp;rw[ag];simp[D]
   ·simp[f152];rw[ag];simp;rw[ag];simp[D]
theorem Pa(op a b:Int)(t:Bool)(M:aY a)(H:aY b):ai ctx 152 [.d (.int .i64 op),.d (.list [.int .i64 a,.int .i64 b]),.d (.bool t)] []=some (.ret (PF (yW op a b t)),[]):=by
 rw[XK (by simp)];have cmp:=λh=>Oj op a b h;have Z:=λh=>Ok op a b h M H;have r5:=λD E=>Oi op a b D E;unfold yW;cases t
 ·have c:¬(8<=op/\op<=12)->¬(13<=op/\op<=18)->GQ op a b=nK:=by
   intro D E;unfold GQ;simp only[show ¬op=8 by omega,show ¬op=9 by omega,show ¬op=10 by omega,show ¬op=11 by omega,show ¬op=12 by omega,show ¬op=13 by omega,show ¬op=14 by omega,show ¬op=15 by omega,show ¬op=16 by omega,show ¬op=17 by omega,show ¬op=18 by omega,adY]
  generalize GQ op a b=p at*;simp[f152];rw[ag];simp;rw[ag];simp;rw[ag];simp;by_cases D:8<=op/\op<=12
  ·have r:=Z D;simp at r;simp[D.1,D.2,r,ay]
  ·by_cases E:13<=op/\op<=18
   ·have r:=cmp E;have I:¬op<=12:=by omega
    have J:8<=op:=by omega
    simp at r;simp[E.1,E.2,I,J,r,ay]
   ·have y:=c D E;subst y;by_cases T:8<=op
    ·have A':¬op<=12:=by omega
     have O:13<=op:=by omega
     have A0:¬op<=18:=by omega
     simp[T,A',O,A0,nK]
    ·have O:¬13<=op:=by omega
     simp[T,O,nK]
 ·by_cases D:a=0\/a=1
  ·by_cases E:b=0\/b=1
   ·have r:=r5 D E;generalize My op a b=p at*;rcases D with rfl|rfl<;>rcases E with rfl|rfl<;>
     (simp at r
      simp[f152];rw[ag];simp;rw[ag];simp;rw[ag];simp[r,ay])
   ·have I:¬b=0:=by omega
    have J:¬b=1:=by omega
    rcases D with rfl|rfl<;>
     (simp[f152]
      rw[ag];simp;rw[ag];simp[I,J,nK])
  ·have I:¬a=0:=by omega
   have J:¬a=1:=by omega
   simp[f152];rw[ag];simp[I,J,nK]
def wK(o:Option (Int×Bool)):Out:=match o with|some c=>.ret (.bh [.d (.int .i64 c.1),.d (.bool c.2),.d (.bool true)])|none=>.ret (.bh [.d (.int .i64 0),.d (.bool false),.d (.bool false)])
theorem Y1(n:Int)(t:Bool)(line:Int):ai ctx 195 [.d (.int .i64 n),.d (.bool t),.d (.int .i64 line)] []=some (.ret (.d (cj (n8 n t line))),[]):=by
 rw[aiq (by simp)];cases t with
 |true=>simp[f195,n8,cj,il]
 |false=>
  by_cases h:0<=n
  ·simp[f195,n8,cj,il,h]
  ·simp[f195,n8,cj,il,h,Rb]
theorem DL(x:Ex):ai ctx 193 [.d (cj x)] []=some (wK (lh x),[]):=by
 obtain⟨op,n,name,field,sub,line⟩:=x;rw[aio (by simp)];simp[f193,aI];by_cases D:op=1
 ·subst D;simp[lh,wK]
 by_cases E:op=2
 ·subst E;simp[lh,wK]
 by_cases H:op=6
 ·subst H;match sub with
  |[]=>simp[lh,wK]
  |[y]=>
   by_cases I:cq y=1
   ·simp[lh,wK,I,aI,Rb]
   ·simp[lh,wK,I,aI]
  |y::z::r=>
   have J:¬((r.length:Int)+1+1=1):=by omega
   simp[lh,wK,J]
 ·simp[lh,wK,D,E,H]
def x8(y:Ex):Prop:=ai ctx 124 [.d (cj y)] []=some (.ret (.d (cj (dI y))),[])
theorem Ol(l:List Ex)(M:l.length<100000000)(A B:dk)(A3:A.key=150)(A4:B.key=200)(T U:aJ)(k:Kt)(Q:List Ex->b7->Prop)
 (I:∀(Y:Env)(out:List Ex) v v3 D,Q out (k (.exit 0) ⟨105,aD,(1,true,.ptr 150 1 0)::(2,true,.ptr 200 1 0)::(3,true,.vec 250 v 0 out.length)::Y,[A,B,⟨250,v,.vec 6 (out.map cj)⟩,⟨350,v3,D⟩,⟨550,0,T⟩,⟨700,0,U⟩]⟩)):
 ∀(rest pre out:List Ex)(v v3:Nat)(D:aJ),l=pre++rest->out.length=pre.length->(∀y∈rest,x8 y)->
 Q (out++dB rest) (aO ctx 124 (.loop (Code.at (bg f124) [1,1,0,1,0,0])) ⟨105,aD,[(1,true,.ptr 150 1 0),(2,true,.ptr 200 1 0),(3,true,.vec 250 v 0 out.length),(20,true,.d (.list (l.map cj))),(21,true,.d (.int .i64 l.length)),(22,true,.d (.int .i64 pre.length))],[A,B,⟨250,v,.vec 6 (out.map cj)⟩,⟨350,v3,D⟩,⟨550,0,T⟩,⟨700,0,U⟩]⟩ k)
 |[],pre,out,v,v3,D,E,O,H=>by
  have V:pre.length=l.length:=by rw[E];simp
  have:=I [(20,true,.d (.list (l.map cj))),(21,true,.d (.int .i64 l.length)),(22,true,.d (.int .i64 l.length)),(23,true,.d (.bool false))] out v v3 D;simp[dB]at this⊢;rw[V,ag];simp[f124,this]
 |x::rest,pre,out,v,v3,D,E,O,H=>by
  have Z:pre.length<l.length:=by rw[E];simp
  have c:l[pre.length]=x:=by simp[E]
  have J:=H x (by simp);unfold x8 at J;have ih:=λv v3 D=>Ol l M A B A3 A4 T U k Q I rest (pre++[x]) (out++[dI x]) v v3 D (by simp[E]) (by simp[O]) (λy A'=>H y (by simp[A']));have A0:IntKind.i64.wrap ((pre.length:Int)+1)=(pre.length:Int)+1:=aA (by unfold aY;omega);have A1:out.length<=4611686018427387903:=by omega
  have A2:(out.length+1)*80<=140737488355328:=by omega
  have e:out++dB (x::rest)=out++[dI x]++dB rest:=by simp[dB]
  rw[e,ag];generalize dI x=A6 at*;simp[f124,aI]at ih J⊢;simp[Z,c,A3,A4,aI,J,A0,A1,A2,ih]
theorem Om(l:List Ex)(M:l.length<100000000)(k:Kt)(Q:List Ex->b7->Prop)
 (I:∀(Y:Env)(out:List Ex) v v3 D,Q out (k (.exit 0) ⟨19,aD,(3,true,.vec 250 v 0 out.length)::Y,[⟨250,v,.vec 6 (out.map cj)⟩,⟨350,v3,D⟩]⟩)):
 ∀(rest pre out:List Ex)(v v3:Nat)(D:aJ),l=pre++rest->out.length=pre.length->(∀y∈rest,x8 y)->
 Q (out++dB rest) (aO ctx 125 (.loop (Code.at (bg f125) [1,1,0,1,0,0])) ⟨19,aD,[(3,true,.vec 250 v 0 out.length),(6,true,.d (.list (l.map cj))),(7,true,.d (.int .i64 l.length)),(8,true,.d (.int .i64 pre.length))],[⟨250,v,.vec 6 (out.map cj)⟩,⟨350,v3,D⟩]⟩ k)
 |[],pre,out,v,v3,D,E,O,H=>by
  have V:pre.length=l.length:=by rw[E];simp
  have:=I [(6,true,.d (.list (l.map cj))),(7,true,.d (.int .i64 l.length)),(8,true,.d (.int .i64 l.length)),(9,true,.d (.bool false))] out v v3 D;simp[dB]at this⊢;rw[V,ag];simp[f125,this]
 |x::rest,pre,out,v,v3,D,E,O,H=>by
  have Z:pre.length<l.length:=by rw[E];simp
  have c:l[pre.length]=x:=by simp[E]
  have J:=H x (by simp);unfold x8 at J;have ih:=λv v3 D=>Om l M k Q I rest (pre++[x]) (out++[dI x]) v v3 D (by simp[E]) (by simp[O]) (λy A'=>H y (by simp[A']));have A0:IntKind.i64.wrap ((pre.length:Int)+1)=(pre.length:Int)+1:=aA (by unfold aY;omega);have A1:out.length<=4611686018427387903:=by omega
  have A2:(out.length+1)*80<=140737488355328:=by omega
  have e:out++dB (x::rest)=out++[dI x]++dB rest:=by simp[dB]
  rw[e,ag];generalize dI x=A6 at*;simp[f125,aI]at ih J⊢;simp[Z,c,aI,J,A0,A1,A2,ih]
theorem ab4(l:List Ex)(M:l.length<100000000)(H:∀y∈l,x8 y):ai ctx 125 [.d (.list (l.map cj))] []=some (.ret (.d (.list ((dB l).map cj))),[]):=by
 have A5:=λk Q I v v3 D=>Om l M k Q I l [] [] v v3 D rfl rfl H;rw[ah7 (by simp)];simp[f125]at A5⊢;refine A5 _ (λout r=>out=dB l->r=some (.ret (.d (.list ((dB l).map cj))),[])) (λY out v v3 D h=>?_) _ _ _ rfl;subst h;simp
end Go.Am
end
section
namespace Go.Am
open Go Go.Proofs Go.Proofs.Tryz
variable [Inhabited b9]
set_option maxRecDepth 20000
set_option maxHeartbeats 4000000
theorem au1{α:Type}{l:List α}(h:l.length=2):∃a b,l=[a,b]:=by
 match l,h with
 |[a,b],_=>exact⟨a,b,rfl⟩
theorem akV{op n line:Int}{name field:Tx}{sub:List Ex}(AD:sub.length<100000000)(A7:6<=op->sub.length=1\/sub.length=2)(A8:∀y∈sub,x8 y)(A9:∀y∈sub,∀c,lh (dI y)=some c->aY c.1):x8 (.mk op n name field sub line):=by
 have A5:=λA B AE AF AG AH k Q AI v v3 AC=>Ol sub AD A B AE AF AG AH k Q AI sub [] [] v v3 AC rfl rfl A8;unfold x8;have e:dI (.mk op n name field sub line)=mX (.mk op n name field (dB sub) line):=by simp[dI]
 rw[e];have A1:∀y∈dB sub,∀c,lh y=some c->aY c.1:=by
  rw[oN];intro y D;obtain⟨z,J,rfl⟩:=acF.1 D;exact A9 z J
 have AA:6<=op->(dB sub).length=1\/(dB sub).length=2:=by rw[oN];simpa using A7
 obtain⟨R,H⟩:∃R,R=cj (mX (.mk op n name field (dB sub) line)):=⟨_,rfl⟩;rw[<-H,ah6 (by simp)];simp[f124,aI]at A5⊢;refine A5 _ _ ?_ ?_ _ _ _ (λout r=>out=dB sub->r=some (.ret (.d R),[])) (λY out v v3 AC h=>?_) _ _ _ rfl
 ·rfl
 ·rfl
 subst h;generalize dB sub=out at*;have Z:=DL (.mk op n name field out line);by_cases A':op<6
 ·have M:mX (.mk op n name field out line)=.mk op n name field out line:=by simp[mX,A']
  rw[M]at H;subst H;simp[f124,A',aI]
 cases A2:lh (.mk op n name field out line)with
 |some c=>
  have M:mX (.mk op n name field out line)=.mk op n name field out line:=by simp[mX,A2]
  rw[M]at H;subst H;rw[A2]at Z;simp[aI]at Z;simp[f124,A',aI,Z,wK]
 |none=>
  rw[A2]at Z;rcases AA (by omega)with AJ|AK
  ·obtain⟨y,rfl⟩:=Ix AJ;have D:=DL y;simp[aI,wK]at Z D;simp[f124,A',aI,Z];rw[ag];cases T:lh y with
   |none=>
    have M:mX (.mk op n name field [y] line)=.mk op n name field [y] line:=by simp[mX,p4,T]
    rw[M]at H;subst H;rw[T]at D;simp at D;simp[aI,D]
   |some c=>
    obtain⟨a,t⟩:=c;have AB:aY a:=A1 y (by simp) _ T;have E:=rO t;have I:=O9 op a t AB;rw[T]at D;simp at D;have M:mX (.mk op n name field [y] line)=if (uK op a t).2.2≠0\/((uK op a t).2.1=false/\(uK op a t).1= -9223372036854775808)then .mk op n name field [y] line else n8 (uK op a t).1 (uK op a t).2.1 line:=by
     simp[mX,p4,T,A2,No,A']
    rw[M]at H;generalize uK op a t=q at*;obtain⟨q1,q2,q3⟩:=q;have hm:=Y1 q1 q2 line;simp only at H I;have A3:(q3≠0/\R=cj (.mk op n name field [y] line))\/(q3=0/\q2=false/\q1= -9223372036854775808/\R=cj (.mk op n name field [y] line))\/(∃e,R=cj e/\q3=0/\q2=false/\q1≠ -9223372036854775808/\ai ctx 195 [.d (.int .i64 q1),.d (.bool q2),.d (.int .i64 line)] []=some (.ret (.d (cj e)),[]))\/(∃e,R=cj e/\q3=0/\q2=true/\ai ctx 195 [.d (.int .i64 q1),.d (.bool q2),.d (.int .i64 line)] []=some (.ret (.d (cj e)),[])):=by
     by_cases O:q3≠0\/(q2=false/\q1= -9223372036854775808)
     ·rw[acs O]at H;rcases O with h|h
      ·exact .inl ⟨h,H⟩
      ·by_cases A4:q3=0
       ·exact .inr (.inl ⟨A4,h.1,h.2,H⟩)
       ·exact .inl ⟨A4,H⟩
     ·rw[ach O]at H;simp only[akN,not_and,akg]at O;cases q2 with
      |true=>exact .inr (.inr (.inr ⟨_,H,O.1,rfl,hm⟩))
      |false=>exact .inr (.inr (.inl ⟨_,H,O.1,rfl,O.2 rfl,hm⟩))
    clear H hm A1 A9 A8 A5 A7 AA;cases t
    ·simp[eL]at E I;rcases A3 with ⟨U,H⟩|⟨rfl,rfl,rfl,H⟩|⟨e,rfl,rfl,rfl,V,hm⟩|⟨e,rfl,rfl,rfl,hm⟩
     ·subst H;simp[aI,D,E,I,U];rw[ag];simp[aI,D,E,I,U]
     ·subst H;simp[aI,D,E,I];rw[ag];simp[aI,D,E,I]
     ·simp[aI]at hm;simp[aI,D,E,I,V,hm];rw[ag];simp[aI,D,E,I,V,hm]
     ·simp[aI]at hm;simp[aI,D,E,I,hm];rw[ag];simp[aI,D,E,I,hm]
    ·simp[eL]at E I;rcases A3 with ⟨U,H⟩|⟨rfl,rfl,rfl,H⟩|⟨e,rfl,rfl,rfl,V,hm⟩|⟨e,rfl,rfl,rfl,hm⟩
     ·subst H;simp[aI,D,E,I,U];rw[ag];simp[aI,D,E,I,U]
     ·subst H;simp[aI,D,E,I];rw[ag];simp[aI,D,E,I]
     ·simp[aI]at hm;simp[aI,D,E,I,V,hm];rw[ag];simp[aI,D,E,I,V,hm]
     ·simp[aI]at hm;simp[aI,D,E,I,hm];rw[ag];simp[aI,D,E,I,hm]
  ·obtain⟨y,z,rfl⟩:=au1 AK;have D:=DL y;have J:=DL z;simp[aI,wK]at Z D J;simp[f124,A',aI,Z];rw[ag];cases T:lh y with
   |none=>
    have M:mX (.mk op n name field [y,z] line)=.mk op n name field [y,z] line:=by simp[mX,p4,T]
    rw[M]at H;subst H;rw[T]at D;simp at D;simp[aI,D]
   |some c=>
    obtain⟨a,t⟩:=c;have AB:aY a:=A1 y (by simp) _ T;have E:=rO t;rw[T]at D;simp at D;cases A0:lh z with
    |none=>
     have M:mX (.mk op n name field [y,z] line)=.mk op n name field [y,z] line:=by simp[mX,p4,T,A0]
     rw[M]at H;subst H;rw[A0]at J;simp at J E;simp[aI,D,E];rw[ag];simp[aI,J]
    |some d=>
     obtain⟨b,u⟩:=d;have AL:aY b:=A1 z (by simp) _ A0;have hu:=rO u;rw[A0]at J;simp at J;by_cases A6:t=u
     ·subst A6;have I:=Pa op a b t AB AL;have M:mX (.mk op n name field [y,z] line)=if (yW op a b t).2.2≠0\/((yW op a b t).2.1=false/\(yW op a b t).1= -9223372036854775808)then .mk op n name field [y,z] line else n8 (yW op a b t).1 (yW op a b t).2.1 line:=by
       simp[mX,p4,T,A0,A2,No,A']
      rw[M]at H;generalize yW op a b t=q at*;obtain⟨q1,q2,q3⟩:=q;have hm:=Y1 q1 q2 line;simp only at H I;have A3:(q3≠0/\R=cj (.mk op n name field [y,z] line))\/(q3=0/\q2=false/\q1= -9223372036854775808/\R=cj (.mk op n name field [y,z] line))\/(∃e,R=cj e/\q3=0/\q2=false/\q1≠ -9223372036854775808/\ai ctx 195 [.d (.int .i64 q1),.d (.bool q2),.d (.int .i64 line)] []=some (.ret (.d (cj e)),[]))\/(∃e,R=cj e/\q3=0/\q2=true/\ai ctx 195 [.d (.int .i64 q1),.d (.bool q2),.d (.int .i64 line)] []=some (.ret (.d (cj e)),[])):=by
       by_cases O:q3≠0\/(q2=false/\q1= -9223372036854775808)
       ·rw[acs O]at H;rcases O with h|h
        ·exact .inl ⟨h,H⟩
        ·by_cases A4:q3=0
         ·exact .inr (.inl ⟨A4,h.1,h.2,H⟩)
         ·exact .inl ⟨A4,H⟩
       ·rw[ach O]at H;simp only[akN,not_and,akg]at O;cases q2 with
        |true=>exact .inr (.inr (.inr ⟨_,H,O.1,rfl,hm⟩))
        |false=>exact .inr (.inr (.inl ⟨_,H,O.1,rfl,O.2 rfl,hm⟩))
      clear H hm A1 A9 A8 A5 A7 AA;cases t
      ·simp[eL]at E I;rcases A3 with ⟨U,H⟩|⟨rfl,rfl,rfl,H⟩|⟨e,rfl,rfl,rfl,V,hm⟩|⟨e,rfl,rfl,rfl,hm⟩
       ·subst H;simp[aI,D,J,E,I,U];rw[ag];simp[aI,D,J,E,I,U];rw[ag];simp[aI,D,J,E,I,U]
       ·subst H;simp[aI,D,J,E,I];rw[ag];simp[aI,D,J,E,I];rw[ag];simp[aI,D,J,E,I]
       ·simp[aI]at hm;simp[aI,D,J,E,I,V,hm];rw[ag];simp[aI,D,J,E,I,V,hm];rw[ag];simp[aI,D,J,E,I,V,hm]
       ·simp[aI]at hm;simp[aI,D,J,E,I,hm];rw[ag];simp[aI,D,J,E,I,hm];rw[ag];simp[aI,D,J,E,I,hm]
      ·simp[eL]at E I;rcases A3 with ⟨U,H⟩|⟨rfl,rfl,rfl,H⟩|⟨e,rfl,rfl,rfl,V,hm⟩|⟨e,rfl,rfl,rfl,hm⟩
       ·subst H;simp[aI,D,J,E,I,U];rw[ag];simp[aI,D,J,E,I,U];rw[ag];simp[aI,D,J,E,I,U]
       ·subst H;simp[aI,D,J,E,I];rw[ag];simp[aI,D,J,E,I];rw[ag];simp[aI,D,J,E,I]
       ·simp[aI]at hm;simp[aI,D,J,E,I,V,hm];rw[ag];simp[aI,D,J,E,I,V,hm];rw[ag];simp[aI,D,J,E,I,V,hm]
       ·simp[aI]at hm;simp[aI,D,J,E,I,hm];rw[ag];simp[aI,D,J,E,I,hm];rw[ag];simp[aI,D,J,E,I,hm]
     ·have M:mX (.mk op n name field [y,z] line)=.mk op n name field [y,z] line:=by simp[mX,p4,T,A0,No,A6]
      rw[M]at H;subst H;cases t<;>cases u
      ·exact absurd rfl A6
      ·simp[eL]at E hu;simp[aI,D,J,E,hu];rw[ag];simp[aI,D,J,E,hu];rw[ag];simp[aI,D,J,E,hu]
      ·simp[eL]at E hu;simp[aI,D,J,E,hu];rw[ag];simp[aI,D,J,E,hu];rw[ag];simp[aI,D,J,E,hu]
      ·exact absurd rfl A6
end Go.Am
end
section
namespace Go.Am
open Go Go.Proofs
variable [Inhabited b9]
set_option maxRecDepth 20000
theorem akW{vs:List Vr}{x:Ex}(D:bC x=true)(he:(aK vs x).e=0):∀y∈dq x,(aK vs y).e=0:=by
 cases zv D he with
 |num h=>simp
 |r5 h=>simp
 |var T A' U=>simp
 |idx T A' U V M ty=>simpa using M
 |Ry T U A5 D=>simp
 |one A0 V M ty=>simpa using M
 |two A0 V M A6 A1 ty A7=>simpa using ⟨M,A1⟩
mutual
theorem rP{vs:List Vr}:∀x:Ex,bC x=true->eQ x=true->(aK vs x).e=0->x8 x
 | .mk op n name field sub line,D,I,he=>by
  have J:=akW D he;simp only[rB]at J;have A8:=D;simp only[bC,Ds,acn]at D;simp only[eQ,Ds]at I;have H:=D.2.1;unfold eF at H;have Y:=D.2.2.2.2;have Z:=I.2;refine akV (by split at H<;>(try split at H)<;>omega) (λA2=>by
   by_cases h:op=4\/op=6\/op=7
   ·rw[acs h]at H;exact .inl H
   ·rw[ach h,acs (by omega)]at H;exact .inr H) (DM sub Y Z J) (λy E c A3=>?_)
  have O:=Hk y ((jN _).1 Y y E) ((xO _).1 Z y E) (J y E);have:=(Yq A3 O.1 O.2.1 (by rw[O.2.2.1];exact J y E)).2;unfold aY;omega
theorem DM{vs:List Vr}:∀l:List Ex,bO l=true->dD l=true->(∀y∈l,(aK vs y).e=0)->∀y∈l,x8 y
 |[],_,_,_,y,E=>absurd E (adQ)
 |x::r,D,I,he,y,E=>by
  simp only[bO,Ds]at D;simp only[dD,Ds]at I;rcases aco.1 E with h|h
  ·rw[h];exact rP x D.1 I.1 (he x (by simp))
  ·exact DM r D.2 I.2 (λz A4=>he z (by simp[A4])) y h
end
theorem kD{x:Ex}(h:eG x=true):x8 x:=by
 obtain⟨op,n,name,field,sub,line⟩:=x;have h:(decide (op=0)&&(decide (n=0)&&decide (name.length+field.length+sub.length=0)))=true:=h;simp only[Ds,acn]at h;have J:sub=[]:=acL (by omega);have A9:=h.1;subst J;exact akV (by simp) (λA2=>by omega) (λy E=>absurd E (adQ)) (λy E=>absurd E (adQ))
end Go.Am
end
section
namespace Go.Am
open Go Go.Proofs Go.Proofs.Tryz
variable [Inhabited b9]
set_option maxRecDepth 20000
set_option maxHeartbeats 1000000
def KG(b:List Sm):Prop:=ai ctx 81 [.d (.list (b.map dc))] []=some (.ret (.d (.list ((eE b).map dc))),[])
def KH(x:Sm):Prop:=ai ctx 124 [.d (cj (fG x))] []=some (.ret (.d (cj (dI (fG x)))),[])/\ai ctx 124 [.d (cj (eJ x))] []=some (.ret (.d (cj (dI (eJ x)))),[])/\ai ctx 125 [.d (.list ((cV x).map cj))] []=some (.ret (.d (.list ((dB (cV x)).map cj))),[])/\(bG x).length<100000000/\∀b∈bG x,KG b
theorem RS(l:List (List Sm))(U:l.length<100000000)(O V T:Nat)(Z:List D)(cs:List AV)(A2:∀v aj,cs.map (mC 400 v aj)=cs)(a9 c A':D)(k:Kt)(Q:List (List Sm)->b7->Prop)
 (J:∀(Y:Env)(out:List (List Sm)) v,Q out (k (.exit 2) ⟨48,aD,(3,true,.vec 250 O 0 V)::(5,true,.ptr 350 T 0)::(6,true,.d (.list (out.map dR)))::(9,true,.d a9)::(10,true,.d c)::(11,true,.d A')::Y,[⟨250,O,.vec 19 Z⟩,⟨350,T,.box cs⟩,⟨400,v,.dead⟩]⟩)):
 ∀(rest pre out:List (List Sm))(v:Nat),l=pre++rest->out.length=pre.length->(∀b∈rest,KG b)->
 Q (out++jQ rest) (aO ctx 81 (.loop (Code.at (bg f81) [1,1,0,1,0,0,1,1,0,0,1,1,1,0,1,0,0])) ⟨48,aD,[(3,true,.vec 250 O 0 V),(5,true,.ptr 350 T 0),(6,true,.vec 400 v 0 out.length),(9,true,.d a9),(10,true,.d c),(11,true,.d A'),(28,true,.d (.list (l.map dR))),(29,true,.d (.int .i64 l.length)),(30,true,.d (.int .i64 pre.length))],[⟨250,O,.vec 19 Z⟩,⟨350,T,.box cs⟩,⟨400,v,.vec 1 (out.map dR)⟩]⟩ k)
 |[],pre,out,v,E,A0,M=>by
  have A3:pre.length=l.length:=by rw[E];simp
  have:=J [(28,true,.d (.list (l.map dR))),(29,true,.d (.int .i64 l.length)),(30,true,.d (.int .i64 l.length)),(31,true,.d (.bool false))] out (v+1);simp[jQ]at this⊢;rw[A3,ag];simp[f81,A2,this]
 |b::rest,pre,out,v,E,A0,M=>by
  have A4:pre.length<l.length:=by rw[E];simp
  have A5:l[pre.length]=b:=by simp[E]
  have A6:=M b (by simp);unfold KG at A6;have ih:=λv=>RS l U O V T Z cs A2 a9 c A' k Q J rest (pre++[b]) (out++[eE b]) v (by simp[E]) (by simp[A0]) (λy A7=>M y (by simp[A7]));have A8:IntKind.i64.wrap ((pre.length:Int)+1)=(pre.length:Int)+1:=aA (by unfold aY;omega);have A9:out.length<=4611686018427387903:=by omega
  have AA:(out.length+1)*24<=140737488355328:=by omega
  have e:out++jQ (b::rest)=out++[eE b]++jQ rest:=by simp[jQ]
  rw[e,ag];generalize eE b=AL at*;simp[f81,dR]at ih A6⊢;simp[A4,A5,dR,A6,A8,A9,AA,ih]
theorem RU(l:List Sm)(U:l.length<100000000)(k:Kt)(Q:List Sm->b7->Prop)
 (J:∀(Y:Env)(out:List Sm) v v3 H v4 I,Q out (k (.exit 0) ⟨48,aD,(3,true,.vec 250 v 0 out.length)::Y,[⟨250,v,.vec 19 (out.map dc)⟩,⟨350,v3,H⟩,⟨400,v4,I⟩]⟩)):
 ∀(rest pre out:List Sm)(v v3:Nat)(H:aJ)(v4:Nat)(I:aJ),l=pre++rest->out.length=pre.length->(∀x∈rest,KH x)->
 Q (out++eE rest) (aO ctx 81 (.loop (Code.at (bg f81) [1,1,0,1,0,0])) ⟨48,aD,[(3,true,.vec 250 v 0 out.length),(9,true,.d (.list (l.map dc))),(10,true,.d (.int .i64 l.length)),(11,true,.d (.int .i64 pre.length))],[⟨250,v,.vec 19 (out.map dc)⟩,⟨350,v3,H⟩,⟨400,v4,I⟩]⟩ k)
 |[],pre,out,v,v3,H,v4,I,E,A0,M=>by
  have A3:pre.length=l.length:=by rw[E];simp
  have:=J [(9,true,.d (.list (l.map dc))),(10,true,.d (.int .i64 l.length)),(11,true,.d (.int .i64 l.length)),(12,true,.d (.bool false))] out v v3 H v4 I;simp[eE]at this⊢;rw[A3,ag];simp[f81,this]
 |x::rest,pre,out,v,v3,H,v4,I,E,A0,M=>by
  have A4:pre.length<l.length:=by rw[E];simp
  have A5:l[pre.length]=x:=by simp[E]
  obtain⟨AB,AC,AD,AF,AG⟩:=M x (by simp);have ih:=λv v3 H v4 I=>RU l U k Q J rest (pre++[x]) (out++[uP x]) v v3 H v4 I (by simp[E]) (by simp[A0]) (λy A7=>M y (by simp[A7]));have A1:=λO V T Z cs A2 a9 c A' k Q J v=>RS (bG x) AF O V T Z cs A2 a9 c A' k Q J (bG x) [] [] v rfl rfl AG;have A8:IntKind.i64.wrap ((pre.length:Int)+1)=(pre.length:Int)+1:=aA (by unfold aY;omega);have A9:out.length<=4611686018427387903:=by omega
  have AA:(out.length+1)*288<=140737488355328:=by omega
  have e:out++eE (x::rest)=out++[uP x]++eE rest:=by simp[eE]
  have AH:dc (uP x)=.agg [.int .i64 (bJ x),.str (jt x),.int .i64 (cq (dI (fG x))),.int .i64 (jG (dI (fG x))),.str (ew (dI (fG x))),.str (gK (dI (fG x))),.list ((dq (dI (fG x))).map cj),.int .i64 (lJ (dI (fG x))),.int .i64 (cq (dI (eJ x))),.int .i64 (jG (dI (eJ x))),.str (ew (dI (eJ x))),.str (gK (dI (eJ x))),.list ((dq (dI (eJ x))).map cj),.int .i64 (lJ (dI (eJ x))),.list ((dB (cV x)).map cj),.list ((ff x).map pt),.list ((eS x).map .str),.list ((jQ (bG x)).map dR),.int .i64 (mJ x)]:=by
   obtain⟨op,name,to,val,conds,AM,fields,blocks,line⟩:=x;rw[fR];simp[uP,bJ,jt,fG,eJ,cV,ff,eS,bG,mJ]
  rw[e,ag];have AI:(dc (uP x)).size=19:=by rw[fR];simp
  generalize uP x=AJ at*;generalize dI (fG x)=t at*;generalize dI (eJ x)=w at*;generalize dB (cV x)=AN at*;simp[f81]at ih A1⊢;simp[aI]at AB AC AD;simp[A4,A5,fR x,aI,AB,AC,AD,ay];refine A1 _ _ _ _ _ ?_ _ _ _ _ (λAE r=>AE=jQ (bG x)->Q (out++AJ::eE rest) r) (λY AE AO AK=>?_) _ rfl
  ·intro v aj;simp
  subst AK;simp[f81,A8,A9,AA,<-AH,AI,ih]
theorem Fy(l:List Sm)(U:l.length<100000000)(M:∀x∈l,KH x):KG l:=by
 have A1:=λk Q J v v3 H v4 I=>RU l U k Q J l [] [] v v3 H v4 I rfl rfl M;unfold KG;rw[anV (by simp)];simp[f81]at A1⊢;refine A1 _ (λout r=>out=eE l->r=some (.ret (.d (.list ((eE l).map dc))),[])) (λY out v v3 H v4 I h=>?_) _ _ _ _ _ rfl;subst h;simp
end Go.Am
end
section
namespace Go.Am
open Go Go.Proofs Go.Proofs.Tryz
variable [Inhabited b9]
set_option maxRecDepth 20000
theorem aoN{vs:List Vr}{lp:Bool}{x:Sm}(H:j7 x=true)(E:pA x=true)(h:(kZ vs lp x).1=0)(D:Cz x)(Z:∀(lp:Bool) (cs:List Ex),da (bG x)=true->ic (bG x)=true->(fW vs lp cs (bG x)).1=0->p9 (bG x)->∀b∈bG x,KG b):KH x:=by
 have AD:(x8 (fG x)/\x8 (eJ x))/\(∀c∈cV x,x8 c)/\∀b∈bG x,KG b:=by
  have AE:eQ (fG x)=true/\eQ (eJ x)=true/\dD (cV x)=true/\ic (bG x)=true:=by
   obtain⟨op,name,to,val,conds,A8,fields,blocks,line⟩:=x;simp only[pA,Ds]at E;exact⟨E.1,E.2.1,E.2.2.1,E.2.2.2.2⟩
  have A':p9 (bG x):=by
   obtain⟨op,name,to,val,conds,A8,fields,blocks,line⟩:=x;simp only[Cz]at D;exact D.2
  obtain⟨AF,A5,Y,A0⟩:=AE;cases Iy H h with
  |asg I AA A6 ft AG U AH AB=>exact⟨⟨rP _ ft AF AG,rP _ U A5 AH⟩,by simp[cV],by simp[bG]⟩
  |cnd I M A9 V J A1 O hh=>
   exact⟨⟨kD I,kD M⟩,DM _ A9 Y (λc A7=>(ib (ui J hh c A7)).1),Z _ _ O A0 hh A'⟩
  |cas I U A2 J A1 AW O hh=>exact⟨⟨kD I,rP _ U A5 (ib A2).1⟩,by simp[cV],Z _ _ O A0 hh A'⟩
  |cnt D I M AA A6 AX AB AI AJ AK AL AM AN O hh=>
   simp only[cV,dD,Ds]at Y;refine⟨⟨kD I,kD M⟩,?_,Z true [] (by simpa [bG,da]using O) A0 (by simp[bG,fW,gj,hh]) A'⟩;intro c A7;simp only[cV,aco,adQ,akp]at A7;rcases A7 with rfl|rfl|rfl
   ·exact rP _ AI Y.1 (ib AJ).1
   ·exact rP _ AK Y.2.1 (ib AL).1
   ·exact rP _ AM Y.2.2.1 (ib AN).1
  |whl I U A2 O hh=>exact⟨⟨kD I,rP _ U A5 (ib A2).1⟩,by simp[cV],Z true [] (by simpa [bG,da]using O) A0 (by simp[bG,fW,gj,hh]) A'⟩
  |rep I U A2 O hh=>exact⟨⟨kD I,rP _ U A5 (ib A2).1⟩,by simp[cV],Z true [] (by simpa [bG,da]using O) A0 (by simp[bG,fW,gj,hh]) A'⟩
  |ext I M AY=>exact⟨⟨kD I,kD M⟩,by simp[cV],by simp[bG]⟩
  |ret I M=>exact⟨⟨kD I,kD M⟩,by simp[cV],by simp[bG]⟩
  |cal AZ I M AA AB A9 AP A_ hh=>exact⟨⟨kD I,kD M⟩,DM _ A9 Y (DG _ _ [] AP hh),by simp[bG]⟩
 have AC:(cV x).length<100000000/\(bG x).length<100000000:=by
  obtain⟨op,name,to,val,conds,A8,fields,blocks,line⟩:=x;simp only[Cz]at D;exact⟨D.1.2.2.1.1,D.1.2.2.2.2.2⟩
 obtain⟨⟨AQ,AR⟩,AS,AT⟩:=AD;refine⟨?_,?_,?_,AC.2,AT⟩
 ·exact AQ
 ·exact AR
 ·exact ab4 _ AC.1 AS
mutual
theorem akX{vs:List Vr}:∀(x:Sm)(lp:Bool),j7 x=true->pA x=true->(kZ vs lp x).1=0->Cz x->KH x
 | .mk op name to val conds A8 fields blocks line,lp,H,E,h,D=>aoN H E h D (λlp cs V J A1 AU=>Fz blocks lp cs V J A1 AU)
theorem AO{vs:List Vr}:∀(l:List Sm)(lp:Bool),eP l=true->iT l=true->(fg vs lp l).1=0->nP l->∀x∈l,KH x
 |[],_,_,_,_,_,x,A3=>absurd A3 (adQ)
 |y::r,lp,H,E,h,D,x,A3=>by
  simp only[eP,Ds]at H;simp only[iT,Ds]at E;simp only[fg]at h;simp only[nP]at D;obtain⟨V,J⟩:=cg.1 h;rcases aco.1 A3 with A4|A3
  ·rw[A4];exact akX y lp H.1 E.1 V D.1
  ·exact AO r lp H.2 E.2 J D.2 x A3
theorem Fz{vs:List Vr}:∀(l:List (List Sm))(lp:Bool)(cs:List Ex),da l=true->ic l=true->(fW vs lp cs l).1=0->p9 l->∀b∈l,KG b
 |[],_,_,_,_,_,_,b,T=>absurd T (adQ)
 |y::r,lp,[],H,E,h,D,b,T=>by
  simp only[da,Ds]at H;simp only[ic,Ds]at E;simp only[fW]at h;simp only[p9]at D;obtain⟨V,J⟩:=cg.1 h;rcases aco.1 T with A4|T
  ·rw[A4];exact Fy y D.1.1 (AO y lp H.1 E.1 V D.1.2)
  ·exact Fz r lp [] H.2 E.2 J D.2 b T
 |y::r,lp,c::cs,H,E,h,D,b,T=>by
  simp only[da,Ds]at H;simp only[ic,Ds]at E;simp only[fW]at h;simp only[p9]at D;obtain⟨V,J⟩:=cg.1 h;obtain⟨J,A1⟩:=cg.1 J;rcases aco.1 T with A4|T
  ·rw[A4];exact Fy y D.1.1 (AO y lp H.1 E.1 J D.1.2)
  ·exact Fz r lp cs H.2 E.2 A1 D.2 b T
end
theorem afy{p:Pg}{lp:Bool}(AV:p.body.length<100000000)(H:eP p.body=true)(E:iT p.body=true)(h:(fg p.vars lp p.body).1=0)(D:nP p.body):ai ctx 37 [.d (uo p)] []=some (.ret (.d (uo (Ym p))),[]):=by
 have A6:=Fy p.body AV (AO p.body lp H E h D);unfold KG at A6;rw[anz (by simp)];simp[f37,A6,Ym]
end Go.Am
end
section
namespace Go.Am
open Go Go.Proofs
variable [Inhabited b9]
set_option maxRecDepth 20000
structure ID(p:Pg):Prop where
 fit:nN p=true
 lit:iT p.body=true
 Y4:(oH p).1=0
 lw:eT (uo p)<10000000
theorem HI{p:Pg}(h:nN p=true):p.vars.length<=64/\(∀v∈p.vars,dQ v=true)/\eP p.body=true:=by
 simp only[nN,Ds,acI,acn]at h;exact h.2
theorem Ep{p:Pg}(h:(oH p).1=0):(fg p.vars false p.body).1=0:=(cg.1 h).2
theorem akY{p:Pg}(h:ID p)(O:bu (eE p.body)<=64):Jf false (ah p.vars (eE p.body) (cJ p.vars)).1:=by
 have E:=(JY h.fit h.lit h.Y4 O).1;intro x H;by_cases I:0<=x.a
 ·exact⟨λ_=>I,λ_=>.inl I⟩
 ·refine⟨λT=>?_,λU=>?_⟩
  ·have:=(E.out x H (.inr T) (by omega)).1;omega
  ·rcases (E.out x H (.inl U) (by omega)).2 with e|⟨e,_⟩
   ·exact .inr (.inl e)
   ·cases e
theorem ab5{p:Pg}(h:ID p):ai ctx 37 [.d (uo p)] []=some (.ret (.d (uo (Ym p))),[]):=by
 obtain⟨V,Y,A2⟩:=MY (p:=p) (by have:=h.lw;simp only[uo]at this;omega);exact afy (lp:=false) V (HI h.fit).2.2 h.lit (Ep h.Y4) Y
def C5:Option (List ak×Int×Int)->D
 |none=>.agg [.list [],.int .i64 0,.int .i64 0]
 |some g=>.agg [.list (g.1.map cA),.int .i64 g.2.1,.int .i64 g.2.2]
def Y5:Option (List ak×Int×Int)->Int
 |none=>13
 |some _=>0
theorem On{p:Pg}(h:ID p):ai ctx 20 [.d (uo p)] []=some (.ret (.bh [.d (C5 (oP p)),.d (.int .i64 (Y5 (oP p)))]),[]):=by
 obtain⟨f1,f2,f3⟩:=HI h.fit;obtain⟨Z,A3,A4⟩:=U0 p h.lw;have J:=qH false p.body f3 h.lit (Ep h.Y4);have c:=afu (p:=p) (by omega) f2 J.1 J.2.2;have y:=AH p.vars (λv A'=>qI (f2 v A'));have A5:=CW p.vars [] 0 (by omega) (cg.1 h.Y4).1;have A6:=pQ (vs:=p.vars) (eE p.body) (cJ p.vars);have q1:=Z (cJ p.vars);have A0:=c ⟨[],cJ p.vars,0,[],[]⟩ (ao7 _) y ⟨by simp,by simp⟩ (by simp) (by simp only[acw];omega) (by simp only;omega) (by simp only[acw];omega);have A7:(0:Nat)+(ah p.vars (eE p.body) (cJ p.vars)).1.length=(ah p.vars (eE p.body) (cJ p.vars)).1.length:=by omega
 have A8:=sN (-2) (ah p.vars (eE p.body) (cJ p.vars)).1 0;have A1:=abZ p (by omega) f2 (ab5 h) _ A0 (by simp[Mk.aU];omega) (by simp[Mk.aU];omega) (by
  intro i hi;simp only[Mk.aU,ad8,acm,acw,pg]at hi⊢;obtain⟨j,e,A9⟩:=CZ _ _ _ i hi;exact⟨j,e,by omega⟩)
 rw[A1];simp only[Mk.aU,Mk.cW,Mk.put,ad8,acm,acw,pg,acq,Ho,aeh];unfold oP;simp only
 by_cases M:4096<(ah p.vars (eE p.body) (cJ p.vars)).1.length+1\/64<bu (eE p.body)
 ·rw[acs M,acs (by omega)];rfl
 ·rw[ach M,ach (by omega),afw (akY h (by omega))];rfl
end Go.Am
end
section
namespace Go.Am
open Go Go.Proofs Go.Proofs.Tryz
variable [Inhabited b9]
set_option maxRecDepth 20000
theorem HJ(s:Tx)(l:List Vr)(J:l.length<1000000)(k:Kt)(RF:Option Vr->b7)
 (D:∀w v,k .ret ⟨25,aD,[(4,true,.ptr 300 v 0),(5,true,.d (.bool true))],[⟨300,v,jH w⟩]⟩=RF (some w))
 (E:∀(v:Nat)(b c:AV),k (.exit 0) ⟨25,aD,[(0,true,.d (.list (l.map b8))),(1,true,.d (.str s)),(4,true,.ptr 300 v 0),(6,true,b),(10,true,c)],[⟨300,v,jH uM⟩]⟩=RF none):∀(rest pre:List Vr)(v:Nat),l=pre++rest->
 aO ctx 47 (.loop (Code.at (bg f47) [1,0,1,0,0])) ⟨25,aD,[(0,true,.d (.list (l.map b8))),(1,true,.d (.str s)),(4,true,.ptr 300 v 0),(6,true,.d (.int .i64 pre.length))],[⟨300,v,jH uM⟩]⟩ k=RF (bq rest s)
 |[],pre,v,H=>by
  have V:pre.length=l.length:=by rw[H];simp
  simp only[jH,uM]at E;rw[V,ag];simp[f47,E,bq,uM]
 |x::rest,pre,v,H=>by
  have T:pre.length<l.length:=by rw[H];simp
  have U:l[pre.length]=x:=by simp[H]
  have ih:=HJ s l J k RF D E rest (pre++[x]) v (by simp[H]);have M:IntKind.i64.wrap ((pre.length:Int)+1)=(pre.length:Int)+1:=aA (by unfold aY;omega);have D:=D x;simp only[jH]at D;rw[ag];by_cases O:x.name=s
  ·simp only[O]at D;simp[f47,uM];simp[T,U,b8,fB,O,D,bq]
  ·simp[f47,uM]at ih⊢;simp[T,U,b8,fB,O,M,ih,bq]
theorem ph{vs:List Vr}(J:vs.length<1000000)(s:Tx):ai ctx 47 [.d (.list (vs.map b8)),.d (.str s)] []=some (.ret (.bh [.d (b8 (fV vs s)),.d (.bool (bq vs s).isSome)]),[]):=by
 have h:=λk RF D E v=>HJ s vs J k RF D E vs [] v rfl;rw[anE (by simp)];unfold fV;simp[f47,uM]at h⊢;rw[h _ (λo=>some (.ret (.bh [.d (b8 (o.getD uM)),.d (.bool o.isSome)]),[]))]
 ·simp[uM]
 ·intro w v;simp[b8,fB]
 ·intro v b c;simp[b8,fB,uM]
theorem RV(k:Int):ai ctx 73 [.d (.int .i64 k)] []=some (.ret (.d (.list ((bI k).map dH))),[]):=by
 by_cases h:10<=k/\k<=31
 ·have:k=10\/k=11\/k=12\/k=13\/k=14\/k=15\/k=16\/k=17\/k=18\/k=19\/k=20\/k=21\/k=22\/k=23\/k=24\/k=25\/k=26\/k=27\/k=28\/k=29\/k=30\/k=31:=by omega
  rcases this with h|h|h|h|h|h|h|h|h|h|h|h|h|h|h|h|h|h|h|h|h|h<;>subst h
  ·exact auh
  ·exact aui
  ·exact auj
  ·exact auk
  ·exact aul
  ·exact aum
  ·exact aun
  ·exact auo
  ·exact aup
  ·exact auq
  ·exact aur
  ·exact aus
  ·exact aut
  ·exact auu
  ·exact auv
  ·exact auw
  ·exact auy
  ·exact auz
  ·exact auA
  ·exact auB
  ·exact auC
  ·exact auD
 ·have Y:bI k=[]:=by
   have e:∀n:Int,10<=n->n<=31->¬n=k:=λn a b c=>h (by omega);unfold bI MD;simp only[u9];rw[ach (e _ (by decide) (by decide)),ach (e _ (by decide) (by decide)),ach (e _ (by decide) (by decide)),ach (e _ (by decide) (by decide)),ach (e _ (by decide) (by decide)),ach (e _ (by decide) (by decide)),ach (e _ (by decide) (by decide)),ach (e _ (by decide) (by decide)),ach (e _ (by decide) (by decide)),ach (e _ (by decide) (by decide)),ach (e _ (by decide) (by decide)),ach (e _ (by decide) (by decide)),ach (e _ (by decide) (by decide)),ach (e _ (by decide) (by decide)),ach (e _ (by decide) (by decide)),ach (e _ (by decide) (by decide)),ach (e _ (by decide) (by decide)),ach (e _ (by decide) (by decide)),ach (e _ (by decide) (by decide)),ach (e _ (by decide) (by decide)),ach (e _ (by decide) (by decide))]
  rw[Y];rw[anU (by simp)];by_cases D:k<10
  ·simp[f73,D]
  ·have E:31<k:=by omega
   simp[f73,D,E]
theorem ab6{w:Vr}(Z:w.arr=true->0<=w.lo/\w.lo<=w.hi/\w.hi<=255):ai ctx 48 [.d (.agg (fB w))] []=some (.ret (.d (.int .i64 (bX w))),[]):=by
 have y:=RV w.ty;rw[anF (by simp)];unfold bX;cases I:w.arr with
 |true=>
  have A0:=Z I;have M:IntKind.i64.wrap (w.hi-w.lo)=w.hi-w.lo:=aA (by unfold aY;omega);have A':IntKind.i64.wrap (w.hi-w.lo+1)=w.hi-w.lo+1:=aA (by unfold aY;omega);simp[f48,fB,I,M,A']
 |false=>
  by_cases E:2<w.ty
  ·simp[f48,fB,I,E,y]
  ·simp[f48,fB,I,E]
def Es(p:Pn):aJ:=.box [.d (.str p.name),.d (.int .i64 p.ty),.d (.bool p.PH)]
theorem J6(s:Tx)(l:List Pn)(U:l.length<1000000)(k:Kt)(RF:Option Pn->b7)
 (D:∀w v,k .ret ⟨32,aD,[(4,true,.ptr 300 v 0),(5,true,.d (.bool true))],[⟨300,v,Es w⟩]⟩=RF (some w))
 (H:∀(v:Nat)(b c:AV),k (.exit 0) ⟨32,aD,[(1,true,.d (.str s)),(4,true,.ptr 300 v 0),(6,true,.d (.list (l.map dH))),(7,true,b),(13,true,c)],[⟨300,v,Es xD⟩]⟩=RF none):∀(rest pre:List Pn)(v:Nat),l=pre++rest->
 aO ctx 200 (.loop (Code.at (bg f200) [1,1,0,1,0,0])) ⟨32,aD,[(1,true,.d (.str s)),(4,true,.ptr 300 v 0),(6,true,.d (.list (l.map dH))),(7,true,.d (.int .i64 pre.length))],[⟨300,v,Es xD⟩]⟩ k=RF (Ax rest s)
 |[],pre,v,I=>by
  have Z:pre.length=l.length:=by rw[I];simp
  simp only[Es,xD]at H;rw[Z,ag];simp[f200,Es,H,Ax,xD]
 |x::rest,pre,v,I=>by
  have J:pre.length<l.length:=by rw[I];simp
  have V:l[pre.length]=x:=by simp[I]
  have ih:=J6 s l U k RF D H rest (pre++[x]) v (by simp[I]);have Y:IntKind.i64.wrap ((pre.length:Int)+1)=(pre.length:Int)+1:=aA (by unfold aY;omega);have D:=D x;simp only[Es]at D;rw[ag];by_cases M:s=[]
  ·simp only[M]at ih⊢;simp[f200,Es,xD]at ih⊢;simp[J,Y,ih,Ax]
  ·by_cases O:x.name=s
   ·simp only[O]at D;simp[f200,Es,xD];simp[J,V,dH,O,M,D,Ax]
   ·simp[f200,Es,xD]at ih⊢;simp[J,V,dH,O,M,Y,ih,Ax]
theorem Y6(q:Int)(s:Tx):ai ctx 200 [.d (.int .i64 q),.d (.str s)] []=some (.ret (.bh [.d (dH (fP q s)),.d (.bool (nh q s).isSome)]),[]):=by
 have U:=Cw q;have y:=RV q;have h:=λk RF D H v=>J6 s (bI q) (by omega) k RF D H (bI q) [] v rfl;rw[air (by simp)];unfold fP nh;simp[f200,Es,xD]at h⊢;simp[y];rw[h _ (λo=>some (.ret (.bh [.d (dH (o.getD xD)),.d (.bool o.isSome)]),[]))]
 ·simp[xD]
 ·intro w v;simp[dH]
 ·intro v b c;simp[dH,xD]
def fj(t:Te):AV:=.bh [.d (.int .i64 t.t),.d (.agg [.int .i64 t.e,.int .i64 t.line])]
def RT(vs:List Vr)(x:Ex):Prop:=ai ctx 130 [.d (.list (vs.map b8)),.d (.agg [.int .i64 (cq x),.int .i64 (jG x),.str (ew x),.str (gK x),.list ((dq x).map cj),.int .i64 (lJ x)])] []=some (.ret (fj (aK vs x)),[])
def ee(e:EL):AV:=.d (.agg [.int .i64 e.1,.int .i64 e.2])
def HK(vs:List Vr)(x:Ex)(t:Int):EL:=if (aK vs x).e=0/\(aK vs x).t≠t then (10,lJ x)else ((aK vs x).e,(aK vs x).line)
theorem FA{vs:List Vr}{x:Ex}(h:RT vs x):ai ctx 201 [.d (.list (vs.map b8)),.d (.agg [.int .i64 (cq x),.int .i64 (jG x),.str (ew x),.str (gK x),.list ((dq x).map cj),.int .i64 (lJ x)])] []=some (.ret (ee (HK vs x 1)),[]):=by
 unfold RT at h;rw[ais (by simp)];unfold HK;generalize aK vs x=T at*;by_cases E:T.e=0
 ·by_cases D:T.t=1
  ·simp[f201,fj,ee,E,D,h]
  ·simp[f201,fj,ee,E,D,h]
 ·simp[f201,fj,ee,E,h]
theorem sO{vs:List Vr}{x:Ex}(t:Int)(h:RT vs x):ai ctx 131 [.d (.list (vs.map b8)),.d (.agg [.int .i64 (cq x),.int .i64 (jG x),.str (ew x),.str (gK x),.list ((dq x).map cj),.int .i64 (lJ x)]),.d (.int .i64 t)] []=some (.ret (ee (HK vs x t)),[]):=by
 unfold RT at h;rw[ah9 (by simp)];unfold HK;generalize aK vs x=T at*;by_cases E:T.e=0
 ·by_cases D:T.t=t
  ·simp[f131,fj,ee,E,D,h]
  ·simp[f131,fj,ee,E,D,h]
 ·simp[f131,fj,ee,E,h]
section
variable {vs:List Vr} (M:vs.length<1000000) (A0:∀v∈vs,dQ v=true)
theorem akZ{op nn line:Int}{name field:Tx}{sub:List Ex}(h:op=1\/op=2):RT vs (.mk op nn name field sub line):=by
 unfold RT;rw[fC (by simp)];have e:aK vs (.mk op nn name field sub line)=fT op:=by
  unfold aK;rw[acs h]
 rw[e];rcases h with h|h<;>subst h<;>simp[f130,fj,fT]
include M in
theorem Za{nn line:Int}{name field:Tx}{sub:List Ex}:RT vs (.mk 5 nn name field sub line):=by
 unfold RT;have D:=ph (vs:=vs) M name;rw[fC (by simp)];have e:aK vs (.mk 5 nn name field sub line)=(match bq vs name with
  |none=>db 9 line
  |some v=>(if v.ty<=2 then db 10 line else match nh v.ty field with
   |none=>db 9 line
   |some p=>fT p.ty)):=by
  unfold aK;rw[ach (by decide),acs (by decide)];rfl
 rw[e];cases J:bq vs name with
 |none=>
  simp[J,fV,b8,fB,uM]at D;simp[f130,fj,db,D,ay]
 |some v=>
  have Y:=Y6 v.ty field;simp[J,fV,b8,fB]at D;by_cases E:v.ty<=2
  ·simp[f130,fj,db,D,ay,E]
  ·cases Z:nh v.ty field with
   |none=>
    simp[Z,fP,dH,xD]at Y;simp[f130,fj,db,D,ay,E,Y,Z]
   |some p=>
    simp[Z,fP,dH]at Y;simp[f130,fj,fT,D,ay,E,Y,Z]
include M in
theorem afz{nn line:Int}{name field:Tx}{v:Vr}{y:Ex}{T:Te}(J:bq vs name=some v)(H:v.arr=true)(E:¬2<v.ty)(O:RT vs y)(V:aK vs y=T)(I:T.e=0)(U:T.t=1):ai ctx 130 [.d (.list (vs.map b8)),.d (.agg [.int .i64 4,.int .i64 nn,.str name,.str field,.list ([y].map cj),.int .i64 line])] []=some (.ret (fj (fT v.ty)),[]):=by
 have D:=ph (vs:=vs) M name;have hi:=FA O;unfold HK ee at hi;rw[V]at hi;clear V O;rw[fC (by simp)];simp[J,fV,b8,fB]at D;simp[I,U]at hi;simp[f130,fj,fT,db,D,ay,H,E,aI,hi,I,U]
include M in
theorem afA{nn line:Int}{name field:Tx}{v:Vr}{y:Ex}{T:Te}(J:bq vs name=some v)(H:v.arr=true)(E:¬2<v.ty)(O:RT vs y)(V:aK vs y=T)(I:T.e=0)(U:¬T.t=1):ai ctx 130 [.d (.list (vs.map b8)),.d (.agg [.int .i64 4,.int .i64 nn,.str name,.str field,.list ([y].map cj),.int .i64 line])] []=some (.ret (fj (db 10 (lJ y))),[]):=by
 have D:=ph (vs:=vs) M name;have hi:=FA O;unfold HK ee at hi;rw[V]at hi;clear V O;rw[fC (by simp)];simp[J,fV,b8,fB]at D;simp[I,U]at hi;simp[f130,fj,fT,db,D,ay,H,E,aI,hi,I,U]
include M in
theorem afB{nn line:Int}{name field:Tx}{v:Vr}{y:Ex}{T:Te}(J:bq vs name=some v)(H:v.arr=true)(E:¬2<v.ty)(O:RT vs y)(V:aK vs y=T)(I:¬T.e=0):ai ctx 130 [.d (.list (vs.map b8)),.d (.agg [.int .i64 4,.int .i64 nn,.str name,.str field,.list ([y].map cj),.int .i64 line])] []=some (.ret (fj (db T.e T.line)),[]):=by
 have D:=ph (vs:=vs) M name;have hi:=FA O;unfold HK ee at hi;rw[V]at hi;clear V O;rw[fC (by simp)];simp[J,fV,b8,fB]at D;simp[I]at hi;simp[f130,fj,fT,db,D,ay,H,E,aI,hi,I]
include M in
theorem afC{op nn line:Int}{name field:Tx}{sub:List Ex}(h:op=3\/op=4)(c:op=4->∃y,sub=[y]/\RT vs y):RT vs (.mk op nn name field sub line):=by
 unfold RT;have D:=ph (vs:=vs) M name;have e:aK vs (.mk op nn name field sub line)=(match bq vs name with
  |none=>db 9 line
  |some v=>if v.arr≠decide (op=4)\/2<v.ty then db 10 line else if op=4 then za vs v.ty sub else fT v.ty):=by
  conv=>lhs;unfold aK
  rw[ach (by omega),acs (by omega)];cases bq vs name with
  |none=>rfl
  |some v=>
   simp only
   rw[ach (by omega)]
 rw[e];clear e;cases J:bq vs name with
 |none=>
  simp[J,fV,b8,fB,uM]at D;rcases h with h|h<;>subst h<;>rw[fC (by simp)]<;>simp[f130,fj,db,D,ay]
 |some v=>
  simp[J,fV,b8,fB]at D;rcases h with h|h<;>subst h
  ·cases H:v.arr with
   |true=>(rw[fC (by simp)];simp[f130,fj,db,D,ay,H])
   |false=>
    by_cases E:2<v.ty
    ·(rw[fC (by simp)];simp[f130,fj,db,D,ay,H,E])
    ·(rw[fC (by simp)];simp[f130,fj,fT,D,ay,H,E])
  ·cases H:v.arr with
   |false=>(rw[fC (by simp)];simp[f130,fj,db,D,ay,H])
   |true=>
    by_cases E:2<v.ty
    ·(rw[fC (by simp)];simp[f130,fj,db,D,ay,H,E])
    ·obtain⟨y,A',O⟩:=c rfl;subst A';simp only[za,pO,y9,Cv,MB,rB,WC];by_cases I:(aK vs y).e=0
     ·by_cases U:(aK vs y).t=1
      ·have:=afz (nn:=nn) (line:=line) (field:=field) M J H E O rfl I U;simpa [I,U,E,H,fT]using this
      ·have:=afA (nn:=nn) (line:=line) (field:=field) M J H E O rfl I U;simpa [I,U,E,H,db]using this
     ·have:=afB (nn:=nn) (line:=line) (field:=field) M J H E O rfl I;simpa [I,E,H,db]using this
end
section
variable {vs:List Vr}
set_option maxHeartbeats 1000000 in
theorem aoO{nn line:Int}{name field:Tx}{a:Ex}(h:RT vs a):RT vs (.mk 6 nn name field [a] line):=by
 have e:aK vs (.mk 6 nn name field [a] line)=cM 6 line (aK vs a) (aK vs a):=by
  conv=>lhs;unfold aK
  rw[ach (by omega),ach (by omega)];rfl
 unfold RT at h⊢;rw[e,fC (by simp)];clear e;generalize aK vs a=T at*;simp[fj]at h;simp[f130,fj,ay,aI,h];by_cases D:T.e=0
 ·by_cases H:T.t=1<;>simp[D,H,cM,im,iS,fT,db]
 ·simp[D,cM]
set_option maxHeartbeats 1000000 in
theorem aoP{nn line:Int}{name field:Tx}{a:Ex}(h:RT vs a):RT vs (.mk 7 nn name field [a] line):=by
 have e:aK vs (.mk 7 nn name field [a] line)=cM 7 line (aK vs a) (aK vs a):=by
  conv=>lhs;unfold aK
  rw[ach (by omega),ach (by omega)];rfl
 unfold RT at h⊢;rw[e,fC (by simp)];clear e;generalize aK vs a=T at*;simp[fj]at h;simp[f130,fj,ay,aI,h];by_cases D:T.e=0
 ·by_cases H:T.t=2<;>simp[D,H,cM,im,iS,fT,db]
 ·simp[D,cM]
set_option maxHeartbeats 1000000 in
theorem aoQ{nn line:Int}{name field:Tx}{a b:Ex}(h:RT vs a)(E:RT vs b):RT vs (.mk 8 nn name field [a,b] line):=by
 have e:aK vs (.mk 8 nn name field [a,b] line)=cM 8 line (aK vs a) (aK vs b):=by
  conv=>lhs;unfold aK
  rw[ach (by omega),ach (by omega)];rfl
 unfold RT at h E⊢;rw[e,fC (by simp)];clear e;generalize aK vs a=T at*;generalize aK vs b=I at*;simp[fj]at h E;simp[f130,fj,ay,aI,h,E];by_cases D:T.e=0
 ·by_cases H:I.e=0
  ·by_cases M:T.t=1<;>by_cases J:I.t=1<;>simp[D,H,M,J,cM,im,iS,fT,db]
  ·simp[D,H,cM]
 ·simp[D,cM]
set_option maxHeartbeats 1000000 in
theorem aoR{nn line:Int}{name field:Tx}{a b:Ex}(h:RT vs a)(E:RT vs b):RT vs (.mk 9 nn name field [a,b] line):=by
 have e:aK vs (.mk 9 nn name field [a,b] line)=cM 9 line (aK vs a) (aK vs b):=by
  conv=>lhs;unfold aK
  rw[ach (by omega),ach (by omega)];rfl
 unfold RT at h E⊢;rw[e,fC (by simp)];clear e;generalize aK vs a=T at*;generalize aK vs b=I at*;simp[fj]at h E;simp[f130,fj,ay,aI,h,E];by_cases D:T.e=0
 ·by_cases H:I.e=0
  ·by_cases M:T.t=1<;>by_cases J:I.t=1<;>simp[D,H,M,J,cM,im,iS,fT,db]
  ·simp[D,H,cM]
 ·simp[D,cM]
set_option maxHeartbeats 1000000 in
theorem ak0{nn line:Int}{name field:Tx}{a b:Ex}(h:RT vs a)(E:RT vs b):RT vs (.mk 10 nn name field [a,b] line):=by
 have e:aK vs (.mk 10 nn name field [a,b] line)=cM 10 line (aK vs a) (aK vs b):=by
  conv=>lhs;unfold aK
  rw[ach (by omega),ach (by omega)];rfl
 unfold RT at h E⊢;rw[e,fC (by simp)];clear e;generalize aK vs a=T at*;generalize aK vs b=I at*;simp[fj]at h E;simp[f130,fj,ay,aI,h,E];by_cases D:T.e=0
 ·by_cases H:I.e=0
  ·by_cases M:T.t=1<;>by_cases J:I.t=1<;>simp[D,H,M,J,cM,im,iS,fT,db]
  ·simp[D,H,cM]
 ·simp[D,cM]
set_option maxHeartbeats 1000000 in
theorem ak1{nn line:Int}{name field:Tx}{a b:Ex}(h:RT vs a)(E:RT vs b):RT vs (.mk 11 nn name field [a,b] line):=by
 have e:aK vs (.mk 11 nn name field [a,b] line)=cM 11 line (aK vs a) (aK vs b):=by
  conv=>lhs;unfold aK
  rw[ach (by omega),ach (by omega)];rfl
 unfold RT at h E⊢;rw[e,fC (by simp)];clear e;generalize aK vs a=T at*;generalize aK vs b=I at*;simp[fj]at h E;simp[f130,fj,ay,aI,h,E];by_cases D:T.e=0
 ·by_cases H:I.e=0
  ·by_cases M:T.t=1<;>by_cases J:I.t=1<;>simp[D,H,M,J,cM,im,iS,fT,db]
  ·simp[D,H,cM]
 ·simp[D,cM]
set_option maxHeartbeats 1000000 in
theorem ak2{nn line:Int}{name field:Tx}{a b:Ex}(h:RT vs a)(E:RT vs b):RT vs (.mk 12 nn name field [a,b] line):=by
 have e:aK vs (.mk 12 nn name field [a,b] line)=cM 12 line (aK vs a) (aK vs b):=by
  conv=>lhs;unfold aK
  rw[ach (by omega),ach (by omega)];rfl
 unfold RT at h E⊢;rw[e,fC (by simp)];clear e;generalize aK vs a=T at*;generalize aK vs b=I at*;simp[fj]at h E;simp[f130,fj,ay,aI,h,E];by_cases D:T.e=0
 ·by_cases H:I.e=0
  ·by_cases M:T.t=1<;>by_cases J:I.t=1<;>simp[D,H,M,J,cM,im,iS,fT,db]
  ·simp[D,H,cM]
 ·simp[D,cM]
set_option maxHeartbeats 1000000 in
theorem ak3{nn line:Int}{name field:Tx}{a b:Ex}(h:RT vs a)(E:RT vs b):RT vs (.mk 13 nn name field [a,b] line):=by
 have e:aK vs (.mk 13 nn name field [a,b] line)=cM 13 line (aK vs a) (aK vs b):=by
  conv=>lhs;unfold aK
  rw[ach (by omega),ach (by omega)];rfl
 unfold RT at h E⊢;rw[e,fC (by simp)];clear e;generalize aK vs a=T at*;generalize aK vs b=I at*;simp[fj]at h E;simp[f130,fj,ay,aI,h,E];by_cases D:T.e=0
 ·by_cases H:I.e=0
  ·by_cases J:I.t=T.t<;>simp[D,H,J,cM,im,iS,fT,db]
  ·simp[D,H,cM]
 ·simp[D,cM]
end
section
variable {vs:List Vr}
set_option maxHeartbeats 1000000 in
theorem ak4{nn line:Int}{name field:Tx}{a b:Ex}(h:RT vs a)(D:RT vs b):RT vs (.mk 14 nn name field [a,b] line):=by
 have e:aK vs (.mk 14 nn name field [a,b] line)=cM 14 line (aK vs a) (aK vs b):=by
  conv=>lhs;unfold aK
  rw[ach (by omega),ach (by omega)];rfl
 unfold RT at h D⊢;rw[e,fC (by simp)];clear e;generalize aK vs a=T at*;generalize aK vs b=H at*;simp[fj]at h D;simp[f130,fj,ay,aI,h,D];by_cases E:T.e=0
 ·by_cases I:H.e=0
  ·by_cases J:H.t=T.t<;>simp[E,I,J,cM,im,iS,fT,db]
  ·simp[E,I,cM]
 ·simp[E,cM]
set_option maxHeartbeats 1000000 in
theorem ak5{nn line:Int}{name field:Tx}{a b:Ex}(h:RT vs a)(D:RT vs b):RT vs (.mk 15 nn name field [a,b] line):=by
 have e:aK vs (.mk 15 nn name field [a,b] line)=cM 15 line (aK vs a) (aK vs b):=by
  conv=>lhs;unfold aK
  rw[ach (by omega),ach (by omega)];rfl
 unfold RT at h D⊢;rw[e,fC (by simp)];clear e;generalize aK vs a=T at*;generalize aK vs b=H at*;simp[fj]at h D;simp[f130,fj,ay,aI,h,D];by_cases E:T.e=0
 ·by_cases I:H.e=0
  ·by_cases M:T.t=1<;>by_cases J:H.t=1<;>simp[E,I,M,J,cM,im,iS,fT,db]
  ·simp[E,I,cM]
 ·simp[E,cM]
set_option maxHeartbeats 1000000 in
theorem ak6{nn line:Int}{name field:Tx}{a b:Ex}(h:RT vs a)(D:RT vs b):RT vs (.mk 16 nn name field [a,b] line):=by
 have e:aK vs (.mk 16 nn name field [a,b] line)=cM 16 line (aK vs a) (aK vs b):=by
  conv=>lhs;unfold aK
  rw[ach (by omega),ach (by omega)];rfl
 unfold RT at h D⊢;rw[e,fC (by simp)];clear e;generalize aK vs a=T at*;generalize aK vs b=H at*;simp[fj]at h D;simp[f130,fj,ay,aI,h,D];by_cases E:T.e=0
 ·by_cases I:H.e=0
  ·by_cases M:T.t=1<;>by_cases J:H.t=1<;>simp[E,I,M,J,cM,im,iS,fT,db]
  ·simp[E,I,cM]
 ·simp[E,cM]
set_option maxHeartbeats 1000000 in
theorem ak7{nn line:Int}{name field:Tx}{a b:Ex}(h:RT vs a)(D:RT vs b):RT vs (.mk 17 nn name field [a,b] line):=by
 have e:aK vs (.mk 17 nn name field [a,b] line)=cM 17 line (aK vs a) (aK vs b):=by
  conv=>lhs;unfold aK
  rw[ach (by omega),ach (by omega)];rfl
 unfold RT at h D⊢;rw[e,fC (by simp)];clear e;generalize aK vs a=T at*;generalize aK vs b=H at*;simp[fj]at h D;simp[f130,fj,ay,aI,h,D];by_cases E:T.e=0
 ·by_cases I:H.e=0
  ·by_cases M:T.t=1<;>by_cases J:H.t=1<;>simp[E,I,M,J,cM,im,iS,fT,db]
  ·simp[E,I,cM]
 ·simp[E,cM]
set_option maxHeartbeats 1000000 in
theorem ak8{nn line:Int}{name field:Tx}{a b:Ex}(h:RT vs a)(D:RT vs b):RT vs (.mk 18 nn name field [a,b] line):=by
 have e:aK vs (.mk 18 nn name field [a,b] line)=cM 18 line (aK vs a) (aK vs b):=by
  conv=>lhs;unfold aK
  rw[ach (by omega),ach (by omega)];rfl
 unfold RT at h D⊢;rw[e,fC (by simp)];clear e;generalize aK vs a=T at*;generalize aK vs b=H at*;simp[fj]at h D;simp[f130,fj,ay,aI,h,D];by_cases E:T.e=0
 ·by_cases I:H.e=0
  ·by_cases M:T.t=1<;>by_cases J:H.t=1<;>simp[E,I,M,J,cM,im,iS,fT,db]
  ·simp[E,I,cM]
 ·simp[E,cM]
set_option maxHeartbeats 1000000 in
theorem ak9{nn line:Int}{name field:Tx}{a b:Ex}(h:RT vs a)(D:RT vs b):RT vs (.mk 19 nn name field [a,b] line):=by
 have e:aK vs (.mk 19 nn name field [a,b] line)=cM 19 line (aK vs a) (aK vs b):=by
  conv=>lhs;unfold aK
  rw[ach (by omega),ach (by omega)];rfl
 unfold RT at h D⊢;rw[e,fC (by simp)];clear e;generalize aK vs a=T at*;generalize aK vs b=H at*;simp[fj]at h D;simp[f130,fj,ay,aI,h,D];by_cases E:T.e=0
 ·by_cases I:H.e=0
  ·by_cases M:T.t=2<;>by_cases J:H.t=2<;>simp[E,I,M,J,cM,im,iS,fT,db]
  ·simp[E,I,cM]
 ·simp[E,cM]
set_option maxHeartbeats 1000000 in
theorem ala{nn line:Int}{name field:Tx}{a b:Ex}(h:RT vs a)(D:RT vs b):RT vs (.mk 20 nn name field [a,b] line):=by
 have e:aK vs (.mk 20 nn name field [a,b] line)=cM 20 line (aK vs a) (aK vs b):=by
  conv=>lhs;unfold aK
  rw[ach (by omega),ach (by omega)];rfl
 unfold RT at h D⊢;rw[e,fC (by simp)];clear e;generalize aK vs a=T at*;generalize aK vs b=H at*;simp[fj]at h D;simp[f130,fj,ay,aI,h,D];by_cases E:T.e=0
 ·by_cases I:H.e=0
  ·by_cases M:T.t=2<;>by_cases J:H.t=2<;>simp[E,I,M,J,cM,im,iS,fT,db]
  ·simp[E,I,cM]
 ·simp[E,cM]
set_option maxHeartbeats 1000000 in
theorem alb{nn line:Int}{name field:Tx}{a b:Ex}(h:RT vs a)(D:RT vs b):RT vs (.mk 21 nn name field [a,b] line):=by
 have e:aK vs (.mk 21 nn name field [a,b] line)=cM 21 line (aK vs a) (aK vs b):=by
  conv=>lhs;unfold aK
  rw[ach (by omega),ach (by omega)];rfl
 unfold RT at h D⊢;rw[e,fC (by simp)];clear e;generalize aK vs a=T at*;generalize aK vs b=H at*;simp[fj]at h D;simp[f130,fj,ay,aI,h,D];by_cases E:T.e=0
 ·by_cases I:H.e=0
  ·by_cases M:T.t=2<;>by_cases J:H.t=2<;>simp[E,I,M,J,cM,im,iS,fT,db]
  ·simp[E,I,cM]
 ·simp[E,cM]
end
end Go.Am
end
section
namespace Go.Am
open Go Go.Proofs
variable [Inhabited b9]
set_option maxRecDepth 20000
theorem alc{vs:List Vr}{op nn line:Int}{name field:Tx}{a b:Ex}(A7:8<=op)(A8:op<=21)(h:RT vs a)(D:RT vs b):RT vs (.mk op nn name field [a,b] line):=by
 have A':op=8\/op=9\/op=10\/op=11\/op=12\/op=13\/op=14\/op=15\/op=16\/op=17\/op=18\/op=19\/op=20\/op=21:=by omega
 rcases A' with e|e|e|e|e|e|e|e|e|e|e|e|e|e<;>subst e
 ·exact aoQ h D
 ·exact aoR h D
 ·exact ak0 h D
 ·exact ak1 h D
 ·exact ak2 h D
 ·exact ak3 h D
 ·exact ak4 h D
 ·exact ak5 h D
 ·exact ak6 h D
 ·exact ak7 h D
 ·exact ak8 h D
 ·exact ak9 h D
 ·exact ala h D
 ·exact alb h D
section
variable {vs:List Vr} (I:vs.length<1000000)
include I
mutual
theorem vz:∀x:Ex,bC x=true->RT vs x
 | .mk op nn name field sub line,E=>by
  simp only[bC,Ds,acn,agD,afY]at E;obtain⟨A9,H,_,_,A0⟩:=E;have ih:=FC sub A0;unfold eF at H;by_cases A1:op=1\/op=2
  ·exact akZ A1
  ·by_cases A2:op=5
   ·subst A2;exact Za I
   ·by_cases A3:op=3\/op=4
    ·refine afC I A3 (λA4=>?_);rw[acs (.inl A4)]at H;match sub,H with
     |[y],_=>exact⟨y,rfl,ih y (by simp)⟩
    ·by_cases Y:op=6\/op=7
     ·rw[acs (.inr Y)]at H;match sub,H with
      |[y],_=>
       rcases Y with e|e<;>subst e
       ·exact aoO (ih y (by simp))
       ·exact aoP (ih y (by simp))
     ·rw[ach (by omega),acs (by omega)]at H;match sub,H with
      |[y,z],_=>exact alc (by omega) (by omega) (ih y (by simp)) (ih z (by simp))
theorem FC:∀l:List Ex,bO l=true->∀y∈l,RT vs y
 |[],_,y,J=>by simp at J
 |x::r,E,y,J=>by
  simp only[bO,Ds]at E;rcases aco.1 J with e|J
  ·rw[e];exact vz x E.1
  ·exact FC r E.2 y J
end
end
theorem J7{op line:Int}{a b:Te}(h:(cM op line a b).e=0):(cM op line a b).line=0:=by
 rw[(jy h).2.2.2.2];rfl
theorem ab7(vs:List Vr):∀x:Ex,(aK vs x).e=0->(aK vs x).line=0
 | .mk op nn name field sub line,h=>by
  unfold aK at h⊢;split at h
  ·rename_i c;rw[acs c];rfl
  ·rename_i c;rw[ach c];split at h
   ·rename_i M;rw[acs M];cases E:bq vs name with
    |none=>rw[E]at h;simp[db]at h
    |some v=>
     rw[E]at h;simp only at h⊢;split at h
     ·rename_i O;rw[acs O];split at h
      ·simp[db]at h
      ·rename_i T;rw[ach T];cases A5:nh v.ty field with
       |none=>rw[A5]at h;simp[db]at h
       |some p=>rfl
     ·rename_i O;rw[ach O];split at h
      ·simp[db]at h
      ·rename_i T;rw[ach T];split at h
       ·rename_i U;rw[acs U];cases sub with
        |nil=>rfl
        |cons y r=>
         simp only[za]at h⊢;split at h
         ·rename_i V;exact absurd h V
         ·rename_i V;rw[ach V];split at h
          ·simp[db]at h
          ·rename_i A6;rw[ach A6];rfl
       ·rename_i U;rw[ach U];rfl
   ·rename_i M;rw[ach M];match sub,h with
    |[],_=>rfl
    |[y],h=>exact J7 h
    |y::z::_,h=>exact J7 h
theorem sP(vs:List Vr)(x:Ex)(t:Int):HK vs x t=dZ vs x t:=by
 unfold HK dZ;have:=ab7 vs x;by_cases h:(aK vs x).e=0
 ·have I:=this h;by_cases Z:(aK vs x).t=t
  ·simp[h,Z,I]
  ·simp[h,Z]
 ·simp[h]
end Go.Am
end
section
namespace Go.Am
open Go Go.Proofs Go.Proofs.Tryz
variable [Inhabited b9]
set_option maxRecDepth 20000
def RM(vs:List Vr)(lp:Bool)(x:Sm):Prop:=ai ctx 89 [.d (.list (vs.map b8)),.d (.agg (smL x)),.d (.bool lp)] []=some (.ret (ee (eA (kZ vs lp x))),[])
def rQ(vs:List Vr)(lp:Bool)(l:List Sm):Prop:=ai ctx 49 [.d (.list (vs.map b8)),.d (.list (l.map dc)),.d (.bool lp)] []=some (.ret (ee (eA (fg vs lp l))),[])
@[simp] def jh(e:EL):aJ:=.box [.d (.int .i64 e.1),.d (.int .i64 e.2)]
theorem Oo{vs:List Vr}{lp:Bool}{l:List Sm}(O:l.length<100000000)(M:∀x∈l,RM vs lp x)(k:Kt)(RF:EL->b7)
 (D:∀e u v X,k .ret ⟨27,aD,[(6,true,.ptr 400 u 0)],[⟨400,u,jh e⟩,⟨500,v,X⟩]⟩=RF e)
 (I:∀(u v:Nat)(X:aJ)(b c:AV),k (.exit 0) ⟨27,aD,[(0,true,.d (.list (vs.map b8))),(1,true,.d (.list (l.map dc))),(2,true,.d (.bool lp)),(6,true,.ptr 400 u 0),(7,true,b),(12,true,c)],[⟨400,u,jh (0,0)⟩,⟨500,v,X⟩]⟩=RF (0,0)):∀(rest pre:List Sm)(u v:Nat)(X:aJ),l=pre++rest->
 aO ctx 49 (.loop (Code.at (bg f49) [1,0,1,0,0])) ⟨27,aD,[(0,true,.d (.list (vs.map b8))),(1,true,.d (.list (l.map dc))),(2,true,.d (.bool lp)),(6,true,.ptr 400 u 0),(7,true,.d (.int .i64 pre.length))],[⟨400,u,jh (0,0)⟩,⟨500,v,X⟩]⟩ k=RF (eA (fg vs lp rest))
 |[],pre,u,v,X,H=>by
  have V:pre.length=l.length:=by rw[H];simp
  simp only[jh]at I;rw[V,ag];simp[f49,I,fg,eA]
 |x::rest,pre,u,v,X,H=>by
  have T:pre.length<l.length:=by rw[H];simp
  have U:l[pre.length]=x:=by simp[H]
  have hm:=M x (by rw[H];simp);have ih:=λu v X=>Oo O M k RF D I rest (pre++[x]) u v X (by simp[H]);have Y:IntKind.i64.wrap ((pre.length:Int)+1)=(pre.length:Int)+1:=aA (by unfold aY;omega);have key:fg vs lp (x::rest)=gj (kZ vs lp x) (fg vs lp rest):=by rw[fg]
  rw[key];unfold RM ee at hm;generalize kZ vs lp x=E at*;generalize fg vs lp rest=F at*;simp only[jh]at D;rw[ag];by_cases J:E.1=0
  ·rw[ni J];simp[eA,J]at hm;simp[f49]at ih⊢;simp[T,U,fR,hm,Y,ih]
  ·rw[rH J];have D:=D E;simp[eA,J]at hm;simp[f49];simp[T,U,fR,hm,J,D,eA]
theorem Oq{vs:List Vr}{lp:Bool}{l:List Sm}(O:l.length<100000000)(M:∀x∈l,RM vs lp x):rQ vs lp l:=by
 unfold rQ;have h:=λk RF D I u v X=>Oo O M k RF D I l [] u v X rfl;rw[anG (by simp)];simp[f49]at h⊢;rw[h _ (λe=>some (.ret (ee e),[]))]
 ·intro a b u v X;simp[ee]
 ·intro u v X b c;simp[ee]
theorem ald{w:Vr}(h:dQ w=true):w.arr=true->0<=w.lo/\w.lo<=w.hi/\w.hi<=255:=by
 intro A8;simp only[dQ,Ds,A8,adZ,acn]at h;exact h.2.2.1.2
theorem Ot(l:List Vr)(A9:l.length<=1000)(M:∀v∈l,dQ v=true)(H I:AV)(k:Kt)(RF:EL->b7)
 (O:∀e u v X,e.1≠0->k .ret ⟨58,aD,[(2,true,.ptr 200 u 0)],[⟨150,1,.box [H,.d (.list (l.map b8)),I]⟩,⟨200,u,jh e⟩,⟨350,v,X⟩]⟩=RF e)
 (T:∀(u v:Nat)(X:aJ)(a b c:AV),k (.exit 0) ⟨58,aD,[(1,true,.ptr 150 1 0),(2,true,.ptr 200 u 0),(3,true,a),(4,true,b),(11,true,c)],[⟨150,1,.box [H,.d (.list (l.map b8)),I]⟩,⟨200,u,jh (0,0)⟩,⟨350,v,X⟩]⟩=RF (0,0)):∀(rest pre:List Vr)(n:Int)(u v:Nat)(X:aJ),l=pre++rest->0<=n->n<=1024->
 aO ctx 19 (.loop (Code.at (bg f19) [1,1,0,1,0,0])) ⟨58,aD,[(1,true,.ptr 150 1 0),(2,true,.ptr 200 u 0),(3,true,.d (.int .i64 n)),(4,true,.d (.int .i64 pre.length))],[⟨150,1,.box [H,.d (.list (l.map b8)),I]⟩,⟨200,u,jh (0,0)⟩,⟨350,v,X⟩]⟩ k=RF (Jx rest pre n)
 |[],pre,n,u,v,X,D,AA,AB=>by
  have AC:pre.length=l.length:=by rw[D];simp
  simp only[jh]at T;rw[AC,ag];simp[f19,T,Jx]
 |x::rest,pre,n,u,v,X,D,AA,AB=>by
  have U:pre.length<l.length:=by rw[D];simp
  have Y:l[pre.length]=x:=by simp[D]
  have Z:List.take pre.length (List.map b8 l)=List.map b8 pre:=by simp[D]
  have y:pre.length<=l.length:=by omega
  have A0:=M x (by rw[D];simp);have AF:=tc A0;have A':=ab6 (ald A0);have J:=ph (vs:=pre) (by omega) x.name;have ih:=λu v X=>Ot l A9 M H I k RF O T rest (pre++[x]) (n+bX x) u v X (by simp[D]);have AD:IntKind.i64.wrap ((pre.length:Int)+1)=(pre.length:Int)+1:=aA (by unfold aY;omega);have A1:IntKind.i64.wrap (n+bX x)=n+bX x:=aA (by unfold aY;omega);have A2:=λu v X=>O (11,x.line) u v X (by simp);have A3:=λu v X=>O (13,x.line) u v X (by simp);simp only[jh]at A2 A3;simp[fB]at A';generalize AG:fV pre x.name=W at*;simp[b8,fB]at J;rw[ag];unfold Jx;cases A4:(bq pre x.name).isSome with
  |true=>
   rw[A4]at J;simp[f19];simp[U,Y,Z,y,b8,fB,J,A2,ay]
  |false=>
   rw[A4]at J;by_cases A5:1024<n+bX x
   ·simp[f19];simp[U,Y,Z,y,b8,fB,J,A',A1,A5,A3,ay]
   ·have ih:=λu v X=>ih u v X (by omega) (by omega);simp[f19]at ih⊢;simp[U,Y,Z,y,b8,fB,J,A',AD,A1,A5,ih,ay]
theorem ab8{p:Pg}(M:nN p=true)(A6:rQ p.vars false p.body):ai ctx 19 [.d (.agg [.str p.name,.list (p.vars.map b8),.list (p.body.map dc)])] []=some (.ret (ee (eA (oH p))),[]):=by
 simp only[nN,Ds,acn,acI]at M;obtain⟨_,AH,AE,AI⟩:=M;unfold rQ at A6;unfold oH;generalize AJ:fg p.vars false p.body=E at*;have h:=λH I k RF O T u v X=>Ot p.vars (by omega) AE H I k RF O T p.vars [] 0 u v X rfl (by omega) (by omega);generalize AK:Jx p.vars [] 0=V at*;rw[ans (by simp)];simp[f19]at h⊢;rw[h _ _ _ (λe=>some (.ret (ee (eA (gj e E))),[]))]
 ·intro a b u v X A7;rw[rH A7];simp[ee,eA,A7]
 ·intro u v X a b c;rw[ni rfl];simp[A6,ee]
@[reducible] noncomputable def Et(p:List Nat):Code:=Code.at (bg f132) p
theorem Ou{x:Sm}{f:Tx}{pre AH:List Tx}(A4:eS x=pre++f::AH)(Z:(eS x).length<100000000){a0:AV}{u v5 v6:Nat}{W X5 X6:aJ}(k:Kt)(R1 R2:b7)
 (I:k .ret ⟨91,aD,[(4,true,.ptr 300 u 0)],[⟨250,1,bx x⟩,⟨300,u,jh (11,mJ x)⟩,⟨350,1,W⟩,⟨500,v5,X5⟩,⟨650,v6,X6⟩]⟩=R1)
 (D:∀b c,k (.exit 2) ⟨91,aD,[(0,true,a0),(3,true,.ptr 250 1 0),(4,true,.ptr 300 u 0),(5,true,.ptr 350 1 0),(7,true,.d (.int .i64 pre.length)),(8,true,.ptr 500 v5 0),(10,true,b),(60,true,c)],[⟨250,1,bx x⟩,⟨300,u,jh (0,0)⟩,⟨350,1,W⟩,⟨500,v5,X5⟩,⟨650,v6,X6⟩]⟩=R2):∀(rest J:List Tx),pre=J++rest->
 aO ctx 132 (.loop (Et [1,1,1,1,0,1,0,0,1,0,0,1,1,0,1,0,0])) ⟨91,aD,[(0,true,a0),(3,true,.ptr 250 1 0),(4,true,.ptr 300 u 0),(5,true,.ptr 350 1 0),(7,true,.d (.int .i64 pre.length)),(8,true,.ptr 500 v5 0),(10,true,.d (.int .i64 J.length))],[⟨250,1,bx x⟩,⟨300,u,jh (0,0)⟩,⟨350,1,W⟩,⟨500,v5,X5⟩,⟨650,v6,X6⟩]⟩ k=if f∈rest then R1 else R2
 |[],J,H=>by
  have A8:J.length=pre.length:=by rw[H];simp
  simp only[jh,bx]at D;rw[A8,ag];simp[Et,f132,D]
 |c::rest,J,H=>by
  have O:J.length<pre.length:=by rw[H];simp
  have U:pre.length<(eS x).length:=by rw[A4];simp
  have A1:J.length<(eS x).length:=by omega
  have A2:(eS x)[pre.length]=f:=by simp[A4]
  have AC:(eS x)[J.length]=c:=by simp[A4,H]
  have ih:=Ou A4 Z k R1 R2 I D rest (J++[c]) (by simp[H]);have A9:IntKind.i64.wrap ((J.length:Int)+1)=(J.length:Int)+1:=aA (by unfold aY;omega);simp only[jh,bx]at I;rw[ag];by_cases V:c=f
  ·have AD:f=c:=V.symm;simp[Et,f132];simp[O,U,A1,A2,AC,V,I,ay]
  ·have AD:¬f=c:=λh=>V h.symm;simp[Et,f132]at ih⊢;simp[O,U,A1,A2,AC,V,AD,A9,ih,ay]
theorem Ov{vs:List Vr}{x:Sm}{w:Vr}(Z:(eS x).length<100000000)(hle:(cV x).length=(eS x).length)(A5:∀y∈cV x,RT vs y)(k:Kt)(RF:EL->b7)
 (I:∀e u v5 v6 X5 X6,k .ret ⟨91,aD,[(4,true,.ptr 300 u 0)],[⟨250,1,bx x⟩,⟨300,u,jh e⟩,⟨350,1,jH w⟩,⟨500,v5,X5⟩,⟨650,v6,X6⟩]⟩=RF e)
 (D:∀u v5 v6 X5 X6 b c,k (.exit 0) ⟨91,aD,[(0,true,.d (.list (vs.map b8))),(3,true,.ptr 250 1 0),(4,true,.ptr 300 u 0),(5,true,.ptr 350 1 0),(7,true,b),(34,true,c)],[⟨250,1,bx x⟩,⟨300,u,jh (0,0)⟩,⟨350,1,jH w⟩,⟨500,v5,X5⟩,⟨650,v6,X6⟩]⟩=RF (0,0)):∀(rest pre:List Tx)(M A':List Ex)(u v5 v6:Nat)(X5 X6:aJ),eS x=pre++rest->cV x=A'++M->A'.length=pre.length->
 aO ctx 132 (.loop (Et [1,1,1,1,0,1,0,0])) ⟨91,aD,[(0,true,.d (.list (vs.map b8))),(3,true,.ptr 250 1 0),(4,true,.ptr 300 u 0),(5,true,.ptr 350 1 0),(7,true,.d (.int .i64 pre.length))],[⟨250,1,bx x⟩,⟨300,u,jh (0,0)⟩,⟨350,1,jH w⟩,⟨500,v5,X5⟩,⟨650,v6,X6⟩]⟩ k=RF (eA (jZ vs w.ty (mJ x) rest M pre))
 |[],pre,M,A',u,v5,v6,X5,X6,H,A0,A6=>by
  have A8:pre.length=(eS x).length:=by rw[H];simp
  have AI:jZ vs w.ty (mJ x) [] M pre=(0,0):=by unfold jZ;rfl
  simp only[jh,bx,jH]at D;rw[AI,A8,ag];simp[Et,f132,D,eA]
 |f::rest,pre,[],A',u,v5,v6,X5,X6,H,A0,A6=>by
  rw[H,A0]at hle;simp at hle;omega
 |f::rest,pre,y::M,A',u,v5,v6,X5,X6,H,A0,A6=>by
  have O:pre.length<(eS x).length:=by rw[H];simp
  have U:(eS x)[pre.length]=f:=by simp[H]
  have A1:pre.length<(cV x).length:=by omega
  have A2:(cV x)[pre.length]=y:=by simp[<-A6,A0]
  have AJ:=A5 y (by rw[A0];simp);have Y:=Y6 w.ty f;have ih:=λu v5 v6 X5 X6=>Ov Z hle A5 k RF I D rest (pre++[f]) M (A'++[y]) u v5 v6 X5 X6 (by simp[H]) (by simp[A0]) (by simp[A6]);have AE:=λa0 u v5 v6 W X5 X6 k R1 R2 I D=>Ou (a0:=a0) (u:=u) (v5:=v5) (v6:=v6) (W:=W) (X5:=X5) (X6:=X6) H Z k R1 R2 I D pre [] rfl;have A9:IntKind.i64.wrap ((pre.length:Int)+1)=(pre.length:Int)+1:=aA (by unfold aY;omega);have key:jZ vs w.ty (mJ x) (f::rest) (y::M) pre=(match nh w.ty f with
   |none=>(9,mJ x)
   |some q=>if q.PH=false then (9,mJ x)else if f∈pre then (11,mJ x)else gj (dZ vs y q.ty) (jZ vs w.ty (mJ x) rest M (pre++[f]))):=by
   conv=>lhs;unfold jZ
   rfl
  have AA:=I (9,mJ x);have AF:=I (11,mJ x);have AB:=I (dZ vs y (fP w.ty f).ty);have hw:=sO (fP w.ty f).ty AJ;rw[sP]at hw;unfold ee at hw;simp only[jh,bx,jH]at AA AF AB;rw[key];clear key;rw[ag];cases V:nh w.ty f with
  |none=>
   simp[V,fP,dH,xD]at Y;simp[Et,f132];simp[O,U,Y,AA,eA,ay]
  |some q=>
   simp only[fP,V,af9]at hw AB;simp[V,fP,dH]at Y;simp only
   generalize jZ vs w.ty (mJ x) rest M (pre++[f])=E at*;generalize dZ vs y q.ty=T at*;by_cases hi:q.PH=false
   ·simp[hi]at Y;simp[Et,f132];simp[O,U,Y,AA,eA,hi,ay]
   ·have hi:q.PH=true:=by simpa using hi
    simp[hi]at Y;simp[Et,f132]at AE ih⊢;simp[O,U,Y,hi,ay];rw[AE (R1:=RF (11,mJ x)) (R2:=RF (eA (gj T E)))]
    ·by_cases hm:f∈pre
     ·simp[hm,eA]
     ·simp[hm]
    ·simp[AF]
    ·intro b c;by_cases A7:T.1=0
     ·rw[ni A7];simp[O,U,A1,A2,aI,hw,A7,A9,ih,ay]
     ·rw[rH A7];simp[O,U,A1,A2,aI,hw,A7,AB,eA,ay]
theorem afD{vs:List Vr}(AK:vs.length<1000000){x:Sm}(Z:(eS x).length<100000000)(hle:(cV x).length=(eS x).length)(A5:∀y∈cV x,RT vs y):ai ctx 132 [.d (.list (vs.map b8)),.d (.agg (smL x))] []=some (.ret (ee (eA (XS vs x))),[]):=by
 have A3:=ph AK (jt x);rw[aia (by simp)];unfold XS;cases AG:bq vs (jt x)with
 |none=>
  simp[AG,fV,b8,fB,uM]at A3;simp[f132,A3,ee,eA]
 |some v=>
  have h:=λk RF I D u v5 v6 X5 X6=>Ov (w:=v) Z hle A5 k RF I D (eS x) [] (cV x) [] u v5 v6 X5 X6 rfl rfl rfl;simp[AG,fV,b8,fB]at A3;by_cases D:v.ty<=2
  ·simp[f132,A3,ee,eA,D]
  ·generalize AL:jZ vs v.ty (mJ x) (eS x) (cV x) []=E at*;simp[Et,f132]at h;simp[f132,A3,D];rw[h _ (λe=>some (.ret (ee e),[]))]
   ·rw[AL]
   ·intro a b u v5 v6 X5 X6;simp[ee]
   ·intro u v5 v6 X5 X6 b c;simp[ee]
section
variable {vs:List Vr} {lp:Bool} {x:Sm}
theorem aoS(h:bJ x=7):RM vs lp x:=by
 unfold RM;rw[vd,pe (by simp)];cases lp with
 |true=>simp[f89,h,ee,eA]
 |false=>simp[f89,h,ee,eA]
theorem aoT(h:bJ x=8):RM vs lp x:=by
 unfold RM;rw[vd,pe (by simp)];simp[f89,h,ee,eA]
theorem aoU(O:vs.length<1000000)(h:bJ x=9)(U:(eS x).length<100000000)(hle:(cV x).length=(eS x).length)(V:∀y∈cV x,RT vs y):RM vs lp x:=by
 have M:=afD O U hle V;unfold RM;rw[vd,pe (by simp)];generalize XS vs x=E at*;simp[h,ee]at M;simp[f89,h,ee,M]
theorem aoV(h:bJ x=5){b:List Sm}(I:bG x=[b])(J:RT vs (eJ x))(H:rQ vs true b):RM vs lp x:=by
 have hw:=sO 2 J;rw[sP]at hw;unfold rQ at H;unfold RM;rw[vd,pe (by simp)];have e:xC vs (bG x)=fg vs true b:=by rw[I];rfl
 rw[e];generalize dZ vs (eJ x) 2=T at*;generalize fg vs true b=E at*;simp[ee]at hw H;by_cases D:T.1=0
 ·simp[f89,h,I,dR,ee,hw,H,ni D,D]
 ·simp[f89,h,I,ee,hw,rH D,D,eA]
theorem aoW(h:bJ x=6){b:List Sm}(I:bG x=[b])(J:RT vs (eJ x))(H:rQ vs true b):RM vs lp x:=by
 have hw:=sO 2 J;rw[sP]at hw;unfold rQ at H;unfold RM;rw[vd,pe (by simp)];have e:xC vs (bG x)=fg vs true b:=by rw[I];rfl
 have Y:(dZ vs (eJ x) 2).1=0->dZ vs (eJ x) 2=(0,0):=by
  unfold dZ;split
  ·intro hh;rename_i c;exact absurd hh c
  ·split
   ·intro hh;simp at hh
   ·intro _;rfl
 rw[e];generalize dZ vs (eJ x) 2=T at*;generalize fg vs true b=E at*;have Z:eA T=T:=by
  unfold eA;by_cases D:T.1=0
  ·rw[acs D,Y D]
  ·rw[ach D]
 simp[ee]at hw H;by_cases D:E.1=0
 ·simp[eA,D]at H;simp[f89,h,I,dR,ee,hw,H,ni D,Z]
 ·simp[eA,D]at H;simp[f89,h,I,dR,ee,H,rH D,D,eA]
end
section
variable {vs:List Vr} {lp:Bool} {x:Sm}
theorem aoX(c:vs.length<1000000)(h:bJ x=1)(E:RT vs (fG x))(I:RT vs (eJ x)):RM vs lp x:=by
 have D:=ph c (ew (fG x));unfold RT at E I;unfold RM;rw[vd,pe (by simp),acs h];unfold GW;generalize aK vs (fG x)=T at*;generalize aK vs (eJ x)=O at*;simp[fj]at E I;cases Y:bq vs (ew (fG x))with
 |none=>
  simp[Y,fV,b8,fB,uM]at D;simp[f89,h,D,ee,eA]
 |some w=>
  simp[Y,fV,b8,fB]at D;by_cases J:w.sec=1
  ·simp[f89,h,D,J,ee,eA]
  ·by_cases H:T.e=0
   ·have U:(Jw T).1=0:=H;by_cases M:O.e=0
    ·have V:(Jw O).1=0:=M;by_cases Z:O.t=T.t
     ·simp[f89,h,D,J,E,H,I,M,Z,ni U,ni V,ee,eA]
     ·simp[f89,h,D,J,E,H,I,M,Z,ni U,ni V,ee,eA]
    ·have V:¬(Jw O).1=0:=M;simp[f89,h,D,J,E,H,I,M,gj,ee,eA,Jw]
   ·have U:¬(Jw T).1=0:=H;simp[f89,h,D,J,E,H,gj,ee,eA,Jw]
end
@[reducible] noncomputable def sf(p:List Nat):Code:=Code.at (bg f89) p
@[simp] def pC(x:Sm)(e:EL)(O U w85 H AE:Nat)(V Y Y85 I AF AG:aJ)(AH:Nat):List dk:=[⟨300,1,bx x⟩,⟨400,1,jh e⟩,⟨450,0,.dead⟩,⟨600,0,.dead⟩,⟨750,O,V⟩,⟨800,U,Y⟩,⟨850,w85,Y85⟩,⟨950,H,I⟩,⟨1000,AH,AG⟩,⟨1150,AE,AF⟩,⟨1200,0,.dead⟩,⟨1250,0,.dead⟩]
section
variable {vs:List Vr} {lp:Bool} {x:Sm}
theorem Ow{w85:Nat}{Y85:aJ}(A5:(bG x).length<100000000)(A2:∀b∈bG x,rQ vs lp b)(k:Kt)(RF:EL->b7)
 (A':∀e H I,k .ret ⟨242,aD,[(6,true,.ptr 400 1 0)],pC x e 0 0 w85 H 0 .dead .dead Y85 I .dead .dead 0⟩=RF e)
 (Z:∀H I b c,k (.exit 3) ⟨242,aD,[(0,true,.d (.list (vs.map b8))),(2,true,.d (.bool lp)),(4,true,.ptr 300 1 0),(6,true,.ptr 400 1 0),(16,true,b),(128,true,c)],pC x (0,0) 0 0 w85 H 0 .dead .dead Y85 I .dead .dead 0⟩=RF (0,0)):∀(rest pre:List (List Sm))(H:Nat)(I:aJ),bG x=pre++rest->
 aO ctx 89 (.loop (sf [1,0,1,0,1,1,1,1,1,0,1,1,0,0])) ⟨242,aD,[(0,true,.d (.list (vs.map b8))),(2,true,.d (.bool lp)),(4,true,.ptr 300 1 0),(6,true,.ptr 400 1 0),(16,true,.d (.int .i64 pre.length))],pC x (0,0) 0 0 w85 H 0 .dead .dead Y85 I .dead .dead 0⟩ k=RF (eA (fW vs lp [] rest))
 |[],pre,H,I,M=>by
  have A8:pre.length=(bG x).length:=by rw[M];simp
  have A9:fW vs lp [] []=(0,0):=by unfold fW;rfl
  simp only[pC,jh,bx]at Z;rw[A9,A8,ag];simp[sf,f89,Z,eA]
 |b::rest,pre,H,I,M=>by
  have A0:pre.length<(bG x).length:=by rw[M];simp
  have A1:(bG x)[pre.length]=b:=by simp[M]
  have J:=A2 b (by rw[M];simp);have ih:=λH I=>Ow A5 A2 k RF A' Z rest (pre++[b]) H I (by simp[M]);have A7:IntKind.i64.wrap ((pre.length:Int)+1)=(pre.length:Int)+1:=aA (by unfold aY;omega);have key:fW vs lp [] (b::rest)=gj (fg vs lp b) (fW vs lp [] rest):=by
   conv=>lhs;unfold fW
  rw[key];clear key;unfold rQ ee at J;generalize fg vs lp b=E at*;generalize fW vs lp [] rest=F at*;have A4:=A' E;simp only[pC,jh,bx]at A4;rw[ag];by_cases D:E.1=0
  ·rw[ni D];simp[eA,D]at J;simp[sf,f89]at ih⊢;simp[A0,A1,dR,J,A7,ih]
  ·rw[rH D];simp[eA,D]at J;simp[sf,f89];simp[A0,A1,dR,J,D,A4,eA]
theorem aoY(h:bJ x=3)(A5:(bG x).length<100000000)(AI:RT vs (eJ x))(A2:∀b∈bG x,rQ vs lp b):RM vs lp x:=by
 have hw:=sO 1 AI;rw[sP]at hw;have AA:=λw85 Y85 k RF A' Z H I=>Ow (w85:=w85) (Y85:=Y85) A5 A2 k RF A' Z (bG x) [] H I rfl;unfold RM;rw[vd,pe (by simp)];generalize dZ vs (eJ x) 1=T at*;simp[ee]at hw;by_cases D:T.1=0
 ·rw[ach (by omega),ach (by omega),acs h,ni D];generalize fW vs lp [] (bG x)=E at*;simp[sf,f89,h]at AA;simp[f89,h,hw,D];rw[AA _ _ _ (λe=>some (.ret (ee e),[]))]
  ·intro a b H I;simp[ee]
  ·intro H I b c;simp[ee]
 ·simp[f89,h,hw,D,rH D,eA,ee]
theorem Ox(A5:(bG x).length<100000000)(AJ:(cV x).length<100000000)(AB:∀y∈cV x,RT vs y)(A2:∀b∈bG x,rQ vs lp b)(k:Kt)(RF:EL->b7)
 (A':∀e O V U Y,k .ret ⟨242,aD,[(6,true,.ptr 400 1 0)],pC x e O U 0 0 0 V Y .dead .dead .dead .dead 0⟩=RF e)
 (Z:∀O V U Y b c,k (.exit 1) ⟨242,aD,[(0,true,.d (.list (vs.map b8))),(2,true,.d (.bool lp)),(4,true,.ptr 300 1 0),(6,true,.ptr 400 1 0),(12,true,b),(83,true,c)],pC x (0,0) O U 0 0 0 V Y .dead .dead .dead .dead 0⟩=RF (0,0)):∀(rest pre:List (List Sm))(O:Nat)(V:aJ)(U:Nat)(Y:aJ),bG x=pre++rest->
 aO ctx 89 (.loop (sf [1,0,1,0,1,1,1,0,1,0,0])) ⟨242,aD,[(0,true,.d (.list (vs.map b8))),(2,true,.d (.bool lp)),(4,true,.ptr 300 1 0),(6,true,.ptr 400 1 0),(12,true,.d (.int .i64 pre.length))],pC x (0,0) O U 0 0 0 V Y .dead .dead .dead .dead 0⟩ k=RF (eA (fW vs lp ((cV x).drop pre.length) rest))
 |[],pre,O,V,U,Y,M=>by
  have A8:pre.length=(bG x).length:=by rw[M];simp
  have A9:∀cs,fW vs lp cs []=(0,0):=by intro cs;unfold fW;rfl
  simp only[pC,jh,bx]at Z;rw[A9,A8,ag];simp[sf,f89,Z,eA]
 |b::rest,pre,O,V,U,Y,M=>by
  have A0:pre.length<(bG x).length:=by rw[M];simp
  have A1:(bG x)[pre.length]=b:=by simp[M]
  have J:=A2 b (by rw[M];simp);have ih:=λO V U Y=>Ox A5 AJ AB A2 k RF A' Z rest (pre++[b]) O V U Y (by simp[M]);have A7:IntKind.i64.wrap ((pre.length:Int)+1)=(pre.length:Int)+1:=aA (by unfold aY;omega);unfold rQ ee at J;have A4:=A' (fg vs lp b);simp only[pC,jh,bx]at A4;rw[ag];by_cases A3:pre.length<(cV x).length
  ·have AK:=AB _ (age A3);have hw:=sO 2 AK;rw[sP]at hw;have key:fW vs lp ((cV x).drop pre.length) (b::rest)=gj (dZ vs (cV x)[pre.length] 2) (gj (fg vs lp b) (fW vs lp ((cV x).drop (pre.length+1)) rest)):=by
    rw[ajw A3];conv=>lhs;unfold fW
   rw[key];clear key;have AC:=A' (dZ vs (cV x)[pre.length] 2);simp only[pC,jh,bx]at AC;simp only[acm,acq,acw,aeh]at ih;generalize fg vs lp b=E at*;generalize fW vs lp ((cV x).drop (pre.length+1)) rest=F at*;generalize dZ vs (cV x)[pre.length] 2=T at*;unfold ee at hw;by_cases A6:T.1=0
   ·rw[ni A6];by_cases D:E.1=0
    ·rw[ni D];simp[eA,D]at J;simp[sf,f89]at ih⊢;simp[A0,A1,A3,aI,dR,hw,A6,J,A7,ih]
    ·rw[rH D];simp[eA,D]at J;simp[sf,f89];simp[A0,A1,A3,aI,dR,hw,A6,J,D,A4,eA]
   ·rw[rH A6];simp[sf,f89];simp[A0,A1,A3,aI,hw,A6,AC,eA]
  ·have AD:∀n,pre.length<=n->(cV x).drop n=[]:=λn AL=>List.drop_eq_nil_of_le (by omega);have key:fW vs lp ((cV x).drop pre.length) (b::rest)=gj (fg vs lp b) (fW vs lp [] rest):=by
    rw[AD _ (ack _)];conv=>lhs;unfold fW
   rw[key];clear key;simp only[acm,acq,acw,aeh,AD (pre.length+1) (by omega)]at ih;generalize fg vs lp b=E at*;generalize fW vs lp [] rest=F at*;by_cases D:E.1=0
   ·rw[ni D];simp[eA,D]at J;simp[sf,f89]at ih⊢;simp[A0,A1,A3,dR,J,A7,ih]
   ·rw[rH D];simp[eA,D]at J;simp[sf,f89];simp[A0,A1,A3,dR,J,D,A4,eA]
end
section
variable {vs:List Vr} {lp:Bool} {x:Sm}
theorem aoZ(h:bJ x=2)(AA:(bG x).length<100000000)(U:(cV x).length<100000000)(T:∀y∈cV x,RT vs y)(AB:∀b∈bG x,rQ vs lp b):RM vs lp x:=by
 have Z:=λk RF H D A3 A4 A5 A6=>Ox AA U T AB k RF H D (bG x) [] A3 A4 A5 A6 rfl;unfold RM;rw[vd,pe (by simp)];rw[ach (by omega),acs h];simp only[acw,List.drop_zero]at Z;generalize fW vs lp (cV x) (bG x)=E at*;simp[sf,f89,h]at Z;simp[f89,h];rw[Z _ (λe=>some (.ret (ee e),[]))]
 ·intro a b A3 A4 A5 A6;simp[ee]
 ·intro A3 A4 A5 A6 b c;simp[ee]
theorem Oy{W:aJ}(U:(cV x).length<100000000)(T:∀y∈cV x,RT vs y)(k:Kt)(RF:EL->b7)
 (H:∀(e:EL) I J,¬e.1=0->k .ret ⟨242,aD,[(6,true,.ptr 400 1 0)],pC x e 0 0 0 0 I .dead .dead .dead .dead J W 1⟩=RF e)
 (D:∀I J b c,k (.exit 5) ⟨242,aD,[(0,true,.d (.list (vs.map b8))),(4,true,.ptr 300 1 0),(6,true,.ptr 400 1 0),(20,true,b),(177,true,c)],pC x (0,0) 0 0 0 0 I .dead .dead .dead .dead J W 1⟩=RF (0,0)):∀(rest pre:List Ex)(I:Nat)(J:aJ),cV x=pre++rest->
 aO ctx 89 (.loop (sf [1,0,1,0,1,1,1,1,1,1,1,0,1,1,1,1,0,1,0,0])) ⟨242,aD,[(0,true,.d (.list (vs.map b8))),(4,true,.ptr 300 1 0),(6,true,.ptr 400 1 0),(20,true,.d (.int .i64 pre.length))],pC x (0,0) 0 0 0 0 I .dead .dead .dead .dead J W 1⟩ k=RF (eA (mK vs 1 rest))
 |[],pre,I,J,A'=>by
  have AC:pre.length=(cV x).length:=by rw[A'];simp
  simp only[pC,jh,bx]at D;rw[AC,ag];simp[sf,f89,D,eA,mK]
 |y::rest,pre,I,J,A'=>by
  have A7:pre.length<(cV x).length:=by rw[A'];simp
  have A8:(cV x)[pre.length]=y:=by simp[A']
  have hw:=sO 1 (T y (by rw[A'];simp));rw[sP]at hw;have ih:=λI J=>Oy U T k RF H D rest (pre++[y]) I J (by simp[A']);have AD:IntKind.i64.wrap ((pre.length:Int)+1)=(pre.length:Int)+1:=aA (by unfold aY;omega);have key:mK vs 1 (y::rest)=gj (dZ vs y 1) (mK vs 1 rest):=rfl;rw[key];clear key;unfold ee at hw;generalize dZ vs y 1=E at*;generalize mK vs 1 rest=F at*;rw[ag];by_cases O:E.1=0
  ·rw[ni O];simp[sf,f89]at ih⊢;simp[A7,A8,aI,hw,O,AD,ih]
  ·rw[rH O];have A9:=λw Y=>H E w Y O;simp only[pC,jh,bx]at A9;simp[sf,f89];simp[A7,A8,aI,hw,O,A9,eA]
set_option maxHeartbeats 1000000 in
theorem ale(h:bJ x=4)(U:(cV x).length<100000000)(T:∀y∈cV x,RT vs y){b:List Sm}(A0:bG x=[b])(A1:rQ vs true b){w:Vr}(V:bq vs (jt x)=some w)(M:ai ctx 47 [.d (.list (vs.map b8)),.d (.str (jt x))] []=some (.ret (.bh [.d (b8 (fV vs (jt x))),.d (.bool (bq vs (jt x)).isSome)]),[]))(H:¬w.sec=1)(D:w.arr=false)(A2:w.ty=1):
 ai ctx 89 [.d (.list (vs.map b8)),.d (.agg (smL x)),.d (.bool lp)] []=some (.ret (ee (eA (gj (mK vs 1 (cV x)) (fg vs true b)))),[]):=by
 have Z:=λW k RF H D I J=>Oy (W:=W) U T k RF H D (cV x) [] I J rfl;unfold rQ at A1;rw[pe (by simp)];generalize fg vs true b=F at*;generalize mK vs 1 (cV x)=E at*;simp[V,fV,b8,fB]at M;simp[sf,f89,h,A0]at Z;simp[ee]at A1;simp[f89,h,M,H,D,A2,A0];rw[Z _ _ (λe=>some (.ret (ee (eA (gj e F))),[]))]
 ·by_cases O:E.1=0
  ·simp[eA,O,gj]
  ·simp[eA,O,gj]
 ·intro AF AG I J O;simp[ee,gj,O,eA]
 ·intro I J c d;simp[dR,A1,ee,gj]
theorem ao0(AE:vs.length<1000000)(h:bJ x=4)(U:(cV x).length<100000000)(T:∀y∈cV x,RT vs y){b:List Sm}(A0:bG x=[b])(A1:rQ vs true b):RM vs lp x:=by
 have M:=ph AE (jt x);unfold RM;rw[vd];rw[ach (by omega),ach (by omega),ach (by omega),acs h];have e:xC vs (bG x)=fg vs true b:=by rw[A0];rfl
 unfold coE;rw[e];cases V:bq vs (jt x)with
 |none=>
  rw[pe (by simp)];simp[V,fV,b8,fB,uM]at M;simp[f89,h,M,ee,eA]
 |some w=>
  by_cases H:w.sec=1
  ·rw[pe (by simp)];simp[V,fV,b8,fB]at M;simp[f89,h,M,H,ee,eA]
  ·by_cases D:w.arr=true
   ·rw[pe (by simp)];simp[V,fV,b8,fB]at M;simp[f89,h,M,H,D,ee,eA]
   ·have D:w.arr=false:=by simpa using D
    by_cases A2:w.ty=1
    ·rw[ale h U T A0 A1 V M H D A2];simp only[ach H,D,A2];simp
    ·rw[pe (by simp)];simp[V,fV,b8,fB]at M;simp[f89,h,M,H,D,A2,ee,eA]
end
end Go.Am
end
section
namespace Go.Am
open Go Go.Proofs
variable [Inhabited b9]
set_option maxRecDepth 20000
theorem IE{α:Type}{l:List α}(h:l.length=1):∃a,l=[a]:=by
 match l,h with
 |[a],_=>exact⟨a,rfl⟩
section
variable {vs:List Vr} (I:vs.length<1000000)
include I
theorem afE{lp:Bool}{x:Sm}(E:j7 x=true)(A1:(bG x).length<100000000)(A2:(cV x).length<100000000)(A5:(eS x).length<100000000)(U:∀b∈bG x,∀q,rQ vs q b):RM vs lp x:=by
 have A6:∃op name to val conds V fields blocks line,x=.mk op name to val conds V fields blocks line:=by
  obtain⟨op,name,to,val,conds,V,fields,blocks,line⟩:=x;exact⟨op,name,to,val,conds,V,fields,blocks,line,rfl⟩
 have facts:(1<=bJ x/\bJ x<=9)/\(bJ x=1->bC (fG x)=true)/\((bJ x=1\/bJ x=3\/bJ x=5\/bJ x=6)->bC (eJ x)=true)/\bO (cV x)=true/\cR (bJ x) (cV x).length (ff x).length (eS x).length (bG x).length=true:=by
  obtain⟨op,name,to,val,conds,V,fields,blocks,line,rfl⟩:=A6;simp only[j7,Ds,acn]at E;obtain⟨A3,A9,Y,O,Z,H,AA,AB,AC⟩:=E;refine⟨A3,λJ=>?_,λJ=>?_,Z,H⟩
  ·simp only[WD]at J;rw[acs J]at Y;simp only[Ds]at Y;exact Y.2
  ·simp only[WD]at J;rw[acs J]at O;simp only[Ds]at O;exact O.2
 obtain⟨A3,Y,O,Z,H⟩:=facts;have A':=FC I (cV x) Z;have A7:bJ x=1\/bJ x=2\/bJ x=3\/bJ x=4\/bJ x=5\/bJ x=6\/bJ x=7\/bJ x=8\/bJ x=9:=by omega
 rcases A7 with h|h|h|h|h|h|h|h|h
 ·exact aoX I h (vz I _ (Y h)) (vz I _ (O (.inl h)))
 ·exact aoZ h A1 A2 A' (λb D=>U b D lp)
 ·exact aoY h A1 (vz I _ (O (.inr (.inl h)))) (λb D=>U b D lp)
 ·rw[h]at H;simp[cR]at H;obtain⟨b,D⟩:=IE H.2.2.2;exact ao0 I h A2 A' D (U b (by rw[D];simp) true)
 ·rw[h]at H;simp[cR]at H;obtain⟨b,D⟩:=IE H.2.2.2;exact aoV h D (vz I _ (O (.inr (.inr (.inl h))))) (U b (by rw[D];simp) true)
 ·rw[h]at H;simp[cR]at H;obtain⟨b,D⟩:=IE H.2.2.2;exact aoW h D (vz I _ (O (.inr (.inr (.inr h))))) (U b (by rw[D];simp) true)
 ·exact aoS h
 ·exact aoT h
 ·rw[h]at H;simp[cR]at H;exact aoU I h A5 H.1 A'
mutual
theorem alf:∀(x:Sm),j7 x=true->QY x<100000000->∀lp,RM vs lp x
 | .mk op name to val conds V fields blocks line,E,T,lp=>by
  have A8:da blocks=true:=by
   simp only[j7,Ds]at E;exact E.2.2.2.2.2.2.2.2
  have AD:=MO blocks;simp only[QY]at T;exact afE I E (by simp only[ahf];omega) (by simp only[WE];omega) (by simp only[WG];omega) (λb D q=>RW blocks A8 (by omega) b D q)
theorem IF:∀(l:List Sm),eP l=true->uA l<100000000->∀x∈l,∀lp,RM vs lp x
 |[],_,_,x,M,_=>by simp at M
 |y::r,E,T,x,M,lp=>by
  simp only[eP,Ds]at E;simp only[uA]at T;have J:=alf y E.1 (by omega);have A0:=IF r E.2 (by omega);rcases aco.1 M with h|M
  ·rw[h];exact J lp
  ·exact A0 x M lp
theorem RW:∀(bs:List (List Sm)),da bs=true->yy bs<100000000->∀b∈bs,∀q,rQ vs q b
 |[],_,_,b,D,_=>by simp at D
 |c::r,E,T,b,D,q=>by
  simp only[da,Ds]at E;simp only[yy]at T;have AE:=E9 c;have J:=IF c E.1 (by omega);have A0:=RW r E.2 (by omega);rcases aco.1 D with h|D
  ·rw[h];exact Oq (by omega) (λx M=>J x M q)
  ·exact A0 b D q
end
end
theorem J9{p:Pg}(E:nN p=true)(T:uA p.body<100000000):ai ctx 19 [.d (.agg [.str p.name,.list (p.vars.map b8),.list (p.body.map dc)])] []=some (.ret (ee (eA (oH p))),[]):=by
 have A4:=E;simp only[nN,Ds,acn,acI]at A4;obtain⟨_,AF,AG,D⟩:=A4;have AH:=E9 p.body;exact ab8 E (Oq (by omega) (λx M=>IF (by omega) p.body D T x M false))
end Go.Am
end
section
namespace Go.Am
open Go Go.Proofs Go.Proofs.Tryz
variable [Inhabited b9]
set_option maxRecDepth 20000
theorem RX(x y:ak):x=y↔x.op=y.op/\x.a=y.a/\x.b=y.b/\x.n=y.n/\x.m=y.m:=by
 constructor
 ·rintro rfl;simp
 ·intro h;cases x;cases y;simp_all
instance:DecidableEq ak:=λx y=>decidable_of_iff _ (RX x y).symm
theorem HL(a b:List ak)(E H I J:Int)(c:a.length<=1000000)(D:a.length=b.length)(k:Kt)(R1 R2:b7)
 (T:∀M,k .ret ⟨45,aD,[(4,true,.d (.bool false))],M⟩=R1) (U:∀(Y:Env) M,k (.exit 0) ⟨45,aD,Y,M⟩=R2):∀(V O:List ak)(i:Nat),a.drop i=V->b.drop i=O->i+V.length=a.length->
 aO ctx 26 (.loop (Code.at (bg f26) [1,1,0,1,0,0])) ⟨45,aD,[(2,true,.ptr 200 1 0),(3,true,.ptr 250 1 0),(5,true,.d (.int .i64 i))],
  [⟨200,1,.box [.d (.list (a.map cA)),.d (.int .i64 E),.d (.int .i64 H)]⟩,⟨250,1,.box [.d (.list (b.map cA)),.d (.int .i64 I),.d (.int .i64 J)]⟩]⟩ k=if V=O then R2 else R1
 |[],O,i,A',A0,hi=>by
  have hi:i=a.length:=by simpa using hi
  subst hi;have:O=[]:=by rw[<-A0,D];simp
  subst this;rw[ag];simp[f26,U]
 |x::V,O,i,A',A0,hi=>by
  have A2:i<a.length:=by simp at hi;omega
  have A5:(i:Int)<a.length:=by omega
  have A3:i<b.length:=by omega
  have A6:(i:Int)<b.length:=by omega
  have A7:a[i]=x:=by
   have:=aga (·[0]?) A';simp at this;simpa [A2]using this
  obtain⟨y,A4⟩:∃y,y=b[i]:=⟨_,rfl⟩;have A8:O=y::b.drop (i+1):=by rw[<-A0,A4];exact ajw A3
  have ih:=HL a b E H I J c D k R1 R2 T U V (b.drop (i+1)) (i+1) (by rw[<-akq,A'];rfl) rfl (by simp at hi;omega);have A9:IntKind.i64.wrap ((i:Int)+1)=(i:Int)+1:=aA (by unfold aY;omega);rw[A8,ag];simp[f26]at ih;simp[f26];simp[A2,A5,A3,A6,A7,<-A4,A9,ih,T,ay];have he:=RX x y;clear ih T U;by_cases q0:x.op=y.op<;>by_cases q1:x.a=y.a<;>by_cases q2:x.b=y.b<;>by_cases q3:x.n=y.n<;>by_cases AA:x.m=y.m<;>simp[q0,q1,q2,q3,AA]at he⊢<;>simp[he]
theorem Ka(a b:List ak)(E H I J:Int)(c:a.length<=1000000):ai ctx 26 [.d (vg a E H),.d (vg b I J)] []=some (.ret (.d (.bool (decide (a=b)&&decide (E=I)&&decide (H=J)))),[]):=by
 rw[anx (by simp)];by_cases D:a.length=b.length
 ·have h:=λk R1 R2 T U=>HL a b E H I J c D k R1 R2 T U a b 0 rfl rfl (by simp);simp[f26]at h;by_cases Z:E=I
  ·by_cases A1:H=J
   ·simp[f26,D,Z,A1];rw[Z,A1]at h;rw[h _ (some (.ret (.d (.bool false)),[])) (some (.ret (.d (.bool true)),[])) (by simp) (by simp)];by_cases e:a=b<;>simp[e]
   ·simp[f26,D,Z,A1]
  ·simp[f26,D,Z]
 ·have AB:¬((a.length:Int)=b.length):=by omega
  have AC:a≠b:=λh=>D (by rw[h]);simp[f26,AB,AC,D]
end Go.Am
end
section
namespace Go.Am
open Go Go.Proofs
variable [Inhabited b9]
set_option maxRecDepth 20000
theorem DN(e:EL):(eA e).1=0↔e.1=0:=by
 unfold eA;split<;>simp[*]
theorem ab9{p:Pg}{g:List ak×Int×Int}(h:oP p=some g):g.1.length<=4096:=by
 unfold oP at h;simp only at h;split at h
 ·cases h
 ·cases h;simp only[acm,List.length_map,acq,acw];omega
theorem Oz{p:Pg}:ai ctx 26 [.d (C5 (oP p)),.d (C5 (oP p))] []=some (.ret (.d (.bool true)),[]):=by
 cases D:oP p with
 |none=>
  have:=Ka [] [] 0 0 0 0 (by simp);simp only[vg,api]at this;simpa [C5]using this
 |some g=>
  have:=Ka g.1 g.1 g.2.1 g.2.2 g.2.1 g.2.2 (by have:=ab9 D;omega);simp only[vg]at this;simpa [C5]using this
end Go.Am
end
section
namespace Go.Am
open Go Go.Proofs Go.Proofs.Tryz
variable [Inhabited b9]
set_option maxRecDepth 20000
set_option maxHeartbeats 1000000
theorem OA:ai ctx 22 [] []=some (.ret (.d (.bool true)),[]):=bH 60 (by kernel_rfl)
theorem afF(ins:List ak)(vars cells:Int):(pB ins vars cells).1.length<=12+21*ins.length:=by
 have Y:=JL ins vars cells;unfold pB;split
 ·simp only[Fj,acm,iq];omega
 ·simp
theorem Zb(b:List UInt8)(A9:b.length<=4000):(iU b).1.length<=4000:=by
 unfold iU;split
 ·simp
 ·simp only
  split
  ·simp
  ·rename_i Y;split
   ·simp
   ·split
    ·simp
    ·simp only[ne_eq,akg]at Y;have A3:=(CI _ _ _ Y).2;have AA:=je 2 (bU 2 (bU 2 ((fI b).1,0)).2).2;have AE:=je 2 (bU 2 ((fI b).1,0)).2;have A7:=je 2 ((fI b).1,0);have AH:=CJ b;simp only[acw]at A3 A7⊢;omega
theorem OB{p:Pg}(h:ID p){g:List ak×Int×Int}(Z:oP p=some g):∃B:List UInt8,
 ai ctx 24 [.d (C5 (some g))] []=some (.ret (.bh [.vec 0 0 0 B.length,.d (.int .i64 0)]),[(0,.vec 1 (B.map eh))])/\
 ai ctx 23 [.d (.list (B.map eh))] []=some (.ret (.bh [.d (C5 (some g)),.d (.int .i64 0)]),[]):=by
 obtain⟨l,v,c⟩:=g;obtain⟨Y,A3,AA,AE,A7⟩:=afe h.fit h.lit h.Y4 Z;obtain⟨v,rfl⟩:∃n:Nat,v=n:=⟨v.toNat,by omega⟩;obtain⟨c,rfl⟩:∃n:Nat,c=n:=⟨c.toNat,by omega⟩;obtain⟨q1,q2⟩:=abv Y (by omega) (by omega) (by omega) A7;have q3:=UG Y (by omega) (by omega) (by omega) A7;have AB:=Hc l v c (by omega);have hle:=afF l v c;have H:=Nk (pB l v c).1 (by omega) (λ_=>q3);rw[q1]at AB;rw[q2]at H;exact⟨_,AB,H⟩
theorem Km{p:Pg}(t:List UInt8)(A9:iT p.body=true)(hw:eT (uo p)<10000000):ai ctx 4 [.d (uo p),.d (.list (t.map eh))] []=some (.ret (.d (.bool true)),[]):=by
 have J:=OA;obtain⟨Y,A3,AA⟩:=MY (p:=p) (by simp only[uo]at hw;omega);obtain⟨B,M⟩:=aeN Y A3;have I:=ajh Y A3;obtain⟨n,O,U,V,AC⟩:∃n:Nat,(if (4000:Int)<t.length then (4000:Int)else t.length)=(n:Int)/\n<=t.length/\(n:Int)<=t.length/\(t.take n).length<=4000:=by
  by_cases h:4000<t.length
  ·exact⟨4000,by rw[acs (by omega)];rfl,by omega,by omega,by simp;omega⟩
  ·exact⟨t.length,by rw[ach (by omega)],by omega,by omega,by simp;omega⟩
 have D:=abt (t.take n) AC;have AI:=Zb (t.take n) AC;have A8:(iU (t.take n)).2.2.2=0->pB (iU (t.take n)).1 (iU (t.take n)).2.1 (iU (t.take n)).2.2.1=(t.take n,0):=λAF=>abx (b:=t.take n) (by rw[<-AF]);have A2:=YD (t.take n) (t.take n) (by omega);have A0:=Hc (iU (t.take n)).1 (iU (t.take n)).2.1 (iU (t.take n)).2.2.1 (by omega);have emap:(t.map eh).take n=(t.take n).map eh:=List.map_take.symm;have AJ:min n t.length=(t.take n).length:=by simp
 rw[atE (by simp)];generalize AK:t.take n=T at*;generalize iU T=R at*;obtain⟨ins,vars,cells,AD⟩:=R;simp only at D A8 A0;by_cases he:AD=0
 ·subst he;have A8:=A8 rfl;rw[A8]at A0;simp at D A2 A0;cases B with
  |false=>simp[f4,J,M,O,U,V,emap,D,A0,A2,ay]
  |true=>
   cases y:nN p with
   |false=>
    rw[y]at I;simp[f4,J,M,I,O,U,V,emap,D,A0,A2,ay]
   |true=>
    rw[y]at I;have H:=J9 y (by omega);unfold ee at H;by_cases A':(oH p).1=0
    ·have h:ID p:=⟨y,A9,A',hw⟩;have E:=On h;cases Z:oP p with
     |none=>
      rw[Z]at E;simp[C5,Y5]at E;simp[f4,J,M,I,H,A',DN,E,O,U,V,emap,D,A0,A2,ay]
     |some g=>
      obtain⟨AG,A4,A5⟩:=OB h Z;have A1:=Oz (p:=p);rw[Z]at E A1;simp[C5,Y5]at E A1 A4 A5;simp[f4,J,M,I,H,A',DN,E,O,U,V,emap,D,A0,A2,A4,A5,A1,ay]
    ·simp[f4,J,M,I,H,A',DN,O,U,V,emap,D,A0,A2,ay]
 ·have A6:¬((AD:Int)=0):=by omega
  simp at D;cases B with
  |false=>simp[f4,J,M,O,U,V,emap,D,he,A6,ay]
  |true=>
   cases y:nN p with
   |false=>
    rw[y]at I;simp[f4,J,M,I,O,U,V,emap,D,he,A6,ay]
   |true=>
    rw[y]at I;have H:=J9 y (by omega);unfold ee at H;by_cases A':(oH p).1=0
    ·have h:ID p:=⟨y,A9,A',hw⟩;have E:=On h;cases Z:oP p with
     |none=>
      rw[Z]at E;simp[C5,Y5]at E;simp[f4,J,M,I,H,A',DN,E,O,U,V,emap,D,he,A6,ay]
     |some g=>
      obtain⟨AG,A4,A5⟩:=OB h Z;have A1:=Oz (p:=p);rw[Z]at E A1;simp[C5,Y5]at E A1 A4 A5;simp[f4,J,M,I,H,A',DN,E,O,U,V,emap,D,he,A6,A4,A5,A1,ay]
    ·simp[f4,J,M,I,H,A',DN,O,U,V,emap,D,he,A6,ay]
end Go.Am
end
section
namespace Go.Am
open Go
set_option maxRecDepth 20000
def au2:Nat->Nat
 |99=>228
 |143=>230
 |206=>274
 |217=>275
 |219=>276
 |224=>306
 |225=>305
 |266=>304
 |267=>307
 |314=>328
 |_=>0
def au3:Nat->Nat
 |3=>3
 |4=>4
 |5=>5
 |9=>9
 |46=>158
 |51=>308
 |146=>358
 |_=>0
def au4:Nat->Nat
 |1=>2
 |_=>0
def rho:Go.Shelf.Ren:=⟨au2,au3,au4⟩
theorem afG:Go.Proofs.Lays.n143 Go.Proofs.Tryz.prog rho where
 mixed:=by kernel_rfl
 f143:=by kernel_rfl
 f217:=by kernel_rfl
 f219:=by kernel_rfl
 f224:=by kernel_rfl
 f225:=by kernel_rfl
 f266:=by kernel_rfl
 f267:=by kernel_rfl
 f314:=by kernel_rfl
 t3:=by kernel_rfl
 a3:=by intro w;kernel_rfl
 z3:=by intro w;kernel_rfl
 v3:=by intro w;kernel_rfl
 t4:=by kernel_rfl
 a4:=by intro w;kernel_rfl
 z4:=by intro w;kernel_rfl
 v4:=by intro w;kernel_rfl
 t5:=by kernel_rfl
 a5:=by intro w;kernel_rfl
 z5:=by intro w;kernel_rfl
 v5:=by intro w;kernel_rfl
 t9:=by kernel_rfl
 a9:=by intro w;kernel_rfl
 z9:=by intro w;kernel_rfl
 v9:=by intro w;kernel_rfl
 t46:=by kernel_rfl
 a46:=by intro w;kernel_rfl
 z46:=by intro w;kernel_rfl
 v46:=by intro w;kernel_rfl
 t51:=by kernel_rfl
 a51:=by intro w;kernel_rfl
 z51:=by intro w;kernel_rfl
 v51:=by intro w;kernel_rfl
 t146:=by kernel_rfl
 a146:=by intro w;kernel_rfl
 z146:=by intro w;kernel_rfl
 v146:=by intro w;kernel_rfl
 g1:=by kernel_rfl
theorem afH:Go.Proofs.Lays.n217 Go.Proofs.Tryz.prog rho where
 mixed:=by kernel_rfl
 f217:=by kernel_rfl
 f266:=by kernel_rfl
 t3:=by kernel_rfl
 a3:=by intro w;kernel_rfl
 z3:=by intro w;kernel_rfl
 v3:=by intro w;kernel_rfl
 t5:=by kernel_rfl
 a5:=by intro w;kernel_rfl
 z5:=by intro w;kernel_rfl
 v5:=by intro w;kernel_rfl
 t9:=by kernel_rfl
 a9:=by intro w;kernel_rfl
 z9:=by intro w;kernel_rfl
 v9:=by intro w;kernel_rfl
theorem alh:Go.Proofs.Lays.n99 Go.Proofs.Tryz.prog rho where
 mixed:=by kernel_rfl
 f99:=by kernel_rfl
 f206:=by kernel_rfl
 t3:=by kernel_rfl
 a3:=by intro w;kernel_rfl
 z3:=by intro w;kernel_rfl
 v3:=by intro w;kernel_rfl
 t4:=by kernel_rfl
 a4:=by intro w;kernel_rfl
 z4:=by intro w;kernel_rfl
 v4:=by intro w;kernel_rfl
 t9:=by kernel_rfl
 a9:=by intro w;kernel_rfl
 z9:=by intro w;kernel_rfl
 v9:=by intro w;kernel_rfl
end Go.Am
end
section
namespace Go.Am
open Go Go.Proofs
variable [Inhabited b9]
set_option maxRecDepth 20000
theorem yC{P:Program}{g:FuncId}{fn:Func}(Y:P.funcs[g]?=some fn)(Z:fn.body.isSome=true)(c:(fn.name == "runtime.NumGoroutine")=false):iP P g=true:=by
 unfold iP;rw[Y];simp only[Z,c];rfl
theorem zE{w F s v}(h:aQ w F (.str s) v):∃b:ByteArray,v=.string b/\b.data.toList=s:=by
 cases h with
 |str b s h=>exact⟨b,rfl,h⟩
theorem RY{w F k n v}(h:aQ w F (.int k n) v):v=.int k n:=by cases h;rfl
theorem FD{T:List D}{a b:D}{w F}{vs:Array Value}(E:T=[a,b])(J:T.length=vs.size)(H:∀(i:Nat) x v,T[i]?=some x->vs[i]?=some v->aQ w F x v):
 ∃x y,vs=#[x,y]/\aQ w F a x/\aQ w F b y:=by
 subst E;obtain⟨l⟩:=vs;match l,J with
 |[x,y],_=>exact⟨x,y,rfl,H 0 a x rfl rfl,H 1 b y rfl rfl⟩
theorem afI{w:World}{F}(M:fL w F aD):∃m,w.cell? ⟨2,0,none⟩=some (.int .i64 m):=by
 obtain⟨_,_,A0,I,O⟩:=M (2,.int .i64 (id (α:=Int) (default:b9))) (by simp[aD]);generalize id (α:=Int) (default:b9)=z at I;obtain rfl:=RY I;exact⟨z,O 0 _ (by simp[Value.cells])⟩
theorem ao2:te ctx 228 (Df hpO):=by
 refine te.lift ⟨yC Tryz.func228 (by kernel_rfl) (by kernel_rfl),λT d E F w vs M V J H=>?_⟩;unfold hpO at E;split at E
 ·rename_i s p;obtain⟨x,y,rfl,I,O⟩:=FD rfl J H;obtain⟨a,rfl,rfl⟩:=zE I;obtain⟨b,rfl,rfl⟩:=zE O;refine (Any.strings_HasPrefix alh a b w).mono ?_;rintro e w' ⟨rfl,rfl⟩;cases E;exact⟨_,rfl,Go.RowKit.Below.refl _ _,.bool _⟩
 ·cases E
theorem ao3:te ctx 275 (Df ibO):=by
 refine te.lift ⟨yC Tryz.func275 (by kernel_rfl) (by kernel_rfl),λT d E F w vs M V J H=>?_⟩;unfold ibO at E;split at E
 ·rename_i s p;obtain⟨x,y,rfl,I,O⟩:=FD rfl J H;obtain⟨a,rfl,rfl⟩:=zE I;obtain rfl:=RY O;refine (Any.stringslite_IndexByte afH a _ w).mono ?_;rintro e w' ⟨rfl,rfl⟩;cases E;exact⟨_,rfl,Go.RowKit.Below.refl _ _,.int _ _⟩
 ·cases E
theorem ali:te ctx 230 (Df aab):=by
 refine te.lift ⟨yC Tryz.func230 (by kernel_rfl) (by kernel_rfl),λT d E F w vs M V J H=>?_⟩;unfold aab at E;split at E
 ·rename_i s p;split at E
  ·rename_i A';obtain⟨x,y,rfl,I,O⟩:=FD rfl J H;obtain⟨a,rfl,rfl⟩:=zE I;obtain⟨b,rfl,rfl⟩:=zE O;obtain⟨m,hm⟩:=afI M;refine (Any.strings_Index afG a b m w (by simpa using A') hm).mono ?_;rintro e w' ⟨rfl,rfl⟩;cases E;exact⟨_,rfl,Go.RowKit.Below.refl _ _,.int _ _⟩
  ·cases E
 ·cases E
theorem afJ:∀g h,ctx.Ea g=some h->te ctx g h:=by
 intro g h M;have U:aa2 g=some h:=M;unfold aa2 at U;split at U;all_goals first|(cases U;first|exact ao2|exact ao3|exact ali)|cases U
end Go.Am
end
section
namespace Go.Am
open Go
theorem OC{P:Program}{w:World}{n:String}{d:DataW Unit}:∀{l:List (String×DataW Unit)}{ps:List MemPlace},DataW.LaidVars P w l ps->(n,d)∈l->
 ∃g t cs fuel p,P.globalNamed n=some g/\(P.globals[g]?).map (·.type)=some t/\w.var? P n=some cs/\DataW.trod (λ_=>()) P w 0 (λ_=>true) false fuel t cs.toList=some (d,p)
 |[],_,_,hm=>by simp at hm
 |(AE,AF)::r,ps,⟨g,t,cs,fuel,p,q,U,M,E,O,T,_⟩,hm=>by
  rcases aco.1 hm with hm|hm
  ·cases hm;exact⟨g,t,cs,fuel,p,U,M,E,O⟩
  ·exact OC T hm
theorem Zc{H:Type}{enc:TypeId×Value->H}{P:Program}{w:World}{base:Nat}{sp:Nat->Bool}{held:Bool}{fuel:Nat}{t e:TypeId}{n:Nat}{k:IntKind}{cs:List Value}{Y:List (DataW H)}{p:List MemPlace}
 (Z:P.underlying t=some (.array n e)) (he:P.underlying e=some (.int k)) (y:P.cellsOf e=1) (h:DataW.trod enc P w base sp held fuel t cs=some (.agg Y,p)):
 cs.length=P.cellsOf t/\Y.length=n/\∀i,i<n->∃z,cs[i]?=some (.int k z)/\Y[i]?=some (.lit (.int k z)):=by
 cases fuel with
 |zero=>simp[DataW.trod]at h
 |succ m=>
  unfold DataW.trod at h;rw[Z]at h;simp only at h;split at h
  ·rename_i A';simp only[acp,adJ,DataW.agg.injEq]at h;obtain⟨xs,A2,rfl,_⟩:=h;have U:xs.length=n:=by simpa using mapM_some_length A2
   refine⟨A',by simpa using U,λi hi=>?_⟩;have M:=mapM_some_get A2 i i (by simp[hi]);have E:i<xs.length:=by omega
   have O:xs[i]?=some xs[i]:=by simp[E]
   rw[O,y]at M;obtain⟨z,T,A0,_⟩:=DataW.trod_int he M;refine⟨z,?_,by simp[O,A0]⟩;have V:=aga (·[0]?) T;simpa [adB,adR]using V
  ·cases h
theorem OD{P:Program}{W:World}{l:List (String×DataW Unit)}{name:String}{g:Nat}{t e:TypeId}{n:Nat}{k:IntKind}{zs:List Int}
 (A':laidMet P l W) (hm:(name,DataW.agg (zs.map λz=>.lit (.int k z)))∈l) (A1:P.globalNamed name=some g) (A9:(P.globals[g]?).map (·.type)=some t)
 (Z:P.underlying t=some (.array n e)) (he:P.underlying e=some (.int k)) (y:P.cellsOf e=1) (AG:0<n) (AA:P.cellsOf t=n):
 (g<W.heap.size/\∀cs,D.agg (zs.map λz=>.int k z)=.agg cs->∃cur e A3,W.heap[g]?=some (.cells cur e A3)/\cur.size=cs.length)/\∃A4,aQ W (λ_=>False) (.agg (zs.map λz=>.int k z)) A4/\∀(i:Nat)(c:Value),A4.cells[i]?=some c->W.cell? ⟨g,i,none⟩=some c:=by
 obtain⟨ps,J,_⟩:=A';obtain⟨AH,AI,cs,fuel,p,U,M,E,O⟩:=OC J hm;obtain rfl:=Option.some.inj (A1.symm.trans U);obtain rfl:=Option.some.inj (A9.symm.trans M);obtain⟨A5,T,A0⟩:=Zc Z he y O;rw[AA]at A5;simp at T;have V:∀i z,zs[i]?=some z->W.cell? ⟨g,i,none⟩=some (.int k z):=by
  intro i z I;have hi:i<n:=by
   have:=(ace.1 I).1;omega
  obtain⟨AB,AC,A6⟩:=A0 i hi;simp[I]at A6;subst A6;rw[World.var?_cell A1 E i];simpa using AC
 refine⟨⟨?_,?_⟩,.agg (zs.map λz=>Value.int k z).toArray,?_,?_⟩
 ·have I:∃z,zs[0]?=some z:=⟨zs[0]'(by omega),by simp[show 0<zs.length by omega]⟩
  obtain⟨z,I⟩:=I;exact (Fa (V 0 z I)).1
 ·rintro AJ AD;obtain rfl:=D.agg.inj AD;unfold World.var? at E;rw[A1]at E;simp only[ad0]at E;split at E
  ·rename_i cur e' A3 hh;cases E;exact⟨_,_,_,hh,by simp at T A5⊢;omega⟩
  ·cases E
 ·refine aQ.qi (by simp) (λv J=>?_) (λi c v A7 J=>?_)
  ·simp at J;obtain⟨z,_,rfl⟩:=J;rfl
  ·simp only[adD,acp]at A7 J;obtain⟨z,I,rfl⟩:=A7;obtain⟨AB,A8,rfl⟩:=J;rw[I]at A8;cases A8;exact .int k z
 ·intro i c hi;simp[Value.cells]at hi;obtain⟨z,I,rfl⟩:=hi;exact V i z I
end Go.Am
end
section
namespace Go.Am
open Go
variable {H:Type} {enc:TypeId×Value->H}
theorem U1{a:Assume}{C:Checked}{os:Os}{f:FuncId}{fn:Func}{s:OpenSpec}{k:(H:Type)->List (DataW H)->Bool}(I:s.cond=some k){conds:List PathCond}{apart fresh handsOn again:Bool}{X:World->Array Value->Prop}{F:Stop.Interp}
 (J:∀(w w':World)(args:Array Value),w.heap=w'.heap->X w args->X w' args)
 (own:ownKnob C.prog.godebug=none) (started:os.Started) (c:C.prog.inits.idxOf? f=none) (y:C.prog.funcs[f]?=some fn)
 (witness:∃(w:World)(tape:Tape)(i:Input),w.os=os/\(w.forCall tape i).Shaped C.prog/\i.vars=[]/\Input.okWide C.prog (w.forCall tape i) .any w.heap.size f i/\
  ((s.pre enc C.prog fn conds apart (w.forCall tape i).memory i.args/\X (w.forCall tape i).memory i.args)/\sizedMet enc C.prog fn s apart (w.forCall tape i).memory i.args)/\a.holds C.prog (lone (Frame.enter C.prog f i.args .normal) [] (w.forCall tape i)))
 (A':∀(W:World)(base:Nat)(args:Array Value)(O gs:List (DataW H))(before:List MemPlace),
  (∀(j:Nat) t v,fn.params[j]?=some t->args[j]?=some v->Value.okWide C.prog W .any base t v)->
  DataW.Whole enc C.prog fn.params.toList s.vars apart W args.toList O gs before->k H (O++gs)=true->X W args->W.ShapedOpen C.prog->
  Calls C.prog f args W λe Z=>∃v,e=.returned v/\(s.at F).post enc C.prog fn apart fresh handsOn again W args v Z):
 ReturnsInHanded a C os f .any (λw args=>(s.pre enc C.prog fn conds apart w args/\X w args)/\sizedMet enc C.prog fn s apart w args) ((s.at F).post enc C.prog fn apart fresh handsOn again):=by
 refine returnsInHanded_of_calls own started c witness ?_;intro w tape i _ M _ E A0 _;obtain⟨_,_,_,A1,A2,_,_,_,_,A3⟩:=E;have e:A1=fn:=Option.some.inj (A2.symm.trans y);subst e;obtain⟨⟨T,D⟩,A6⟩:=A0;obtain⟨O,gs,before,hw,A7,U⟩:=(OpenSpec.pre_some I conds apart _ _).1 T;have A4:=DataW.Whole.of_heap (w':=w.forCall tape i) (by rfl) hw;refine (A' (w.forCall tape i) w.heap.size i.args O gs before A3 A4 U (J _ _ _ (by rfl) D) M).mono λe Z ⟨v,he,T⟩=>?_;subst he;exact ChangeSpec.post_blind T
theorem HM{C:Checked}{os:Os}{f:FuncId}{fn:Func}{s:OpenSpec}{k:(H:Type)->List (DataW H)->Bool}(I:s.cond=some k){conds:List PathCond}{apart:Bool}{X:World->Array Value->Prop}(modest:Bool)(w0:World)(args:Array Value)(fuel:Nat)(V:w0.os=os)
 (M:(w0.forCall (λ_ _=>0) ⟨#[],args,[]⟩).Shaped C.prog)
 (E:Input.okWideB C.prog (w0.forCall (λ_ _=>0) ⟨#[],args,[]⟩) f ⟨#[],args,[]⟩=true)
 {x:List (DataW H)×List (DataW H)×List MemPlace} (D:DataW.whole enc C.prog (w0.forCall (λ_ _=>0) ⟨#[],args,[]⟩).memory fn.params.toList s.vars apart args.toList fuel=some x)
 (A5:conds.all (PathCond.test C.prog ⟨fn.params.toList,x.1,s.bare.plain.varTypes C.prog,x.2.1⟩)=true) (U:k H (x.1++x.2.1)=true)
 (Y:s.bare.sizedB enc C.prog fn apart (w0.forCall (λ_ _=>0) ⟨#[],args,[]⟩).memory args fuel=true)
 (J:X (w0.forCall (λ_ _=>0) ⟨#[],args,[]⟩).memory args):
 ∃(w:World)(tape:Tape)(i:Input),w.os=os/\(w.forCall tape i).Shaped C.prog/\i.vars=[]/\Input.okWide C.prog (w.forCall tape i) .any w.heap.size f i/\
  ((s.pre enc C.prog fn conds apart (w.forCall tape i).memory i.args/\X (w.forCall tape i).memory i.args)/\sizedMet enc C.prog fn s apart (w.forCall tape i).memory i.args)/\({modest:=modest}:Assume).holds C.prog (lone (Frame.enter C.prog f i.args .normal) [] (w.forCall tape i)):=
 ⟨w0,λ_ _=>0,⟨#[],args,[]⟩,V,M,(Input.okWide_of_okWideB (base:=0) E).1,(Input.okWide_of_okWideB E).2,
  ⟨⟨(OpenSpec.pre_some I conds apart _ _).2 ⟨x.1,x.2.1,x.2.2,DataW.Whole_of_whole D,A5,U⟩,J⟩,sizedMet_of_sizedB Y⟩,by
  simp only[Assume.holds];exact⟨by simp,by simp,λ_=>Modest.zero,by simp,by simp⟩⟩
def Zd{H:Type}(enc:TypeId×Value->H)(P:Program)(s:OpenSpec)(k:(H:Type)->List (DataW H)->Bool)(conds:List PathCond)(apart:Bool)(w:World)(ts:List TypeId)(args:List Value)(fuel:Nat):Bool:=
 match DataW.whole enc P w ts s.vars apart args fuel with
 |some x=>conds.all (PathCond.test P ⟨ts,x.1,s.bare.plain.varTypes P,x.2.1⟩)&&k H (x.1++x.2.1)
 |none=>false
theorem HN{C:Checked}{os:Os}{f:FuncId}{fn:Func}{s:OpenSpec}{k:(H:Type)->List (DataW H)->Bool}(I:s.cond=some k){conds:List PathCond}{apart:Bool}{X:World->Array Value->Prop}(modest:Bool)(w0:World)(args:Array Value)(fuel:Nat)(V:w0.os=os)
 (M:(w0.forCall (λ_ _=>0) ⟨#[],args,[]⟩).Shaped C.prog)
 (E:Input.okWideB C.prog (w0.forCall (λ_ _=>0) ⟨#[],args,[]⟩) f ⟨#[],args,[]⟩=true)
 (D:Zd enc C.prog s k conds apart (w0.forCall (λ_ _=>0) ⟨#[],args,[]⟩).memory fn.params.toList args.toList fuel=true)
 (Y:s.bare.sizedB enc C.prog fn apart (w0.forCall (λ_ _=>0) ⟨#[],args,[]⟩).memory args fuel=true)
 (J:X (w0.forCall (λ_ _=>0) ⟨#[],args,[]⟩).memory args):
 ∃(w:World)(tape:Tape)(i:Input),w.os=os/\(w.forCall tape i).Shaped C.prog/\i.vars=[]/\Input.okWide C.prog (w.forCall tape i) .any w.heap.size f i/\
  ((s.pre enc C.prog fn conds apart (w.forCall tape i).memory i.args/\X (w.forCall tape i).memory i.args)/\sizedMet enc C.prog fn s apart (w.forCall tape i).memory i.args)/\({modest:=modest}:Assume).holds C.prog (lone (Frame.enter C.prog f i.args .normal) [] (w.forCall tape i)):=by
 unfold Zd at D;split at D
 ·rename_i x hw;simp only[Ds]at D;exact HM I modest w0 args fuel V M E hw D.1 D.2 Y J
 ·cases D
end Go.Am
end
