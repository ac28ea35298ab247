/-
  Texts of one proof, one behind the other.
-/
import Derived.Test.YtccmboenpbjhnaaGreatDoorF6
import Derived.Test.YtccmboenpbjhnaaGreatDoorProg
import Derived.Shelf.Lays
import Derived.KernelRfl
import Derived.Shelf.Strings.Search3
import Derived.Shelf.Strings.Prefix
import Derived.LaidLaws
import Derived.SizedLaws
import Derived.Handed
import Derived.Shelf.Vars
set_option linter.all false
section
namespace Go.Am
open Go Go.Proofs Go.Proofs.Tryz
variable [Inhabited bV]
set_option maxRecDepth 20000
theorem I7:∀(n:Nat)(ts bs:List (List ay)),∀i∈gG n ts bs,∃k:Nat,i=k/\k<n+(lZ 0 n ts bs).length
 |_,_,[],i,h=>by simp[gG]at h
 |n,[],b::r,i,h=>by
  simp only[gG,lZ]at h⊢;by_cases I:r=[]
  ·rw[aat I]at h;simp at h
  ·rw[aab I]at h⊢;rcases aaC.1 h with rfl|h
   ·exact⟨_,rfl,by simp⟩
   ·obtain⟨k,e,J⟩:=I7 (n+b.length+1) [] r i h;exact⟨k,e,by simp;omega⟩
 |n,t::ts,b::r,i,h=>by
  simp only[gG,lZ]at h⊢;by_cases I:r=[]
  ·rw[aat I]at h;simp at h
  ·rw[aab I]at h⊢;rcases aaC.1 h with rfl|h
   ·exact⟨_,rfl,by simp;omega⟩
   ·obtain⟨k,e,J⟩:=I7 (n+t.length+2+b.length) ts r i h;exact⟨k,e,by simp;omega⟩
theorem rJ{m:Mk}{ts:List (List ay×Int)}{bs:List (List ay)}{c t:Int}(W:∀x∈dS ts,Flat x):(m.dD ts bs c t).cI (gG m.out.length (dS ts) bs)=m.aS (df (dS ts) bs) c t:=by
 unfold Mk.cI Mk.dD Mk.aS;simp only[Mk.mk.injEq,ala,aoz];refine⟨?_,by rw[IZ (by decide) _ _ _ W],by rw[IZ (by decide) _ _ _ W]⟩;have:=ajA (pre:=m.out) rfl (ts:=dS ts) (bs:=bs) W;rw[<-this];congr 1;simp[Aw]
theorem E6:∀(n:Nat)(ts bs:List (List ay)),(gG n ts bs).length<=bs.length
 |_,_,[]=>by simp[gG]
 |n,[],b::r=>by
  simp only[gG];split
  ·simp
  ·have:=E6 (n+b.length+1) [] r;simp;omega
 |n,t::ts,b::r=>by
  simp only[gG];split
  ·simp
  ·have:=E6 (n+t.length+2+b.length) ts r;simp;omega
def MkJ(p:Pg)(m:Mk)(s:Sm)(r:bN):Prop:=∃v1 v2 v3,r=some (.ret (.aY []),[(0,iQ p m 0 3 4 5 v1 v2 v3),(0,.box [.ptr 0 0 0]),(0,ie s),(v1,.vec 5 (m.out.map cQ)),(v2,.vv (m.ex.map gV) none),(v3,.vec 1 (m.lv.map eh))])
def MkK(p:Pg)(m:Mk)(s:Sm)(q:Int)(r:bN):Prop:=∃v1 v2 v3,r=some (.ret (.aY []),[(0,iQ p m 0 4 5 6 v1 v2 v3),(0,.box [.ptr 0 0 0]),(0,ie s),(0,.box [.d (.int .i64 q)]),(v1,.vec 5 (m.out.map cQ)),(v2,.vv (m.ex.map gV) none),(v3,.vec 1 (m.lv.map eh))])
section
variable {p:Pg} {lp:Bool}
theorem Zg{s:Sm}{blocks:List (List Sm)}{ts:List (List ay×Int)}(AD:blocks.length<99999980)(Z:ts.length<=blocks.length)(y:blocks.length<=ts.length+1)(D:∀x∈dS ts,Flat x)
 (A':∀(i:Nat)(t:List ay×Int),ts[i]?=some t->∀m:Mk,0<=m.bU->m.out.length+t.1.length<99999990->LU p (m.aF t.1 t.2) 1 s (.ret (.aY [])) (ag ctx 115 [.d (.int .i64 i),.ptr 0 0 0,.ptr 1 0 0] [.box [.ptr 2 0 0],ie s,iQ p m 0 3 4 5 0 0 0,.vec 5 (m.out.map cQ),.vv (m.ex.map gV) none,.vec 1 (m.lv.map eh)]))
 (A0:∀b∈blocks,xQ p lp b) (A1:∀b∈blocks,∀c,0<=c->c<=(ah p.vars b c).2) (m:Mk) (hm:0<=m.bU) (A2:0<=m.cells) (A3:jO m) (hex:lp=true->m.ex≠[])
 (A4:m.out.length+(df (dS ts) (aC p.vars blocks m.cells).1).length<99999990) (A5:(aC p.vars blocks m.cells).2<99999990) (A6:∀b∈blocks,m.ex.length+jP b<99999990):
 MkJ p (m.aS (df (dS ts) (aC p.vars blocks m.cells).1) (aC p.vars blocks m.cells).2 (max (dX ts) (b7 blocks))) s
  (ag ctx 114 [.ptr 0 0 0,.d (.list (blocks.map cL)),.d (.int .i64 ts.length),.fn 115 [.ptr 1 0 0,.ptr 2 0 0]] [iQ p m 0 3 4 5 0 0 0,.box [.ptr 0 0 0],ie s,.vec 5 (m.out.map cQ),.vv (m.ex.map gV) none,.vec 1 (m.lv.map eh)]):=by
 have O:=λk Q A7 v1 v2 v3 T=>P1 (by omega) Z y A' A0 A1 k Q A7 blocks [] ts [] m [] v1 v2 v3 T rfl rfl (.inl rfl) hm A2 A3 hex A4 A5 A6 (by simp;omega);have A8:(gG m.out.length (dS ts) (aC p.vars blocks m.cells).1).length<100000000:=by
  have:=E6 m.out.length (dS ts) (aC p.vars blocks m.cells).1;rw[yV]at this;omega
 have A9:(m.dD ts (aC p.vars blocks m.cells).1 (aC p.vars blocks m.cells).2 (max (dX ts) (b7 blocks))).out.length<100000000:=by
  simp only[Mk.dD,aam,Aw];omega
 have AA:Pl (m.dD ts (aC p.vars blocks m.cells).1 (aC p.vars blocks m.cells).2 (max (dX ts) (b7 blocks))).out.length (gG m.out.length (dS ts) (aC p.vars blocks m.cells).1):=by
  intro i hi;obtain⟨k,e,J⟩:=I7 _ _ _ i hi;exact⟨k,e,by simpa [Mk.dD]using J⟩
 have H:=yS p (m.dD ts (aC p.vars blocks m.cells).1 (aC p.vars blocks m.cells).2 (max (dX ts) (b7 blocks))) 0 _ A8 A9 AA;have U:(m.dD ts (aC p.vars blocks m.cells).1 (aC p.vars blocks m.cells).2 (max (dX ts) (b7 blocks))).ex=(m.aS (df (dS ts) (aC p.vars blocks m.cells).1) (aC p.vars blocks m.cells).2 (max (dX ts) (b7 blocks))).ex:=by rw[<-rJ D];rfl
 have V:(m.dD ts (aC p.vars blocks m.cells).1 (aC p.vars blocks m.cells).2 (max (dX ts) (b7 blocks))).lv=(m.aS (df (dS ts) (aC p.vars blocks m.cells).1) (aC p.vars blocks m.cells).2 (max (dX ts) (b7 blocks))).lv:=by rw[<-rJ D];rfl
 rw[rJ D]at H;generalize m.aS (df (dS ts) (aC p.vars blocks m.cells).1) (aC p.vars blocks m.cells).2 (max (dX ts) (b7 blocks))=M at*;generalize m.dD ts (aC p.vars blocks m.cells).1 (aC p.vars blocks m.cells).2 (max (dX ts) (b7 blocks))=N at*;generalize gG m.out.length (dS ts) (aC p.vars blocks m.cells).1=E at*;rw[abv (by simp)];simp[U,V]at H;simp[f114]at O⊢;refine O _ (λX F r=>X=N->F=E->MkJ p M s r) (λY X F v1 v2 v3 T AB AC=>?_) _ _ _ _ rfl rfl;subst AB AC;simp[f114,H,U,V];exact⟨_,_,_,rfl⟩
theorem Zh{s:Sm}{q:Int}{blocks:List (List Sm)}{ts:List (List ay×Int)}(AD:blocks.length<99999980)(Z:ts.length<=blocks.length)(y:blocks.length<=ts.length+1)(D:∀x∈dS ts,Flat x)
 (A':∀(i:Nat)(t:List ay×Int),ts[i]?=some t->∀m:Mk,0<=m.bU->m.out.length+t.1.length<99999990->Vf p (m.aF t.1 t.2) 1 s q (.ret (.aY [])) (ag ctx 187 [.d (.int .i64 i),.ptr 0 0 0,.ptr 1 0 0,.ptr 2 0 0] [.box [.ptr 3 0 0],ie s,.box [.d (.int .i64 q)],iQ p m 0 4 5 6 0 0 0,.vec 5 (m.out.map cQ),.vv (m.ex.map gV) none,.vec 1 (m.lv.map eh)]))
 (A0:∀b∈blocks,xQ p lp b) (A1:∀b∈blocks,∀c,0<=c->c<=(ah p.vars b c).2) (m:Mk) (hm:0<=m.bU) (A2:0<=m.cells) (A3:jO m) (hex:lp=true->m.ex≠[])
 (A4:m.out.length+(df (dS ts) (aC p.vars blocks m.cells).1).length<99999990) (A5:(aC p.vars blocks m.cells).2<99999990) (A6:∀b∈blocks,m.ex.length+jP b<99999990):
 MkK p (m.aS (df (dS ts) (aC p.vars blocks m.cells).1) (aC p.vars blocks m.cells).2 (max (dX ts) (b7 blocks))) s q
  (ag ctx 114 [.ptr 0 0 0,.d (.list (blocks.map cL)),.d (.int .i64 ts.length),.fn 187 [.ptr 1 0 0,.ptr 2 0 0,.ptr 3 0 0]] [iQ p m 0 4 5 6 0 0 0,.box [.ptr 0 0 0],ie s,.box [.d (.int .i64 q)],.vec 5 (m.out.map cQ),.vv (m.ex.map gV) none,.vec 1 (m.lv.map eh)]):=by
 have O:=λk Q A7 v1 v2 v3 T=>P3 (by omega) Z y A' A0 A1 k Q A7 blocks [] ts [] m [] v1 v2 v3 T rfl rfl (.inl rfl) hm A2 A3 hex A4 A5 A6 (by simp;omega);have A8:(gG m.out.length (dS ts) (aC p.vars blocks m.cells).1).length<100000000:=by
  have:=E6 m.out.length (dS ts) (aC p.vars blocks m.cells).1;rw[yV]at this;omega
 have A9:(m.dD ts (aC p.vars blocks m.cells).1 (aC p.vars blocks m.cells).2 (max (dX ts) (b7 blocks))).out.length<100000000:=by
  simp only[Mk.dD,aam,Aw];omega
 have AA:Pl (m.dD ts (aC p.vars blocks m.cells).1 (aC p.vars blocks m.cells).2 (max (dX ts) (b7 blocks))).out.length (gG m.out.length (dS ts) (aC p.vars blocks m.cells).1):=by
  intro i hi;obtain⟨k,e,J⟩:=I7 _ _ _ i hi;exact⟨k,e,by simpa [Mk.dD]using J⟩
 have H:=yS p (m.dD ts (aC p.vars blocks m.cells).1 (aC p.vars blocks m.cells).2 (max (dX ts) (b7 blocks))) 0 _ A8 A9 AA;have U:(m.dD ts (aC p.vars blocks m.cells).1 (aC p.vars blocks m.cells).2 (max (dX ts) (b7 blocks))).ex=(m.aS (df (dS ts) (aC p.vars blocks m.cells).1) (aC p.vars blocks m.cells).2 (max (dX ts) (b7 blocks))).ex:=by rw[<-rJ D];rfl
 have V:(m.dD ts (aC p.vars blocks m.cells).1 (aC p.vars blocks m.cells).2 (max (dX ts) (b7 blocks))).lv=(m.aS (df (dS ts) (aC p.vars blocks m.cells).1) (aC p.vars blocks m.cells).2 (max (dX ts) (b7 blocks))).lv:=by rw[<-rJ D];rfl
 rw[rJ D]at H;generalize m.aS (df (dS ts) (aC p.vars blocks m.cells).1) (aC p.vars blocks m.cells).2 (max (dX ts) (b7 blocks))=M at*;generalize m.dD ts (aC p.vars blocks m.cells).1 (aC p.vars blocks m.cells).2 (max (dX ts) (b7 blocks))=N at*;generalize gG m.out.length (dS ts) (aC p.vars blocks m.cells).1=E at*;rw[abv (by simp)];simp[U,V]at H;simp[f114]at O⊢;refine O _ (λX F r=>X=N->F=E->MkK p M s q r) (λY X F v1 v2 v3 T AB AC=>?_) _ _ _ _ rfl rfl;subst AB AC;simp[f114,H,U,V];exact⟨_,_,_,rfl⟩
end
def Mk.I8(m:Mk)(t b:List ay)(c u:Int):Mk:=
 ⟨m.out++(ins 11 0 0 0 0::t++(ins 10 (m.out.length+t.length+3+b.length) 0 0 0::cU (m.out.length+t.length+2) b++[ins 9 m.out.length 0 0 0])),c,max m.bU u,iR m.ex (cN (-1) (m.out.length+t.length+2) b),m.lv++cN (-2) (m.out.length+t.length+2) b⟩
def Mk.I9(m:Mk)(t b:List ay)(c u:Int):Mk:=
 ⟨m.out++(cU m.out.length b++(ins 11 0 0 0 0::t++[ins 10 m.out.length 0 0 0])),c,max m.bU u,iR m.ex (cN (-1) m.out.length b),m.lv++cN (-2) m.out.length b⟩
section
variable {p:Pg} (J:p.vars.length<=1000) (M:∀v∈p.vars,dN v=true)
include J M
theorem aph{to val:Ex}{b:List Sm}{line:Int}(O:bn val=true)(T:(bm p.vars val).e=0)(U:xQ p true b)(m:Mk)(hm:0<=m.bU)(V:0<=m.cells)(W:jO m)(hex:m.ex≠[])
 (A':m.out.length+(aw p.vars val).1.length+(ah p.vars b m.cells).1.length+3<99999990) (A0:(ah p.vars b m.cells).2<99999990) (A1:m.ex.length+jP b<99999990):
 LU p (m.I8 (aw p.vars val).1 (ah p.vars b m.cells).1 (ah p.vars b m.cells).2 (max (aR 0 val) (bx b))) 0 (.mk 5 [] to val [] [] [] [b] line) (.ret (.aY [])) (ag ctx 190 [.ptr 0 0 0,.ptr 1 0 0] [.box [.ptr 2 0 0],ie (.mk 5 [] to val [] [] [] [b] line),iQ p m 0 3 4 5 0 0 0,.vec 5 (m.out.map cQ),.vv (m.ex.map gV) none,.vec 1 (m.lv.map eh)]):=by
 have g0:=I0 p m 0;obtain⟨A2,a2,a3,g1⟩:=pE p m 0 (by omega) (by decide);have E:(m.put (ins 11 0 0 0 0) 0).out.length=m.out.length+1:=by simp[Mk.put]
 obtain⟨A3,A4,A5,g2⟩:=nV J M val O T (m.put (ins 11 0 0 0 0) 0) 0 (by omega) (by omega) (by simp[Mk.put];omega) (by rw[E];omega);have D:((m.put (ins 11 0 0 0 0) 0).aF (aw p.vars val).1 (aR 0 val)).out.length=m.out.length+1+(aw p.vars val).1.length:=by
  show ((m.put (ins 11 0 0 0 0) 0).out++_).length=_;rw[aam,E]
 obtain⟨A6,A7,A8,g3⟩:=BH p ((m.put (ins 11 0 0 0 0) 0).aF (aw p.vars val).1 (aR 0 val)) 1 0 (by rw[D];omega) (by decide);rw[show (1:Int)+ -1=0 by omega]at g3;have H:(((m.put (ins 11 0 0 0 0) 0).aF (aw p.vars val).1 (aR 0 val)).put (ins 10 0 0 0 0) 0).out.length=m.out.length+(aw p.vars val).1.length+2:=by
  show (((m.put (ins 11 0 0 0 0) 0).aF (aw p.vars val).1 (aR 0 val)).out++_).length=_;rw[aam,D];simp;omega
 obtain⟨d1,d2,d3,g4⟩:=U (((m.put (ins 11 0 0 0 0) 0).aF (aw p.vars val).1 (aR 0 val)).put (ins 10 0 0 0 0) 0) (by simp[Mk.put,Mk.aF];omega) V (((W.put _ _).aF _ _).put _ _) (λ_=>hex) (by rw[H];show _+(ah p.vars b m.cells).1.length<_;omega) (by show (ah p.vars b m.cells).2<_;omega) (by show m.ex.length+_<_;omega);have Z:((((m.put (ins 11 0 0 0 0) 0).aF (aw p.vars val).1 (aR 0 val)).put (ins 10 0 0 0 0) 0).aS (ah p.vars b m.cells).1 (ah p.vars b m.cells).2 (bx b)).out.length=m.out.length+(aw p.vars val).1.length+2+(ah p.vars b m.cells).1.length:=by
  show ((((m.put (ins 11 0 0 0 0) 0).aF (aw p.vars val).1 (aR 0 val)).put (ins 10 0 0 0 0) 0).out++cU _ _).length=_;rw[aam,H,pW]
 obtain⟨AC,AD,y,g5⟩:=I1 p ((((m.put (ins 11 0 0 0 0) 0).aF (aw p.vars val).1 (aR 0 val)).put (ins 10 0 0 0 0) 0).aS (ah p.vars b m.cells).1 (ah p.vars b m.cells).2 (bx b)) 0 m.out.length (by rw[Z];omega) (by decide);have Y:(((((m.put (ins 11 0 0 0 0) 0).aF (aw p.vars val).1 (aR 0 val)).put (ins 10 0 0 0 0) 0).aS (ah p.vars b m.cells).1 (ah p.vars b m.cells).2 (bx b)).put (ins 9 m.out.length 0 0 0) 0).out.length=m.out.length+(aw p.vars val).1.length+3+(ah p.vars b m.cells).1.length:=by
  show (((((m.put (ins 11 0 0 0 0) 0).aF (aw p.vars val).1 (aR 0 val)).put (ins 10 0 0 0 0) 0).aS (ah p.vars b m.cells).1 (ah p.vars b m.cells).2 (bx b)).out++_).length=_;rw[aam,Z];simp;omega
 have g6:=uS p (((((m.put (ins 11 0 0 0 0) 0).aF (aw p.vars val).1 (aR 0 val)).put (ins 10 0 0 0 0) 0).aS (ah p.vars b m.cells).1 (ah p.vars b m.cells).2 (bx b)).put (ins 9 m.out.length 0 0 0) 0) 0 (m.out.length+1+(aw p.vars val).1.length) (by rw[Y];omega) (by rw[Y];omega);have I:(((((m.put (ins 11 0 0 0 0) 0).aF (aw p.vars val).1 (aR 0 val)).put (ins 10 0 0 0 0) 0).aS (ah p.vars b m.cells).1 (ah p.vars b m.cells).2 (bx b)).put (ins 9 m.out.length 0 0 0) 0).lead (m.out.length+1+(aw p.vars val).1.length:Nat)=m.I8 (aw p.vars val).1 (ah p.vars b m.cells).1 (ah p.vars b m.cells).2 (max (aR 0 val) (bx b)):=by
  unfold Mk.lead;rw[Y];unfold Mk.I8 Mk.aS;rw[H];simp only[Mk.put,Mk.aF,Mk.mk.injEq,ala,aoz];refine⟨?_,by have:=oa 0 val;omega⟩;have:=BJ m.out (ins 11 0 0 0 0::(aw p.vars val).1) (cU (m.out.length+(aw p.vars val).1.length+2) (ah p.vars b m.cells).1++[ins 9 m.out.length 0 0 0]) (ins 10 0 0 0 0) ((m.out.length+(aw p.vars val).1.length+3+(ah p.vars b m.cells).1.length:Nat):Int) ((m.out.length+1+(aw p.vars val).1.length:Nat):Int) (by simp;omega);have y:m.out++[ins 11 0 0 0 0]++(aw p.vars val).1++[ins 10 0 0 0 0]++cU (m.out.length+(aw p.vars val).1.length+2) (ah p.vars b m.cells).1++[ins 9 m.out.length 0 0 0]=m.out++(ins 11 0 0 0 0::(aw p.vars val).1)++ins 10 0 0 0 0::(cU (m.out.length+(aw p.vars val).1.length+2) (ah p.vars b m.cells).1++[ins 9 m.out.length 0 0 0]):=by simp
  rw[y,this];simp[ins]
 rw[D]at g3;rw[I]at g6;generalize m.I8 (aw p.vars val).1 (ah p.vars b m.cells).1 (ah p.vars b m.cells).2 (max (aR 0 val) (bx b))=AE at*;generalize ((((m.put (ins 11 0 0 0 0) 0).aF (aw p.vars val).1 (aR 0 val)).put (ins 10 0 0 0 0) 0).aS (ah p.vars b m.cells).1 (ah p.vars b m.cells).2 (bx b)).put (ins 9 m.out.length 0 0 0) 0=AF at*;have g4:ag ctx 42 [.ptr 0 0 0,.d (.list (b.map bX))] (gW p (((m.put (ins 11 0 0 0 0) 0).aF (aw p.vars val).1 (aR 0 val)).put (ins 10 0 0 0 0) 0) 0)=some (.ret (.aY []),Va p ((((m.put (ins 11 0 0 0 0) 0).aF (aw p.vars val).1 (aR 0 val)).put (ins 10 0 0 0 0) 0).aS (ah p.vars b m.cells).1 (ah p.vars b m.cells).2 (bx b)) 0 d1 d2 d3):=g4;generalize (((m.put (ins 11 0 0 0 0) 0).aF (aw p.vars val).1 (aR 0 val)).put (ins 10 0 0 0 0) 0).aS (ah p.vars b m.cells).1 (ah p.vars b m.cells).2 (bx b)=A9 at*;generalize ((m.put (ins 11 0 0 0 0) 0).aF (aw p.vars val).1 (aR 0 val)).put (ins 10 0 0 0 0) 0=AA at*;generalize (m.put (ins 11 0 0 0 0) 0).aF (aw p.vars val).1 (aR 0 val)=M2 at*;generalize m.put (ins 11 0 0 0 0) 0=AB at*;rw[abA (by simp)];simp at g0 g1 g2 g3 g4 g5 g6;simp[f190,aq,cL,g0,g1,g2,g3,g4,g5,g6];exact⟨_,_,_,rfl⟩
theorem api{to val:Ex}{b:List Sm}{line:Int}(O:bn val=true)(T:(bm p.vars val).e=0)(U:xQ p true b)(m:Mk)(hm:0<=m.bU)(V:0<=m.cells)(W:jO m)(hex:m.ex≠[])
 (A':m.out.length+(aw p.vars val).1.length+(ah p.vars b m.cells).1.length+2<99999990) (A0:(ah p.vars b m.cells).2<99999990) (A1:m.ex.length+jP b<99999990):
 LU p (m.I9 (aw p.vars val).1 (ah p.vars b m.cells).1 (ah p.vars b m.cells).2 (max (aR 0 val) (bx b))) 0 (.mk 6 [] to val [] [] [] [b] line) (.ret (.aY [])) (ag ctx 190 [.ptr 0 0 0,.ptr 1 0 0] [.box [.ptr 2 0 0],ie (.mk 6 [] to val [] [] [] [b] line),iQ p m 0 3 4 5 0 0 0,.vec 5 (m.out.map cQ),.vv (m.ex.map gV) none,.vec 1 (m.lv.map eh)]):=by
 have g0:=I0 p m 0;obtain⟨d1,d2,d3,g1⟩:=U m hm V W (λ_=>hex) (by omega) (by omega) (by omega);have E:(m.aS (ah p.vars b m.cells).1 (ah p.vars b m.cells).2 (bx b)).out.length=m.out.length+(ah p.vars b m.cells).1.length:=by
  show (m.out++cU _ _).length=_;rw[aam,pW]
 obtain⟨A2,a2,a3,g2⟩:=pE p (m.aS (ah p.vars b m.cells).1 (ah p.vars b m.cells).2 (bx b)) 0 (by rw[E];omega) (by decide);have D:((m.aS (ah p.vars b m.cells).1 (ah p.vars b m.cells).2 (bx b)).put (ins 11 0 0 0 0) 0).out.length=m.out.length+(ah p.vars b m.cells).1.length+1:=by
  show ((m.aS (ah p.vars b m.cells).1 (ah p.vars b m.cells).2 (bx b)).out++_).length=_;rw[aam,E];rfl
 obtain⟨A3,A4,A5,g3⟩:=nV J M val O T ((m.aS (ah p.vars b m.cells).1 (ah p.vars b m.cells).2 (bx b)).put (ins 11 0 0 0 0) 0) 0 (by omega) (by omega) (by simp[Mk.put,Mk.aS];omega) (by rw[D];omega);have H:(((m.aS (ah p.vars b m.cells).1 (ah p.vars b m.cells).2 (bx b)).put (ins 11 0 0 0 0) 0).aF (aw p.vars val).1 (aR 0 val)).out.length=m.out.length+(ah p.vars b m.cells).1.length+1+(aw p.vars val).1.length:=by
  show (((m.aS (ah p.vars b m.cells).1 (ah p.vars b m.cells).2 (bx b)).put (ins 11 0 0 0 0) 0).out++_).length=_;rw[aam,D]
 obtain⟨A6,A7,A8,g4⟩:=BH p (((m.aS (ah p.vars b m.cells).1 (ah p.vars b m.cells).2 (bx b)).put (ins 11 0 0 0 0) 0).aF (aw p.vars val).1 (aR 0 val)) 1 m.out.length (by rw[H];omega) (by decide);rw[show (1:Int)+ -1=0 by omega]at g4;have I:(((m.aS (ah p.vars b m.cells).1 (ah p.vars b m.cells).2 (bx b)).put (ins 11 0 0 0 0) 0).aF (aw p.vars val).1 (aR 0 val)).put (ins 10 m.out.length 0 0 0) 0=m.I9 (aw p.vars val).1 (ah p.vars b m.cells).1 (ah p.vars b m.cells).2 (max (aR 0 val) (bx b)):=by
  unfold Mk.I9 Mk.aS;simp only[Mk.put,Mk.aF,Mk.mk.injEq,ala,aoz];exact⟨by simp,by have:=oa 0 val;omega⟩
 rw[I]at g4;generalize m.I9 (aw p.vars val).1 (ah p.vars b m.cells).1 (ah p.vars b m.cells).2 (max (aR 0 val) (bx b))=A9 at*;clear I;generalize ((m.aS (ah p.vars b m.cells).1 (ah p.vars b m.cells).2 (bx b)).put (ins 11 0 0 0 0) 0).aF (aw p.vars val).1 (aR 0 val)=AA at*;generalize (m.aS (ah p.vars b m.cells).1 (ah p.vars b m.cells).2 (bx b)).put (ins 11 0 0 0 0) 0=M2 at*;generalize m.aS (ah p.vars b m.cells).1 (ah p.vars b m.cells).2 (bx b)=AB at*;rw[abA (by simp)];simp at g0 g1 g2 g3 g4;simp[f190,aq,cL,g0,g1,g2,g3,g4];exact⟨_,_,_,rfl⟩
end
def Mk.Ja(m:Mk)(at_ cell:Int)(b:List ay)(c u:Int):Mk:=
 ⟨m.out++(ins 11 0 0 0 0::ins 13 at_ cell 0 0::ins 10 (m.out.length+b.length+8) 0 0 0::cU (m.out.length+3) b++[ins 2 at_ 0 0 0,ins 2 (cell+1) 0 0 0,ins 8 0 8 0 0,ins 6 at_ 0 0 0,ins 9 m.out.length 0 0 0]),c,max m.bU u,iR m.ex (cN (-1) (m.out.length+3) b),m.lv++cN (-2) (m.out.length+3) b⟩
def MkF(p:Pg)(m:Mk)(s:Sm)(at_ cell:Int)(r:bN):Prop:=∃v1 v2 v3,r=some (.ret (.aY []),[(0,.box [.ptr 4 0 0]),(0,.box [.d (.int .i64 at_)]),(0,.box [.d (.int .i64 cell)]),(0,ie s),(0,iQ p m 0 5 6 7 v1 v2 v3),(v1,.vec 5 (m.out.map cQ)),(v2,.vv (m.ex.map gV) none),(v3,.vec 1 (m.lv.map eh))])
section
variable {p:Pg}
theorem apj{name:Tx}{to val:Ex}{conds:List Ex}{b:List Sm}{line at_ cell:Int}(A7:xQ p true b)(m:Mk)(hm:0<=m.bU)(A8:0<=m.cells)(A9:jO m)(hex:m.ex≠[])(AA:bq (cell+1))
 (AL:m.out.length+(ah p.vars b m.cells).1.length+8<99999990) (AM:(ah p.vars b m.cells).2<99999990) (AN:m.ex.length+jP b<99999990):
 MkF p (m.Ja at_ cell (ah p.vars b m.cells).1 (ah p.vars b m.cells).2 (max 2 (bx b))) (.mk 4 name to val conds [] [] [b] line) at_ cell (ag ctx 189 [.ptr 0 0 0,.ptr 1 0 0,.ptr 2 0 0,.ptr 3 0 0] [.box [.ptr 4 0 0],.box [.d (.int .i64 at_)],.box [.d (.int .i64 cell)],ie (.mk 4 name to val conds [] [] [b] line),iQ p m 0 5 6 7 0 0 0,.vec 5 (m.out.map cQ),.vv (m.ex.map gV) none,.vec 1 (m.lv.map eh)]):=by
 have g0:=I0 p m 0;obtain⟨AO,a2,a3,g1⟩:=pE p m 0 (by omega) (by decide);have AB:(m.put (ins 11 0 0 0 0) 0).out.length=m.out.length+1:=by simp[Mk.put]
 generalize I:m.put (ins 11 0 0 0 0) 0=J at g1 AB;obtain⟨AP,AQ,AR,g2⟩:=lj p J 0 1 (ins 13 at_ cell 0 0) (by omega) (by decide);have A3:(J.put (ins 13 at_ cell 0 0) (0+1)).out.length=m.out.length+2:=by simp[Mk.put];omega
 generalize M:J.put (ins 13 at_ cell 0 0) (0+1)=M2 at g2 A3;obtain⟨AS,AT,AU,g3⟩:=BH p M2 (0+1) 0 (by omega) (by decide);rw[show (0:Int)+1+ -1=0 by omega]at g3;have H:(M2.put (ins 10 0 0 0 0) 0).out.length=m.out.length+3:=by simp[Mk.put];omega
 generalize O:M2.put (ins 10 0 0 0 0) 0=D at g3 H;have f3:D.cells=m.cells/\D.ex=m.ex/\D.lv=m.lv/\0<=D.bU/\D.bU=max m.bU 1/\D.out=m.out++[ins 11 0 0 0 0,ins 13 at_ cell 0 0,ins 10 0 0 0 0]:=by
  subst O M I;simp[Mk.put];omega
 have q3:jO D:=by
  subst O M I;exact ((A9.put _ _).put _ _).put _ _
 obtain⟨d1,d2,d3,g4⟩:=A7 D f3.2.2.2.1 (by rw[f3.1];exact A8) q3 (λ_=>by rw[f3.2.1];exact hex) (by rw[f3.1];omega) (by rw[f3.1];omega) (by rw[f3.2.1];omega);rw[f3.1]at g4;have AC:(D.aS (ah p.vars b m.cells).1 (ah p.vars b m.cells).2 (bx b)).out.length=m.out.length+3+(ah p.vars b m.cells).1.length:=by
  show (D.out++cU _ _).length=_;rw[aam,pW,H]
 generalize T:D.aS (ah p.vars b m.cells).1 (ah p.vars b m.cells).2 (bx b)=U at g4 AC;obtain⟨AV,A4,AW,g5⟩:=I2 p U 0 at_ 1 (by omega) (by decide);rw[aab (by decide)]at g5;have AD:(U.put (ins 2 at_ 0 0 0) (0+1)).out.length=m.out.length+4+(ah p.vars b m.cells).1.length:=by simp[Mk.put];omega
 generalize V:U.put (ins 2 at_ 0 0 0) (0+1)=W at g5 AD;obtain⟨AX,AY,AZ,g6⟩:=I2 p W (0+1) (cell+1) 1 (by omega) (by decide);rw[aab (by decide)]at g6;have AE:(W.put (ins 2 (cell+1) 0 0 0) (0+1+1)).out.length=m.out.length+5+(ah p.vars b m.cells).1.length:=by simp[Mk.put];omega
 generalize Y:W.put (ins 2 (cell+1) 0 0 0) (0+1+1)=Z at g6 AE;obtain⟨i1,i2,i3,g7⟩:=lj p Z (0+1+1) (-1) (ins 8 0 8 0 0) (by omega) (by decide);have AF:(Z.put (ins 8 0 8 0 0) (0+1+1+ -1)).out.length=m.out.length+6+(ah p.vars b m.cells).1.length:=by simp[Mk.put];omega
 generalize y:Z.put (ins 8 0 8 0 0) (0+1+1+ -1)=A' at g7 AF;obtain⟨A_,Aa,Ab,g8⟩:=tD p A' (0+1+1+ -1) at_ (by omega) (by decide);rw[show (0:Int)+1+1+ -1+ -1=0 by omega]at g8;have AG:(A'.put (ins 6 at_ 0 0 0) 0).out.length=m.out.length+7+(ah p.vars b m.cells).1.length:=by simp[Mk.put];omega
 generalize A0:A'.put (ins 6 at_ 0 0 0) 0=A1 at g8 AG;obtain⟨Ac,Ad,Ae,g9⟩:=I1 p A1 0 m.out.length (by omega) (by decide);have A5:(A1.put (ins 9 m.out.length 0 0 0) 0).out.length=m.out.length+8+(ah p.vars b m.cells).1.length:=by simp[Mk.put];omega
 generalize A2:A1.put (ins 9 m.out.length 0 0 0) 0=E at g9 A5;have g10:=uS p E 0 (m.out.length+2) (by omega) (by omega);have A6:E.lead (m.out.length+2:Nat)=m.Ja at_ cell (ah p.vars b m.cells).1 (ah p.vars b m.cells).2 (max 2 (bx b)):=by
  have AH:E.out=(m.out++[ins 11 0 0 0 0,ins 13 at_ cell 0 0])++ins 10 0 0 0 0::(cU (m.out.length+3) (ah p.vars b m.cells).1++[ins 2 at_ 0 0 0,ins 2 (cell+1) 0 0 0,ins 8 0 8 0 0,ins 6 at_ 0 0 0,ins 9 m.out.length 0 0 0]):=by
   subst A2 A0 y Y V T;simp[Mk.put,Mk.aS,H,f3]
  have AI:E.ex=iR m.ex (cN (-1) (m.out.length+3) (ah p.vars b m.cells).1)/\E.lv=m.lv++cN (-2) (m.out.length+3) (ah p.vars b m.cells).1/\E.cells=(ah p.vars b m.cells).2/\E.bU=max m.bU (max 2 (bx b)):=by
   subst A2 A0 y Y V T;simp[Mk.put,Mk.aS,H,f3];omega
  unfold Mk.lead Mk.Ja;rw[A5];simp only[AI,Mk.mk.injEq,aoz];rw[AH];have:=uQ (m.out++[ins 11 0 0 0 0,ins 13 at_ cell 0 0]) (ins 10 0 0 0 0) (cU (m.out.length+3) (ah p.vars b m.cells).1++[ins 2 at_ 0 0 0,ins 2 (cell+1) 0 0 0,ins 8 0 8 0 0,ins 6 at_ 0 0 0,ins 9 m.out.length 0 0 0]) ((m.out.length+8+(ah p.vars b m.cells).1.length:Nat):Int);have A4:((m.out++[ins 11 0 0 0 0,ins 13 at_ cell 0 0]).length:Int)=((m.out.length+2:Nat):Int):=by simp
  rw[A4]at this;rw[this];simp[ins];omega
 rw[A6]at g10;generalize m.Ja at_ cell (ah p.vars b m.cells).1 (ah p.vars b m.cells).2 (max 2 (bx b))=Af at*;have AJ:IntKind.i64.wrap (cell+1)=cell+1:=aB AA;rw[A3]at g3;clear I M O T V Y y A0 A2 A6 f3;have AK:List.range 8=[0,1,2,3,4,5,6,7]:=rfl;rw[amP (by simp)];simp[ins]at g0 g1 g2 g3 g4 g5 g6 g7 g8 g9 g10;simp[f189,aq,cL,AJ,AK,g0,g1,g2,g3,g4,g5,g6,g7,g8,g9,g10];exact⟨_,_,_,rfl⟩
end
def Mk.ef(m:Mk):Mk:={m with ex:=m.ex++[[]]}
theorem jO.ef{m:Mk}(h:jO m):jO m.ef:=
 ⟨h.1,λr H=>by
  rcases aa0.1 H with H|H
  ·exact h.2 r H
  ·simp at H;subst H;simp⟩
def Mk.vE(m:Mk)(ex:List (List Int))(row:List Int):Mk:={m with out:=ld m.out row m.out.length,ex:=ex}
theorem P6{p:Pg}{s:Sm}{m M:Mk}{row:List Int}(O:M.ex=m.ex++[row])(D:LU p M 0 s (.ret (.aY [])) (ag ctx 190 [.ptr 0 0 0,.ptr 1 0 0] [.box [.ptr 2 0 0],ie s,iQ p m.ef 0 3 4 5 0 0 0,.vec 5 (m.out.map cQ),.vv (m.ef.ex.map gV) none,.vec 1 (m.lv.map eh)]))
 (Z:row.length<99999990) (y:M.out.length<99999990) (T:Pl M.out.length row) (A':m.ex.length<99999990):
 MkJ p (M.vE m.ex row) s (ag ctx 188 [.ptr 0 0 0,.fn 190 [.ptr 1 0 0,.ptr 2 0 0]] [iQ p m 0 3 4 5 0 0 0,.box [.ptr 0 0 0],ie s,.vec 5 (m.out.map cQ),.vv (m.ex.map gV) none,.vec 1 (m.lv.map eh)]):=by
 obtain⟨v1,v2,v3,D⟩:=D;have E:=yS p {M with ex:=m.ex} 0 row (by omega) (by simpa using (by omega:M.out.length<100000000)) T;have e:({M with ex:=m.ex}:Mk).cI row=M.vE m.ex row:=rfl;rw[e]at E;have I:(M.vE m.ex row).ex=m.ex:=rfl;have J:(M.vE m.ex row).lv=M.lv:=rfl;generalize M.vE m.ex row=N at*;simp[O,Mk.ef]at D;simp[I,J]at E;have U:m.ex.length<=4611686018427387903:=by omega
 have V:(m.ex.length+1)*24<=140737488355328:=by omega
 have W:IntKind.i64.wrap ((m.ex.length:Int)+1-1)=m.ex.length:=by rw[show (m.ex.length:Int)+1-1=m.ex.length by omega];exact aB (by unfold bq;omega)
 have Y:IntKind.i64.wrap (m.ex.length:Int)=m.ex.length:=aB (by unfold bq;omega);rw[abz (by simp)];simp[f188,D,U,V,W,Y,E];rw[<-I,<-J];exact⟨_,_,_,rfl⟩
def MkG(p:Pg)(m:Mk)(s:Sm)(at_ cell:Int)(r:bN):Prop:=∃v1 v2 v3,r=some (.ret (.aY []),[(0,iQ p m 0 5 6 7 v1 v2 v3),(0,.box [.ptr 0 0 0]),(0,.box [.d (.int .i64 at_)]),(0,.box [.d (.int .i64 cell)]),(0,ie s),(v1,.vec 5 (m.out.map cQ)),(v2,.vv (m.ex.map gV) none),(v3,.vec 1 (m.lv.map eh))])
theorem afg{p:Pg}{s:Sm}{at_ cell:Int}{m M:Mk}{row:List Int}(O:M.ex=m.ex++[row])(D:MkF p M s at_ cell (ag ctx 189 [.ptr 0 0 0,.ptr 1 0 0,.ptr 2 0 0,.ptr 3 0 0] [.box [.ptr 4 0 0],.box [.d (.int .i64 at_)],.box [.d (.int .i64 cell)],ie s,iQ p m.ef 0 5 6 7 0 0 0,.vec 5 (m.out.map cQ),.vv (m.ef.ex.map gV) none,.vec 1 (m.lv.map eh)]))
 (Z:row.length<99999990) (y:M.out.length<99999990) (T:Pl M.out.length row) (A':m.ex.length<99999990):
 MkG p (M.vE m.ex row) s at_ cell (ag ctx 188 [.ptr 0 0 0,.fn 189 [.ptr 1 0 0,.ptr 2 0 0,.ptr 3 0 0,.ptr 4 0 0]] [iQ p m 0 5 6 7 0 0 0,.box [.ptr 0 0 0],.box [.d (.int .i64 at_)],.box [.d (.int .i64 cell)],ie s,.vec 5 (m.out.map cQ),.vv (m.ex.map gV) none,.vec 1 (m.lv.map eh)]):=by
 obtain⟨v1,v2,v3,D⟩:=D;have E:=yS p {M with ex:=m.ex} 0 row (by omega) (by simpa using (by omega:M.out.length<100000000)) T;have e:({M with ex:=m.ex}:Mk).cI row=M.vE m.ex row:=rfl;rw[e]at E;have I:(M.vE m.ex row).ex=m.ex:=rfl;have J:(M.vE m.ex row).lv=M.lv:=rfl;generalize M.vE m.ex row=N at*;simp[O,Mk.ef]at D;simp[I,J]at E;have U:m.ex.length<=4611686018427387903:=by omega
 have V:(m.ex.length+1)*24<=140737488355328:=by omega
 have W:IntKind.i64.wrap ((m.ex.length:Int)+1-1)=m.ex.length:=by rw[show (m.ex.length:Int)+1-1=m.ex.length by omega];exact aB (by unfold bq;omega)
 have Y:IntKind.i64.wrap (m.ex.length:Int)=m.ex.length:=aB (by unfold bq;omega);rw[abz (by simp)];simp[f188,D,U,V,W,Y,E];rw[<-I,<-J];exact⟨_,_,_,rfl⟩
theorem apm(m:Mk)(t b:List ay)(c u:Int):(m.ef.I8 t b c u).ex=m.ex++[cN (-1) (m.out.length+t.length+2) b]:=by
 show iR (m.ex++[[]]) _=_;rw[kG];rfl
theorem ajP{m:Mk}{t b:List ay}{c u:Int}(E:Flat t):(m.ef.I8 t b c u).vE m.ex (cN (-1) (m.out.length+t.length+2) b)=m.aS (jN t b) c u:=by
 unfold Mk.vE Mk.I8 Mk.aS Mk.ef;simp only[Mk.mk.injEq,ala];have T:((m.out++(ins 11 0 0 0 0::t++(ins 10 (m.out.length+t.length+3+b.length) 0 0 0::cU (m.out.length+t.length+2) b++[ins 9 m.out.length 0 0 0]))).length:Int)=m.out.length+t.length+3+b.length:=by simp;omega
 rw[T];refine⟨Zc E rfl rfl,?_,?_⟩
 ·have:cN (-1) m.out.length (jN t b)=[]:=PK _ _;rw[this,pF]
 ·rw[aco (by decide) (by decide) E]
theorem apn(m:Mk)(t b:List ay)(c u:Int):(m.ef.I9 t b c u).ex=m.ex++[cN (-1) m.out.length b]:=by
 show iR (m.ex++[[]]) _=_;rw[kG];rfl
theorem ajQ{m:Mk}{t b:List ay}{c u:Int}(E:Flat t):(m.ef.I9 t b c u).vE m.ex (cN (-1) m.out.length b)=m.aS (pz t b) c u:=by
 unfold Mk.vE Mk.I9 Mk.aS Mk.ef;simp only[Mk.mk.injEq,ala];have T:((m.out++(cU m.out.length b++(ins 11 0 0 0 0::t++[ins 10 m.out.length 0 0 0]))).length:Int)=m.out.length+b.length+t.length+2:=by simp;omega
 rw[T];refine⟨ae7 E rfl rfl,?_,?_⟩
 ·have:cN (-1) m.out.length (pz t b)=[]:=PK _ _;rw[this,pF]
 ·rw[ajy (by decide) (by decide) E]
theorem Zi(t b:List ay):(jN t b).length=t.length+3+b.length:=by simp[jN];omega
theorem afh(t b:List ay):(pz t b).length=t.length+2+b.length:=by simp[pz];omega
section
variable {p:Pg} (U:p.vars.length<=1000) (V:∀v∈p.vars,dN v=true)
include U V
theorem afi{to val:Ex}{b:List Sm}{line:Int}(H:bn val=true)(I:(bm p.vars val).e=0)(W:xQ p true b)(m:Mk)(hm:0<=m.bU)(Y:0<=m.cells)(Z:jO m)
 (y:m.out.length+(jN (aw p.vars val).1 (ah p.vars b m.cells).1).length<99999990) (A':(ah p.vars b m.cells).2<99999990) (A0:m.ex.length+1+jP b<99999990):
 gX p (m.aS (jN (aw p.vars val).1 (ah p.vars b m.cells).1) (ah p.vars b m.cells).2 (max (aR 0 val) (bx b))) 0 (.ret (.aY [])) (ag ctx 119 [.ptr 0 0 0,.d (bX (.mk 5 [] to val [] [] [] [b] line))] (gW p m 0)):=by
 rw[Zi]at y;have A1:m.ef.ex.length=m.ex.length+1:=by simp[Mk.ef]
 have J:=aph U V (to:=to) (line:=line) H I W m.ef hm Y Z.ef (by simp[Mk.ef]) (by show m.out.length+_+(ah p.vars b m.cells).1.length+3<_;omega) A' (by rw[A1];exact A0);rw[show m.ef.cells=m.cells from rfl]at J;have A2:=tF (-1) (ah p.vars b m.cells).1 (m.out.length+(aw p.vars val).1.length+2);have O:(m.ef.I8 (aw p.vars val).1 (ah p.vars b m.cells).1 (ah p.vars b m.cells).2 (max (aR 0 val) (bx b))).out.length=m.out.length+(aw p.vars val).1.length+3+(ah p.vars b m.cells).1.length:=by
  simp[Mk.I8,Mk.ef];omega
 obtain⟨v1,v2,v3,D⟩:=P6 (m:=m) (apm m _ _ _ _) J (by omega) (by rw[O];omega) (λi hi=>by
  obtain⟨j,e,A3⟩:=D8 _ _ _ i hi;exact⟨j,e,by rw[O];omega⟩) (by omega)
 rw[ajP (oJ val H I)]at D;generalize m.aS (jN (aw p.vars val).1 (ah p.vars b m.cells).1) (ah p.vars b m.cells).2 (max (aR 0 val) (bx b))=M at*;rw[abw (by simp)];simp at D;simp[f119,dI,D];exact⟨_,_,_,rfl⟩
theorem acF{to val:Ex}{b:List Sm}{line:Int}(H:bn val=true)(I:(bm p.vars val).e=0)(W:xQ p true b)(m:Mk)(hm:0<=m.bU)(Y:0<=m.cells)(Z:jO m)
 (y:m.out.length+(pz (aw p.vars val).1 (ah p.vars b m.cells).1).length<99999990) (A':(ah p.vars b m.cells).2<99999990) (A0:m.ex.length+1+jP b<99999990):
 gX p (m.aS (pz (aw p.vars val).1 (ah p.vars b m.cells).1) (ah p.vars b m.cells).2 (max (aR 0 val) (bx b))) 0 (.ret (.aY [])) (ag ctx 119 [.ptr 0 0 0,.d (bX (.mk 6 [] to val [] [] [] [b] line))] (gW p m 0)):=by
 rw[afh]at y;have A1:m.ef.ex.length=m.ex.length+1:=by simp[Mk.ef]
 have J:=api U V (to:=to) (line:=line) H I W m.ef hm Y Z.ef (by simp[Mk.ef]) (by show m.out.length+_+(ah p.vars b m.cells).1.length+2<_;omega) A' (by rw[A1];exact A0);rw[show m.ef.cells=m.cells from rfl]at J;have A2:=tF (-1) (ah p.vars b m.cells).1 m.out.length;have O:(m.ef.I9 (aw p.vars val).1 (ah p.vars b m.cells).1 (ah p.vars b m.cells).2 (max (aR 0 val) (bx b))).out.length=m.out.length+(aw p.vars val).1.length+2+(ah p.vars b m.cells).1.length:=by
  simp[Mk.I9,Mk.ef];omega
 obtain⟨v1,v2,v3,D⟩:=P6 (m:=m) (apn m _ _ _ _) J (by omega) (by rw[O];omega) (λi hi=>by
  obtain⟨j,e,A3⟩:=D8 _ _ _ i hi;exact⟨j,e,by rw[O];omega⟩) (by omega)
 rw[ajQ (oJ val H I)]at D;generalize m.aS (pz (aw p.vars val).1 (ah p.vars b m.cells).1) (ah p.vars b m.cells).2 (max (aR 0 val) (bx b))=M at*;rw[abw (by simp)];simp at D;simp[f119,dI,D];exact⟨_,_,_,rfl⟩
end
theorem apo(m:Mk)(a cell:Int)(b:List ay)(c u:Int):(m.ef.Ja a cell b c u).ex=m.ex++[cN (-1) (m.out.length+3) b]:=by
 show iR (m.ex++[[]]) _=_;rw[kG];rfl
theorem ajR{m:Mk}{a cell:Int}{b:List ay}{c u:Int}:(m.ef.Ja a cell b c u).vE m.ex (cN (-1) (m.out.length+3) b)=m.aS (nG a cell b) c u:=by
 unfold Mk.vE Mk.Ja Mk.aS Mk.ef;simp only[Mk.mk.injEq,ala];have AN:((m.out++(ins 11 0 0 0 0::ins 13 a cell 0 0::ins 10 (m.out.length+b.length+8) 0 0 0::cU (m.out.length+3) b++[ins 2 a 0 0 0,ins 2 (cell+1) 0 0 0,ins 8 0 8 0 0,ins 6 a 0 0 0,ins 9 m.out.length 0 0 0])).length:Int)=m.out.length+b.length+8:=by simp;omega
 rw[AN];refine⟨ae8 rfl rfl,?_,?_⟩
 ·have:cN (-1) m.out.length (nG a cell b)=[]:=PK _ _;rw[this,pF]
 ·rw[ajz (by decide) (by decide)]
theorem afj(a c:Int)(b:List ay):(nG a c b).length=b.length+8:=by simp[nG]
section
variable {p:Pg} (E:p.vars.length<=1000) (H:∀v∈p.vars,dN v=true)
include E H
theorem Zj{name:Tx}{to val x y z:Ex}{b:List Sm}{line:Int}{v:Vr}(A4:bE p.vars name=some v)(A5:bn x=true)(ex:(bm p.vars x).e=0)(A6:bn y=true)(A7:(bm p.vars y).e=0)(A8:bn z=true)(A9:(bm p.vars z).e=0)(AO:xQ p true b)(AP:∀c,0<=c->c<=(ah p.vars b c).2)(m:Mk)(hm:0<=m.bU)(AZ:0<=m.cells)(AQ:jO m)
 (AA:m.out.length+((aw p.vars x).1++((aw p.vars y).1++(aw p.vars z).1)).length+3+(nG (cx p.vars name).1 m.cells (ah p.vars b (m.cells+2)).1).length<99999990) (AR:(ah p.vars b (m.cells+2)).2<99999990) (AS:m.ex.length+1+jP b<99999990):
 gX p (m.aS (jn (((aw p.vars x).1++((aw p.vars y).1++(aw p.vars z).1))++[ins 6 (m.cells+1) 0 0 0,ins 6 m.cells 0 0 0,ins 6 (cx p.vars name).1 0 0 0]) (nG (cx p.vars name).1 m.cells (ah p.vars b (m.cells+2)).1)) (ah p.vars b (m.cells+2)).2 (max (max (gL 0 [x,y,z]) 3) (bx b))) 0 (.ret (.aY [])) (ag ctx 118 [.ptr 0 0 0,.d (bX (.mk 4 name to val [x,y,z] [] [] [b] line))] (gW p m 0)):=by
 rw[afj]at AA;simp only[aam]at AA;have A_:=AP (m.cells+2) (by omega);have AB:=tE p E H name;rw[A4,kj A4]at AB;obtain⟨Aa,a2,a3,g1⟩:=acu p m 0 2 (aB (by unfold bq;omega));have f1:({m with cells:=m.cells+2}:Mk).out=m.out:=rfl;generalize J:({m with cells:=m.cells+2}:Mk)=I at g1 f1;have AT:0<=I.bU:=by subst J;exact hm
 obtain⟨Ab,Ac,Ad,g2⟩:=nV E H x A5 ex I 0 (by omega) (by omega) AT (by rw[f1];omega);have AC:(I.aF (aw p.vars x).1 (aR 0 x)).out.length=m.out.length+(aw p.vars x).1.length:=by simp[Mk.aF,f1]
 have AD:0<=(I.aF (aw p.vars x).1 (aR 0 x)).bU:=by simp[Mk.aF];omega
 generalize T:I.aF (aw p.vars x).1 (aR 0 x)=M2 at g2 AC AD;have Ae:=mo p.vars x;have Af:=mo p.vars y;have Ag:=mo p.vars z;obtain⟨Ah,Ai,Aj,g3⟩:=nV E H y A6 A7 M2 (0+1) (by omega) (by omega) AD (by omega);have AE:(M2.aF (aw p.vars y).1 (aR (0+1) y)).out.length=m.out.length+(aw p.vars x).1.length+(aw p.vars y).1.length:=by simp[Mk.aF,AC]
 have AF:0<=(M2.aF (aw p.vars y).1 (aR (0+1) y)).bU:=by simp[Mk.aF];omega
 generalize U:M2.aF (aw p.vars y).1 (aR (0+1) y)=V at g3 AE AF;obtain⟨d1,d2,d3,g4⟩:=nV E H z A8 A9 V (0+1+1) (by omega) (by omega) AF (by omega);have AG:(V.aF (aw p.vars z).1 (aR (0+1+1) z)).out.length=m.out.length+(aw p.vars x).1.length+(aw p.vars y).1.length+(aw p.vars z).1.length:=by simp[Mk.aF,AE]
 generalize W:V.aF (aw p.vars z).1 (aR (0+1+1) z)=Y at g4 AG;obtain⟨Ak,Al,An,g5⟩:=tD p Y (0+1+1+1) (m.cells+1) (by omega) (by decide);have AH:(Y.put (ins 6 (m.cells+1) 0 0 0) (0+1+1+1+ -1)).out.length=m.out.length+(aw p.vars x).1.length+(aw p.vars y).1.length+(aw p.vars z).1.length+1:=by simp[Mk.put,AG]
 generalize Z:Y.put (ins 6 (m.cells+1) 0 0 0) (0+1+1+1+ -1)=A' at g5 AH;obtain⟨Ao,Ap,Aq,g6⟩:=tD p A' (0+1+1+1+ -1) m.cells (by omega) (by decide);have AI:(A'.put (ins 6 m.cells 0 0 0) (0+1+1+1+ -1+ -1)).out.length=m.out.length+(aw p.vars x).1.length+(aw p.vars y).1.length+(aw p.vars z).1.length+2:=by simp[Mk.put,AH]
 generalize A0:A'.put (ins 6 m.cells 0 0 0) (0+1+1+1+ -1+ -1)=A1 at g6 AI;obtain⟨i1,i2,i3,g7⟩:=tD p A1 (0+1+1+1+ -1+ -1) (cx p.vars name).1 (by omega) (by decide);have AJ:(A1.put (ins 6 (cx p.vars name).1 0 0 0) (0+1+1+1+ -1+ -1+ -1)).out.length=m.out.length+(aw p.vars x).1.length+(aw p.vars y).1.length+(aw p.vars z).1.length+3:=by simp[Mk.put,AI]
 generalize A2:A1.put (ins 6 (cx p.vars name).1 0 0 0) (0+1+1+1+ -1+ -1+ -1)=D at g7 AJ;have f7:D.cells=m.cells+2/\D.ex=m.ex/\0<=D.bU/\D=(({m with cells:=m.cells+2}:Mk).aF (((aw p.vars x).1++((aw p.vars y).1++(aw p.vars z).1))++[ins 6 (m.cells+1) 0 0 0,ins 6 m.cells 0 0 0,ins 6 (cx p.vars name).1 0 0 0]) (max (gL 0 [x,y,z]) 3)):=by
  have t1:=oa 0 x;have t2:=oa 1 y;have t3:=oa 2 z;subst A2 A0 Z W U T J;refine⟨rfl,rfl,?_,?_⟩
  ·simp[Mk.put,Mk.aF];omega
  ·simp only[Mk.put,Mk.aF,Mk.mk.injEq,gL];simp;omega
 have AU:jO D:=by
  have q1:jO ({m with cells:=m.cells+2}:Mk):=AQ;subst A2 A0 Z W U T J;exact (((((q1.aF _ _).aF _ _).aF _ _).put _ _).put _ _).put _ _
 have AV:D.ef.ex.length=m.ex.length+1:=by simp[Mk.ef,f7.2.1]
 have g8:=apj (name:=name) (to:=to) (val:=val) (conds:=[x,y,z]) (line:=line) (at_:=(cx p.vars name).1) (cell:=m.cells) AO D.ef f7.2.2.1 (by show 0<=D.cells;rw[f7.1];omega) AU.ef (by simp[Mk.ef]) (by unfold bq;omega) (by show D.out.length+(ah p.vars b D.cells).1.length+8<_;rw[f7.1,AJ];omega) (by show (ah p.vars b D.cells).2<_;rw[f7.1];exact AR) (by rw[AV];exact AS);rw[show D.ef.cells=m.cells+2 from f7.1]at g8;have Ar:=tF (-1) (ah p.vars b (m.cells+2)).1 (D.out.length+3);have AK:(D.ef.Ja (cx p.vars name).1 m.cells (ah p.vars b (m.cells+2)).1 (ah p.vars b (m.cells+2)).2 (max 2 (bx b))).out.length=D.out.length+8+(ah p.vars b (m.cells+2)).1.length:=by
  simp[Mk.Ja,Mk.ef];omega
 obtain⟨v1,v2,v3,O⟩:=afg (m:=D) (apo D _ _ _ _ _) g8 (by omega) (by rw[AK];omega) (λi hi=>by
  obtain⟨j,e,As⟩:=D8 _ _ _ i hi;exact⟨j,e,by rw[AK];omega⟩) (by rw[f7.2.1];omega)
 rw[ajR]at O;have AL:D.aS (nG (cx p.vars name).1 m.cells (ah p.vars b (m.cells+2)).1) (ah p.vars b (m.cells+2)).2 (max 2 (bx b))=m.aS (jn (((aw p.vars x).1++((aw p.vars y).1++(aw p.vars z).1))++[ins 6 (m.cells+1) 0 0 0,ins 6 m.cells 0 0 0,ins 6 (cx p.vars name).1 0 0 0]) (nG (cx p.vars name).1 m.cells (ah p.vars b (m.cells+2)).1)) (ah p.vars b (m.cells+2)).2 (max (max (gL 0 [x,y,z]) 3) (bx b)):=by
  have AW:Flat (((aw p.vars x).1++((aw p.vars y).1++(aw p.vars z).1))++[ins 6 (m.cells+1) 0 0 0,ins 6 m.cells 0 0 0,ins 6 (cx p.vars name).1 0 0 0]):=
   (((oJ x A5 ex).app ((oJ y A6 A7).app (oJ z A8 A9)))).app (.cons (by simp[ins]) (.cons (by simp[ins]) (.one (by simp[ins]))))
  rw[<-E4 m _ _ (m.cells+2) _ (max (gL 0 [x,y,z]) 3) _,f7.2.2.2];have e:({m with cells:=m.cells+2}:Mk).aF (((aw p.vars x).1++((aw p.vars y).1++(aw p.vars z).1))++[ins 6 (m.cells+1) 0 0 0,ins 6 m.cells 0 0 0,ins 6 (cx p.vars name).1 0 0 0]) (max (gL 0 [x,y,z]) 3)=m.aS (((aw p.vars x).1++((aw p.vars y).1++(aw p.vars z).1))++[ins 6 (m.cells+1) 0 0 0,ins 6 m.cells 0 0 0,ins 6 (cx p.vars name).1 0 0 0]) (m.cells+2) (max (gL 0 [x,y,z]) 3):=by
   rw[<-rI AW];rfl
  rw[e];exact pG (by simp[Mk.aS];omega)
 rw[AL]at O;generalize m.aS (jn (((aw p.vars x).1++((aw p.vars y).1++(aw p.vars z).1))++[ins 6 (m.cells+1) 0 0 0,ins 6 m.cells 0 0 0,ins 6 (cx p.vars name).1 0 0 0]) (nG (cx p.vars name).1 m.cells (ah p.vars b (m.cells+2)).1)) (ah p.vars b (m.cells+2)).2 (max (max (gL 0 [x,y,z]) 3) (bx b))=M at*;clear J T U W Z A0 A2 AL f7 g8;have AX:IntKind.i64.wrap (m.cells+1)=m.cells+1:=aB (by unfold bq;omega);have A3:IntKind.i64.wrap 1=1:=rfl;have AM:IntKind.i64.wrap 2=2:=rfl;have AY:IntKind.i64.wrap 3=3:=rfl;rw[aml (by simp)];simp at g1 g2 g3 g4 g5 g6 g7;simp[aK]at O;simp[f118,dI,AB,aW,dx,g1,aq];rw[ai];simp[f118,aK,g2,A3];rw[ai];simp[f118,aK,g3,A3,AM];rw[ai];simp[f118,aK,g4,A3,AM,AY];rw[ai];simp[f118,g5,g6,g7,AX,O];exact⟨_,_,_,rfl⟩
end
theorem LW(c:Int):∀l:List Int,l.length%2=0->(eS c l).length=l.length
 |[],_=>by simp[eS]
 |[_],h=>by simp at h
 |a::b::r,h=>by
  have:=LW c r (by simp only[aan]at h;omega);simp only[eS,aan];omega
def Ea(c:Int)(D:List (List Int)):List (List ay×Int):=D.map λl=>(ins 1 0 0 0 0::eS c l,2)
theorem ajS(c:Int)(D:List (List Int)):dS (Ea c D)=D.map λl=>ins 1 0 0 0 0::eS c l:=by simp[dS,Ea]
theorem P7(c:Int):∀D:List (List Int),dX (Ea c D)=if D=[]then 0 else 2
 |[]=>rfl
 |l::r=>by
  have:=P7 c r;have e:dX (Ea c (l::r))=max 2 (dX (Ea c r)):=rfl;rw[e,this];rw[aab (List.cons_ne_nil _ _)];split<;>rfl
def Cc(vs:List Vr)(conds:List Ex):List (List ay×Int):=conds.map λx=>((aw vs x).1,aR 0 x)
theorem J5(vs:List Vr)(conds:List Ex):dS (Cc vs conds)=conds.map λx=>(aw vs x).1:=by simp[dS,Cc]
theorem P8(vs:List Vr):∀conds:List Ex,dX (Cc vs conds)=mn conds
 |[]=>rfl
 |x::r=>by
  have:=P8 vs r;have e:dX (Cc vs (x::r))=max (aR 0 x) (dX (Cc vs r)):=rfl;rw[e,this];rfl
section
variable {p:Pg} {lp:Bool} (Y:p.vars.length<=1000) (Z:∀v∈p.vars,dN v=true)
include Y Z
theorem afk{to val:Ex}{D:List (List Int)}{blocks:List (List Sm)}{line:Int}(y:bn val=true)(A':(bm p.vars val).e=0)(A6:D.all xB=true)(A7:D.length<=blocks.length)(A8:blocks.length<=D.length+1)(A9:blocks.length<99999980)
 (A0:∀b∈blocks,xQ p lp b) (O:∀b∈blocks,∀c,0<=c->c<=(ah p.vars b c).2) (m:Mk) (hm:0<=m.bU) (AK:0<=m.cells) (AA:jO m) (hex:lp=true->m.ex≠[])
 (AL:m.out.length+(aw p.vars val).1.length+1+(df (D.map λl=>ins 1 0 0 0 0::eS m.cells l) (aC p.vars blocks (m.cells+1)).1).length<99999990) (AB:(aC p.vars blocks (m.cells+1)).2<99999990) (AC:∀b∈blocks,m.ex.length+jP b<99999990):
 gX p (m.aS (jn ((aw p.vars val).1++[ins 6 m.cells 0 0 0]) (df (D.map λl=>ins 1 0 0 0 0::eS m.cells l) (aC p.vars blocks (m.cells+1)).1)) (aC p.vars blocks (m.cells+1)).2 (max (aR 0 val) (max (if D=[]then 0 else 2) (b7 blocks)))) 0 (.ret (.aY []))
  (ag ctx 117 [.ptr 0 0 0,.d (bX (.mk 3 [] to val [] D [] blocks line))] (gW p m 0)):=by
 have AM:=BK blocks (m.cells+1) (by omega) O;obtain⟨AN,a2,a3,g1⟩:=acu p m 0 1 (aB (by unfold bq;omega));have f1:({m with cells:=m.cells+1}:Mk).out=m.out:=rfl;generalize I:({m with cells:=m.cells+1}:Mk)=J at g1 f1;have AD:0<=J.bU:=by subst I;exact hm
 obtain⟨AO,AP,AQ,g2⟩:=nV Y Z val y A' J 0 (by omega) (by omega) AD (by rw[f1];omega);have A1:(J.aF (aw p.vars val).1 (aR 0 val)).out.length=m.out.length+(aw p.vars val).1.length:=by simp[Mk.aF,f1]
 generalize T:J.aF (aw p.vars val).1 (aR 0 val)=M2 at g2 A1;obtain⟨AR,AS,AT,g3⟩:=tD p M2 (0+1) m.cells (by omega) (by decide);have A2:(M2.put (ins 6 m.cells 0 0 0) (0+1+ -1)).out.length=m.out.length+(aw p.vars val).1.length+1:=by simp[Mk.put,A1]
 generalize U:M2.put (ins 6 m.cells 0 0 0) (0+1+ -1)=E at g3 A2;have AE:Flat ((aw p.vars val).1++[ins 6 m.cells 0 0 0]):=(oJ val y A').app (.one (by simp[ins]));have f3:E.cells=m.cells+1/\E.ex=m.ex/\0<=E.bU/\E=m.aS ((aw p.vars val).1++[ins 6 m.cells 0 0 0]) (m.cells+1) (aR 0 val):=by
  have t1:=oa 0 val;have e:({m with cells:=m.cells+1}:Mk).aF ((aw p.vars val).1++[ins 6 m.cells 0 0 0]) (aR 0 val)=m.aS ((aw p.vars val).1++[ins 6 m.cells 0 0 0]) (m.cells+1) (aR 0 val):=by
   rw[<-rI AE];rfl
  rw[<-e];subst U T I;refine⟨rfl,rfl,?_,?_⟩
  ·simp[Mk.put,Mk.aF];omega
  ·simp only[Mk.put,Mk.aF,Mk.mk.injEq];simp;omega
 have q3:jO E:=by
  have q1:jO ({m with cells:=m.cells+1}:Mk):=AA;subst U T I;exact (q1.aF _ _).put _ _
 have V:=ajS m.cells D;have H:=Zh (p:=p) (lp:=lp) (s:=.mk 3 [] to val [] D [] blocks line) (q:=m.cells) (blocks:=blocks) (ts:=Ea m.cells D) A9 (by simpa [Ea]using A7) (by simpa [Ea]using A8)
  (by
   rw[V];intro x AF;obtain⟨l,_,rfl⟩:=abV.1 AF;exact .cons (by simp[ins]) (ahZ _ _))
  (by
   intro i t A3 M AG AH;simp only[Ea,ab6,aax]at A3;obtain⟨l,A4,rfl⟩:=A3;have W:xB l=true:=abX.1 A6 l (aay A4);have AI:l.length%2=0:=by
    simp only[xB,Ds,aak]at W;exact W.2.1
   have:=LW m.cells l AI;simp only[aan]at AH;exact aff (.mk 3 [] to val [] D [] blocks line) m.cells i l A4 W M AG (by omega))
  A0 O E f3.2.2.1 (by rw[f3.1];omega) q3 (λh=>by rw[f3.2.1];exact hex h) (by rw[f3.1,A2,V];omega) (by rw[f3.1];exact AB) (λb AJ=>by rw[f3.2.1];exact AC b AJ)
 rw[f3.1,V,P7]at H;have A5:E.aS (df (D.map λl=>ins 1 0 0 0 0::eS m.cells l) (aC p.vars blocks (m.cells+1)).1) (aC p.vars blocks (m.cells+1)).2 (max (if D=[]then 0 else 2) (b7 blocks))=m.aS (jn ((aw p.vars val).1++[ins 6 m.cells 0 0 0]) (df (D.map λl=>ins 1 0 0 0 0::eS m.cells l) (aC p.vars blocks (m.cells+1)).1)) (aC p.vars blocks (m.cells+1)).2 (max (aR 0 val) (max (if D=[]then 0 else 2) (b7 blocks))):=by
  rw[<-E4 m _ _ (m.cells+1) _ (aR 0 val) _,<-f3.2.2.2]
 rw[A5]at H;generalize m.aS (jn ((aw p.vars val).1++[ins 6 m.cells 0 0 0]) (df (D.map λl=>ins 1 0 0 0 0::eS m.cells l) (aC p.vars blocks (m.cells+1)).1)) (aC p.vars blocks (m.cells+1)).2 (max (aR 0 val) (max (if D=[]then 0 else 2) (b7 blocks)))=M at*;obtain⟨v1,v2,v3,H⟩:=H;clear I T U A5 f3 A0 O;have el:(Ea m.cells D).length=D.length:=by simp[Ea]
 rw[el]at H;rw[amk (by simp)];simp at g1 g2 g3;simp at H;simp[f117,dI,g1,g2,g3,H];exact⟨_,_,_,rfl⟩
end
section
variable {p:Pg} {x:Sm} {m M:Mk} (I:m.out.length<99999990)
include I
theorem ah5(D:gd x=1)(h:gX p M 0 (.ret (.aY [])) (ag ctx 113 [.ptr 0 0 0,.d (bX x)] (gW p (m.put (ins 11 0 0 0 0) 0) 0))):
 gX p M 0 (.ret (.aY [])) (ag ctx 73 [.ptr 0 0 0,.d (bX x)] (gW p m 0)):=by
 obtain⟨J,a2,a3,E⟩:=pE p m 0 (by omega) (by decide);obtain⟨V,W,Y,h⟩:=h;generalize m.put (ins 11 0 0 0 0) 0=N at*;rw[yB (by simp)];simp[dI,D]at h;simp at E;simp[f73,dI,D,E,h];exact⟨_,_,_,rfl⟩
theorem ar2(D:gd x=3)(h:gX p M 0 (.ret (.aY [])) (ag ctx 117 [.ptr 0 0 0,.d (bX x)] (gW p (m.put (ins 11 0 0 0 0) 0) 0))):
 gX p M 0 (.ret (.aY [])) (ag ctx 73 [.ptr 0 0 0,.d (bX x)] (gW p m 0)):=by
 obtain⟨J,a2,a3,E⟩:=pE p m 0 (by omega) (by decide);obtain⟨V,W,Y,h⟩:=h;generalize m.put (ins 11 0 0 0 0) 0=N at*;rw[yB (by simp)];simp[dI,D]at h;simp at E;simp[f73,dI,D,E,h];exact⟨_,_,_,rfl⟩
theorem ar3(D:gd x=4)(h:gX p M 0 (.ret (.aY [])) (ag ctx 118 [.ptr 0 0 0,.d (bX x)] (gW p (m.put (ins 11 0 0 0 0) 0) 0))):
 gX p M 0 (.ret (.aY [])) (ag ctx 73 [.ptr 0 0 0,.d (bX x)] (gW p m 0)):=by
 obtain⟨J,a2,a3,E⟩:=pE p m 0 (by omega) (by decide);obtain⟨V,W,Y,h⟩:=h;generalize m.put (ins 11 0 0 0 0) 0=N at*;rw[yB (by simp)];simp[dI,D]at h;simp at E;simp[f73,dI,D,E,h];exact⟨_,_,_,rfl⟩
theorem acG(D:gd x=5\/gd x=6)(h:gX p M 0 (.ret (.aY [])) (ag ctx 119 [.ptr 0 0 0,.d (bX x)] (gW p (m.put (ins 11 0 0 0 0) 0) 0))):
 gX p M 0 (.ret (.aY [])) (ag ctx 73 [.ptr 0 0 0,.d (bX x)] (gW p m 0)):=by
 obtain⟨J,a2,a3,E⟩:=pE p m 0 (by omega) (by decide);obtain⟨V,W,Y,h⟩:=h;generalize m.put (ins 11 0 0 0 0) 0=N at*;rw[yB (by simp)];simp at E;rcases D with D|D
 ·simp[dI,D]at h;simp[f73,dI,D,E,h];exact⟨_,_,_,rfl⟩
 ·simp[dI,D]at h;simp[f73,dI,D,E,h];exact⟨_,_,_,rfl⟩
theorem ar4(D:gd x=9)(h:gX p M 0 (.ret (.aY [])) (ag ctx 121 [.ptr 0 0 0,.d (bX x)] (gW p (m.put (ins 11 0 0 0 0) 0) 0))):
 gX p M 0 (.ret (.aY [])) (ag ctx 73 [.ptr 0 0 0,.d (bX x)] (gW p m 0)):=by
 obtain⟨J,a2,a3,E⟩:=pE p m 0 (by omega) (by decide);obtain⟨V,W,Y,h⟩:=h;generalize m.put (ins 11 0 0 0 0) 0=N at*;rw[yB (by simp)];simp[dI,D]at h;simp at E;simp[f73,dI,D,E,h];exact⟨_,_,_,rfl⟩
theorem ar5(D:gd x=2)(h:MkJ p M x (ag ctx 114 [.ptr 0 0 0,.d (.list ((cY x).map cL)),.d (.int .i64 (dQ x).length),.fn 115 [.ptr 1 0 0,.ptr 2 0 0]] [iQ p (m.put (ins 11 0 0 0 0) 0) 0 3 4 5 0 0 0,.box [.ptr 0 0 0],ie x,.vec 5 ((m.put (ins 11 0 0 0 0) 0).out.map cQ),.vv ((m.put (ins 11 0 0 0 0) 0).ex.map gV) none,.vec 1 ((m.put (ins 11 0 0 0 0) 0).lv.map eh)])):
 gX p M 0 (.ret (.aY [])) (ag ctx 73 [.ptr 0 0 0,.d (bX x)] (gW p m 0)):=by
 obtain⟨J,a2,a3,E⟩:=pE p m 0 (by omega) (by decide);obtain⟨V,W,Y,h⟩:=h;generalize m.put (ins 11 0 0 0 0) 0=N at*;rw[yB (by simp)];simp[D]at h;simp at E;simp[f73,dI,D,E,h];exact⟨_,_,_,rfl⟩
end
theorem ar6(p:Pg)(m:Mk)(h H:Int)(x:ay)(I:m.out.length<100000000)(hw:IntKind.i64.wrap (h+H)=h+H):ag ctx 44 [.ptr 0 0 0,.d (cQ x),.d (.int .i64 H)] (gW p m h)=some (.ret (.d (.int .i64 m.out.length)),Va p (m.put x (h+H)) (h+H) 1 0 0):=by
 have w0:IntKind.i64.wrap (m.out.length:Int)=m.out.length:=aB (by unfold bq;omega);have Z:m.out.length<=4611686018427387903:=by omega
 have y:(m.out.length+1)*40<=140737488355328:=by omega
 rw[YO (by simp)];simp[f44,aq,hw,w0,Z,y,mxI,Mk.put]
theorem apq(p:Pg)(m:Mk)(h to:Int)(I:m.out.length<100000000)(hw:IntKind.i64.wrap h=h):ag ctx 120 [.ptr 0 0 0,.d (.int .i64 to)] (gW p m h)=some (.ret (.d (.int .i64 m.out.length)),Va p (m.put (ins 9 to 0 0 0) h) h 1 0 0):=by
 have O:=ar6 p m h 0 (ins 9 to 0 0 0) I (by simpa using hw);rw[show h+0=h by omega]at O;generalize m.put (ins 9 to 0 0 0) h=M at*;rw[On (by simp)];simp[ins]at O;simp[f120,O]
@[simp] def mkO(p:Pg)(m:Mk)(h:Int)(pre:List (List Int))(row:List Int):List aD:=[.box [.d (.str p.name),.d (.list (p.vars.map aW)),.d (.list (p.body.map bX)),.vec 1 0 0 m.out.length,.d (.int .i64 m.cells),.d (.int .i64 h),.d (.int .i64 m.bU),.vec 2 0 0 (pre.length+1),.vec 3 0 0 m.lv.length],.vec 5 (m.out.map cQ),.vv (pre.map gV) (some (.vec 4 0 0 row.length)),.vec 1 (m.lv.map eh),.vec 1 (row.map eh)]
@[simp] def mkP(p:Pg)(m:Mk)(h:Int)(pre:List (List Int))(row:List Int):List (Nat×aD):=[(0,.box [.d (.str p.name),.d (.list (p.vars.map aW)),.d (.list (p.body.map bX)),.vec 1 1 0 m.out.length,.d (.int .i64 m.cells),.d (.int .i64 h),.d (.int .i64 m.bU),.vec 2 0 0 (pre.length+1),.vec 3 0 0 m.lv.length]),(1,.vec 5 (m.out.map cQ)),(0,.vv (pre.map gV) (some (.vec 4 0 0 row.length))),(0,.vec 1 (m.lv.map eh)),(0,.vec 1 (row.map eh))]
theorem ar7(p:Pg)(m:Mk)(h H:Int)(x:ay)(pre:List (List Int))(row:List Int)(I:m.out.length<100000000)(hw:IntKind.i64.wrap (h+H)=h+H):ag ctx 44 [.ptr 0 0 0,.d (cQ x),.d (.int .i64 H)] (mkO p m h pre row)=some (.ret (.d (.int .i64 m.out.length)),mkP p (m.put x (h+H)) (h+H) pre row):=by
 have w0:IntKind.i64.wrap (m.out.length:Int)=m.out.length:=aB (by unfold bq;omega);have Z:m.out.length<=4611686018427387903:=by omega
 have y:(m.out.length+1)*40<=140737488355328:=by omega
 rw[YO (by simp)];simp[f44,aq,hw,w0,Z,y,mxI,Mk.put]
theorem apr(p:Pg)(m:Mk)(h to:Int)(pre:List (List Int))(row:List Int)(I:m.out.length<100000000)(hw:IntKind.i64.wrap h=h):ag ctx 120 [.ptr 0 0 0,.d (.int .i64 to)] (mkO p m h pre row)=some (.ret (.d (.int .i64 m.out.length)),mkP p (m.put (ins 9 to 0 0 0) h) h pre row):=by
 have O:=ar7 p m h 0 (ins 9 to 0 0 0) pre row I (by simpa using hw);rw[show h+0=h by omega]at O;generalize m.put (ins 9 to 0 0 0) h=M at*;rw[On (by simp)];simp[ins]at O;simp[f120,O]
def Mk.ext(m:Mk):Mk:={m with out:=m.out++[ins 9 0 0 0 0],bU:=max m.bU 0,ex:=iR m.ex [(m.out.length:Int)]}
def Mk.ret(m:Mk):Mk:={m with out:=m.out++[ins 9 0 0 0 0],bU:=max m.bU 0,lv:=m.lv++[(m.out.length:Int)]}
theorem ar8{p:Pg}{x:Sm}{m:Mk}(I:m.out.length<99999989)(A2:m.lv.length<99999989)(D:gd x=8):gX p (m.put (ins 11 0 0 0 0) 0).ret 0 (.ret (.aY [])) (ag ctx 73 [.ptr 0 0 0,.d (bX x)] (gW p m 0)):=by
 obtain⟨J,a2,a3,E⟩:=pE p m 0 (by omega) (by decide);have A6:(m.put (ins 11 0 0 0 0) 0).lv.length<99999989:=A2;have A4:(m.put (ins 11 0 0 0 0) 0).out.length<99999990:=by simp[Mk.put];omega
 generalize m.put (ins 11 0 0 0 0) 0=N at*;have T:=apq p N 0 0 (by omega) (by decide);have e:N.ret={(N.put (ins 9 0 0 0 0) 0)with lv:=N.lv++[(N.out.length:Int)]}:=rfl;have U:(N.put (ins 9 0 0 0 0) 0).lv=N.lv:=rfl;rw[e];generalize N.put (ins 9 0 0 0 0) 0=P at*;have A':N.lv.length<=4611686018427387903:=by omega
 have A0:(N.lv.length+1)*8<=140737488355328:=by omega
 rw[yB (by simp)];simp[ins]at E T;rw[U]at T;simp[f73,dI,D,E,T,U,A',A0,wb,Bj,Bi,pS,rB,vS,kR,nB,oz,qR,yj,yk,yl,ym,fB,qQ,tc,A3,rZ,ze,HZ,KF,FH,ej,eU,lg,pQ,bh.app];exact⟨1,(if a2=0 then 0 else 1),1,by simp⟩
theorem ar9{p:Pg}{x:Sm}{m:Mk}{pre:List (List Int)}{row:List Int}(U:m.ex=pre++[row])(I:m.out.length<99999989)(A7:row.length<99999990)(A8:pre.length<99999990)(D:gd x=7):gX p (m.put (ins 11 0 0 0 0) 0).ext 0 (.ret (.aY [])) (ag ctx 73 [.ptr 0 0 0,.d (bX x)] (gW p m 0)):=by
 obtain⟨J,a2,a3,E⟩:=pE p m 0 (by omega) (by decide);have A1:(m.put (ins 11 0 0 0 0) 0).ex=pre++[row]:=U;have A4:(m.put (ins 11 0 0 0 0) 0).out.length<99999990:=by simp[Mk.put];omega
 generalize m.put (ins 11 0 0 0 0) 0=N at*;have T:=apr p N 0 0 pre row (by omega) (by decide);have e:N.ext={(N.put (ins 9 0 0 0 0) 0)with ex:=pre++[row++[(N.out.length:Int)]]}:=by
  unfold Mk.ext;rw[A1,kG];rfl
 have A5:(N.put (ins 9 0 0 0 0) 0).ex=pre++[row]:=A1;rw[e];generalize N.put (ins 9 0 0 0 0) 0=P at*;have A':row.length<=4611686018427387903:=by omega
 have A0:(row.length+1)*8<=140737488355328:=by omega
 have Z:IntKind.i64.wrap ((pre.length:Int)+1-1)=pre.length:=by rw[show (pre.length:Int)+1-1=pre.length by omega];exact aB (by unfold bq;omega)
 have y:IntKind.i64.wrap (pre.length:Int)=pre.length:=aB (by unfold bq;omega);rw[yB (by simp)];simp[ins,A1,A5,U]at E T;simp[f73,dI,D,U,E,T,A',A0,Z,y,wb,Bj,Bi,pS,rB,vS,kR,nB,oz,qR,yj,yk,yl,ym,fB,qQ,tc,A3,rZ,ze,HZ,KF,FH,ej,eU,lg,pQ,bh.app];exact⟨1,(if a2=0 then 0 else 1),(if a3=0 then 0 else 1),by simp⟩
def KMm(p:Pg)(lp:Bool)(x:Sm):Prop:=∀(m:Mk),0<=m.bU->0<=m.cells->jO m->(lp=true->m.ex≠[])->m.out.length+(vh p.vars x m.cells).length<99999990->(dp p.vars x m.cells).2<99999990->m.ex.length+Ay x<99999990->
 gX p (m.aS (vh p.vars x m.cells) (dp p.vars x m.cells).2 (iz x)) 0 (.ret (.aY [])) (ag ctx 73 [.ptr 0 0 0,.d (bX x)] (gW p m 0))
theorem Vg(vs:List Vr):∀(l:List Sm)(c:Int),l.length<=(ah vs l c).1.length
 |[],c=>by simp
 |x::r,c=>by
  have:=Vg vs r (dp vs x c).2;unfold ah;simp only[eP,aan,aaw];omega
theorem Jb{p:Pg}{lp:Bool}(l:List Sm)(A':l.length<99999999)(k:Kt)(Q:Mk->bN->Prop)
 (I:∀(Y:Env) M v1 v2 v3 v6 D,Q M (k (.exit 0) ⟨16,aX,(0,true,.ptr 0 0 0)::Y,mqM p M 0 v1 v2 v3++[⟨350,v6,D⟩]⟩)):
 ∀(E pre:List Sm)(m:Mk)(v1 v2 v3 v6:Nat)(D:aD),l=pre++E->(∀x∈E,KMm p lp x)->0<=m.bU->0<=m.cells->jO m->(lp=true->m.ex≠[])->m.out.length+(ah p.vars E m.cells).1.length<99999990->(ah p.vars E m.cells).2<99999990->m.ex.length+jP E<99999990->
 Q (m.aS (ah p.vars E m.cells).1 (ah p.vars E m.cells).2 (bx E)) (aZ ctx 42 (.loop (Code.at (bg f42) [1,0,0])) ⟨16,aX,[(0,true,.ptr 0 0 0),(6,true,.d (.list (l.map bX))),(7,true,.d (.int .i64 l.length)),(8,true,.d (.int .i64 pre.length))],mqM p m 0 v1 v2 v3++[⟨350,v6,D⟩]⟩ k)
 |[],pre,m,v1,v2,v3,v6,D,J,H,hm,V,O,hex,T,U,W=>by
  have e:m.aS (ah p.vars [] m.cells).1 (ah p.vars [] m.cells).2 (bx [])=m:=afd m hm;rw[e];have A2:pre.length=l.length:=by rw[J];simp
  have:=I [(6,true,.d (.list (l.map bX))),(7,true,.d (.int .i64 l.length)),(8,true,.d (.int .i64 l.length)),(9,true,.d (.bool false))] m v1 v2 v3 v6 D;simp at this;rw[A2,ai];simp[f42,this]
 |x::r,pre,m,v1,v2,v3,v6,D,J,H,hm,V,O,hex,T,U,W=>by
  have A3:ah p.vars (x::r) m.cells=(jn (vh p.vars x m.cells) (ah p.vars r (dp p.vars x m.cells).2).1,(ah p.vars r (dp p.vars x m.cells).2).2):=rfl;have A4:jP (x::r)=max (Ay x) (jP r):=by simp[jP]
  have A5:bx (x::r)=max (iz x) (bx r):=by simp[bx]
  have AD:=D6 (vs:=p.vars) x m.cells;have AE:=iP (vs:=p.vars) r (dp p.vars x m.cells).2;rw[A3]at T U⊢;rw[A4]at W;rw[A5];simp only[eP]at T;simp only at U;obtain⟨AF,a2,a3,A0⟩:=H x (by simp) m hm V O hex (by omega) (by omega) (by omega);have A6:(m.aS (vh p.vars x m.cells) (dp p.vars x m.cells).2 (iz x)).out.length=m.out.length+(vh p.vars x m.cells).length:=by
   show (m.out++cU _ _).length=_;rw[aam,pW]
  have Z:(m.aS (vh p.vars x m.cells) (dp p.vars x m.cells).2 (iz x)).ex.length=m.ex.length:=by
   show (iR _ _).length=_;rw[acy]
  have ih:=λv1 v2 v3 v6 D=>Jb l A' k Q I r (pre++[x]) (m.aS (vh p.vars x m.cells) (dp p.vars x m.cells).2 (iz x)) v1 v2 v3 v6 D (by simp[J]) (λy A7=>H y (by simp[A7])) (by show 0<=max m.bU _;omega) (by show 0<=(dp p.vars x m.cells).2;omega) (O.aS _ _ _)
   (λh=>by
    have:=hex h;intro A8;rw[A8]at Z;exact this (abO Z.symm))
   (by rw[A6];show _+(ah p.vars r (dp p.vars x m.cells).2).1.length<_;omega) (by show (ah p.vars r (dp p.vars x m.cells).2).2<_;omega) (by rw[Z];omega)
  rw[show (m.aS (vh p.vars x m.cells) (dp p.vars x m.cells).2 (iz x)).cells=(dp p.vars x m.cells).2 from rfl,E4]at ih;clear I H;generalize m.aS (vh p.vars x m.cells) (dp p.vars x m.cells).2 (iz x)=M at*;have A9:pre.length<l.length:=by rw[J];simp
  have AA:l[pre.length]=x:=by simp[J]
  have AB:IntKind.i64.wrap ((pre.length:Int)+1)=(pre.length:Int)+1:=aB (by unfold bq;omega);rw[ai];simp[dI]at A0;simp[f42]at ih⊢;simp[A9,AA,dI,A0,aq,AB,ih]
theorem Ha{p:Pg}{lp:Bool}(l:List Sm)(H:∀x∈l,KMm p lp x):xQ p lp l:=by
 intro m hm V O hex T U W;have A':=Vg p.vars l m.cells;have A1:=λ(k:Kt) (Q:Mk->bN->Prop) I v6 D=>Jb l (by omega) k Q I l [] m 0 0 0 v6 D rfl H hm V O hex T U W;rw[arn (by simp)];generalize m.aS (ah p.vars l m.cells).1 (ah p.vars l m.cells).2 (bx l)=N at*;simp[f42]at A1⊢;refine A1 _ (λX r=>X=N->gX p N 0 (.ret (.aY [])) r) (λY X v1 v2 v3 v6 D AC=>?_) _ _ rfl;subst AC;simp[f42];exact⟨_,_,_,rfl⟩
end Go.Am
end
section
namespace Go.Am
open Go
section
variable {vs:List Vr}
theorem ajT{x:Ex}{t:Int}(h:(cu vs x t).1=0):(bm vs x).e=0/\(bm vs x).t=t:=by
 unfold cu at h;split at h
 ·exact absurd h (by assumption)
 ·rename_i J;split at h
  ·simp at h
  ·rename_i E;exact⟨by simpa using J,by simpa using E⟩
theorem J6{k line:Int}:∀(D:List Tx)(xs:List Ex)(p:List Tx),xs.length=D.length->(lW vs k line D xs p).1=0->∀x∈xs,(bm vs x).e=0
 |[],[],_,_,_,x,M=>by simp at M
 |f::D,x::xs,p,O,h,y,H=>by
  simp only[lW]at h;cases I:pt k f with
  |none=>rw[I]at h;simp at h
  |some q=>
   rw[I]at h;simp only at h;split at h
   ·simp at h
   ·split at h
    ·simp at h
    ·obtain⟨E,T⟩:=cn.1 h;rcases aaC.1 H with rfl|H
     ·exact (ajT E).1
     ·exact J6 D xs _ (by simpa using O) T y H
 |[],_::_,_,h,_,_,_=>by simp at h
 |_::_,[],_,h,_,_,_=>by simp at h
end
end Go.Am
end
section
namespace Go.Am
open Go Go.Proofs
variable [Inhabited bV]
set_option maxRecDepth 20000
theorem Vh{vs:List Vr}{name:Tx}:∀(A6:List Tx)(xs:List Ex),xs.length=A6.length->A6.length<=(eD vs name A6 xs).length
 |[],xs,_=>by simp
 |_::_,[],h=>by simp at h
 |f::A6,x::xs,h=>by
  have:=Vh (vs:=vs) (name:=name) A6 xs (by simpa using h);simp only[eD,aam,aan];omega
theorem Zk:∀(ts bs:List (List ay)),(∀t∈ts,1<=t.length)->bs.length<=ts.length+1->2*bs.length<=(df ts bs).length+2
 |_,[],_,_=>by simp
 |[],b::r,_,h=>by
  have AU:r=[]:=abO (by simpa using h);subst AU;simp
 |t::ts,b::r,J,h=>by
  have ih:=Zk ts r (λy Aa=>J y (by simp[Aa])) (by simpa using h);have A1:=J t (by simp);unfold df;simp only[eP,aam,aan,aaw,n9];omega
theorem AA(vs:List Vr):∀(l:List (List Sm))(c:Int),(aC vs l c).1.length=l.length
 |[],c=>by simp[aC]
 |b::r,c=>by simp[aC,AA vs r]
theorem acI{m:Mk}(h:0<=m.bU)(l:List ay)(c t:Int):(m.put (ins 11 0 0 0 0) 0).aS l c t=m.aS (jn [ins 11 0 0 0 0] l) c t:=by
 rw[afe,<-rI (Flat.one (by simp[ins])),E4];exact pG (by omega)
section
variable {p:Pg} (V:p.vars.length<=1000) (W:∀v∈p.vars,dN v=true)
include V W
theorem asa{lp:Bool}{x:Sm}(H:gC x=true)(h:(mu p.vars lp x).1=0)(A7:∀(lp:Bool) (cs:List Ex),cH (cY x)=true->(gD p.vars lp cs (cY x)).1=0->∀b∈cY x,xQ p lp b):KMm p lp x:=by
 intro m hm A8 AQ hex D I A9;rw[aeZ]at D;have Ab:vh p.vars x m.cells=jn [ins 11 0 0 0 0] (dp p.vars x m.cells).1:=rfl;rw[Ab,<-acI hm];have AB:(m.put (ins 11 0 0 0 0) 0).out.length=m.out.length+1:=by simp[Mk.put]
 have AC:(m.put (ins 11 0 0 0 0) 0).cells=m.cells:=rfl;have AD:(m.put (ins 11 0 0 0 0) 0).ex=m.ex:=rfl;have A2:0<=(m.put (ins 11 0 0 0 0) 0).bU:=by simp[Mk.put];omega
 have AE:jO (m.put (ins 11 0 0 0 0) 0):=AQ.put _ _;cases U3 H h with
 |@asg to val line v M AF Ac Ad E Z AR J=>
  have Ae:=J1 Ad E;have AV:=oJ val Z AR;cases Ae with
  |num h=>simp[dj]at M
  |vu h=>simp[dj]at M
  |fld _ _ _ _=>simp[dj]at M
  |one o _ _ _=>simp[dj]at M;omega
  |two o _ _ _ _ _ _=>simp[dj]at M;omega
  |@var name AG AS AM AW Af=>
   refine ah5 (by omega) rfl ?_;have e:dp p.vars (.mk 1 [] (.mk 3 0 name [] [] AG) val [] [] [] [] line) m.cells=((aw p.vars val).1++[ins 6 (cx p.vars name).1 0 0 0],m.cells):=by simp[dp,dj,gT]
   have E:iz (.mk 1 [] (.mk 3 0 name [] [] AG) val [] [] [] [] line)=aR 0 val:=by simp[iz,dj]
   rw[e]at D⊢;rw[E];simp only[aam,aan,aaw]at D;show gX p ((m.put (ins 11 0 0 0 0) 0).aS _ (m.put (ins 11 0 0 0 0) 0).cells _) 0 _ _;rw[rI (Flat.app AV (Flat.one (by simp[ins])))];exact acA V W AM Z AR _ A2 (by omega)
  |@idx name AG AS y AM AW Af AN AX ty=>
   refine ah5 (by omega) rfl ?_;have Ag:=oJ y AN AX;have e:dp p.vars (.mk 1 [] (.mk 4 0 name [] [y] AG) val [] [] [] [] line) m.cells=((aw p.vars y).1++((aw p.vars val).1++[ins 7 (cx p.vars name).1 0 AS.lo AS.hi]),m.cells):=by simp[dp,dj,gT,ic,so,kj AM]
   have E:iz (.mk 1 [] (.mk 4 0 name [] [y] AG) val [] [] [] [] line)=max (gL 0 [y]) (aR 1 val):=by simp[iz,dj,ic]
   have Ah:gL 0 [y]=max (aR 0 y) 0:=by simp[gL]
   rw[e]at D⊢;rw[E,Ah];simp only[aam,aan,aaw]at D;show gX p ((m.put (ins 11 0 0 0 0) 0).aS _ (m.put (ins 11 0 0 0 0) 0).cells _) 0 _ _;rw[rI (Flat.app Ag (Flat.app AV (Flat.one (by simp[ins])))),show max (max (aR 0 y) 0) (aR 1 val)=max (aR 0 y) (aR 1 val) by have:=oa 0 y;omega];exact acB V W AM AN AX Z AR _ A2 (by omega)
 |@cnd to val conds blocks line M AO AP A1 O A3 A' hh=>
  have A4:∀c∈conds,bn c=true/\(bm p.vars c).e=0:=λc Y=>⟨(kE _).1 AP c Y,(ma (yR O hh c Y)).1⟩;have A0:=A7 lp conds A' hh;have e:dp p.vars (.mk 2 [] to val conds [] [] blocks line) m.cells=(df (dS (Cc p.vars conds)) (aC p.vars blocks m.cells).1,(aC p.vars blocks m.cells).2):=by simp[dp,J5]
  have E:iz (.mk 2 [] to val conds [] [] blocks line)=max (dX (Cc p.vars conds)) (b7 blocks):=by simp[iz,P8]
  rw[e]at D I⊢;rw[E];simp only at D I;have AY:(Cc p.vars conds).length=conds.length:=by simp[Cc]
  have AH:=Zk (dS (Cc p.vars conds)) (aC p.vars blocks m.cells).1 (λt J=>by
   rw[J5]at J;obtain⟨c,_,rfl⟩:=abV.1 J;have:=mo p.vars c;omega) (by rw[AA];simpa [dS,AY]using A3)
  rw[AA]at AH;refine ar5 (by omega) rfl ?_;have:=Zg (p:=p) (lp:=lp) (s:=.mk 2 [] to val conds [] [] blocks line) (blocks:=blocks) (ts:=Cc p.vars conds) (by omega) (by omega) (by omega)
   (λt J=>by
    rw[J5]at J;obtain⟨c,Y,rfl⟩:=abV.1 J;exact oJ c (A4 c Y).1 (A4 c Y).2)
   (λi t hi m hm AI=>by
    simp only[Cc,ab6,aax]at hi;obtain⟨c,AZ,rfl⟩:=hi;have Y:=aay AZ;exact ajI V W (.mk 2 [] to val conds [] [] blocks line) i c AZ (A4 c Y).1 (A4 c Y).2 m hm (by simp only at AI;omega))
   A0 (λb _ c _=>iP b c) (m.put (ins 11 0 0 0 0) 0) A2 A8 AE hex (by rw[AC,AB];omega) I (λb T=>by
    have:=G7 T;rw[AD];simp only[Ay]at A9;omega)
  rw[AY]at this;exact this
 |@cas to val A5 blocks line M Z AJ O A3 Ai A' hh=>
  have A0:=A7 lp [] A' hh;have e:dp p.vars (.mk 3 [] to val [] A5 [] blocks line) m.cells=(jn ((aw p.vars val).1++[ins 6 m.cells 0 0 0]) (df (A5.map λl=>ins 1 0 0 0 0::eS m.cells l) (aC p.vars blocks (m.cells+1)).1),(aC p.vars blocks (m.cells+1)).2):=by simp[dp]
  have E:iz (.mk 3 [] to val [] A5 [] blocks line)=max (aR 0 val) (max (if A5=[]then 0 else 2) (b7 blocks)):=by simp[iz]
  rw[e]at D I⊢;rw[E];simp only[eP,aam,aan,aaw]at D I;have AH:=Zk (A5.map λl=>ins 1 0 0 0 0::eS m.cells l) (aC p.vars blocks (m.cells+1)).1 (λt J=>by
   obtain⟨l,_,rfl⟩:=abV.1 J;simp) (by rw[AA];simpa using A3)
  rw[AA]at AH;exact ar2 (by omega) rfl (afk V W Z (ma AJ).1 Ai O A3 (by omega) A0 (λb _ c _=>iP b c) (m.put (ins 11 0 0 0 0) 0) A2 A8 AE hex (by rw[AC,AB];omega) I (λb T=>by
   have:=G7 T;rw[AD];simp only[Ay]at A9;omega))
 |@cnt name to val x y z b line v AH M AO AF Ac AW J Aj Ak AN Al An Ao A' hh=>
  have A0:=A7 true [] (by simpa [cY,cH]using A') (by simp[cY,gD,dR,hh]) b (by simp[cY]);have e:dp p.vars (.mk 4 name to val [x,y,z] [] [] [b] line) m.cells=(jn (((aw p.vars x).1++((aw p.vars y).1++(aw p.vars z).1))++[ins 6 (m.cells+1) 0 0 0,ins 6 m.cells 0 0 0,ins 6 (cx p.vars name).1 0 0 0]) (nG (cx p.vars name).1 m.cells (ah p.vars b (m.cells+2)).1),(ah p.vars b (m.cells+2)).2):=by simp[dp,jy,om]
  have E:iz (.mk 4 name to val [x,y,z] [] [] [b] line)=max (max (gL 0 [x,y,z]) 3) (max (bx b) 0):=by simp[iz,b7]
  have AK:Ay (.mk 4 name to val [x,y,z] [] [] [b] line)=max (jP b) 0+1:=by simp[Ay,zH]
  rw[e]at D I⊢;rw[E,pG (u:=max (max (gL 0 [x,y,z]) 3) (bx b)) (by omega)];rw[AK]at A9;simp only[eP,aam,aan,aaw]at D I;exact ar3 (by omega) rfl (Zj V W AF Aj (ma Ak).1 AN (ma Al).1 An (ma Ao).1 A0 (λc _=>iP b c) (m.put (ins 11 0 0 0 0) 0) A2 A8 AE (by simp only[aam];rw[AC,AB];omega) I (by rw[AD];omega))
 |@whl to val b line M Z AJ A' hh=>
  have A0:=A7 true [] (by simpa [cY,cH]using A') (by simp[cY,gD,dR,hh]) b (by simp[cY]);have e:dp p.vars (.mk 5 [] to val [] [] [] [b] line) m.cells=(jN (aw p.vars val).1 (ah p.vars b m.cells).1,(ah p.vars b m.cells).2):=by simp[dp,om]
  have E:iz (.mk 5 [] to val [] [] [] [b] line)=max (aR 0 val) (max (bx b) 0):=by simp[iz,b7]
  have AK:Ay (.mk 5 [] to val [] [] [] [b] line)=max (jP b) 0+1:=by simp[Ay,zH]
  rw[e]at D I⊢;rw[E,pG (u:=max (aR 0 val) (bx b)) (by omega)];rw[AK]at A9;simp only at D I;exact acG (by omega) (.inl rfl) (afi V W Z (ma AJ).1 A0 (m.put (ins 11 0 0 0 0) 0) A2 A8 AE (by rw[AC,AB];omega) I (by rw[AD];omega))
 |@rep to val b line M Z AJ A' hh=>
  have A0:=A7 true [] (by simpa [cY,cH]using A') (by simp[cY,gD,dR,hh]) b (by simp[cY]);have e:dp p.vars (.mk 6 [] to val [] [] [] [b] line) m.cells=(pz (aw p.vars val).1 (ah p.vars b m.cells).1,(ah p.vars b m.cells).2):=by simp[dp,om]
  have E:iz (.mk 6 [] to val [] [] [] [b] line)=max (aR 0 val) (max (bx b) 0):=by simp[iz,b7]
  have AK:Ay (.mk 6 [] to val [] [] [] [b] line)=max (jP b) 0+1:=by simp[Ay,zH]
  rw[e]at D I⊢;rw[E,pG (u:=max (aR 0 val) (bx b)) (by omega)];rw[AK]at A9;simp only at D I;exact acG (by omega) (.inr rfl) (acF V W Z (ma AJ).1 A0 (m.put (ins 11 0 0 0 0) 0) A2 A8 AE (by rw[AC,AB];omega) I (by rw[AD];omega))
 |@ext to val line M AO Ap=>
  have e:dp p.vars (.mk 7 [] to val [] [] [] [] line) m.cells=([ins 9 (-1) 0 0 0],m.cells):=by simp[dp]
  have E:iz (.mk 7 [] to val [] [] [] [] line)=0:=by simp[iz]
  rw[e]at D⊢;rw[E];simp only[aan,aaw]at D;rcases akT m.ex with U|⟨pre,row,U⟩
  ·exact absurd U (hex Ap)
  ·rw[alB]at U;have AU:=AQ.2 row (by rw[U];simp);have Aq:m.ex.length=pre.length+1:=by rw[U];simp
   have:=ar9 (p:=p) (x:=.mk 7 [] to val [] [] [] [] line) U (by omega) (by omega) (by omega) rfl;have AT:(m.put (ins 11 0 0 0 0) 0).ext=(m.put (ins 11 0 0 0 0) 0).aS [ins 9 (-1) 0 0 0] m.cells 0:=by
    simp[Mk.ext,Mk.aS,cU,mw,cN,ins,Mk.put]
   rw[AT]at this;exact this
 |@ret to val line M AO=>
  have e:dp p.vars (.mk 8 [] to val [] [] [] [] line) m.cells=([ins 9 (-2) 0 0 0],m.cells):=by simp[dp]
  have E:iz (.mk 8 [] to val [] [] [] [] line)=0:=by simp[iz]
  rw[e]at D⊢;rw[E];simp only[aan,aaw]at D;have:=ar8 (p:=p) (x:=.mk 8 [] to val [] [] [] [] line) (m:=m) (by omega) (by have:=AQ.1;omega) rfl;have AT:(m.put (ins 11 0 0 0 0) 0).ret=(m.put (ins 11 0 0 0 0) 0).aS [ins 9 (-2) 0 0 0] m.cells 0:=by
   simp[Mk.ret,Mk.aS,cU,mw,cN,ins,Mk.put,pF]
  rw[AT]at this;exact this
 |@cal name to val conds fields line v AH M AO AF J AP AI Ar hh=>
  have A_:=J6 fields conds [] AI hh;have A4:∀c∈conds,bn c=true/\(bm p.vars c).e=0:=λc Y=>⟨(kE _).1 AP c Y,A_ c Y⟩;have As:=Vh (vs:=p.vars) (name:=name) fields conds AI;have e:dp p.vars (.mk 9 name to val conds [] fields [] line) m.cells=(eD p.vars name fields conds++[ins 12 (cx p.vars name).1 v.ty 0 0],m.cells):=by simp[dp,kj AF]
  have E:iz (.mk 9 name to val conds [] fields [] line)=mn conds:=by simp[iz]
  rw[e]at D⊢;rw[E];simp only[aam,aan,aaw]at D;refine ar4 (by omega) rfl ?_;show gX p ((m.put (ins 11 0 0 0 0) 0).aS _ (m.put (ins 11 0 0 0 0) 0).cells _) 0 _ _;rw[rI (Flat.app (PW fields conds AP A_) (Flat.one (by simp[ins])))];exact ajH V W AF AI (by omega) A4 _ A2 (by omega)
mutual
theorem apt:∀(x:Sm)(lp:Bool),gC x=true->(mu p.vars lp x).1=0->KMm p lp x
 | .mk op name to val conds A5 fields blocks line,lp,H,h=>asa V W H h (λlp cs A1 O=>Hb blocks lp cs A1 O)
theorem BL:∀(l:List Sm)(lp:Bool),fG l=true->(fm p.vars lp l).1=0->∀x∈l,KMm p lp x
 |[],_,_,_,x,U=>absurd U (afQ)
 |y::r,lp,H,h,x,U=>by
  simp only[fG,Ds]at H;simp only[fm]at h;obtain⟨A1,O⟩:=cn.1 h;rcases aaC.1 U with AL|U
  ·rw[AL];exact apt y lp H.1 A1
  ·exact BL r lp H.2 O x U
theorem Hb:∀(l:List (List Sm))(lp:Bool)(cs:List Ex),cH l=true->(gD p.vars lp cs l).1=0->∀b∈l,xQ p lp b
 |[],_,_,_,_,b,T=>absurd T (afQ)
 |y::r,lp,[],H,h,b,T=>by
  simp only[cH,Ds]at H;simp only[gD]at h;obtain⟨A1,O⟩:=cn.1 h;rcases aaC.1 T with AL|T
  ·rw[AL];exact Ha y (BL y lp H.1 A1)
  ·exact Hb r lp [] H.2 O b T
 |y::r,lp,c::cs,H,h,b,T=>by
  simp only[cH,Ds]at H;simp only[gD]at h;obtain⟨A1,O⟩:=cn.1 h;obtain⟨O,A3⟩:=cn.1 O;rcases aaC.1 T with AL|T
  ·rw[AL];exact Ha y (BL y lp H.1 O)
  ·exact Hb r lp cs H.2 A3 b T
end
theorem ajU{l:List Sm}{lp:Bool}(H:fG l=true)(h:(fm p.vars lp l).1=0):xQ p lp l:=Ha l (BL V W l lp H h)
end
end Go.Am
end
section
namespace Go.Am
open Go Go.Proofs Go.Proofs.Tryz
variable [Inhabited bV]
set_option maxRecDepth 20000
def Hc:List Vr->Int->List Int
 |[],_=>[]
 |v::r,n=>n::Hc r (n+bO v)
def Hd:List Vr->List Int
 |[]=>[]
 |v::r=>(if v.arr=false/\v.ty<=2 then [v.init]else List.replicate (bO v).toNat 0)++Hd r
@[simp] def apu(v1 v2 v3:Nat)(E:aD)(S:List Int)(n:Int)(F:List Int):List cq:=[⟨250,1,.box [.vec 251 v1 0 S.length,.d (.int .i64 n),.vec 252 v2 0 F.length]⟩,⟨251,v1,.vec 1 (S.map eh)⟩,⟨252,v2,.vec 1 (F.map eh)⟩,⟨350,v3,E⟩]
theorem P9(l:List Vr)(V:l.length<=1000)(I:∀v∈l,dN v=true)(B C:cq)(J:B.key=150)(M:C.key=200)(k:Kt)(Q:List Int->Int->List Int->bN->Prop)
 (U:∀(Y:Env) S n F v1 v2 v3 E,Q S n F (k (.exit 0) ⟨51,aX,(2,true,.ptr 200 1 0)::(3,true,.ptr 250 1 0)::Y,B::C::apu v1 v2 v3 E S n F⟩)):∀(rest pre:List Vr)(S:List Int)(n:Int)(F:List Int)(v1 v2 v3:Nat)(E:aD),l=pre++rest->0<=n->n<=1000*pre.length->S.length=pre.length->(F.length:Int)=n->
 Q (S++Hc rest n) (n+cy rest) (F++Hd rest) (aZ ctx 41 (.loop (Code.at (bg f41) [1,1,0,1,0,0])) ⟨51,aX,[(2,true,.ptr 200 1 0),(3,true,.ptr 250 1 0),(8,true,.d (.list (l.map aW))),(9,true,.d (.int .i64 l.length)),(10,true,.d (.int .i64 pre.length))],B::C::apu v1 v2 v3 E S n F⟩ k)
 |[],pre,S,n,F,v1,v2,v3,E,H,A9,AA,A1,A2=>by
  have AB:pre.length=l.length:=by rw[H];simp
  have:=U [(8,true,.d (.list (l.map aW))),(9,true,.d (.int .i64 l.length)),(10,true,.d (.int .i64 l.length)),(11,true,.d (.bool false))] S n F v1 v2 v3 E;simp[Hc,cy,Hd]at this⊢;rw[AB,ai];simp[f41,this]
 |w::rest,pre,S,n,F,v1,v2,v3,E,H,A9,AA,A1,A2=>by
  have A3:pre.length<l.length:=by rw[H];simp
  have A4:l[pre.length]=w:=by simp[H]
  have O:=GY (I w (by rw[H];simp));have AC:=tY (I w (by rw[H];simp));have ih:=λF' h v1 v2 v3 E=>P9 l V I B C J M k Q U rest (pre++[w]) (S++[n]) (n+bO w) F' v1 v2 v3 E (by simp[H]) (by omega) (by simp;omega) (by simp[A1]) h;have A5:IntKind.i64.wrap ((pre.length:Int)+1)=(pre.length:Int)+1:=aB (by unfold bq;omega);have W:IntKind.i64.wrap (n+bO w)=n+bO w:=aB (by unfold bq;omega);have A6:S.length<=4611686018427387903:=by omega
  have A7:(S.length+1)*8<=140737488355328:=by omega
  rw[ai];simp only[Hc,cy,Hd];rw[<-Int.add_assoc];by_cases T:w.arr=false/\w.ty<=2
  ·have Z:bO w=1:=by unfold bO;rw[aab (by simp[T.1]),aab (by omega)]
   rw[Z]at O ih W AC⊢;have ih:=ih (F++[w.init]) (by simp;omega);have y:F.length<=4611686018427387903:=by omega
   have A':(F.length+1)*8<=140737488355328:=by omega
   have A0:IntKind.i64.wrap n=F.length:=by rw[<-A2];exact aB (by unfold bq;omega)
   have AD:(F.map eh++[D.int .i64 0]).set F.length (D.int .i64 w.init)=F.map eh++[D.int .i64 w.init]:=by
    rw[List.set_append_right _ _ (by simp)];simp
   simp[f41,aW,dx,T,eh]at ih O⊢;simp[A3,A4,J,M,aW,dx,T,O,A5,W,A6,A7,y,A',A0,AD,ih,eh]
  ·have ih:=ih (F++List.replicate (bO w).toNat 0) (by simp;omega);have A0:0<=bO w/\bO w<=4611686018427387904:=by omega
   have y:F.length+(bO w).toNat<=4611686018427387904:=by omega
   have A':(F.length+(bO w).toNat)*8<=140737488355328:=by omega
   simp[f41,aW,dx,T,eh]at ih O⊢;simp[A3,A4,J,M,aW,dx,T,O,A5,W,A6,A7,y,A',A0,ih,eh]
theorem ajV(p:Pg)(V:p.vars.length<=1000)(I:∀v∈p.vars,dN v=true):ag ctx 41 [.d (uT p)] []=some (.ret (.d (.agg [.list ((Hc p.vars 0).map eh),.int .i64 (cy p.vars),.list ((Hd p.vars).map eh)])),[]):=by
 have A8:=λB C J M k Q U v1 v2 v3 E=>P9 p.vars V I B C J M k Q U p.vars [] [] 0 [] v1 v2 v3 E rfl (by omega) (by simp) rfl rfl;rw[arl (by simp)];simp[f41]at A8⊢;refine A8 _ _ ?_ ?_ _ (λS n F r=>S=Hc p.vars 0->n=cy p.vars->F=Hd p.vars->r=some (.ret (.d (.agg [.list ((Hc p.vars 0).map eh),.int .i64 (cy p.vars),.list ((Hd p.vars).map eh)])),[])) (λY S n F v1 v2 v3 E Z AE AF=>?_) _ _ _ _ rfl rfl rfl
 ·rfl
 ·rfl
 ·subst Z AE AF;simp
end Go.Am
end
section
namespace Go.Am
open Go Go.Proofs Go.Proofs.Tryz
variable [Inhabited bV]
set_option maxRecDepth 20000
set_option maxHeartbeats 1000000
theorem afm(p:Pg)(Z:p.vars.length<=1000)(y:∀v∈p.vars,dN v=true)
 (I:ag ctx 30 [.d (uT p)] []=some (.ret (.d (uT (foP p))),[]))
 (M:Mk) (D:gX p M 0 (.ret (.aY [])) (ag ctx 42 [.ptr 0 0 0,.d (.list ((ep p.body).map bX))] (gW p ⟨[],cy p.vars,0,[],[]⟩ 0))) (A1:M.out.length<99999990) (A':M.lv.length<100000000) (J:Pl M.out.length M.lv):
 ag ctx 16 [.d (uT p)] []=(if 4096<(((M.cI M.lv).put (ins 15 0 0 0 0) 0).out.length:Int)\/64<((M.cI M.lv).put (ins 15 0 0 0 0) 0).bU then some (.ret (.aY [.d (.agg [.list [],.int .i64 0,.int .i64 0]),.d (.int .i64 13)]),[])else some (.ret (.aY [.d (.agg [.list (((M.cI M.lv).put (ins 15 0 0 0 0) 0).out.map cQ),.int .i64 (cy p.vars),.int .i64 M.cells]),.d (.int .i64 0)]),[])):=by
 have A0:=ajV p Z y;obtain⟨A2,a2,a3,D⟩:=D;have H:=afc p M 0 A' (by omega) J;have O:(M.cI M.lv).out.length=M.out.length:=by
  have:∀(ps:List Int)(m:Mk),(m.cI ps).out.length=m.out.length:=by
   intro ps;induction ps with
   |nil=>intro m;rfl
   |cons i r ih=>intro m;rw[xP,ih,G6]
  exact this _ _
 obtain⟨A3,A4,A5,E⟩:=lj p (M.cI M.lv) 0 0 (ins 15 0 0 0 0) (by rw[O];omega) (by decide);rw[ari (by simp)];simp[foP]at I;simp at D H;simp[ins]at E;have T:(M.cI M.lv).ex=M.ex:=rfl;have U:(M.cI M.lv).lv=M.lv:=rfl;have V:(M.cI M.lv).bU=M.bU:=rfl;have W:(M.cI M.lv).cells=M.cells:=rfl;simp[T,U,V,W]at H E;have Y:((M.cI M.lv).put (ins 15 0 0 0 0) 0).cells=M.cells:=rfl;rw[<-Y];simp only[ins]at E⊢;clear T U V W Y O J;generalize M.cI M.lv=N at*;simp[f16,A0,I,D,H,E,aq];split<;>rename_i h<;>first|simp[h]|simp_all
end Go.Am
end
section
namespace Go.Am
open Go
theorem av6{x:ay}(h:x.op=9\/x.op=10->0<=x.a):mw 0 x=x:=by
 unfold mw;split
 ·rename_i D;have:=h D;rw[aat this];obtain⟨op,a,b,n,m⟩:=x;simp
 ·rfl
theorem av7{l:List ay}(h:∀x∈l,x.op=9\/x.op=10->0<=x.a):cU 0 l=l:=by
 unfold cU;exact (aoh (g:=id) (λx E=>av6 (h x E))).trans (List.map_id l)
theorem ajW{l:List ay}(J:Jf false l):ld (cU 0 l) (cN (-2) 0 l) l.length=l.map (qG l.length):=by
 have h:=uR (k:= -2) (to:=(l.length:Int)) (by decide) (by omega) 0 l [] [] 0 rfl;simp only[afR,afV]at h;rw[show ((l.length:Int)+((0:Nat):Int))=(l.length:Int) by omega]at h;rw[h];have e:(λx=>kI (-2) (l.length:Int) x)=qG (l.length:Int):=rfl;rw[show l.map (kI (-2) (l.length:Int))=l.map (qG (l.length:Int))from rfl];refine av7 (λx E D=>?_);obtain⟨y,M,rfl⟩:=abV.1 E;have H:=J y M;unfold qG at D⊢;split
 ·show 0<=(l.length:Int);omega
 ·rename_i I;rw[aab I]at D;rcases D with D|D
  ·rcases H.2 D with h|h|h
   ·exact h
   ·exact absurd ⟨D,h⟩ I
   ·exact absurd h.1 (by decide)
  ·exact H.1 D
theorem E7:∀(ts bs:List (List ay)),(bs.map List.length).sum<=(df ts bs).length
 |[],[]=>by simp[df]
 |_::_,[]=>by simp[df]
 |[],b::r=>by
  have ih:=E7 [] r;rw[J3];simp only[abR,alz];split
  ·rename_i h;subst h;simp
  ·simp only[eP,aam,aan,aaw];omega
 |t::ts,b::r=>by
  have ih:=E7 ts r;rw[df];simp only[abR,alz];generalize df ts r=out at ih⊢;rw[eP];simp only[aam,aan,aaw,n9];split
  ·omega
  ·simp only[aam,aan,aaw];omega
section
variable {vs:List Vr}
mutual
theorem Zl:∀(s:Sm)(c:Int),(dp vs s c).2<=c+(dp vs s c).1.length
 | .mk op name to val conds AD fields blocks line,c=>by
  have H:=λc=>Gb blocks c;have I:=λc=>Zm blocks c;unfold dp;split
  ·simp only;omega
  ·split
   ·have q1:=H c;have q2:=E7 (conds.map λx=>(aw vs x).1) (aC vs blocks c).1;simp only
    omega
   ·split
    ·have q1:=H (c+1);have q2:=E7 (AD.map λl=>ins 1 0 0 0 0::eS c l) (aC vs blocks (c+1)).1;simp only[eP,aam,aan,aaw];omega
    ·split
     ·have q1:=I (c+2);simp only[eP,aam,aan,aaw,nG,q9,n9];omega
     ·split
      ·have q1:=I c;simp only[jN,q9,aam,aan,aaw,n9];omega
      ·split
       ·have q1:=I c;simp only[pz,q9,aam,aan,aaw];omega
       ·split
        ·simp only;omega
        ·split<;>(simp only;omega)
theorem qI:∀(l:List Sm)(c:Int),(ah vs l c).2<=c+(ah vs l c).1.length
 |[],c=>by simp[ah]
 |x::r,c=>by
  have H:=Zl x c;have I:=qI r (dp vs x c).2;simp only[ah,eP,aan,aaw];omega
theorem Gb:∀(l:List (List Sm))(c:Int),(aC vs l c).2<=c+(((aC vs l c).1.map List.length).sum:Nat)
 |[],c=>by simp[aC]
 |b::r,c=>by
  have H:=qI b c;have I:=Gb r (ah vs b c).2;simp only[aC,abR,alz];omega
theorem Zm:∀(l:List (List Sm))(c:Int),(om vs l c).2<=c+(om vs l c).1.length
 |[],c=>by simp[om]
 |b::r,c=>qI b c
end
end
theorem afn{cells last:Int}{i:Int}{x:ay}(h:dg D4 cells 0 0 x=true)(W:¬fI x)(AE:x.op≠15):dg D4 cells last i x=true:=by
 unfold dg at h⊢;unfold fI at W;split
 ·rfl
 ·rename_i g1;rw[aab g1]at h;split
  ·rename_i g2;rw[aat g2]at h;exact h
  ·rename_i g2;rw[aab g2]at h;split
   ·rename_i g3;rw[aat g3]at h;exact h
   ·rename_i g3;rw[aab g3]at h;split
    ·rename_i g4;rw[aat g4]at h;exact h
    ·rename_i g4;rw[aab g4]at h;split
     ·rename_i g5;rw[aat g5]at h;exact h
     ·rename_i g5;rw[aab g5,aab W]at h;split
      ·rename_i g7;rw[aat g7]at h;exact h
      ·rename_i g7;rw[aab g7,aab AE]at h;cases h
theorem Qa{l:List ay}{S AF:List Bool}(h:cd l S=some AF)(i:Nat):∃T,cd (l.take i) S=some T:=by
 rw[<-akQ i l,du]at h;cases Y:cd (l.take i) S with
 |none=>rw[Y]at h;cases h
 |some T=>exact⟨T,rfl⟩
theorem ajX{g:List ay}{cells:Int}(h:Fg cells false g)(AO:g.length+1<=4096):∃r st,Good D4 cells (g.map (qG g.length)++[ins 15 0 0 0 0]) r st:=by
 obtain⟨l,O⟩:∃l,l=g.map (qG g.length)++[ins 15 0 0 0 0]:=⟨_,rfl⟩;rw[<-O];have AP:l.length=g.length+1:=by rw[O];simp
 have AG:cd (g.map (qG g.length)) []=some []:=by rw[tA (PG _)];exact h.run
 have A2:cd l []=some []:=by
  rw[O,du,AG];simp[cd,cm,ins,iu]
 have A':∀(i:Nat) x,l[i]?=some x->(i<g.length/\∃y,g[i]?=some y/\x=qG g.length y)\/(i=g.length/\x=ins 15 0 0 0 0):=by
  intro i x E;rw[O]at E;by_cases hi:i<g.length
  ·rw[aaF (by simpa using hi),ab6]at E;obtain⟨y,J,rfl⟩:=aax.1 E;exact .inl ⟨hi,y,J,rfl⟩
  ·rw[abI (by simpa using hi)]at E;have U:i-g.length=0:=by
    have:=(D1.1 E).1;simp at this;omega
   simp only[List.length_map]at E;rw[U]at E;simp at E;exact .inr ⟨by omega,E.symm⟩
 have A3:∀k,k<=g.length->cd (l.take k) []=cd (g.take k) []:=by
  intro k A4;rw[O,ale (by simpa using A4),<-List.map_take,tA (PG _)]
 have A5:∀y,fI (qG g.length y)↔fI y:=λy=>by unfold fI;rw[ace]
 --where a jump leads
 have A0:∀(i:Nat) x,l[i]?=some x->fI x->0<=x.a/\x.a.toNat<=g.length/\cd (l.take x.a.toNat) []=some []/\(i<x.a.toNat\/∃y,l[x.a.toNat]?=some y/\y.op=11):=by
  intro i x E D;rcases A' i x E with ⟨hi,y,J,rfl⟩|⟨_,rfl⟩
  ·have A6:=(A5 y).1 D;have A7:cd (l.take g.length) []=some []:=by rw[A3 _ (aad _),List.take_length];exact h.run
   by_cases U:0<=y.a
   ·have e:qG g.length y=y:=by unfold qG;rw[aab (by rintro ⟨_,AQ⟩;omega)]
    rw[e];rcases h.jmp i y J A6 U with H|⟨H,I,M⟩
    ·refine⟨U,by omega,?_,.inl (by omega)⟩;rw[H];exact A7
    ·refine⟨U,H,by rw[A3 _ H];exact I,?_⟩;rcases M with M|⟨z,A8,AH⟩
     ·exact .inl M
     ·refine .inr ⟨qG g.length z,?_,by rw[ace];exact AH⟩;rw[O,aaF (by simpa using (D1.1 A8).1),ab6,A8];rfl
   ·obtain⟨q1,q2⟩:=h.out y (aay J) A6 (by omega);have q2:y.a= -2:=by
     rcases q2 with q2|⟨q2,_⟩
     ·exact q2
     ·cases q2
    have e:(qG g.length y).a=g.length:=by unfold qG;rw[aat ⟨q1,q2⟩]
    rw[e];refine⟨by omega,by omega,?_,.inl (by omega)⟩;rw[show ((g.length:Int)).toNat=g.length by omega];exact A7
  ·simp[fI,ins]at D
 refine⟨λi=>match l[i]? with|some x=>if x.op=11 then 0 else l.length+1-i|none=>0,λi=>(cd (l.take i) []).getD [],?_⟩;refine⟨by omega,?_,?_,rfl,?_,?_,?_⟩
 ·intro x E;rcases A' _ x E with ⟨hi,_⟩|⟨_,rfl⟩
  ·omega
  ·rfl
 ·intro i x E;by_cases D:fI x
  ·obtain⟨H,I,_⟩:=A0 i x E D;have M:x.a<=(l.length:Int)-1:=by omega
   unfold dg;rcases D with e|e
   ·simp[e,H,M]
   ·simp[e,H,M]
  ·rcases A' i x E with ⟨hi,y,J,rfl⟩|⟨hi,rfl⟩
   ·have e:qG g.length y=y:=by
     rcases PG (g.length:Int) y with e|⟨e,_⟩
     ·exact e
     ·exact absurd ((A5 y).2 e) D
    rw[e]at D⊢;rcases h.ok y (aay J)with H|⟨H,I⟩
    ·exact absurd H D
    ·exact afn H D I
   ·have:dg D4 cells ((l.length:Int)-1) (i:Int) (ins 15 0 0 0 0)=true:=by
     simp[dg,ins];omega
    exact this
 ·intro i x E;obtain⟨T,A9⟩:=Qa A2 i;obtain⟨AA,AB⟩:=Qa A2 (i+1);have hi:=(D1.1 E).1;have e:l.take (i+1)=l.take i++[x]:=by
   rw[List.take_add_one,E];rfl
  rw[e,du,A9]at AB;have V:cd [x] T=some AA:=AB;simp only[cd]at V;have hm:cm x T=some AA:=by
   cases Y:cm x T with
   |none=>rw[Y]at V;cases V
   |some AR=>rw[Y]at V;simpa using V
  show cm x ((cd (l.take i) []).getD [])=some ((cd (l.take (i+1)) []).getD []);rw[e,du,A9];show cm x T=some (((cd [x] T)).getD []);simp only[cd,hm];rfl
 ·intro i x E D;obtain⟨_,_,M,_⟩:=A0 i x E D;show (cd (l.take x.a.toNat) []).getD []=[];rw[M];rfl
 ·intro i x E AI j D;have hi:=(D1.1 E).1;have AJ:(match l[i]? with|some x=>if x.op=11 then 0 else l.length+1-i|none=>0)=l.length+1-i:=by
   rw[E];simp only
   rw[aab AI]
  have AK:∀j:Nat,(match l[j]? with|some x=>if x.op=11 then 0 else l.length+1-j|none=>0)<=l.length+1-j:=by
   intro j;cases l[j]? with
   |none=>simp
   |some z=>simp only;split<;>omega
  have A1:∀k:Nat,i<k->(match l[k]? with|some x=>if x.op=11 then 0 else l.length+1-k|none=>0)<l.length+1-i:=by
   intro k A4;have:=AK k;omega
  have AS:fI x->(match l[x.a.toNat]? with|some x=>if x.op=11 then 0 else l.length+1-x.a.toNat|none=>0)<l.length+1-i\/True:=λ_=>.inr trivial;show (match l[j]? with|some x=>if x.op=11 then 0 else l.length+1-j|none=>0)<(match l[i]? with|some x=>if x.op=11 then 0 else l.length+1-i|none=>0);rw[AJ];have AC:fI x->j=x.a.toNat->(match l[j]? with|some x=>if x.op=11 then 0 else l.length+1-j|none=>0)<l.length+1-i:=by
   intro AL e;obtain⟨_,_,_,Z⟩:=A0 i x E AL;rw[<-e]at Z;rcases Z with Z|⟨y,J,AM⟩
   ·exact A1 j Z
   ·rw[J];simp only
    rw[aat AM];omega
  unfold Bz at D;rw[E]at D;simp only at D;split at D
  ·rename_i W;simp at D;exact AC (.inl W) D
  ·split at D
   ·rename_i AN;simp at D;rcases D with D|D
    ·exact A1 j (by omega)
    ·exact AC (.inr AN) D
   ·split at D
    ·simp at D
    ·simp at D;exact A1 j (by omega)
theorem Eb:∀(l p:List Vr)(n:Int),n<=1024->(yE l p n).1=0->n+cy l<=1024
 |[],_,n,D,_=>by simp[cy];exact D
 |v::r,p,n,D,h=>by
  unfold yE at h;split at h
  ·simp at h
  ·split at h
   ·simp at h
   ·have:=Eb r _ _ (by omega) h;simp only[cy];omega
theorem BM:∀(l:List Vr),(∀v∈l,0<=bO v)->0<=cy l
 |[],_=>by simp[cy]
 |y::l,h=>by
  have:=BM l (λv H=>h v (by simp[H]));have:=h y (by simp);simp only[cy];omega
theorem LX{p:Pg}(E:u7 p=true)(I:iZ p.body=true)(J:(qD p).1=0)(T:bx (ep p.body)<=64):
 Fg (ah p.vars (ep p.body) (cy p.vars)).2 false (ah p.vars (ep p.body) (cy p.vars)).1/\0<=cy p.vars/\cy p.vars<=1024/\cy p.vars<=(ah p.vars (ep p.body) (cy p.vars)).2/\
 (ah p.vars (ep p.body) (cy p.vars)).2<=cy p.vars+(ah p.vars (ep p.body) (cy p.vars)).1.length:=by
 simp only[u7,Ds,abX]at E;obtain⟨_,_,M,U⟩:=E;obtain⟨V,W⟩:=cn.1 J;obtain⟨Y,a2,a3⟩:=wm false p.body U I W;have A0:=Eb p.vars [] 0 (by omega) V;have O:=BM p.vars (λv H=>rF (M v H));have hm:=iP (vs:=p.vars) (ep p.body) (cy p.vars);have Z:=qI (vs:=p.vars) (ep p.body) (cy p.vars);exact⟨xN M hm false (ep p.body) (cy p.vars) Y a3 T O (an5 _),O,by omega,hm,Z⟩
theorem acK{p:Pg}(E:u7 p=true)(I:iZ p.body=true)(J:(qD p).1=0){l:List ay}{v c:Int}(h:zG p=some (l,v,c)):An D4 l v c=true:=by
 unfold zG at h;simp only at h;split at h
 ·cases h
 ·rename_i D;simp only[alg,Nat.not_lt,Int.not_lt]at D;cases h;obtain⟨g1,g2,g3,g4,g5⟩:=LX E I J D.2;obtain⟨r,st,A'⟩:=ajX g1 D.1;exact arW ⟨by omega,by omega,by omega,by omega⟩ A'
section
variable {vs:List Vr}
mutual
theorem AB:∀x:Ex,(aw vs x).1.length<=cM (bK x)
 | .mk op n name field sub line=>by
  have E:=J7 sub;have H:=acL sub;unfold aw;simp only[bK,cM,aV];split
  ·simp only[aan,aaw];omega
  ·split
   ·simp only[aan,aaw];omega
   ·split
    ·simp only[aan,aaw];omega
    ·split
     ·simp only[aam,aan,aaw];omega
     ·simp only[aam,aan,aaw];omega
theorem J7:∀l:List Ex,(jy vs l).1.length<=aV (dA l)
 |[]=>by simp[jy]
 |[x]=>by
  have:=AB x;simp only[jy,dA,aV];omega
 |x::y::r=>by
  have E:=AB x;have H:=J7 (y::r);simp only[dA,aV]at H;simp only[jy,dA,aV,aam]at H⊢;omega
theorem acL:∀l:List Ex,(so vs l).length<=aV (dA l)
 |[]=>by simp[so]
 |x::r=>by
  have:=AB x;simp only[so,dA,aV];omega
end
theorem apv(x:Ex):(aw vs x).1.length<=aV (B3 x)+1:=by
 have:=AB (vs:=vs) x;rw[uN]at this;exact this
theorem ajY(x:Ex):(so vs (ic x)).length<=aV (B3 x):=by
 obtain⟨op,n,name,field,sub,line⟩:=x;have:=acL (vs:=vs) sub;simp only[B3,kX,aV,cM];omega
end
theorem Mz(x:Ex):7<=cM (bK x):=by
 obtain⟨op,n,name,field,sub,line⟩:=x;simp only[bK,cM,aV];omega
theorem ah8(x:Ex):6<=aV (B3 x):=by
 have:=Mz x;rw[uN]at this;omega
theorem apw(n:Int)(t:Bool)(line:Int):cM (bK (oI n t line))<=14:=by
 unfold oI;split
 ·simp[bK,dA,cM,aV]
 ·split
  ·simp[bK,dA,cM,aV]
  ·simp[bK,dA,cM,aV]
theorem asc(x:Ex):cM (bK (nj x))<=cM (bK x):=by
 unfold nj;split
 ·omega
 ·split
  ·omega
  ·rename_i l J;split
   ·omega
   ·rename_i r T;split
    ·omega
    ·have hm:=λU=>apw r.1 r.2.1 U;obtain⟨op,n,name,field,sub,line⟩:=x;simp only[kX]at J;cases sub with
     |nil=>
      simp only[qV,aa1]at J;subst J;simp[Pt]at T
     |cons y q=>
      have:=Mz y;refine akm (hm _) ?_;simp only[bK,dA,cM,aV];omega
mutual
theorem ah9:∀x:Ex,cM (bK (dn x))<=cM (bK x)
 | .mk op n name field sub line=>by
  have h:=Qb sub;have E:=asc (.mk op n name field (de sub) line);unfold dn;refine akm E ?_;simp only[bK,cM,aV];omega
theorem Qb:∀l:List Ex,aV (dA (de l))<=aV (dA l)
 |[]=>by simp[de]
 |x::r=>by
  have E:=ah9 x;have H:=Qb r;simp only[de,dA,aV];omega
end
theorem aia(x:Ex):aV (B3 (dn x))<=aV (B3 x):=by
 have:=ah9 x;rw[uN,uN]at this;omega
mutual
theorem asd:∀x:Sm,cM (bX (vB x))<=cM (bX x)
 | .mk op name to val conds I fields blocks line=>by
  have E:=aia to;have H:=aia val;have M:=Qb conds;have V:=acM blocks;simp only[vB,bX,cM,aV,kg];omega
theorem Qc:∀l:List Sm,aV (jF (ep l))<=aV (jF l)
 |[]=>by simp[ep]
 |x::r=>by
  have E:=asd x;have H:=Qc r;simp only[ep,jF,aV];omega
theorem acM:∀l:List (List Sm),aV (gJ (jL l))<=aV (gJ l)
 |[]=>by simp[jL]
 |b::r=>by
  have E:=Qc b;have H:=acM r;simp only[jL,gJ,aV,cM];omega
end
def ss(l:List (List ay)):Nat:=(l.map λt=>t.length+1).sum
theorem MA:∀(ts bs:List (List ay)),(df ts bs).length<=ss ts+ss bs
 |[],[]=>by simp[df]
 |_::_,[]=>by simp[df]
 |[],b::r=>by
  have ih:=MA [] r;rw[J3];simp only[ss,abR,alz,ahM,List.sum_nil]at ih⊢;split
  ·omega
  ·simp only[eP,aam,aan,aaw];omega
 |t::ts,b::r=>by
  have ih:=MA ts r;rw[df];simp only[ss,abR,alz]at ih⊢;generalize df ts r=out at ih⊢;rw[eP];simp only[aam,aan,aaw,n9];split
  ·omega
  ·simp only[aam,aan,aaw];omega
theorem acN(c:Int):∀l:List Int,(eS c l).length<=l.length
 |[]=>by simp[eS]
 |[_]=>by simp[eS]
 |a::b::r=>by
  have:=acN c r;simp only[eS,aan];omega
theorem acO(c:Int):∀l:List (List Int),ss (l.map λl=>ins 1 0 0 0 0::eS c l)<=2*aV (l.map p7)
 |[]=>by simp[ss]
 |x::r=>by
  have E:=acO c r;have H:=acN c x;have M:=ahT x;have V:1+x.length<=cM (p7 x):=by
   have:=BD (λn=>D.int .i64 n) x;simp only[p7,cM];omega
  simp only[ss,abR,alz,aV,aan]at E⊢;omega
section
variable {vs:List Vr}
theorem Vj:∀l:List Ex,ss (l.map λx=>(aw vs x).1)<=2*aV (dA l)
 |[]=>by simp[ss]
 |x::r=>by
  have E:=Vj r;have H:=AB (vs:=vs) x;have M:=Mz x;simp only[ss,abR,alz,dA,aV]at E⊢;omega
theorem Vk(name:Tx):∀(O:List Tx)(xs:List Ex),(eD vs name O xs).length<=2*aV (dA xs)
 |[],xs=>by cases xs<;>simp[eD]
 |_::_,[]=>by simp[eD]
 |f::O,x::xs=>by
  have E:=Vk name O xs;have H:=AB (vs:=vs) x;have M:=Mz x;simp only[eD,aam,aan,dA,aV];omega
mutual
theorem apx:∀(s:Sm)(c:Int),(dp vs s c).1.length+1<=2*cM (bX s)
 | .mk op name to val conds I fields blocks line,c=>by
  have E:=λc=>Vl blocks c;have H:=λc=>apy blocks c;have W:=ah8 to;have a2:=ah8 val;have a3:=apv (vs:=vs) val;have a4:=ajY (vs:=vs) to;have a5:=Vj (vs:=vs) conds;have Y:=J7 (vs:=vs) conds;have Z:=Vk (vs:=vs) name fields conds;simp only[bX,cM,aV,kg];unfold dp;split
  ·split
   ·simp only[aam,aan,aaw];omega
   ·simp only[aam,aan,aaw];omega
  ·split
   ·have q1:=E c;have q2:=MA (conds.map λx=>(aw vs x).1) (aC vs blocks c).1;simp only;omega
   ·split
    ·have q1:=E (c+1);have q2:=MA (I.map λl=>ins 1 0 0 0 0::eS c l) (aC vs blocks (c+1)).1;have q3:=acO c I;simp only[eP,aam,aan,aaw];omega
    ·split
     ·have q1:=H (c+2);simp only[eP,nG,q9,n9,aam,aan,aaw];omega
     ·split
      ·have q1:=H c;simp only[jN,q9,n9,aam,aan,aaw];omega
      ·split
       ·have q1:=H c;simp only[pz,q9,n9,aam,aan,aaw];omega
       ·split
        ·simp only[aan,aaw];omega
        ·split
         ·simp only[aan,aaw];omega
         ·simp only[aam,aan,aaw];omega
theorem E8:∀(l:List Sm)(c:Int),(ah vs l c).1.length<=2*aV (jF l)
 |[],c=>by simp[ah]
 |x::r,c=>by
  have E:=apx x c;have H:=E8 r (dp vs x c).2;simp only[ah,jF,aV,eP,aan,aaw];omega
theorem Vl:∀(l:List (List Sm))(c:Int),ss (aC vs l c).1<=2*aV (gJ l)
 |[],c=>by simp[aC,ss]
 |b::r,c=>by
  have E:=E8 b c;have H:=Vl r (ah vs b c).2;simp only[ss]at H;simp only[aC,gJ,aV,cM,ss,abR,alz];omega
theorem apy:∀(l:List (List Sm))(c:Int),(om vs l c).1.length<=2*aV (gJ l)
 |[],c=>by simp[om]
 |b::r,c=>by
  have E:=E8 b c;simp only[om,gJ,aV,cM];omega
end
end
mutual
theorem ase:∀s:Sm,Ay s<=cM (bX s)
 | .mk op name to val conds I fields blocks line=>by
  have:=acP blocks;simp only[Ay,bX,cM,aV,kg];omega
theorem Qd:∀l:List Sm,jP l<=aV (jF l)
 |[]=>by simp[jP]
 |x::r=>by
  have E:=ase x;have H:=Qd r;simp only[jP,jF,aV];omega
theorem acP:∀l:List (List Sm),zH l<=aV (gJ l)
 |[]=>by simp[zH]
 |b::r=>by
  have E:=Qd b;have H:=acP r;simp only[zH,gJ,aV,cM];omega
end
theorem Zn(p:Pg){n:Nat}(h:cM (.agg [.str p.name,.list (p.vars.map aW),.list (p.body.map bX)])<n):
 (∀c,(ah p.vars (ep p.body) c).1.length<2*n)/\jP (ep p.body)<n/\(ep p.body).length<n:=by
 simp only[cM,aV]at h;rw[<-pU]at h;have A':=Qc p.body;have E:=Qd (ep p.body);have H:=pw (jF (ep p.body));rw[G2]at H;refine⟨λc=>?_,by omega,by omega⟩;have:=E8 (vs:=p.vars) (ep p.body) c;omega
end Go.Am
end
section
namespace Go.Am
open Go Go.Proofs Go.Proofs.Tryz
variable [Inhabited bV]
set_option maxRecDepth 20000
@[simp] def okZ(p:Int×Bool):AV:=.aY [.d (.int .i64 p.1),.d (.bool p.2)]
@[simp] def apz(p:Int×Int):AV:=.aY [.d (.int .i64 p.1),.d (.int .i64 p.2)]
theorem afq(a b:Int)(H:bq a)(Y:bq b):ag ctx 244 [.d (.int .i64 a),.d (.int .i64 b)] []=some (.ret (okZ (nF (a+b))),[]):=by
 have hw:IntKind.i64.wrap (a+b)=(a+b+9223372036854775808)%18446744073709551616-9223372036854775808:=IntKind.wrap_i64 _;unfold bq at H Y;rw[ani (by simp)];unfold nF;by_cases E:0<=a<;>by_cases D:0<=b<;>by_cases U:0<=IntKind.i64.wrap (a+b)<;>by_cases T:(-9223372036854775808<=a+b/\a+b<=9223372036854775807)<;>
  first
  |(exfalso;omega)
  |(simp[f244,E,D,U,T];try omega)
theorem Qe(a b:Int)(H:bq a)(Y:bq b):ag ctx 243 [.d (.int .i64 a),.d (.int .i64 b)] []=some (.ret (okZ (nF (a-b))),[]):=by
 have hw:IntKind.i64.wrap (a-b)=(a-b+9223372036854775808)%18446744073709551616-9223372036854775808:=IntKind.wrap_i64 _;unfold bq at H Y;rw[anh (by simp)];unfold nF;by_cases E:0<=a<;>by_cases D:0<=b<;>by_cases U:0<=IntKind.i64.wrap (a-b)<;>by_cases T:(-9223372036854775808<=a-b/\a-b<=9223372036854775807)<;>
  first
  |(exfalso;omega)
  |(simp[f243,E,D,U,T];try omega)
theorem LY(a:Int)(H:bq a):ag ctx 277 [.d (.int .i64 a)] []=some (.ret (.d (.int .u64 (a.natAbs:Nat))),[]):=by
 unfold bq at H;rw[anB (by simp)];have E:=IntKind.wrap_u64 a;by_cases h:a<0
 ·have D:IntKind.u64.wrap (-IntKind.u64.wrap a)=(a.natAbs:Nat):=by rw[E,IntKind.wrap_u64];omega
  simp[f277,h,D]
 ·have D:IntKind.u64.wrap a=(a.natAbs:Nat):=by rw[E];omega
  simp[f277,h,D]
theorem Q4(n:Nat)(Ap:n<18446744073709551616)(s:Bool):ag ctx 278 [.d (.int .u64 n),.d (.bool s)] []=some (.ret (okZ (nF (if s=true then-(n:Int)else n))),[]):=by
 rw[anC (by simp)];have E:=IntKind.wrap_i64 (n:Int);unfold nF;cases s
 ·by_cases h:n<=9223372036854775807
  ·have D:(n:Int)<=9223372036854775807:=by omega
   have U:IntKind.i64.wrap (n:Int)=n:=by rw[E];omega
   have T: -9223372036854775808<=(n:Int):=by omega
   simp[f278,D,U,T]
  ·have D:¬(n:Int)<=9223372036854775807:=by omega
   simp[f278,D]
 ·by_cases h:n<=9223372036854775808
  ·have D:(n:Int)<=9223372036854775808:=by omega
   have U:IntKind.i64.wrap (-(IntKind.i64.wrap (n:Int)))= -(n:Int):=by rw[E,IntKind.wrap_i64];omega
   have T: -9223372036854775808<= -(n:Int):=by omega
   have A_: -(n:Int)<=9223372036854775807:=by omega
   simp[f278,D,U,T,A_]
  ·have D:¬(n:Int)<=9223372036854775808:=by omega
   have T:¬ -9223372036854775808<= -(n:Int):=by omega
   simp[f278,D,T]
def BN(k:IntKind)(a b:Int):Int:=k.wrap (BitVec.ofInt k.bits a &&& BitVec.ofInt k.bits b).toNat
def Qf(k:IntKind)(a b:Int):Int:=k.wrap (BitVec.ofInt k.bits a ||| BitVec.ofInt k.bits b).toNat
theorem Jc(k:IntKind)(a b:Int):fZ .and k a b=some (true,.int k (BN k a b)):=rfl
theorem acQ(k:IntKind)(a b:Int):fZ .or k a b=some (true,.int k (Qf k a b)):=rfl
theorem asf(a:Nat)(H:a<18446744073709551616):BN .u64 (a:Int) 4294967295=((a%4294967296:Nat):Int):=by
 show IntKind.u64.wrap (BitVec.ofInt 64 (a:Int) &&& BitVec.ofInt 64 4294967295).toNat=_;have e:(BitVec.ofInt 64 (a:Int) &&& BitVec.ofInt 64 4294967295).toNat=a%4294967296:=by
  rw[BitVec.toNat_and,BitVec.toNat_ofInt,BitVec.toNat_ofInt];have Aa:((a:Int)%((2^64:Nat):Int)).toNat=a:=by omega
  have Ab:((4294967295:Int)%((2^64:Nat):Int)).toNat=4294967295:=by decide
  rw[Aa,Ab];exact Nat.and_two_pow_sub_one_eq_mod a 32
 rw[e,IntKind.wrap_u64];omega
theorem acR(x y:Nat)(A5:x<18446744073709551616)(A6:y<18446744073709551616):
 ag ctx 276 [.d (.int .u64 x),.d (.int .u64 y)] []=some (.ret (.aY [.d (.int .u64 (x*y/18446744073709551616:Nat)),.d (.int .u64 (x*y%18446744073709551616:Nat))]),[]):=by
 have A7:∀a:Nat,a<18446744073709551616->BN .u64 (a:Int) 4294967295=((a%4294967296:Nat):Int):=λa H=>asf a H;have A':∀a:Nat,(a:Int).fdiv 4294967296=((a/4294967296:Nat):Int):=λa=>by rw[Int.fdiv_eq_ediv_of_nonneg _ (by decide)];omega
 have mul':∀a b:Nat,(a:Int)*(b:Int)=((a*b:Nat):Int):=λa b=>(Int.natCast_mul a b).symm;have A2:∀a b:Nat,(a:Int)+(b:Int)=((a+b:Nat):Int):=λa b=>(Int.natCast_add a b).symm;have V:∀a:Nat,a<18446744073709551616->IntKind.u64.wrap (a:Int)=(a:Int):=λa h=>by rw[IntKind.wrap_u64];omega
 have AK:∀a:Nat,IntKind.u64.wrap (a:Int)=((a%18446744073709551616:Nat):Int):=λa=>by rw[IntKind.wrap_u64];omega
 obtain⟨A3,A0,A1,W⟩:=Lib.mul64_hi x y A5 A6;have A8:=Lib.half_mul_le (a:=x/4294967296) (b:=y/4294967296) (by omega) (by omega);have A9:=Lib.half_mul_le (a:=x/4294967296) (b:=y%4294967296) (by omega) (by omega);have AA:=Lib.half_mul_le (a:=x%4294967296) (b:=y/4294967296) (by omega) (by omega);have AL:=A7 x A5;have AM:=A7 y A6;have f1:=A' x;have f2:=A' y;have Ac:x%4294967296<4294967296:=by omega
 have Ad:x/4294967296<4294967296:=by omega
 have Ae:y%4294967296<4294967296:=by omega
 have Af:y/4294967296<4294967296:=by omega
 have AN:IntKind.u64.wrap ((x:Int)*(y:Int))=((x*y%18446744073709551616:Nat):Int):=by rw[mul',AK]
 have AO:x*y/18446744073709551616<18446744073709551616:=by
  have:x*y<18446744073709551616*18446744073709551616:=Nat.mul_lt_mul_of_lt_of_lt A5 A6;omega
 generalize x*y%18446744073709551616=lo at AN⊢;generalize x*y/18446744073709551616=hi at W AO⊢;generalize x%4294967296=I at A3 A0 A1 W A8 A9 AA AL Ac;generalize x/4294967296=J at A3 A0 A1 W A8 A9 AA f1 Ad;generalize y%4294967296=M at A3 A0 A1 W A8 A9 AA AM Ae;generalize y/4294967296=O at A3 A0 A1 W A8 A9 AA f2 Af;generalize AP:J*M+I*M/4294967296=t at A0 A1 W;generalize AQ:t%4294967296+I*O=AB at A1 W;have AR:IntKind.u64.wrap ((I:Int)*(M:Int))=((I*M:Nat):Int):=by rw[mul',V _ A3]
 have AS:IntKind.u64.wrap ((J:Int)*(M:Int))=((J*M:Nat):Int):=by rw[mul',V _ (by omega)]
 have AE:IntKind.u64.wrap (((J*M:Nat):Int)+((I*M/4294967296:Nat):Int))=(t:Int):=by rw[A2,AP,V _ A0]
 have AT:IntKind.u64.wrap ((I:Int)*(O:Int))=((I*O:Nat):Int):=by rw[mul',V _ (by omega)]
 have AF:IntKind.u64.wrap (((t%4294967296:Nat):Int)+((I*O:Nat):Int))=(AB:Int):=by rw[A2,AQ,V _ A1]
 have AU:IntKind.u64.wrap ((J:Int)*(O:Int))=((J*O:Nat):Int):=by rw[mul',V _ (by omega)]
 have AC:IntKind.u64.wrap (((J*O:Nat):Int)+((t/4294967296:Nat):Int))=((J*O+t/4294967296:Nat):Int):=by rw[A2,V _ (by omega)]
 have AD:IntKind.u64.wrap (((J*O+t/4294967296:Nat):Int)+((AB/4294967296:Nat):Int))=(hi:Int):=by rw[A2,W,V _ AO]
 have Ag:=λa=>A' a;have mt:=A7 t A0;rw[anA (by simp)];have f3:=A' t;have f4:=A' AB;have f5:=A' (I*M);clear Ag A7 A' A2 V AK AP AQ W;generalize Aq:I*M/4294967296=Ar at AE f5;generalize As:I*M=At at AR f5;generalize Au:J*M=Av at AS AE;generalize Aw:I*O=Ax at AT AF;generalize Ay:t/4294967296=Ah at AC AD f3;generalize Az:t%4294967296=B' at AF mt;generalize B0:AB/4294967296=wd at AD f4;generalize B1:J*O+Ah=B2 at AC AD;generalize B3:J*O=B4 at AU AC;simp[f276, -fZ.eq_6,Jc,Gg,IntKind.bits,AL,AM,f1,f2,f3,f4,f5,mt,AR,AS,AE,AT,AF,AU,AC,AD,AN]
theorem afr(a b:Int)(H:bq a)(Y:bq b):ag ctx 245 [.d (.int .i64 a),.d (.int .i64 b)] []=some (.ret (okZ (nF (a*b))),[]):=by
 have AW:=LY a H;have AX:=LY b Y;unfold bq at H Y;have Ai:a.natAbs<18446744073709551616:=by omega
 have Aj:b.natAbs<18446744073709551616:=by omega
 have hm:=acR _ _ Ai Aj;have AY:=ai6 a b;have AZ:=λs=>Q4 (a.natAbs*b.natAbs%18446744073709551616) (by omega) s;generalize A5:a.natAbs=x at*;generalize A6:b.natAbs=y at*;have mul':((x*y:Nat):Int)=(x:Int)*(y:Int):=Int.natCast_mul x y;generalize x*y=p at*;have A4:(a<0↔b<0)=(decide (a<0)=decide (b<0)):=by simp
 rw[anj (by simp)];have AG:¬p/18446744073709551616=0->nF (a*b)=(0,false):=by
  intro h;unfold nF;rw[aab];rw[AY];split<;>omega
 by_cases AH:p/18446744073709551616=0
 ·have Ak:p%18446744073709551616=p:=by omega
  rw[Ak]at AZ hm;rw[AH]at hm;have e:(if (decide (a<0) != decide (b<0))=true then-(p:Int)else (p:Int))=a*b:=by
   rw[AY];by_cases h:decide (a<0)=decide (b<0)<;>simp[h]
  have AI:=AZ (decide (a<0) != decide (b<0));rw[e]at AI;try simp at hm
  try simp at AI
  simp[f245,AW,AX,hm,AI]
 ·have AG:=AG AH;have Al:¬((p/18446744073709551616:Nat):Int)=0:=by omega
  generalize p/18446744073709551616=q at*;generalize p%18446744073709551616=r at*;try simp at hm
  simp[f245,AW,AX,hm,AG,AH,Al]
theorem afs(a b:Int)(H:bq a)(Y:bq b):ag ctx 246 [.d (.int .i64 a),.d (.int .i64 b)] []=some (.ret (apz (DR a b)),[]):=by
 rw[ank (by simp)];unfold DR;by_cases Z:b=0
 ·simp[f246,Z]
 ·by_cases E:a= -9223372036854775808
  ·by_cases D:b= -1
   ·simp[f246,Z,E,D]
   ·have w:IntKind.i64.wrap (a.tdiv b)=a.tdiv b:=aB (by
     have AJ:=O4 a b;unfold bq at*;have hle:a.natAbs/b.natAbs<=9223372036854775808:=by
      have:=Nat.div_le_self a.natAbs b.natAbs;omega
     have An:decide (a<0)=decide (b<0)->a.natAbs/b.natAbs<=4611686018427387904:=by
      intro A4;rw[E]at A4;simp at A4;have Ao:2<=b.natAbs:=by omega
      have U:=Nat.div_le_div_left Ao (by decide) (a:=a.natAbs);have T:a.natAbs=9223372036854775808:=by omega
      rw[T]at U⊢;exact U
     generalize a.natAbs/b.natAbs=q at*;split at AJ
     ·rename_i A4;have:=An A4;omega
     ·omega)
    rw[E]at w;simp at w;simp[f246,Z,E,D,w]
  ·have w:IntKind.i64.wrap (a.tdiv b)=a.tdiv b:=aB (by
    have AJ:=O4 a b;unfold bq at*;have hle:a.natAbs/b.natAbs<=a.natAbs:=Nat.div_le_self _ _;generalize a.natAbs/b.natAbs=q at*;split at AJ<;>omega)
   simp[f246,Z,E,w]
theorem aft(a b:Int)(H:bq a)(Y:bq b):ag ctx 247 [.d (.int .i64 a),.d (.int .i64 b)] []=some (.ret (apz (GQ a b)),[]):=by
 rw[anl (by simp)];unfold GQ;by_cases Z:b=0
 ·simp[f247,Z]
 ·by_cases D:b= -1
  ·simp[f247,Z,D]
  ·simp[f247,Z,D]
theorem su(b:Bool):ag ctx 167 [.d (.bool b)] []=some (.ret (.d (.int .i64 (jK b))),[]):=by
 rw[amx (by simp)];cases b<;>simp[f167,jK]
@[simp] theorem wr0:IntKind.i64.wrap 0=0:=rfl
@[simp] theorem wr1:IntKind.i64.wrap 1=1:=rfl
@[simp] theorem wr2:IntKind.i64.wrap 2=2:=rfl
@[simp] theorem wr3:IntKind.i64.wrap 3=3:=rfl
@[simp] theorem wr4:IntKind.i64.wrap 4=4:=rfl
@[simp] theorem aCA:IntKind.i64.wrap (-1)= -1:=rfl
@[simp] theorem wu0:IntKind.u64.wrap 0=0:=rfl
@[simp] theorem wu1:IntKind.u64.wrap 1=1:=rfl
theorem acS(op a:Int)(t:Bool)(D:bq a)(Y:t=true->a=0\/a=1):ag ctx 191 [.d (.int .i64 op),.d (.int .i64 a),.d (.bool t)] []=some (.ret (UM (Al op a t)),[]):=by
 have V:=Qe 0 a (by unfold bq;omega) D;rw[amQ (by simp)];unfold Al;generalize nF (0-a)=p at*;cases t
 ·by_cases W:op=6
  ·simp at V;cases E:p.2<;>simp[f191,W,E,V,zC]
  ·simp[f191,W,og]
 ·rcases Y rfl with rfl|rfl<;>by_cases M:op=7
  ·simp[f191,M,jK,wr0,wr1]
  ·simp[f191,M,og]
  ·simp[f191,M,jK,wr0,wr1]
  ·simp[f191,M,og]
theorem Qh(op a b:Int)(D:a=0\/a=1)(H:b=0\/b=1):ag ctx 192 [.d (.int .i64 op),.d (.int .i64 a),.d (.int .i64 b)] []=some (.ret (UM (O5 op a b)),[]):=by
 have Z:BN .i64 0 0=0:=by decide
 have y:BN .i64 0 1=0:=by decide
 have A':BN .i64 1 0=0:=by decide
 have A0:BN .i64 1 1=1:=by decide
 have A1:Qf .i64 0 0=0:=by decide
 have A2:Qf .i64 0 1=1:=by decide
 have A3:Qf .i64 1 0=1:=by decide
 have A4:Qf .i64 1 1=1:=by decide
 rw[amR (by simp)];unfold O5;have J:op=13\/op=14\/op=20\/op=19\/op=21\/(op≠13/\op≠14/\op≠20/\op≠19/\op≠21):=by omega
 rcases D with rfl|rfl<;>rcases H with rfl|rfl<;>rcases J with rfl|rfl|rfl|rfl|rfl|⟨A5,A6,I,A7,A8⟩<;>
  simp[f192,su, -fZ.eq_6, -fZ.eq_7,Jc,acQ,jK,og, *]
theorem Qi(op a b:Int)(h:13<=op/\op<=18):ag ctx 194 [.d (.int .i64 op),.d (.int .i64 a),.d (.int .i64 b)] []=some (.ret (UM (IP op a b)),[]):=by
 rw[amT (by simp)];unfold IP;have J:op=13\/op=14\/op=15\/op=16\/op=17\/op=18:=by omega
 rcases J with rfl|rfl|rfl|rfl|rfl|rfl<;>simp[f194,su,bne]
theorem Qj(op a b:Int)(h:8<=op/\op<=12)(D:bq a)(H:bq b):ag ctx 193 [.d (.int .i64 op),.d (.int .i64 a),.d (.int .i64 b)] []=some (.ret (UM (IP op a b)),[]):=by
 have q1:=afq a b D H;have q2:=Qe a b D H;have q3:=afr a b D H;have O:=afs a b D H;have T:=aft a b D H;have J:op=8\/op=9\/op=10\/op=11\/op=12:=by omega
 rw[amS (by simp)];unfold IP;generalize nF (a+b)=f1 at*;generalize nF (a-b)=f2 at*;generalize nF (a*b)=f3 at*;generalize DR a b=f4 at*;generalize GQ a b=f5 at*;simp at q1 q2 q3 O T;rcases J with rfl|rfl|rfl|rfl|rfl
 ·cases E:f1.2<;>simp[f193,q1,E,zC]
 ·cases E:f2.2<;>simp[f193,q2,E,zC]
 ·cases E:f3.2<;>simp[f193,q3,E,zC]
 ·by_cases I:f4.2=3
  ·simp[f193,O,I,tw]
  ·by_cases U:f4.2=0<;>simp[f193,O,U,I,tw]
 ·by_cases I:f5.2=3
  ·simp[f193,T,I,tw]
  ·by_cases U:f5.2=0<;>simp[f193,T,U,I,tw]
theorem Q5(op a:Int)(t:Bool)(M:bq a):ag ctx 125 [.d (.int .i64 op),.d (.list [.int .i64 a]),.d (.bool t)] []=some (.ret (UM (Al op a t)),[]):=by
 rw[abx (by simp)];by_cases H:t=true/\a≠0/\a≠1
 ·obtain⟨rfl,U,D⟩:=H;simp[f125];rw[ai];simp[U,D,Al,og]
 ·have D:=acS op a t M (by intro h;subst h;simp at H;omega);have V:(t&&(a != 0))=true->a=1:=by simp;intro D E;simp[D]at H;exact H E
  generalize Al op a t=p at*;simp at D;cases t
  ·simp[f125];rw[ai];simp;rw[ai];simp[D]
  ·have W:a=0\/a=1:=by simp at V;omega
   rcases W with rfl|rfl
   ·simp[f125];rw[ai];simp;rw[ai];simp[D]
   ·simp[f125];rw[ai];simp;rw[ai];simp[D]
theorem Q6(op a b:Int)(t:Bool)(M:bq a)(H:bq b):ag ctx 125 [.d (.int .i64 op),.d (.list [.int .i64 a,.int .i64 b]),.d (.bool t)] []=some (.ret (UM (FZ op a b t)),[]):=by
 rw[abx (by simp)];have cmp:=λh=>Qi op a b h;have Y:=λh=>Qj op a b h M H;have vu:=λD E=>Qh op a b D E;unfold FZ;cases t
 ·have Z:¬(8<=op/\op<=12)->¬(13<=op/\op<=18)->IP op a b=og:=by
   intro D E;unfold IP;simp only[show ¬op=8 by omega,show ¬op=9 by omega,show ¬op=10 by omega,show ¬op=11 by omega,show ¬op=12 by omega,show ¬op=13 by omega,show ¬op=14 by omega,show ¬op=15 by omega,show ¬op=16 by omega,show ¬op=17 by omega,show ¬op=18 by omega,acw]
  generalize IP op a b=p at*;simp[f125];rw[ai];simp;rw[ai];simp;rw[ai];simp;by_cases D:8<=op/\op<=12
  ·have r:=Y D;simp at r;simp[D.1,D.2,r,aq]
  ·by_cases E:13<=op/\op<=18
   ·have r:=cmp E;have I:¬op<=12:=by omega
    have J:8<=op:=by omega
    simp at r;simp[E.1,E.2,I,J,r,aq]
   ·have y:=Z D E;subst y;by_cases T:8<=op
    ·have A':¬op<=12:=by omega
     have O:13<=op:=by omega
     have A0:¬op<=18:=by omega
     simp[T,A',O,A0,og]
    ·have O:¬13<=op:=by omega
     simp[T,O,og]
 ·by_cases D:a=0\/a=1
  ·by_cases E:b=0\/b=1
   ·have r:=vu D E;generalize O5 op a b=p at*;rcases D with rfl|rfl<;>rcases E with rfl|rfl<;>
     (simp at r
      simp[f125];rw[ai];simp;rw[ai];simp;rw[ai];simp[r,aq])
   ·have I:¬b=0:=by omega
    have J:¬b=1:=by omega
    rcases D with rfl|rfl<;>
     (simp[f125]
      rw[ai];simp;rw[ai];simp[I,J,og])
  ·have I:¬a=0:=by omega
   have J:¬a=1:=by omega
   simp[f125];rw[ai];simp[I,J,og]
def xR(o:Option (Int×Bool)):Out:=match o with|some c=>.ret (.aY [.d (.int .i64 c.1),.d (.bool c.2),.d (.bool true)])|none=>.ret (.aY [.d (.int .i64 0),.d (.bool false),.d (.bool false)])
theorem acT(n:Int)(t:Bool)(line:Int):ag ctx 168 [.d (.int .i64 n),.d (.bool t),.d (.int .i64 line)] []=some (.ret (.d (bK (oI n t line))),[]):=by
 rw[amy (by simp)];cases t with
 |true=>simp[f168,oI,bK,dA]
 |false=>
  by_cases h:0<=n
  ·simp[f168,oI,bK,dA,h]
  ·simp[f168,oI,bK,dA,h,UX]
theorem E9(x:Ex):ag ctx 166 [.d (bK x)] []=some (xR (lz x),[]):=by
 obtain⟨op,n,name,field,sub,line⟩:=x;rw[amw (by simp)];simp[f166,aK];by_cases D:op=1
 ·subst D;simp[lz,xR]
 by_cases E:op=2
 ·subst E;simp[lz,xR]
 by_cases H:op=6
 ·subst H;match sub with
  |[]=>simp[lz,xR]
  |[y]=>
   by_cases I:dj y=1
   ·simp[lz,xR,I,aK,UX]
   ·simp[lz,xR,I,aK]
  |y::z::r=>
   have J:¬((r.length:Int)+1+1=1):=by omega
   simp[lz,xR,J]
 ·simp[lz,xR,D,E,H]
def yX(y:Ex):Prop:=ag ctx 99 [.d (bK y)] []=some (.ret (.d (bK (dn y))),[])
theorem Qk(l:List Ex)(M:l.length<100000000)(A B:cq)(A3:A.key=150)(A4:B.key=200)(T U:aD)(k:Kt)(Q:List Ex->bN->Prop)
 (I:∀(Y:Env)(out:List Ex) v v3 D,Q out (k (.exit 0) ⟨105,aX,(1,true,.ptr 150 1 0)::(2,true,.ptr 200 1 0)::(3,true,.vec 250 v 0 out.length)::Y,[A,B,⟨250,v,.vec 6 (out.map bK)⟩,⟨350,v3,D⟩,⟨550,0,T⟩,⟨700,0,U⟩]⟩)):
 ∀(rest pre out:List Ex)(v v3:Nat)(D:aD),l=pre++rest->out.length=pre.length->(∀y∈rest,yX y)->
 Q (out++de rest) (aZ ctx 99 (.loop (Code.at (bg f99) [1,1,0,1,0,0])) ⟨105,aX,[(1,true,.ptr 150 1 0),(2,true,.ptr 200 1 0),(3,true,.vec 250 v 0 out.length),(20,true,.d (.list (l.map bK))),(21,true,.d (.int .i64 l.length)),(22,true,.d (.int .i64 pre.length))],[A,B,⟨250,v,.vec 6 (out.map bK)⟩,⟨350,v3,D⟩,⟨550,0,T⟩,⟨700,0,U⟩]⟩ k)
 |[],pre,out,v,v3,D,E,O,H=>by
  have V:pre.length=l.length:=by rw[E];simp
  have:=I [(20,true,.d (.list (l.map bK))),(21,true,.d (.int .i64 l.length)),(22,true,.d (.int .i64 l.length)),(23,true,.d (.bool false))] out v v3 D;simp[de]at this⊢;rw[V,ai];simp[f99,this]
 |x::rest,pre,out,v,v3,D,E,O,H=>by
  have W:pre.length<l.length:=by rw[E];simp
  have Z:l[pre.length]=x:=by simp[E]
  have J:=H x (by simp);unfold yX at J;have ih:=λv v3 D=>Qk l M A B A3 A4 T U k Q I rest (pre++[x]) (out++[dn x]) v v3 D (by simp[E]) (by simp[O]) (λy A'=>H y (by simp[A']));have A0:IntKind.i64.wrap ((pre.length:Int)+1)=(pre.length:Int)+1:=aB (by unfold bq;omega);have A1:out.length<=4611686018427387903:=by omega
  have A2:(out.length+1)*80<=140737488355328:=by omega
  have e:out++de (x::rest)=out++[dn x]++de rest:=by simp[de]
  rw[e,ai];generalize dn x=A6 at*;simp[f99,aK]at ih J⊢;simp[W,Z,A3,A4,aK,J,A0,A1,A2,ih]
theorem Ql(l:List Ex)(M:l.length<100000000)(k:Kt)(Q:List Ex->bN->Prop)
 (I:∀(Y:Env)(out:List Ex) v v3 D,Q out (k (.exit 0) ⟨19,aX,(3,true,.vec 250 v 0 out.length)::Y,[⟨250,v,.vec 6 (out.map bK)⟩,⟨350,v3,D⟩]⟩)):
 ∀(rest pre out:List Ex)(v v3:Nat)(D:aD),l=pre++rest->out.length=pre.length->(∀y∈rest,yX y)->
 Q (out++de rest) (aZ ctx 100 (.loop (Code.at (bg f100) [1,1,0,1,0,0])) ⟨19,aX,[(3,true,.vec 250 v 0 out.length),(6,true,.d (.list (l.map bK))),(7,true,.d (.int .i64 l.length)),(8,true,.d (.int .i64 pre.length))],[⟨250,v,.vec 6 (out.map bK)⟩,⟨350,v3,D⟩]⟩ k)
 |[],pre,out,v,v3,D,E,O,H=>by
  have V:pre.length=l.length:=by rw[E];simp
  have:=I [(6,true,.d (.list (l.map bK))),(7,true,.d (.int .i64 l.length)),(8,true,.d (.int .i64 l.length)),(9,true,.d (.bool false))] out v v3 D;simp[de]at this⊢;rw[V,ai];simp[f100,this]
 |x::rest,pre,out,v,v3,D,E,O,H=>by
  have W:pre.length<l.length:=by rw[E];simp
  have Z:l[pre.length]=x:=by simp[E]
  have J:=H x (by simp);unfold yX at J;have ih:=λv v3 D=>Ql l M k Q I rest (pre++[x]) (out++[dn x]) v v3 D (by simp[E]) (by simp[O]) (λy A'=>H y (by simp[A']));have A0:IntKind.i64.wrap ((pre.length:Int)+1)=(pre.length:Int)+1:=aB (by unfold bq;omega);have A1:out.length<=4611686018427387903:=by omega
  have A2:(out.length+1)*80<=140737488355328:=by omega
  have e:out++de (x::rest)=out++[dn x]++de rest:=by simp[de]
  rw[e,ai];generalize dn x=A6 at*;simp[f100,aK]at ih J⊢;simp[W,Z,aK,J,A0,A1,A2,ih]
theorem afu(l:List Ex)(M:l.length<100000000)(H:∀y∈l,yX y):ag ctx 100 [.d (.list (l.map bK))] []=some (.ret (.d (.list ((de l).map bK))),[]):=by
 have A5:=λk Q I v v3 D=>Ql l M k Q I l [] [] v v3 D rfl rfl H;rw[amb (by simp)];simp[f100]at A5⊢;refine A5 _ (λout r=>out=de l->r=some (.ret (.d (.list ((de l).map bK))),[])) (λY out v v3 D h=>?_) _ _ _ rfl;subst h;simp
end Go.Am
end
section
namespace Go.Am
open Go Go.Proofs Go.Proofs.Tryz
variable [Inhabited bV]
set_option maxRecDepth 20000
set_option maxHeartbeats 4000000
theorem av8{α:Type}{l:List α}(h:l.length=2):∃a b,l=[a,b]:=by
 match l,h with
 |[a,b],_=>exact⟨a,b,rfl⟩
theorem apA{op n line:Int}{name field:Tx}{sub:List Ex}(AC:sub.length<100000000)(A6:6<=op->sub.length=1\/sub.length=2)(A7:∀y∈sub,yX y)(A8:∀y∈sub,∀c,lz (dn y)=some c->bq c.1):yX (.mk op n name field sub line):=by
 have A4:=λA B AD AE AF AG k Q AH v v3 AB=>Qk sub AC A B AD AE AF AG k Q AH sub [] [] v v3 AB rfl rfl A7;unfold yX;have e:dn (.mk op n name field sub line)=nj (.mk op n name field (de sub) line):=by simp[dn]
 rw[e];have A0:∀y∈de sub,∀c,lz y=some c->bq c.1:=by
  rw[py];intro y D;obtain⟨z,J,rfl⟩:=abV.1 D;exact A8 z J
 have A9:6<=op->(de sub).length=1\/(de sub).length=2:=by rw[py];simpa using A6
 obtain⟨R,H⟩:∃R,R=bK (nj (.mk op n name field (de sub) line)):=⟨_,rfl⟩;rw[<-H,arz (by simp)];simp[f99,aK]at A4⊢;refine A4 _ _ ?_ ?_ _ _ _ (λout r=>out=de sub->r=some (.ret (.d R),[])) (λY out v v3 AB h=>?_) _ _ _ rfl
 ·rfl
 ·rfl
 subst h;generalize de sub=out at*;have W:=E9 (.mk op n name field out line);by_cases Z:op<6
 ·have M:nj (.mk op n name field out line)=.mk op n name field out line:=by simp[nj,Z]
  rw[M]at H;subst H;simp[f99,Z,aK]
 cases A1:lz (.mk op n name field out line)with
 |some c=>
  have M:nj (.mk op n name field out line)=.mk op n name field out line:=by simp[nj,A1]
  rw[M]at H;subst H;rw[A1]at W;simp[aK]at W;simp[f99,Z,aK,W,xR]
 |none=>
  rw[A1]at W;rcases A9 (by omega)with AI|AJ
  ·obtain⟨y,rfl⟩:=JY AI;have D:=E9 y;simp[aK,xR]at W D;simp[f99,Z,aK,W];rw[ai];cases T:lz y with
   |none=>
    have M:nj (.mk op n name field [y] line)=.mk op n name field [y] line:=by simp[nj,qV,T]
    rw[M]at H;subst H;rw[T]at D;simp at D;simp[aK,D]
   |some c=>
    obtain⟨a,t⟩:=c;have AA:bq a:=A0 y (by simp) _ T;have E:=su t;have I:=Q5 op a t AA;rw[T]at D;simp at D;have M:nj (.mk op n name field [y] line)=if (Al op a t).2.2≠0\/((Al op a t).2.1=false/\(Al op a t).1= -9223372036854775808)then .mk op n name field [y] line else oI (Al op a t).1 (Al op a t).2.1 line:=by
     simp[nj,qV,T,A1,Pt,Z]
    rw[M]at H;generalize Al op a t=q at*;obtain⟨q1,q2,q3⟩:=q;have hm:=acT q1 q2 line;simp only at H I;have A2:(q3≠0/\R=bK (.mk op n name field [y] line))\/(q3=0/\q2=false/\q1= -9223372036854775808/\R=bK (.mk op n name field [y] line))\/(∃e,R=bK e/\q3=0/\q2=false/\q1≠ -9223372036854775808/\ag ctx 168 [.d (.int .i64 q1),.d (.bool q2),.d (.int .i64 line)] []=some (.ret (.d (bK e)),[]))\/(∃e,R=bK e/\q3=0/\q2=true/\ag ctx 168 [.d (.int .i64 q1),.d (.bool q2),.d (.int .i64 line)] []=some (.ret (.d (bK e)),[])):=by
     by_cases O:q3≠0\/(q2=false/\q1= -9223372036854775808)
     ·rw[aat O]at H;rcases O with h|h
      ·exact .inl ⟨h,H⟩
      ·by_cases A3:q3=0
       ·exact .inr (.inl ⟨A3,h.1,h.2,H⟩)
       ·exact .inl ⟨A3,H⟩
     ·rw[aab O]at H;simp only[alg,not_and,ak0]at O;cases q2 with
      |true=>exact .inr (.inr (.inr ⟨_,H,O.1,rfl,hm⟩))
      |false=>exact .inr (.inr (.inl ⟨_,H,O.1,rfl,O.2 rfl,hm⟩))
    clear H hm A0 A8 A7 A4 A6 A9;cases t
    ·simp[jK]at E I;rcases A2 with ⟨U,H⟩|⟨rfl,rfl,rfl,H⟩|⟨e,rfl,rfl,rfl,V,hm⟩|⟨e,rfl,rfl,rfl,hm⟩
     ·subst H;simp[aK,D,E,I,U];rw[ai];simp[aK,D,E,I,U]
     ·subst H;simp[aK,D,E,I];rw[ai];simp[aK,D,E,I]
     ·simp[aK]at hm;simp[aK,D,E,I,V,hm];rw[ai];simp[aK,D,E,I,V,hm]
     ·simp[aK]at hm;simp[aK,D,E,I,hm];rw[ai];simp[aK,D,E,I,hm]
    ·simp[jK]at E I;rcases A2 with ⟨U,H⟩|⟨rfl,rfl,rfl,H⟩|⟨e,rfl,rfl,rfl,V,hm⟩|⟨e,rfl,rfl,rfl,hm⟩
     ·subst H;simp[aK,D,E,I,U];rw[ai];simp[aK,D,E,I,U]
     ·subst H;simp[aK,D,E,I];rw[ai];simp[aK,D,E,I]
     ·simp[aK]at hm;simp[aK,D,E,I,V,hm];rw[ai];simp[aK,D,E,I,V,hm]
     ·simp[aK]at hm;simp[aK,D,E,I,hm];rw[ai];simp[aK,D,E,I,hm]
  ·obtain⟨y,z,rfl⟩:=av8 AJ;have D:=E9 y;have J:=E9 z;simp[aK,xR]at W D J;simp[f99,Z,aK,W];rw[ai];cases T:lz y with
   |none=>
    have M:nj (.mk op n name field [y,z] line)=.mk op n name field [y,z] line:=by simp[nj,qV,T]
    rw[M]at H;subst H;rw[T]at D;simp at D;simp[aK,D]
   |some c=>
    obtain⟨a,t⟩:=c;have AA:bq a:=A0 y (by simp) _ T;have E:=su t;rw[T]at D;simp at D;cases A':lz z with
    |none=>
     have M:nj (.mk op n name field [y,z] line)=.mk op n name field [y,z] line:=by simp[nj,qV,T,A']
     rw[M]at H;subst H;rw[A']at J;simp at J E;simp[aK,D,E];rw[ai];simp[aK,J]
    |some d=>
     obtain⟨b,u⟩:=d;have AK:bq b:=A0 z (by simp) _ A';have hu:=su u;rw[A']at J;simp at J;by_cases A5:t=u
     ·subst A5;have I:=Q6 op a b t AA AK;have M:nj (.mk op n name field [y,z] line)=if (FZ op a b t).2.2≠0\/((FZ op a b t).2.1=false/\(FZ op a b t).1= -9223372036854775808)then .mk op n name field [y,z] line else oI (FZ op a b t).1 (FZ op a b t).2.1 line:=by
       simp[nj,qV,T,A',A1,Pt,Z]
      rw[M]at H;generalize FZ op a b t=q at*;obtain⟨q1,q2,q3⟩:=q;have hm:=acT q1 q2 line;simp only at H I;have A2:(q3≠0/\R=bK (.mk op n name field [y,z] line))\/(q3=0/\q2=false/\q1= -9223372036854775808/\R=bK (.mk op n name field [y,z] line))\/(∃e,R=bK e/\q3=0/\q2=false/\q1≠ -9223372036854775808/\ag ctx 168 [.d (.int .i64 q1),.d (.bool q2),.d (.int .i64 line)] []=some (.ret (.d (bK e)),[]))\/(∃e,R=bK e/\q3=0/\q2=true/\ag ctx 168 [.d (.int .i64 q1),.d (.bool q2),.d (.int .i64 line)] []=some (.ret (.d (bK e)),[])):=by
       by_cases O:q3≠0\/(q2=false/\q1= -9223372036854775808)
       ·rw[aat O]at H;rcases O with h|h
        ·exact .inl ⟨h,H⟩
        ·by_cases A3:q3=0
         ·exact .inr (.inl ⟨A3,h.1,h.2,H⟩)
         ·exact .inl ⟨A3,H⟩
       ·rw[aab O]at H;simp only[alg,not_and,ak0]at O;cases q2 with
        |true=>exact .inr (.inr (.inr ⟨_,H,O.1,rfl,hm⟩))
        |false=>exact .inr (.inr (.inl ⟨_,H,O.1,rfl,O.2 rfl,hm⟩))
      clear H hm A0 A8 A7 A4 A6 A9;cases t
      ·simp[jK]at E I;rcases A2 with ⟨U,H⟩|⟨rfl,rfl,rfl,H⟩|⟨e,rfl,rfl,rfl,V,hm⟩|⟨e,rfl,rfl,rfl,hm⟩
       ·subst H;simp[aK,D,J,E,I,U];rw[ai];simp[aK,D,J,E,I,U];rw[ai];simp[aK,D,J,E,I,U]
       ·subst H;simp[aK,D,J,E,I];rw[ai];simp[aK,D,J,E,I];rw[ai];simp[aK,D,J,E,I]
       ·simp[aK]at hm;simp[aK,D,J,E,I,V,hm];rw[ai];simp[aK,D,J,E,I,V,hm];rw[ai];simp[aK,D,J,E,I,V,hm]
       ·simp[aK]at hm;simp[aK,D,J,E,I,hm];rw[ai];simp[aK,D,J,E,I,hm];rw[ai];simp[aK,D,J,E,I,hm]
      ·simp[jK]at E I;rcases A2 with ⟨U,H⟩|⟨rfl,rfl,rfl,H⟩|⟨e,rfl,rfl,rfl,V,hm⟩|⟨e,rfl,rfl,rfl,hm⟩
       ·subst H;simp[aK,D,J,E,I,U];rw[ai];simp[aK,D,J,E,I,U];rw[ai];simp[aK,D,J,E,I,U]
       ·subst H;simp[aK,D,J,E,I];rw[ai];simp[aK,D,J,E,I];rw[ai];simp[aK,D,J,E,I]
       ·simp[aK]at hm;simp[aK,D,J,E,I,V,hm];rw[ai];simp[aK,D,J,E,I,V,hm];rw[ai];simp[aK,D,J,E,I,V,hm]
       ·simp[aK]at hm;simp[aK,D,J,E,I,hm];rw[ai];simp[aK,D,J,E,I,hm];rw[ai];simp[aK,D,J,E,I,hm]
     ·have M:nj (.mk op n name field [y,z] line)=.mk op n name field [y,z] line:=by simp[nj,qV,T,A',Pt,A5]
      rw[M]at H;subst H;cases t<;>cases u
      ·exact absurd rfl A5
      ·simp[jK]at E hu;simp[aK,D,J,E,hu];rw[ai];simp[aK,D,J,E,hu];rw[ai];simp[aK,D,J,E,hu]
      ·simp[jK]at E hu;simp[aK,D,J,E,hu];rw[ai];simp[aK,D,J,E,hu];rw[ai];simp[aK,D,J,E,hu]
      ·exact absurd rfl A5
end Go.Am
end
section
namespace Go.Am
open Go Go.Proofs
variable [Inhabited bV]
set_option maxRecDepth 20000
theorem apB{vs:List Vr}{x:Ex}(D:bn x=true)(he:(bm vs x).e=0):∀y∈ic x,(bm vs y).e=0:=by
 cases J1 D he with
 |num h=>simp
 |vu h=>simp
 |var T Z U=>simp
 |idx T Z U V M ty=>simpa using M
 |fld T U A4 D=>simp
 |one A' V M ty=>simpa using M
 |two A' V M A5 A0 ty A6=>simpa using ⟨M,A0⟩
mutual
theorem sw{vs:List Vr}:∀x:Ex,bn x=true->dG x=true->(bm vs x).e=0->yX x
 | .mk op n name field sub line,D,I,he=>by
  have J:=apB D he;simp only[kX]at J;have A7:=D;simp only[bn,Ds,aak]at D;simp only[dG,Ds]at I;have H:=D.2.1;unfold eV at H;have W:=D.2.2.2.2;have Y:=I.2;refine apA (by split at H<;>(try split at H)<;>omega) (λA1=>by
   by_cases h:op=4\/op=6\/op=7
   ·rw[aat h]at H;exact .inl H
   ·rw[aab h,aat (by omega)]at H;exact .inr H) (Fa sub W Y J) (λy E c A2=>?_)
  have O:=IU y ((kE _).1 W y E) ((yM _).1 Y y E) (J y E);have:=(acg A2 O.1 O.2.1 (by rw[O.2.2.1];exact J y E)).2;unfold bq;omega
theorem Fa{vs:List Vr}:∀l:List Ex,bQ l=true->dB l=true->(∀y∈l,(bm vs y).e=0)->∀y∈l,yX y
 |[],_,_,_,y,E=>absurd E (afQ)
 |x::r,D,I,he,y,E=>by
  simp only[bQ,Ds]at D;simp only[dB,Ds]at I;rcases aaC.1 E with h|h
  ·rw[h];exact sw x D.1 I.1 (he x (by simp))
  ·exact Fa r D.2 I.2 (λz A3=>he z (by simp[A3])) y h
end
theorem kK{x:Ex}(h:fA x=true):yX x:=by
 obtain⟨op,n,name,field,sub,line⟩:=x;have h:(decide (op=0)&&(decide (n=0)&&decide (name.length+field.length+sub.length=0)))=true:=h;simp only[Ds,aak]at h;have J:sub=[]:=abO (by omega);have A8:=h.1;subst J;exact apA (by simp) (λA1=>by omega) (λy E=>absurd E (afQ)) (λy E=>absurd E (afQ))
end Go.Am
end
section
namespace Go.Am
open Go Go.Proofs Go.Proofs.Tryz
variable [Inhabited bV]
set_option maxRecDepth 20000
set_option maxHeartbeats 1000000
def KG(b:List Sm):Prop:=ag ctx 60 [.d (.list (b.map bX))] []=some (.ret (.d (.list ((ep b).map bX))),[])
def KH(x:Sm):Prop:=ag ctx 99 [.d (bK (fR x))] []=some (.ret (.d (bK (dn (fR x)))),[])/\ag ctx 99 [.d (bK (gB x))] []=some (.ret (.d (bK (dn (gB x)))),[])/\ag ctx 100 [.d (.list ((dQ x).map bK))] []=some (.ret (.d (.list ((de (dQ x)).map bK))),[])/\(cY x).length<100000000/\∀b∈cY x,KG b
theorem Vn(l:List (List Sm))(U:l.length<100000000)(O V T:Nat)(W:List D)(cs:List AV)(A2:∀v aj,cs.map (mM 400 v aj)=cs)(a9 Z A':D)(k:Kt)(Q:List (List Sm)->bN->Prop)
 (J:∀(Y:Env)(out:List (List Sm)) v,Q out (k (.exit 2) ⟨48,aX,(3,true,.vec 250 O 0 V)::(5,true,.ptr 350 T 0)::(6,true,.d (.list (out.map cL)))::(9,true,.d a9)::(10,true,.d Z)::(11,true,.d A')::Y,[⟨250,O,.vec 19 W⟩,⟨350,T,.box cs⟩,⟨400,v,.dead⟩]⟩)):
 ∀(rest pre out:List (List Sm))(v:Nat),l=pre++rest->out.length=pre.length->(∀b∈rest,KG b)->
 Q (out++jL rest) (aZ ctx 60 (.loop (Code.at (bg f60) [1,1,0,1,0,0,1,1,0,0,1,1,1,0,1,0,0])) ⟨48,aX,[(3,true,.vec 250 O 0 V),(5,true,.ptr 350 T 0),(6,true,.vec 400 v 0 out.length),(9,true,.d a9),(10,true,.d Z),(11,true,.d A'),(28,true,.d (.list (l.map cL))),(29,true,.d (.int .i64 l.length)),(30,true,.d (.int .i64 pre.length))],[⟨250,O,.vec 19 W⟩,⟨350,T,.box cs⟩,⟨400,v,.vec 1 (out.map cL)⟩]⟩ k)
 |[],pre,out,v,E,A0,M=>by
  have A3:pre.length=l.length:=by rw[E];simp
  have:=J [(28,true,.d (.list (l.map cL))),(29,true,.d (.int .i64 l.length)),(30,true,.d (.int .i64 l.length)),(31,true,.d (.bool false))] out (v+1);simp[jL]at this⊢;rw[A3,ai];simp[f60,A2,this]
 |b::rest,pre,out,v,E,A0,M=>by
  have A4:pre.length<l.length:=by rw[E];simp
  have A5:l[pre.length]=b:=by simp[E]
  have A6:=M b (by simp);unfold KG at A6;have ih:=λv=>Vn l U O V T W cs A2 a9 Z A' k Q J rest (pre++[b]) (out++[ep b]) v (by simp[E]) (by simp[A0]) (λy A7=>M y (by simp[A7]));have A8:IntKind.i64.wrap ((pre.length:Int)+1)=(pre.length:Int)+1:=aB (by unfold bq;omega);have A9:out.length<=4611686018427387903:=by omega
  have AA:(out.length+1)*24<=140737488355328:=by omega
  have e:out++jL (b::rest)=out++[ep b]++jL rest:=by simp[jL]
  rw[e,ai];generalize ep b=AL at*;simp[f60,cL]at ih A6⊢;simp[A4,A5,cL,A6,A8,A9,AA,ih]
theorem Vp(l:List Sm)(U:l.length<100000000)(k:Kt)(Q:List Sm->bN->Prop)
 (J:∀(Y:Env)(out:List Sm) v v3 H v4 I,Q out (k (.exit 0) ⟨48,aX,(3,true,.vec 250 v 0 out.length)::Y,[⟨250,v,.vec 19 (out.map bX)⟩,⟨350,v3,H⟩,⟨400,v4,I⟩]⟩)):
 ∀(rest pre out:List Sm)(v v3:Nat)(H:aD)(v4:Nat)(I:aD),l=pre++rest->out.length=pre.length->(∀x∈rest,KH x)->
 Q (out++ep rest) (aZ ctx 60 (.loop (Code.at (bg f60) [1,1,0,1,0,0])) ⟨48,aX,[(3,true,.vec 250 v 0 out.length),(9,true,.d (.list (l.map bX))),(10,true,.d (.int .i64 l.length)),(11,true,.d (.int .i64 pre.length))],[⟨250,v,.vec 19 (out.map bX)⟩,⟨350,v3,H⟩,⟨400,v4,I⟩]⟩ k)
 |[],pre,out,v,v3,H,v4,I,E,A0,M=>by
  have A3:pre.length=l.length:=by rw[E];simp
  have:=J [(9,true,.d (.list (l.map bX))),(10,true,.d (.int .i64 l.length)),(11,true,.d (.int .i64 l.length)),(12,true,.d (.bool false))] out v v3 H v4 I;simp[ep]at this⊢;rw[A3,ai];simp[f60,this]
 |x::rest,pre,out,v,v3,H,v4,I,E,A0,M=>by
  have A4:pre.length<l.length:=by rw[E];simp
  have A5:l[pre.length]=x:=by simp[E]
  obtain⟨AB,AC,AD,AF,AG⟩:=M x (by simp);have ih:=λv v3 H v4 I=>Vp l U k Q J rest (pre++[x]) (out++[vB x]) v v3 H v4 I (by simp[E]) (by simp[A0]) (λy A7=>M y (by simp[A7]));have A1:=λO V T W cs A2 a9 Z A' k Q J v=>Vn (cY x) AF O V T W cs A2 a9 Z A' k Q J (cY x) [] [] v rfl rfl AG;have A8:IntKind.i64.wrap ((pre.length:Int)+1)=(pre.length:Int)+1:=aB (by unfold bq;omega);have A9:out.length<=4611686018427387903:=by omega
  have AA:(out.length+1)*288<=140737488355328:=by omega
  have e:out++ep (x::rest)=out++[vB x]++ep rest:=by simp[ep]
  have AH:bX (vB x)=.agg [.int .i64 (gd x),.str (lU x),.int .i64 (dj (dn (fR x))),.int .i64 (nQ (dn (fR x))),.str (gT (dn (fR x))),.str (nR (dn (fR x))),.list ((ic (dn (fR x))).map bK),.int .i64 (iX (dn (fR x))),.int .i64 (dj (dn (gB x))),.int .i64 (nQ (dn (gB x))),.str (gT (dn (gB x))),.str (nR (dn (gB x))),.list ((ic (dn (gB x))).map bK),.int .i64 (iX (dn (gB x))),.list ((de (dQ x)).map bK),.list ((u5 x).map p7),.list ((je x).map .str),.list ((jL (cY x)).map cL),.int .i64 (oF x)]:=by
   obtain⟨op,name,to,val,conds,AM,fields,blocks,line⟩:=x;rw[dI];simp[vB,gd,lU,fR,gB,dQ,u5,je,cY,oF]
  rw[e,ai];have AI:(bX (vB x)).size=19:=by rw[dI];simp
  generalize vB x=AJ at*;generalize dn (fR x)=t at*;generalize dn (gB x)=w at*;generalize de (dQ x)=AN at*;simp[f60]at ih A1⊢;simp[aK]at AB AC AD;simp[A4,A5,dI x,aK,AB,AC,AD,aq];refine A1 _ _ _ _ _ ?_ _ _ _ _ (λAE r=>AE=jL (cY x)->Q (out++AJ::ep rest) r) (λY AE AO AK=>?_) _ rfl
  ·intro v aj;simp
  subst AK;simp[f60,A8,A9,AA,<-AH,AI,ih]
theorem He(l:List Sm)(U:l.length<100000000)(M:∀x∈l,KH x):KG l:=by
 have A1:=λk Q J v v3 H v4 I=>Vp l U k Q J l [] [] v v3 H v4 I rfl rfl M;unfold KG;rw[arp (by simp)];simp[f60]at A1⊢;refine A1 _ (λout r=>out=ep l->r=some (.ret (.d (.list ((ep l).map bX))),[])) (λY out v v3 H v4 I h=>?_) _ _ _ _ _ rfl;subst h;simp
end Go.Am
end
section
namespace Go.Am
open Go Go.Proofs Go.Proofs.Tryz
variable [Inhabited bV]
set_option maxRecDepth 20000
theorem ash{vs:List Vr}{lp:Bool}{x:Sm}(H:gC x=true)(E:qe x=true)(h:(mu vs lp x).1=0)(D:Pb x)(Y:∀(lp:Bool) (cs:List Ex),cH (cY x)=true->fL (cY x)=true->(gD vs lp cs (cY x)).1=0->zE (cY x)->∀b∈cY x,KG b):KH x:=by
 have AC:(yX (fR x)/\yX (gB x))/\(∀c∈dQ x,yX c)/\∀b∈cY x,KG b:=by
  have AD:dG (fR x)=true/\dG (gB x)=true/\dB (dQ x)=true/\fL (cY x)=true:=by
   obtain⟨op,name,to,val,conds,A7,fields,blocks,line⟩:=x;simp only[qe,Ds]at E;exact⟨E.1,E.2.1,E.2.2.1,E.2.2.2.2⟩
  have Z:zE (cY x):=by
   obtain⟨op,name,to,val,conds,A7,fields,blocks,line⟩:=x;simp only[Pb]at D;exact D.2
  obtain⟨AE,A4,W,A'⟩:=AD;cases U3 H h with
  |asg I A9 A5 AF AG U AH AA=>exact⟨⟨sw _ AF AE AG,sw _ U A4 AH⟩,by simp[dQ],by simp[cY]⟩
  |cnd I M A8 V J A0 O hh=>
   exact⟨⟨kK I,kK M⟩,Fa _ A8 W (λc A6=>(ma (yR J hh c A6)).1),Y _ _ O A' hh Z⟩
  |cas I U A1 J A0 AV O hh=>exact⟨⟨kK I,sw _ U A4 (ma A1).1⟩,by simp[dQ],Y _ _ O A' hh Z⟩
  |cnt D I M A9 A5 AW AA AI AJ AK AL AM AN O hh=>
   simp only[dQ,dB,Ds]at W;refine⟨⟨kK I,kK M⟩,?_,Y true [] (by simpa [cY,cH]using O) A' (by simp[cY,gD,dR,hh]) Z⟩;intro c A6;simp only[dQ,aaC,afQ,aon]at A6;rcases A6 with rfl|rfl|rfl
   ·exact sw _ AI W.1 (ma AJ).1
   ·exact sw _ AK W.2.1 (ma AL).1
   ·exact sw _ AM W.2.2.1 (ma AN).1
  |whl I U A1 O hh=>exact⟨⟨kK I,sw _ U A4 (ma A1).1⟩,by simp[dQ],Y true [] (by simpa [cY,cH]using O) A' (by simp[cY,gD,dR,hh]) Z⟩
  |rep I U A1 O hh=>exact⟨⟨kK I,sw _ U A4 (ma A1).1⟩,by simp[dQ],Y true [] (by simpa [cY,cH]using O) A' (by simp[cY,gD,dR,hh]) Z⟩
  |ext I M AX=>exact⟨⟨kK I,kK M⟩,by simp[dQ],by simp[cY]⟩
  |ret I M=>exact⟨⟨kK I,kK M⟩,by simp[dQ],by simp[cY]⟩
  |cal AY I M A9 AA A8 AO AZ hh=>exact⟨⟨kK I,kK M⟩,Fa _ A8 W (J6 _ _ [] AO hh),by simp[cY]⟩
 have AB:(dQ x).length<100000000/\(cY x).length<100000000:=by
  obtain⟨op,name,to,val,conds,A7,fields,blocks,line⟩:=x;simp only[Pb]at D;exact⟨D.1.2.2.1.1,D.1.2.2.2.2.2⟩
 obtain⟨⟨AP,AQ⟩,AR,AS⟩:=AC;refine⟨?_,?_,?_,AB.2,AS⟩
 ·exact AP
 ·exact AQ
 ·exact afu _ AB.1 AR
mutual
theorem apC{vs:List Vr}:∀(x:Sm)(lp:Bool),gC x=true->qe x=true->(mu vs lp x).1=0->Pb x->KH x
 | .mk op name to val conds A7 fields blocks line,lp,H,E,h,D=>ash H E h D (λlp cs V J A0 AT=>Hf blocks lp cs V J A0 AT)
theorem BO{vs:List Vr}:∀(l:List Sm)(lp:Bool),fG l=true->iZ l=true->(fm vs lp l).1=0->BC l->∀x∈l,KH x
 |[],_,_,_,_,_,x,A2=>absurd A2 (afQ)
 |y::r,lp,H,E,h,D,x,A2=>by
  simp only[fG,Ds]at H;simp only[iZ,Ds]at E;simp only[fm]at h;simp only[BC]at D;obtain⟨V,J⟩:=cn.1 h;rcases aaC.1 A2 with A3|A2
  ·rw[A3];exact apC y lp H.1 E.1 V D.1
  ·exact BO r lp H.2 E.2 J D.2 x A2
theorem Hf{vs:List Vr}:∀(l:List (List Sm))(lp:Bool)(cs:List Ex),cH l=true->fL l=true->(gD vs lp cs l).1=0->zE l->∀b∈l,KG b
 |[],_,_,_,_,_,_,b,T=>absurd T (afQ)
 |y::r,lp,[],H,E,h,D,b,T=>by
  simp only[cH,Ds]at H;simp only[fL,Ds]at E;simp only[gD]at h;simp only[zE]at D;obtain⟨V,J⟩:=cn.1 h;rcases aaC.1 T with A3|T
  ·rw[A3];exact He y D.1.1 (BO y lp H.1 E.1 V D.1.2)
  ·exact Hf r lp [] H.2 E.2 J D.2 b T
 |y::r,lp,c::cs,H,E,h,D,b,T=>by
  simp only[cH,Ds]at H;simp only[fL,Ds]at E;simp only[gD]at h;simp only[zE]at D;obtain⟨V,J⟩:=cn.1 h;obtain⟨J,A0⟩:=cn.1 J;rcases aaC.1 T with A3|T
  ·rw[A3];exact He y D.1.1 (BO y lp H.1 E.1 J D.1.2)
  ·exact Hf r lp cs H.2 E.2 A0 D.2 b T
end
theorem ajZ{p:Pg}{lp:Bool}(AU:p.body.length<100000000)(H:fG p.body=true)(E:iZ p.body=true)(h:(fm p.vars lp p.body).1=0)(D:BC p.body):ag ctx 30 [.d (uT p)] []=some (.ret (.d (uT (foP p))),[]):=by
 have A5:=He p.body AU (BO p.body lp H E h D);unfold KG at A5;rw[arj (by simp)];simp[f30,A5,foP]
end Go.Am
end
section
namespace Go.Am
open Go Go.Proofs
variable [Inhabited bV]
set_option maxRecDepth 20000
structure J8(p:Pg):Prop where
 fit:u7 p=true
 lit:iZ p.body=true
 chk:(qD p).1=0
 lw:cM (uT p)<10000000
theorem Jd{p:Pg}(h:u7 p=true):p.vars.length<=64/\(∀v∈p.vars,dN v=true)/\fG p.body=true:=by
 simp only[u7,Ds,abX,aak]at h;exact h.2
theorem Gc{p:Pg}(h:(qD p).1=0):(fm p.vars false p.body).1=0:=(cn.1 h).2
theorem apD{p:Pg}(h:J8 p)(O:bx (ep p.body)<=64):Jf false (ah p.vars (ep p.body) (cy p.vars)).1:=by
 have E:=(LX h.fit h.lit h.chk O).1;intro x H;by_cases I:0<=x.a
 ·exact⟨λ_=>I,λ_=>.inl I⟩
 ·refine⟨λT=>?_,λU=>?_⟩
  ·have:=(E.out x H (.inr T) (by omega)).1;omega
  ·rcases (E.out x H (.inl U) (by omega)).2 with e|⟨e,_⟩
   ·exact .inr (.inl e)
   ·cases e
theorem afv{p:Pg}(h:J8 p):ag ctx 30 [.d (uT p)] []=some (.ret (.d (uT (foP p))),[]):=by
 obtain⟨V,W,A2⟩:=Pj (p:=p) (by have:=h.lw;simp only[uT]at this;omega);exact ajZ (lp:=false) V (Jd h.fit).2.2 h.lit (Gc h.chk) W
def cdD:Option (List ay×Int×Int)->D
 |none=>.agg [.list [],.int .i64 0,.int .i64 0]
 |some g=>.agg [.list (g.1.map cQ),.int .i64 g.2.1,.int .i64 g.2.2]
def cdE:Option (List ay×Int×Int)->Int
 |none=>13
 |some _=>0
theorem afw{p:Pg}(h:J8 p):ag ctx 16 [.d (uT p)] []=some (.ret (.aY [.d (cdD (zG p)),.d (.int .i64 (cdE (zG p)))]),[]):=by
 obtain⟨f1,f2,f3⟩:=Jd h.fit;obtain⟨Y,A3,A4⟩:=Zn p h.lw;have J:=wm false p.body f3 h.lit (Gc h.chk);have Z:=ajU (p:=p) (by omega) f2 J.1 J.2.2;have y:=BM p.vars (λv A'=>rF (f2 v A'));have A5:=Eb p.vars [] 0 (by omega) (cn.1 h.chk).1;have A6:=qI (vs:=p.vars) (ep p.body) (cy p.vars);have q1:=Y (cy p.vars);have A0:=Z ⟨[],cy p.vars,0,[],[]⟩ (an5 _) y ⟨by simp,by simp⟩ (by simp) (by simp only[aaw];omega) (by simp only;omega) (by simp only[aaw];omega);have A7:(0:Nat)+(ah p.vars (ep p.body) (cy p.vars)).1.length=(ah p.vars (ep p.body) (cy p.vars)).1.length:=by omega
 have A8:=tF (-2) (ah p.vars (ep p.body) (cy p.vars)).1 0;have A1:=afm p (by omega) f2 (afv h) _ A0 (by simp[Mk.aS];omega) (by simp[Mk.aS];omega) (by
  intro i hi;simp only[Mk.aS,afR,aam,aaw,pW]at hi⊢;obtain⟨j,e,A9⟩:=D8 _ _ _ i hi;exact⟨j,e,by omega⟩)
 rw[A1];simp only[Mk.aS,Mk.cI,Mk.put,afR,aam,aaw,pW,aan,IY,ahI];unfold zG;simp only
 by_cases M:4096<(ah p.vars (ep p.body) (cy p.vars)).1.length+1\/64<bx (ep p.body)
 ·rw[aat M,aat (by omega)];rfl
 ·rw[aab M,aab (by omega),ajW (apD h (by omega))];rfl
structure afx(k:Kd):Prop where
 ty:(k.kind=1\/k.kind=2)\/tV k.kind=true
 arr:k.arr=true->k.kind<=2/\0<=k.lo/\k.lo<=k.hi/\k.hi<=255
 pl:k.arr=false->k.lo=0/\k.hi=0
theorem acX:∀x∈sH,tV x.k=true:=by decide+kernel
theorem afy{w:Tx}(h:kindN w≠0):tV (kindN w)=true:=by
 unfold kindN at h⊢;split
 ·rename_i V;rw[aat V]at h;exact absurd rfl h
 ·rename_i V;rw[aab V]at h;by_cases Z:(sg w sH 0).toNat<sH.length
  ·rw[acb,abJ Z,af7];exact acX _ (ahV Z)
  ·rw[acb,afX (by omega),Option.getD_none]at h;exact absurd rfl h
def Qm(k:Kd)(n:Int):Prop:=¬(((k.arr=true\/2<k.kind)/\n≠0)\/(k.kind=2/\(n<0\/1<n))\/n= -9223372036854775808)
theorem apG{k:Kd}{sec init:Int}{t:bI}(W:afx k)(A':0<=sec/\sec<=2)(hi:Qm k init)(A0:fK t.text=true):dN (Dz k sec init t)=true:=by
 unfold Qm at hi;unfold dN Dz;simp only[A0,Bool.true_and,Ds,ahR,aak,ahK,afP];refine⟨⟨A',W.ty⟩,?_,hi⟩;cases AA:k.arr with
 |true=>simpa using W.arr AA
 |false=>simpa using W.pl AA
section
variable {L:List bI} (J:∀t∈L,DN t)
theorem Qn{s:PS}:Po (uG L s) λp H=>(p.2=true->(p.1=1\/p.1=2)/\Gx 1 s H)/\(p.2=false->H=s):=by
 unfold uG;refine en.bind λb s1 ⟨E,M⟩=>Po.iff (λD=>⟨λ_=>⟨.inl rfl,E D⟩,λh=>nomatch h⟩) λD=>?_;have:=M (by simpa using D);subst this;refine en.bind λb s1 ⟨E,M⟩=>Po.iff (λD=>⟨λ_=>⟨.inr rfl,E D⟩,λh=>nomatch h⟩) λD=>?_;have:=M (by simpa using D);subst this;exact⟨(λh=>nomatch h),λ_=>rfl⟩
include J
theorem afz{s:PS}{k:Kd}:Po (xr L k s) λAH H=>afx AH/\Gx 1 s H:=by
 unfold xr;refine dY.bind λ_ s1 E=>(lB J (by decide)).bind λlo s2 ⟨I,A6,t2,_⟩=>dY.bind λ_ Y O=>(lB J (by decide)).bind λhi A3 ⟨T,AB,t4,_⟩=>Po.iff (λ_=>Po.fail) λV=>?_;have A4:=t2.num A6;have AQ:=t4.num AB;refine dY.bind λ_ A1 y=>dY.bind λ_ A2 A7=>Qn.bind λp AR ⟨A8,AS⟩=>Po.iff (λD=>?_) λD=>kY.bind λt AT _=>Po.fail;obtain⟨A5,A8⟩:=A8 D;refine⟨⟨.inl A5,λ_=>⟨?_,A4.1,?_,?_⟩,λh=>nomatch h⟩,(E.trans (I.trans (O.trans (T.trans (y.trans (A7.trans A8)))))).le (by omega)⟩
 ·rcases A5 with e|e<;>simp only[e]<;>decide
 ·simp only;omega
 ·simp only;omega
theorem afA{s:PS}:Po (xu L kindN s) λk H=>afx k/\Gx 0 s H:=by
 unfold xu;refine kY.bind λt s1 ⟨e,AC⟩=>?_;subst e;refine Qn.bind λp s2 ⟨I,A9⟩=>Po.iff (λD=>⟨⟨.inl (I D).1,(λh=>nomatch h),λ_=>⟨rfl,rfl⟩⟩,(I D).2.le (by omega)⟩) λD=>?_;have:=A9 (by simpa using D);subst this;refine en.bind λb Y ⟨O,AI⟩=>Po.iff (λD=>(afz J).mono λk A3 ⟨a,b⟩=>⟨a,((O D).trans b).le (by omega)⟩) λD=>?_;have:=AI (by simpa using D);subst this;refine (lB J (by decide)).bind λAJ A3 ⟨T,AB,t4,_⟩=>Po.iff (λ_=>Po.fail) λW=>?_;exact⟨⟨.inr (afy W),(λh=>nomatch h),λ_=>⟨rfl,rfl⟩⟩,T.le (by omega)⟩
theorem afB{s:PS}:Po (xw L s) λp H=>Gx 0 s H/\ -9223372036854775807<=p.1/\(p.2=true->0<=p.1/\p.1<=1):=by
 unfold xw;refine en.bind λb s1 ⟨E,M⟩=>Po.iff (λD=>⟨(E D).le (by omega),by decide,λ_=>by decide⟩) λD=>?_;have:=M (by simpa using D);subst this;refine en.bind λb s1 ⟨E,M⟩=>Po.iff (λD=>⟨(E D).le (by omega),by decide,λ_=>by decide⟩) λD=>?_;have:=M (by simpa using D);subst this;exact (DQ J).bind λn s2 ⟨I,A4⟩=>⟨I.le (by omega),A4.1,λh=>nomatch h⟩
theorem aj0{s:PS}{k:Kd}:Po (EU L k s) λn H=>Qm k n/\Gx 0 s H:=by
 unfold EU;refine en.bind λb s1 ⟨E,M⟩=>Po.iff (λD=>?_) λD=>?_
 ·refine (afB J).bind λp s2 ⟨I,A4,AK⟩=>Po.iff (λ_=>Po.fail) λV=>⟨?_,((E D).trans I).le (by omega)⟩;simp only[alg,ak0]at V;obtain⟨AL,AM,AN⟩:=V;unfold Qm;rintro (⟨h,_⟩|⟨h,AU⟩|h)
  ·rcases h with h|h
   ·exact AL h
   ·exact AM h
  ·have:=AK (by rw[AN];simpa using h);omega
  ·omega
 ·have:=M (by simpa using D);subst this;refine⟨?_,Gx.refl⟩;unfold Qm;rintro (⟨_,h⟩|⟨_,h⟩|h)
  ·exact h rfl
  ·omega
  ·omega
theorem Qo:∀(f:Nat)(l:List bI)(s:PS),(∀t∈l,fK t.text=true)->Po (uH L f l s) λAD H=>(∀t∈AD,fK t.text=true)/\Gx 0 s H
 |0,l,s,_=>trivial
 |f+1,l,s,Z=>by
  unfold uH;refine (lB J (by decide)).bind λt s1 ⟨E,AC,t1,_⟩=>Po.iff (λ_=>Po.iff (λ_=>Po.fail) λ_=>trivial) λ_=>?_;have AE:∀u∈l++[t],fK u.text=true:=λu hu=>by
   rcases aa0.1 hu with hu|hu
   ·exact Z u hu
   ·rw[akB.1 hu];exact t1.name AC
  refine en.bind λb s2 ⟨I,A9⟩=>Po.iff (λD=>(Qo f _ s2 AE).mono λAD Y ⟨a,b⟩=>⟨a,(E.trans ((I D).trans b)).le (by omega)⟩) λD=>?_;have:=A9 (by simpa using D);subst this;exact⟨AE,E.le (by omega)⟩
structure Vo(s H:PS):Prop where
 at_:s.at_<=H.at_
 ok:s.vars.length<=64->(∀v∈s.vars,dN v=true)->H.vars.length<=64/\∀v∈H.vars,dN v=true
omit J in
theorem Vo.of{k:Nat}{s H:PS}(h:Gx k s H):Vo s H:=⟨by have:=h.at_;omega,λE I=>by rw[h.vars];exact⟨E,I⟩⟩
omit J in
theorem Vo.trans{s s1 s2:PS}(h:Vo s s1)(k:Vo s1 s2):Vo s s2:=⟨akm h.at_ k.at_,λE I=>k.ok (h.ok E I).1 (h.ok E I).2⟩
theorem Q7{s:PS}{f:Nat}{sec:Int}(A':0<=sec/\sec<=2):Po (ni L kindN f sec s) λ_ H=>Vo s H:=by
 unfold ni;refine (Qo J f [] s (by simp)).bind λl s1 ⟨Z,E⟩=>dY.bind λ_ s2 I=>(afA J).bind λk Y ⟨W,O⟩=>(aj0 J).bind λn A3 ⟨AO,T⟩=>dY.bind λ_ A1 y=>Po.iff (λV=>?_) λ_=>trivial;have AF:=E.trans (I.trans (O.trans (T.trans y)));have a:=AF.at_;refine⟨by simp only;omega,λv1 v2=>⟨by simpa using V,λv U=>?_⟩⟩;simp only at U;rw[AF.vars]at U;rcases aa0.1 U with U|U
 ·exact v2 v U
 ·obtain⟨t,A0,rfl⟩:=abV.1 U;exact apG W A' AO (Z t A0)
theorem Qp{sec:Int}(A':0<=sec/\sec<=2):∀(f:Nat)(s:PS),Po (uI L kindN sec f s) λ_ H=>Vo s H
 |0,s=>trivial
 |f+1,s=>by
  unfold uI;refine en.bind λb s1 ⟨E,M⟩=>Po.iff (λD=>Vo.of (E D)) λD=>?_;have:=M (by simpa using D);subst this;exact (Q7 J A').bind λ_ s2 I=>(Qp A' f s2).mono λ_ Y O=>I.trans O
omit J in
theorem Zo{s:PS}:Po (tt L s) λo H=>Gx 0 s H/\∀sec,o=some sec->0<=sec/\sec<=2:=by
 unfold tt;refine en.bind λb s1 ⟨E,M⟩=>Po.iff (λD=>⟨(E D).le (by omega),λsec h=>by cases h;decide⟩) λD=>?_;have:=M (by simpa using D);subst this;refine en.bind λb s1 ⟨E,M⟩=>Po.iff (λD=>⟨(E D).le (by omega),λsec h=>by cases h;decide⟩) λD=>?_;have:=M (by simpa using D);subst this;refine en.bind λb s1 ⟨E,M⟩=>Po.iff (λD=>⟨(E D).le (by omega),λsec h=>by cases h;decide⟩) λD=>?_;have:=M (by simpa using D);subst this;exact⟨Gx.refl,λsec h=>nomatch h⟩
theorem Gd:∀(f:Nat)(s:PS),Po (kD L kindN f s) λ_ H=>Vo s H
 |0,s=>trivial
 |f+1,s=>by
  unfold kD;refine Zo.bind λo s1 ⟨E,M⟩=>?_;cases o with
  |none=>exact Vo.of E
  |some sec=>exact (Qp J (M sec rfl) f s1).bind λ_ s2 I=>(Gd f s2).mono λ_ Y O=>(Vo.of E).trans (I.trans O)
theorem Zp{f:Nat}:Po (kW L kindN f ⟨0,0,[]⟩) λp _=>u7 p=true/\iZ p.body=true/\aV (jF p.body)<=100*L.length:=by
 unfold kW;refine dY.bind λ_ s1 E=>(lB J (by decide)).bind λAJ s2 ⟨I,A6,t2,_⟩=>(Gd J f s2).bind λ_ Y O=>((poS J f).block _ Y).bind λl A3 T=>dY.bind λ_ A1 y=>?_;have W:Po (gQ L 0 A1) λ_ A2=>A2.vars=A1.vars/\A1.at_<L.length:=by
  unfold gQ;refine kY.bind λt H ⟨e,h⟩=>?_;subst e;have AG:=(D1.1 h).1;refine Po.iff (λ_=>tv.mono λu A2 ⟨_,g,_⟩=>⟨g.vars,AG⟩) λ_=>kY.bind λt s1 _=>Po.fail
 refine W.bind λ_ A2 ⟨A7,AG⟩=>?_;have U:=O.ok (by rw[I.vars,E.vars];simp) (by rw[I.vars,E.vars];simp);have AP:A2.vars=Y.vars:=by rw[A7,y.vars,T.vars]
 have a4:=T.w;have a5:=y.at_;refine⟨?_,T.lit,?_⟩
 ·simp only[u7,Ds,aak,abX];rw[AP];exact⟨t2.name A6,U.1,U.2,T.fit⟩
 ·simp only;omega
end
theorem asi{v:Vr}(h:dN v=true):cM (aW v)<=25:=by
 simp only[dN,Ds]at h;have:=nE h.1;simp only[aW,dx,cM,aV];omega
theorem acY:∀l:List Vr,(∀v∈l,dN v=true)->aV (l.map aW)<=25*l.length
 |[],_=>by simp[aV]
 |v::r,h=>by
  have E:=asi (h v (by simp));have I:=acY r λw hw=>h w (by simp[hw]);simp only[abR,aV,aan];omega
theorem Q8{text:Tx}(Z:text.length<=16384)(h:(qC text).2.1=0):u7 (qC text).1=true/\iZ (qC text).1.body=true/\cM (uT (qC text).1)<10000000:=by
 unfold qC at h⊢;by_cases he:(jE text).2.1=0
 ·rw[aab (by simp[he])]at h⊢;have AV:=aeK he;have A5:=Zp (aiY text) (f:=20*(jE text).1.length+19);have A0:=II (kindN:=kindN) (JL he).1 (s:=⟨0,0,[]⟩) ⟨by have:=(JL he).2.2;simp only;omega,by simp,by simp,by simp⟩ (f:=20*(jE text).1.length+19) (by simp);generalize kW (jE text).1 kindN (20*(jE text).1.length+19) ⟨0,0,[]⟩=r at*;cases r with
  |out=>exact A0.elim
  |bad e s=>exact absurd h A0.2
  |ok p s=>
   obtain⟨E,I,O⟩:=A5;have f3:=E;simp only[u7,Ds,aak,abX]at f3;refine⟨E,I,?_⟩;have T:=acY p.vars f3.2.2.1;have y:=nE f3.1;simp only[uT,cM,aV];rw[<-pU];omega
 ·rw[aat he]at h;exact absurd (by simpa using h) he
end Go.Am
end
section
namespace Go.Am
open Go Go.Proofs Go.Proofs.Tryz
variable [Inhabited bV]
set_option maxRecDepth 20000
def Ec(f:Nat)(H:Int->Nat):Prop:=∀b:Int,∃l:List D,ag ctx f [.d (.int .i64 b)] []=some (.ret (.d (.list l)),[])/\l.length=H b/\H b<=100
set_option maxHeartbeats 2000000 in
theorem afC(H:Int->Nat)(AF:Ec 54 H)(ins:List ay)(vars cells:Int)(J M:Nat)(S T:List D)(at_:Int)(x:ay)(V:0<=cells/\cells<=8192)(AH:ins.length<=5000):
 ag ctx 104 [.ptr 0 0 0,.d (.int .i64 at_),.d (cQ x)] [fC ins vars cells (.vec 1 0 0 J) (.vec 2 0 0 M),.vec 1 S,.vec 1 T]=
  some (.ret (.d (.bool (dg H cells ((ins.length:Int)-1) at_ x))),[(0,fC ins vars cells (.vec 1 0 0 J) (.vec 2 0 0 M)),(0,.vec 1 S),(0,.vec 1 T)]):=by
 have O:=BG ins vars cells J M S T x.a 1 V (by unfold bq;omega);have E:IntKind.i64.wrap ((ins.length:Int)-1)=(ins.length:Int)-1:=aB (by unfold bq;omega);rw[ame (by simp)];unfold dg;simp at O;by_cases A1:x.op=1
 ·simp[f104,E,A1]
 by_cases A2:x.op=11
 ·simp[f104,E,A2]
 by_cases A3:x.op=2
 ·simp[f104,E,A3,O]
 by_cases A4:x.op=3
 ·simp[f104,E,A4,O]
 by_cases A5:x.op=6
 ·simp[f104,E,A5,O]
 by_cases A6:x.op=14
 ·simp[f104,E,A6,O]
 by_cases A7:x.op=13
 ·have A8:=BG ins vars cells J M S T x.b 2 V (by unfold bq;omega);simp at A8;cases AG:gU cells x.a 1<;>simp[f104,E,A7,O,A8,AG]
 have I:=acs ins vars cells J M S T x V;simp at I;by_cases W:x.op=4
 ·simp[W]at I;simp[f104,E,W,I]
 by_cases Y:x.op=5
 ·simp[Y]at I;simp[f104,E,Y,I]
 by_cases Z:x.op=7
 ·simp[Z]at I;simp[f104,E,Z,I]
 by_cases y:x.op=8
 ·have A9:=afb x;simp[y]at A9;simp[f104,E,y,A9]
 by_cases AA:x.op=9
 ·by_cases U:0<=x.a<;>simp[f104,E,AA,U]
 by_cases AB:x.op=10
 ·by_cases U:0<=x.a<;>simp[f104,E,AB,U]
 by_cases A':x.op=12
 ·obtain⟨l,AC,AD,AI⟩:=AF x.b;have A0:=BG ins vars cells J M S T x.a (H x.b) V (by unfold bq;omega);simp at A0;by_cases U:0<H x.b
  ·simp[f104,E,A',U,AC,AD,A0]
  ·simp[f104,E,A',U,AC,AD,A0]
 by_cases AE:x.op=15
 ·simp[f104,E,AE]
 ·simp[f104,E,A1,A3,A4,W,Y,A5,Z,y,AA,AB,A2,A',A7,A6,AE]
theorem Je(H:Int->Nat)(A1:Ec 54 H)(vars cells:Int)(I J:Nat)(S T:List D)(B:aD)(A7:0<=cells/\cells<=8192)(L:Int):∀(rest pre:List ay)(v:Nat)(A2:aD),((pre++rest).length:Int)-1=L->(pre++rest).length<=5000->∀k:Kt,
 ∃Z y,aZ ctx 62 (.loop (Code.at (bg f62) [1,1,1,1,0,1,0,0])) ⟨66,aX,[(0,true,.ptr 0 0 0),(53,true,.d (.list ((pre++rest).map cQ))),(54,true,.d (.int .i64 (pre++rest).length)),(55,true,.d (.int .i64 pre.length))],
  [⟨0,0,fC (pre++rest) vars cells (.vec 1 0 0 I) (.vec 2 0 0 J)⟩,⟨1,0,.vec 1 S⟩,⟨2,0,.vec 1 T⟩,⟨250,1,B⟩,⟨400,v,A2⟩]⟩ k=
  if px H cells L pre.length rest=true then
   k (.exit 0) ⟨66,aX,[(0,true,.ptr 0 0 0),(53,true,.d (.list ((pre++rest).map cQ))),(54,true,.d (.int .i64 (pre++rest).length)),(55,true,.d (.int .i64 (pre++rest).length)),(56,true,.d (.bool false))],
   [⟨0,0,fC (pre++rest) vars cells (.vec 1 0 0 I) (.vec 2 0 0 J)⟩,⟨1,0,.vec 1 S⟩,⟨2,0,.vec 1 T⟩,⟨250,1,B⟩,⟨400,Z,y⟩]⟩
  else k .ret ⟨66,aX,[(2,true,.d (.bool false))],[⟨0,0,fC (pre++rest) vars cells (.vec 1 0 0 I) (.vec 2 0 0 J)⟩,⟨1,0,.vec 1 S⟩,⟨2,0,.vec 1 T⟩,⟨250,1,B⟩,⟨400,Z,y⟩]⟩
 |[],pre,v,A2,A5,V,k=>by
  refine⟨v,A2,?_⟩;rw[ai];simp[f62,px]
 |x::rest,pre,v,A2,A5,V,k=>by
  have A':=afC H A1 (pre++x::rest) vars cells I J S T pre.length x A7 V;rw[A5]at A';have A0:(pre.length:Int)<pre.length+(rest.length+1):=by omega
  have M:IntKind.i64.wrap ((pre.length:Int)+1)=pre.length+1:=aB (by unfold bq;simp at V;omega);cases A3:dg H cells L pre.length x
  ·refine⟨v+1,.box [.d (.int .i64 x.op),.d (.int .i64 x.a),.d (.int .i64 x.b),.d (.int .i64 x.n),.d (.int .i64 x.m)],?_⟩;rw[ai];simp[A3]at A';simp[f62,px,A3];simp[A0,A']
  ·obtain⟨Z,y,ih⟩:=Je H A1 vars cells I J S T B A7 L rest (pre++[x]) (v+1) (.box [.d (.int .i64 x.op),.d (.int .i64 x.a),.d (.int .i64 x.b),.d (.int .i64 x.n),.d (.int .i64 x.m)]) (by simpa using A5) (by simpa using V) k;refine⟨Z,y,?_⟩;rw[ai];simp[A3]at A';simp[f62,px,A3]at ih⊢;simp[A0,M,A',ih]
theorem acZ(H:Int->Nat)(A1:Ec 54 H)(ins:List ay)(vars cells:Int)(I J:Nat)(S T:List D)(V:ins.length<=5000):
 ag ctx 62 [.ptr 0 0 0] [fC ins vars cells (.vec 1 0 0 I) (.vec 2 0 0 J),.vec 1 S,.vec 1 T]=
  some (.ret (.d (.bool (mZ H ins vars cells))),[(0,fC ins vars cells (.vec 1 0 0 I) (.vec 2 0 0 J)),(0,.vec 1 S),(0,.vec 1 T)]):=by
 rw[ars (by simp)];unfold mZ IQ;by_cases A0:1<=(ins.length:Int)
 ·have A8:¬((ins.length:Int)<1):=by omega
  obtain⟨E,last,rfl⟩:∃E last,ins=E++[last]:=⟨ins.dropLast,ins.getLast (by intro h;simp[h]at A0),(List.dropLast_concat_getLast _).symm⟩;have AB:uM (E++[last])=last.op:=by simp[uM]
  rw[AB];have O:IntKind.i64.wrap ((E.length:Int)+1-1)=E.length:=by rw[aB (by unfold bq;simp at V;omega)];omega
  simp at O;simp only[aam,aan,aaw]at V;by_cases M:(E.length:Int)+1<=4096;rotate_left
  ·have U:(4096:Int)<(E.length:Int)+1:=by omega
   simp[f62,M,U,O]
  have U:¬((4096:Int)<(E.length:Int)+1):=by omega
  by_cases W:0<=cells;rotate_left
  ·simp[f62,M,U,W,O]
  by_cases Y:cells<=8192;rotate_left
  ·simp[f62,M,U,W,Y,O]
  by_cases A4:0<=vars;rotate_left
  ·simp[f62,M,U,W,Y,A4,O]
  by_cases A6:vars<=cells;rotate_left
  ·simp[f62,M,U,W,Y,A4,A6,O]
  by_cases A9:last.op=15;rotate_left
  ·simp[f62,M,U,W,Y,A4,A6,A9,O]
  have AC:(1:Int)<=(E.length:Int)+1:=by omega
  have AA:=λB=>Je H A1 vars cells I J S T B ⟨W,Y⟩ E.length (E++[last]) [] 0 .dead (by simp) (by simp;omega);simp[f62,M,U,W,Y,A4,A6,A9,AC,O]at AA⊢;obtain⟨Z,y,AD⟩:=AA _ _;rw[AD];split
  ·rename_i q;simp[q]
  ·rename_i q;simp[q]
 ·have A8:(ins.length:Int)<1:=by omega
  simp[f62,A8,A0]
section
variable (ins:List ay) (vars cells:Int) (E:Nat) (T:List D)
theorem xS(t:Bool)(S:List Bool)(M:S.length<=5000):
 ag ctx 176 [.ptr 0 0 0,.d (.bool t)] [fC ins vars cells (.vec 1 0 0 S.length) (.vec 2 0 0 E),.vec 1 (bD S),.vec 1 T]=
  some (.ret (.d (.bool (decide (S.length<64)))),[(0,fC ins vars cells (.vec 1 1 0 (S.length+1)) (.vec 2 0 0 E)),(1,.vec 1 (bD (S++[t]))),(0,.vec 1 T)]):=by
 have g1:S.length+1<=140737488355328/\S.length<=4611686018427387903:=by omega
 have g2:((S.length:Int)+1<=64)=(S.length<64):=by simp;omega
 rw[amF (by simp)];simp[f176,g1,g2]
theorem Ee(S:List D)(O:Nat):
 ag ctx 105 [.ptr 0 0 0] [fC ins vars cells (.vec 1 0 0 O) (.vec 2 0 0 E),.vec 1 S,.vec 1 T]=
  some (.ret (.d (.bool (decide (O=0)))),[(0,fC ins vars cells (.vec 1 0 0 O) (.vec 2 0 0 E)),(0,.vec 1 S),(0,.vec 1 T)]):=by
 rw[amf (by simp)];by_cases q:O=0<;>simp[f105,q]
theorem LZ(n:Nat)(t:Bool)(A:List Bool)(V:A.length<=5000):∀(rest pre:List Bool),(pre++rest).length=n->n<=5000->∀k:Kt,
 aZ ctx 177 (.loop (Code.at (bg f177) [1,1,0,1,0,0])) ⟨54,aX,[(0,true,.ptr 0 0 0),(1,true,.d (.int .i64 n)),(2,true,.d (.bool t)),(27,true,.vec 1 0 A.length n),(28,true,.d (.int .i64 n)),(29,true,.d (.int .i64 pre.length))],
  [⟨0,0,fC ins vars cells (.vec 1 0 0 (A++(pre++rest)).length) (.vec 2 0 0 E)⟩,⟨1,0,.vec 1 (bD (A++(pre++rest)))⟩,⟨2,0,.vec 1 T⟩]⟩ k=
  if (t&&rest.any (λb=>!b))=true then k .ret ⟨54,aX,[(6,true,.d (.bool false))],[⟨0,0,fC ins vars cells (.vec 1 0 0 (A++(pre++rest)).length) (.vec 2 0 0 E)⟩,⟨1,0,.vec 1 (bD (A++(pre++rest)))⟩,⟨2,0,.vec 1 T⟩]⟩
  else k (.exit 0) ⟨54,aX,[(0,true,.ptr 0 0 0),(1,true,.d (.int .i64 n)),(2,true,.d (.bool t)),(27,true,.vec 1 0 A.length n),(28,true,.d (.int .i64 n)),(29,true,.d (.int .i64 n)),(30,true,.d (.bool false))],
  [⟨0,0,fC ins vars cells (.vec 1 0 0 (A++(pre++rest)).length) (.vec 2 0 0 E)⟩,⟨1,0,.vec 1 (bD (A++(pre++rest)))⟩,⟨2,0,.vec 1 T⟩]⟩
 |[],pre,I,M,k=>by
  subst I;rw[ai];simp[f177]
 |x::rest,pre,I,M,k=>by
  have ih:=LZ n t A V rest (pre++[x]) (by simpa using I) M k;have J:(pre.length:Int)<n:=by simp at I;omega
  have H:pre.length<n:=by omega
  have W:IntKind.i64.wrap ((pre.length:Int)+1)=pre.length+1:=aB (by unfold bq;omega);rw[ai];simp[f177]at ih⊢;cases t
  ·simp[J,H,W]at ih⊢;exact ih
  ·cases x
   ·simp[J,H,W]
   ·simp[J,H,W]at ih⊢;exact ih
theorem yY(n:Nat)(t:Bool)(S:List Bool)(M:S.length<=5000)(I:n<=5000):
 ag ctx 177 [.ptr 0 0 0,.d (.int .i64 n),.d (.bool t)] [fC ins vars cells (.vec 1 0 0 S.length) (.vec 2 0 0 E),.vec 1 (bD S),.vec 1 T]=
  match jo n t S with
  |some A0=>some (.ret (.d (.bool true)),[(0,fC ins vars cells (.vec 1 1 0 A0.length) (.vec 2 0 0 E)),(1,.vec 1 (bD A0)),(0,.vec 1 T)])
  |none=>some (.ret (.d (.bool false)),[(0,fC ins vars cells (.vec 1 1 0 S.length) (.vec 2 0 0 E)),(1,.vec 1 (bD S)),(0,.vec 1 T)]):=by
 rw[amG (by simp)];unfold jo;by_cases J:S.length<n
 ·have H:(S.length:Int)<n:=by omega
  simp[f177,J,H]
 ·have H:¬((S.length:Int)<n):=by omega
  obtain⟨A,B,rfl,A1⟩:∃A B,S=A++B/\B.length=n:=⟨S.take (S.length-n),S.drop (S.length-n),(akQ _ _).symm,by simp;omega⟩;have V:(A++B).length -n=A.length:=by simp;omega
  have U:IntKind.i64.wrap (((A++B).length:Int)-n)=A.length:=by rw[aB (by unfold bq;omega)];simp;omega
  have A2:=LZ ins vars cells E T n t A (by simp at M;omega) B [] (by simpa using A1) I;have A3:A.length+B.length-A.length=n:=by omega
  have A4:A.length+n-A.length=n:=by omega
  subst A1;rw[V];have Y:¬((A.length:Int)+B.length<B.length):=by omega
  have Z:(A.length:Int)<=(A.length:Int)+B.length:=by omega
  have y:((A.length:Int)+B.length).toNat -A.length=B.length:=by omega
  have A':¬(A.length+B.length<B.length):=by omega
  simp at J H U;simp[f177]at A2⊢;simp[U,Y,Z,y,A'];rw[tj (by kernel_rfl)];simp[Y,Z,y,A',A2];by_cases q:t=true/\false∈B
  ·simp[q]
  ·rw[aab q,aab q];simp[U,Y,Z,y,A'];rw[tj (by kernel_rfl)];simp[U]
end
section
variable (ins:List ay) (vars cells:Int) (I:Nat) (T:List D)
def Vs(x:ay)(S:List Bool)(r:bN):Prop:=∃W:List Bool,r=some (.ret (.d (.bool (cm x S).isSome)),[(0,fC ins vars cells (.vec 1 1 0 W.length) (.vec 2 0 0 I)),(1,.vec 1 (bD W)),(0,.vec 1 T)])/\∀AA,cm x S=some AA->AA=W
theorem yZ{n:Nat}{t:Bool}{S W:List Bool}(h:jo n t S=some W):W.length<=S.length:=by
 unfold jo at h;split at h
 ·cases h
 ·split at h
  ·cases h
  ·cases h;simp
set_option maxHeartbeats 4000000 in
theorem ac0(x:ay)(S:List Bool)(AH:S.length<=64):
 Vs ins vars cells I T x S (ag ctx 106 [.ptr 0 0 0,.d (cQ x)] [fC ins vars cells (.vec 1 0 0 S.length) (.vec 2 0 0 I),.vec 1 (bD S),.vec 1 T]):=by
 rw[amg (by simp)];unfold Vs cm;have Y:=xS ins vars cells I T true S (by omega);have A8:=xS ins vars cells I T false S (by omega);have he:=Ee ins vars cells I T (bD S) S.length;simp at Y A8 he;by_cases Z:x.op=1
 ·refine⟨S++[decide (x.n=0)||decide (x.n=1)],?_,?_⟩
  ·by_cases q:x.n=0
   ·simp[f106,Z,q,Y,eO];split<;>simp[*]
   ·by_cases q1:x.n=1
    ·simp[f106,Z,q1,Y,eO];split<;>simp[*]
    ·simp[f106,Z,q,q1,A8,eO];split<;>simp[*]
  ·simp[Z,eO]
 by_cases A3:x.op=2
 ·refine⟨S++[false],?_,?_⟩
  ·simp[f106,A3,A8,eO];split<;>simp[*]
  ·simp[A3,eO]
 by_cases A4:x.op=3
 ·refine⟨S++[true],?_,?_⟩
  ·simp[f106,A4,Y,eO];split<;>simp[*]
  ·simp[A4,eO]
 by_cases A5:x.op=13
 ·refine⟨S++[true],?_,?_⟩
  ·simp[f106,A5,Y,eO];split<;>simp[*]
  ·simp[A5,eO]
 by_cases A6:x.op=14
 ·refine⟨S++[true],?_,?_⟩
  ·simp[f106,A6,Y,eO];split<;>simp[*]
  ·simp[A6,eO]
 have J:=yY ins vars cells I T 1 false S (by omega) (by omega);by_cases y:x.op=4
 ·cases q:jo 1 false S with
  |none=>
   simp[q]at J;refine⟨S,?_,?_⟩
   ·simp[f106,y,J,q]
   ·simp[y,q]
  |some S1=>
   have AB:=yZ q;have O:=xS ins vars cells I T false S1 (by omega);simp[q]at J;simp at O;refine⟨S1++[false],?_,?_⟩
   ·simp[f106,y,J,O,q,eO];split<;>simp[*]
   ·simp[y,q,eO]
 by_cases A':x.op=5
 ·cases q:jo 1 false S with
  |none=>
   simp[q]at J;refine⟨S,?_,?_⟩
   ·simp[f106,A',J,q]
   ·simp[A',q]
  |some S1=>
   have AB:=yZ q;have O:=xS ins vars cells I T true S1 (by omega);simp[q]at J;simp at O;refine⟨S1++[true],?_,?_⟩
   ·simp[f106,A',J,O,q,eO];split<;>simp[*]
   ·simp[A',q,eO]
 by_cases A0:x.op=6
 ·cases q:jo 1 false S with
  |none=>
   simp[q]at J;refine⟨S,?_,?_⟩
   ·simp[f106,A0,J,q]
   ·simp[A0,q]
  |some S1=>
   simp[q]at J;refine⟨S1,?_,?_⟩
   ·simp[f106,A0,J,q]
   ·simp[A0,q]
 by_cases A1:x.op=7
 ·have E:=yY ins vars cells I T 2 false S (by omega) (by omega);cases q:jo 2 false S with
  |none=>
   simp[q]at E;refine⟨S,?_,?_⟩
   ·simp[f106,A1,E,q]
   ·simp[A1,q]
  |some S1=>
   simp[q]at E;refine⟨S1,?_,?_⟩
   ·simp[f106,A1,E,q]
   ·simp[A1,q]
 by_cases A2:x.op=10
 ·have E:=yY ins vars cells I T 1 true S (by omega) (by omega);cases q:jo 1 true S with
  |none=>
   simp[q]at E;refine⟨S,?_,?_⟩
   ·simp[f106,A2,E,q]
   ·simp[A2,q]
  |some S1=>
   have AC:=Ee ins vars cells I T (bD S1) S1.length;simp at AC;simp[q]at E;refine⟨S1,?_,?_⟩
   ·simp[f106,A2,E,q,iu,AC];split<;>simp[*]
   ·simp[A2,q,iu]
 by_cases M:x.op=8
 ·obtain⟨n,A7⟩:∃n:Nat,n=(if x.b=6\/x.b=7 then 1 else 2):=⟨_,rfl⟩;obtain⟨g,A9⟩:∃g,g=(decide (x.b=7)||decide (13<=x.b)):=⟨_,rfl⟩;have AI:n<=2:=by rw[A7];split<;>omega
  have E:=yY ins vars cells I T n (decide (x.a=1)) S (by omega) (by omega);rw[<-A7,<-A9];have AD:(x.b=6/\n=1/\g=false)\/(x.b=7/\n=1/\g=true)\/(x.b≠6/\x.b≠7/\¬13<=x.b/\n=2/\g=false)\/(x.b≠6/\x.b≠7/\13<=x.b/\n=2/\g=true):=by
   rw[A7,A9];by_cases AE:x.b=6
   ·simp[AE]
   ·by_cases AF:x.b=7
    ·simp[AF]
    ·by_cases AG:13<=x.b<;>simp[AE,AF,AG]
  clear A7 A9;cases q:jo n (decide (x.a=1)) S with
  |none=>
   simp[q]at E;refine⟨S,?_,?_⟩
   ·rcases AD with ⟨H,rfl,rfl⟩|⟨H,rfl,rfl⟩|⟨H,U,V,rfl,rfl⟩|⟨H,U,V,rfl,rfl⟩
    ·simp at E;simp[f106,M,H,E,q]
    ·simp at E;simp[f106,M,H,E,q]
    ·simp at E;simp[f106,M,H,U,V,E,q]
    ·simp at E;simp[f106,M,H,U,V,E,q]
   ·simp[M,q]
  |some S1=>
   have AB:=yZ q;have O:=xS ins vars cells I T g S1 (by omega);simp[q]at E;simp at O;refine⟨S1++[g],?_,?_⟩
   ·rcases AD with ⟨H,rfl,rfl⟩|⟨H,rfl,rfl⟩|⟨H,U,V,rfl,rfl⟩|⟨H,U,V,rfl,rfl⟩
    ·simp at E;simp[f106,M,H,E,O,q,eO];split<;>simp[*]
    ·simp at E;simp[f106,M,H,E,O,q,eO];split<;>simp[*]
    ·simp at E;simp[f106,M,H,U,V,E,O,q,eO];split<;>simp[*]
    ·simp at E;simp[f106,M,H,U,V,E,O,q,eO];split<;>simp[*]
   ·simp[M,q,eO]
 ·refine⟨S,?_,?_⟩
  ·simp[f106,Z,A3,A4,y,A',A0,A1,M,A2,A5,A6,iu,he];split<;>simp[*]
  ·simp[Z,A3,A4,y,A',A0,A1,M,A2,A5,A6,iu]
end
def kL(l:List Bool)(x:ay):List Bool:=if x.op=9\/x.op=10 then l.set x.a.toNat true else l
theorem zI(l:List Bool)(x:ay):(kL l x).length=l.length:=by unfold kL;split<;>simp
theorem ac1(l:List Bool)(i:Nat)(b:Bool):(bD l).set i (.bool b)=bD (l.set i b):=by simp[bD,List.map_set]
theorem Jg{x:ay}{S E:List Bool}(J:S.length<=64)(h:cm x S=some E):E.length<=64:=by
 have g:∀{t S E},eO t S=some E->E.length<=64:=by
  intro t S E h;unfold eO at h;split at h
  ·cases h;simp;omega
  ·cases h
 have e:∀{S E},iu S=some E->E.length<=64:=by
  intro S E h;unfold iu at h;split at h
  ·cases h;simp
  ·cases h
 have tk:∀{n t E},jo n t S=some E->E.length<=64:=λh=>akm (yZ h) J;unfold cm at h;repeat' split at h
 all_goals first
  |exact g h
  |exact e h
  |exact tk h
  |(obtain⟨y,_,H⟩:=aib.1 h;exact g H)
  |(obtain⟨y,_,H⟩:=aib.1 h;exact e H)
section
variable (ins:List ay) (vars cells:Int)
theorem Qs(B:aD):∀(rest pre:List ay)(T:List Bool)(v:Nat)(A4:aD),(pre++rest).length<=5000->(∀x∈rest,x.op=9\/x.op=10->0<=x.a/\x.a<T.length)->∀k:Kt,
 ∃U V,aZ ctx 63 (.loop (Code.at (bg f63) [1,0,1,0,0])) ⟨63,aX,[(0,true,.ptr 0 0 0),(11,true,.d (.list ((pre++rest).map cQ))),(12,true,.d (.int .i64 (pre++rest).length)),(13,true,.d (.int .i64 pre.length))],
  [⟨0,0,fC ins vars cells (.vec 1 0 0 0) (.vec 2 0 0 T.length)⟩,⟨1,0,.vec 1 []⟩,⟨2,0,.vec 1 (bD T)⟩,⟨300,v,A4⟩,⟨400,0,B⟩]⟩ k=
  k (.exit 0) ⟨63,aX,[(0,true,.ptr 0 0 0),(11,true,.d (.list ((pre++rest).map cQ))),(12,true,.d (.int .i64 (pre++rest).length)),(13,true,.d (.int .i64 (pre++rest).length)),(14,true,.d (.bool false))],
   [⟨0,0,fC ins vars cells (.vec 1 0 0 0) (.vec 2 0 0 T.length)⟩,⟨1,0,.vec 1 []⟩,⟨2,0,.vec 1 (bD (rest.foldl kL T))⟩,⟨300,U,V⟩,⟨400,0,B⟩]⟩
 |[],pre,T,v,A4,J,A5,k=>by
  refine⟨v,A4,?_⟩;rw[ai];simp[f63]
 |x::rest,pre,T,v,A4,J,A5,k=>by
  obtain⟨U,V,ih⟩:=Qs B rest (pre++[x]) (kL T x) (v+1) (.box [.d (.int .i64 x.op),.d (.int .i64 x.a),.d (.int .i64 x.b),.d (.int .i64 x.n),.d (.int .i64 x.m)]) (by simpa using J) (λy AG h=>by rw[zI];exact A5 y (by simp[AG]) h) k;refine⟨U,V,?_⟩;have I:(pre.length:Int)<pre.length+(rest.length+1):=by omega
  have H:IntKind.i64.wrap ((pre.length:Int)+1)=pre.length+1:=aB (by unfold bq;simp at J;omega);rw[zI]at ih;rw[ai];by_cases A2:x.op=9
  ·obtain⟨A6,a2⟩:=A5 x (by simp) (.inl A2);have a3:x.a.toNat<T.length:=by omega
   have e:kL T x=T.set x.a.toNat true:=by simp[kL,A2]
   rw[e,<-ac1]at ih;simp[f63,A2]at ih⊢;simp[I,H,A6,a3];rw[tj (by kernel_rfl)];simp[H,e,ih]
  ·by_cases A3:x.op=10
   ·obtain⟨A6,a2⟩:=A5 x (by simp) (.inr A3);have a3:x.a.toNat<T.length:=by omega
    have e:kL T x=T.set x.a.toNat true:=by simp[kL,A3]
    rw[e,<-ac1]at ih;simp[f63,A3]at ih⊢;simp[I,H,A6,a3];rw[tj (by kernel_rfl)];simp[H,e,ih]
   ·have e:kL T x=T:=by simp[kL,A2,A3]
    rw[e]at ih;simp[f63,A2,A3]at ih⊢;simp[I,H,e,ih]
theorem Hg(L:List Bool):∀(rest pre:List ay)(S:List Bool)(v v1:Nat)(B:aD),(pre++rest).length=L.length->L.length<=5000->S.length<=64->∀(C:aD)(W:Nat)(k:Kt),
 ∃U Z V E,aZ ctx 63 (.loop (Code.at (bg f63) [1,1,0,1,0,0])) ⟨63,aX,[(0,true,.ptr 0 0 0),(37,true,.d (.list ((pre++rest).map cQ))),(38,true,.d (.int .i64 (pre++rest).length)),(39,true,.d (.int .i64 pre.length))],
  [⟨0,0,fC ins vars cells (.vec 1 v1 0 S.length) (.vec 2 0 0 L.length)⟩,⟨1,v1,.vec 1 (bD S)⟩,⟨2,0,.vec 1 (bD L)⟩,⟨300,W,C⟩,⟨400,v,B⟩]⟩ k=
  if gN L pre.length rest S=true then
   k (.exit 2) ⟨63,aX,[(0,true,.ptr 0 0 0),(37,true,.d (.list ((pre++rest).map cQ))),(38,true,.d (.int .i64 (pre++rest).length)),(39,true,.d (.int .i64 (pre++rest).length)),(40,true,.d (.bool false))],
    [⟨0,0,fC ins vars cells (.vec 1 Z 0 (E:List Bool).length) (.vec 2 0 0 L.length)⟩,⟨1,Z,.vec 1 (bD E)⟩,⟨2,0,.vec 1 (bD L)⟩,⟨300,W,C⟩,⟨400,U,V⟩]⟩
  else k .ret ⟨63,aX,[(2,true,.d (.bool false))],[⟨0,0,fC ins vars cells (.vec 1 Z 0 E.length) (.vec 2 0 0 L.length)⟩,⟨1,Z,.vec 1 (bD E)⟩,⟨2,0,.vec 1 (bD L)⟩,⟨300,W,C⟩,⟨400,U,V⟩]⟩
 |[],pre,S,v,v1,B,J,A9,A7,C,W,k=>by
  refine⟨v,v1,B,S,?_⟩;rw[ai];simp[f63,gN]
 |x::rest,pre,S,v,v1,B,J,A9,A7,C,W,k=>by
  have I:(pre.length:Int)<pre.length+(rest.length+1):=by omega
  have H:IntKind.i64.wrap ((pre.length:Int)+1)=pre.length+1:=aB (by unfold bq;simp at J;omega);have A1:pre.length<L.length:=by simp at J;omega
  obtain⟨AC,hm,AD⟩:=ac0 ins vars cells L.length (bD L) x S A7;have he:=Ee ins vars cells L.length (bD L) (bD S) S.length;have AA:(L.getD pre.length false)=L[pre.length]:=by simp[A1]
  cases A':L[pre.length]
  ·cases M:cm x S with
   |none=>
    refine⟨v+1,v1+1,.box [.d (.int .i64 x.op),.d (.int .i64 x.a),.d (.int .i64 x.b),.d (.int .i64 x.n),.d (.int .i64 x.m)],AC,?_⟩;rw[ai];have Y:gN L pre.length (x::rest) S=false:=by simp[gN,AA,A',M]
    rw[Y];simp[M]at hm;simp[f63,I,A1,A',hm]
   |some A0=>
    have AB:=Jg A7 M;obtain rfl:=AD A0 M;obtain⟨U,Z,V,E,ih⟩:=Hg L rest (pre++[x]) A0 (v+1) (v1+1) (.box [.d (.int .i64 x.op),.d (.int .i64 x.a),.d (.int .i64 x.b),.d (.int .i64 x.n),.d (.int .i64 x.m)]) (by simpa using J) A9 AB C W k;refine⟨U,Z,V,E,?_⟩;have Y:gN L pre.length (x::rest) S=gN L (pre++[x]).length rest A0:=by rw[gN,AA,A'];simp[M]
    rw[Y,ai];simp[M]at hm;simp[f63]at ih⊢;simp[I,H,A1,A',hm,ih]
  ·cases S with
   |nil=>
    simp at he;cases M:cm x []with
    |none=>
     refine⟨v+1,v1+1,.box [.d (.int .i64 x.op),.d (.int .i64 x.a),.d (.int .i64 x.b),.d (.int .i64 x.n),.d (.int .i64 x.m)],AC,?_⟩;rw[ai];have Y:gN L pre.length (x::rest) []=false:=by simp[gN,M]
     rw[Y];simp[M]at hm;simp[f63,I,A1,A',hm,he]
    |some A0=>
     have AB:=Jg A7 M;obtain rfl:=AD A0 M;obtain⟨U,Z,V,E,ih⟩:=Hg L rest (pre++[x]) A0 (v+1) (v1+1) (.box [.d (.int .i64 x.op),.d (.int .i64 x.a),.d (.int .i64 x.b),.d (.int .i64 x.n),.d (.int .i64 x.m)]) (by simpa using J) A9 AB C W k;refine⟨U,Z,V,E,?_⟩;have Y:gN L pre.length (x::rest) []=gN L (pre++[x]).length rest A0:=by simp[gN,M]
     rw[Y,ai];simp[M]at hm;simp[f63]at ih⊢;simp[I,H,A1,A',hm,he,ih]
   |cons y S=>
    refine⟨v+1,v1,.box [.d (.int .i64 x.op),.d (.int .i64 x.a),.d (.int .i64 x.b),.d (.int .i64 x.n),.d (.int .i64 x.m)],y::S,?_⟩;have Y:gN L pre.length (x::rest) (y::S)=false:=by rw[gN,AA,A'];simp
    rw[Y,ai];simp at he;simp[f63,I,A1,A',he]
theorem Zq(J:ins.length<=5000)(AH:∀x∈ins,x.op=9\/x.op=10->0<=x.a/\x.a<ins.length):
 ∃E,ag ctx 63 [.ptr 0 0 0] [fC ins vars cells (.vec 1 0 0 0) (.vec 2 0 0 ins.length),.vec 1 [],.vec 1 (bD (List.replicate ins.length false))]=
  some (.ret (.d (.bool (gN (oH ins) 0 ins []))),[(0,fC ins vars cells (.vec 1 1 0 (E:List Bool).length) (.vec 2 1 0 ins.length)),(1,.vec 1 (bD E)),(1,.vec 1 (bD (oH ins)))]):=by
 have A8:(oH ins).length=ins.length:=by
  have:∀(l:List ay)(T:List Bool),(l.foldl kL T).length=T.length:=by
   intro l;induction l with
   |nil=>intro T;rfl
   |cons x l ih=>intro T;simp only[ahQ];rw[ih,zI]
  rw[show oH ins=ins.foldl kL (List.replicate ins.length false)from rfl,this];simp
 have I:=λB=>Qs ins vars cells B ins [] (List.replicate ins.length false) 0 .dead J (by simpa using AH);rw[show ins.foldl kL (List.replicate ins.length false)=oH ins from rfl]at I;have H:=λC W=>Hg ins vars cells (oH ins) ins [] [] 0 0 .dead (by simp[A8]) (by omega) (by simp) C W;generalize oH ins=L at A8 I H;generalize O:ag ctx 63 _ _=r;rw[art (by simp)]at O;simp[f63,A8]at I H O;obtain⟨f1,I⟩:=af8 (I .dead);obtain⟨f2,I⟩:=af8 I;rw[I]at O;clear I;generalize f1 _=a at O;generalize f2 _=b at O;simp at O;replace H:=H b a;obtain⟨g1,H⟩:=af8 H;obtain⟨g2,H⟩:=af8 H;obtain⟨g3,H⟩:=af8 H;obtain⟨g4,H⟩:=af8 H;rw[H]at O;clear H;generalize g1 _=A6 at O;generalize g2 _=a2 at O;generalize g3 _=a3 at O;generalize g4 _=E at O;refine⟨E,?_⟩;rw[<-O];have AE:ins.length<=L.length:=by omega
 have AF:List.take ins.length (List.map D.bool L)=List.map D.bool L:=by rw[<-A8];simp
 cases AI:gN L 0 ins []
 ·simp[AE,AF]
 ·simp[AE,AF]
end
theorem y2(succ:Nat->List Nat):∀f:Nat,
 (∀at_ E,(kF succ f at_ E).2.length=E.length/\fresh (kF succ f at_ E).2<=fresh E)/\(∀l E,(kh succ f l E).2.length=E.length/\fresh (kh succ f l E).2<=fresh E)
 |0=>by
  have A9:∀at_ E,(kF succ 0 at_ E).2.length=E.length/\fresh (kF succ 0 at_ E).2<=fresh E:=λat_ E=>by unfold kF;exact⟨rfl,aad _⟩
  refine⟨A9,λl E=>?_⟩;cases l with
  |nil=>unfold kh;exact⟨rfl,aad _⟩
  |cons n r=>unfold kh kF;exact⟨rfl,aad _⟩
 |f+1=>by
  have A3:∀at_ E,(kF succ (f+1) at_ E).2.length=E.length/\fresh (kF succ (f+1) at_ E).2<=fresh E:=by
   intro at_ E;unfold kF;split
   ·exact⟨rfl,aad _⟩
   ·have h:=(y2 succ f).2 (succ at_) (E.set at_ 1);have V:=xC (l:=E) (i:=at_) (v:=1) (by decide);obtain⟨s,b,he⟩:∃s b,kh succ f (succ at_) (E.set at_ 1)=(b,s):=⟨_,_,rfl⟩;rw[he]at h⊢;simp only[List.length_set]at h;cases b with
    |true=>exact⟨h.1,by simp only;omega⟩
    |false=>
     have H:=xC (l:=s) (i:=at_) (v:=2) (by decide);exact⟨by simp only[List.length_set];exact h.1,by simp only;omega⟩
  refine⟨A3,λl=>?_⟩;induction l with
  |nil=>intro E;unfold kh;exact⟨rfl,aad _⟩
  |cons n r ih=>
   intro E;unfold kh;have h:=A3 n E;obtain⟨s,b,he⟩:∃s b,kF succ (f+1) n E=(b,s):=⟨_,_,rfl⟩;rw[he]at h⊢;cases b with
   |true=>exact h
   |false=>
    have H:=ih s;simp only at h;exact⟨by simp only;rw[H.1,h.1],by simp only;omega⟩
@[simp] def iD(l:List Nat):List D:=l.map λ(n:Nat)=>D.int .i64 (n:Int)
def sx(i:Nat)(x:ay):List Nat:=if x.op=9 then [x.a.toNat]else if x.op=10 then [i+1,x.a.toNat]else if x.op=15 then []else [i+1]
theorem ac2(i:Nat)(x:ay)(hi:i<5000)(A4:x.op=9\/x.op=10->0<=x.a):ag ctx 178 [.d (.int .i64 i),.d (cQ x)] []=some (.ret (.d (.list (iD (sx i x)))),[]):=by
 have w:IntKind.i64.wrap ((i:Int)+1)=i+1:=aB (by unfold bq;omega);rw[amH (by simp)];unfold sx;by_cases Z:x.op=9
 ·have h:=A4 (.inl Z);have H:max x.a 0=x.a:=by omega
  simp[f178,Z,H]
 by_cases y:x.op=10
 ·have h:=A4 (.inr y);have H:max x.a 0=x.a:=by omega
  simp[f178,y,w,H,List.range']
 by_cases A5:x.op=15
 ·simp[f178,A5]
 ·simp[f178,Z,y,A5,w]
section
variable (ins:List ay) (vars cells:Int) (I J:Nat) (S T:List D)
def Vt(f:Nat):Prop:=∀(at_:Nat)(E:List Nat),fresh E<f->at_<ins.length->E.length=ins.length->
 ag ctx 107 [.ptr 0 0 0,.d (.int .i64 at_),.vec 1 0 0 ins.length] [fC ins vars cells (.vec 2 0 0 I) (.vec 3 0 0 J),.vec 1 (iD E),.vec 1 S,.vec 1 T]=
  some (.ret (.d (.bool (kF (gp ins) f at_ E).1)),[(0,fC ins vars cells (.vec 2 0 0 I) (.vec 3 0 0 J)),(0,.vec 1 (iD (kF (gp ins) f at_ E).2)),(0,.vec 1 S),(0,.vec 1 T)])
theorem BP(A6:ins.length<=5000)(f at_:Nat)(A':Vt ins vars cells I J S T f):∀(rest pre:List Nat)(E:List Nat),fresh E<f->(pre++rest).length<5000->(∀n∈rest,n<ins.length)->E.length=ins.length->∀k:Kt,
 aZ ctx 107 (.loop (Code.at (bg f107) [1,1,1,0,1,0,1,0,0])) ⟨67,aX,[(0,true,.ptr 0 0 0),(1,true,.d (.int .i64 at_)),(2,true,.vec 1 0 0 ins.length),(41,true,.d (.list (iD (pre++rest)))),(42,true,.d (.int .i64 (pre++rest).length)),(43,true,.d (.int .i64 pre.length))],
  [⟨0,0,fC ins vars cells (.vec 2 0 0 I) (.vec 3 0 0 J)⟩,⟨1,0,.vec 1 (iD E)⟩,⟨2,0,.vec 1 S⟩,⟨3,0,.vec 1 T⟩]⟩ k=
  if (kh (gp ins) f (rest.filter λj=>!jg ins j) E).1=true then
   k .ret ⟨67,aX,[(6,true,.d (.bool true))],[⟨0,0,fC ins vars cells (.vec 2 0 0 I) (.vec 3 0 0 J)⟩,⟨1,0,.vec 1 (iD (kh (gp ins) f (rest.filter λj=>!jg ins j) E).2)⟩,⟨2,0,.vec 1 S⟩,⟨3,0,.vec 1 T⟩]⟩
  else k (.exit 0) ⟨67,aX,[(0,true,.ptr 0 0 0),(1,true,.d (.int .i64 at_)),(2,true,.vec 1 0 0 ins.length),(41,true,.d (.list (iD (pre++rest)))),(42,true,.d (.int .i64 (pre++rest).length)),(43,true,.d (.int .i64 (pre++rest).length)),(44,true,.d (.bool false))],
   [⟨0,0,fC ins vars cells (.vec 2 0 0 I) (.vec 3 0 0 J)⟩,⟨1,0,.vec 1 (iD (kh (gp ins) f (rest.filter λj=>!jg ins j) E).2)⟩,⟨2,0,.vec 1 S⟩,⟨3,0,.vec 1 T⟩]⟩
 |[],pre,E,A0,W,Y,A1,k=>by
  rw[ai];simp[f107,kh]
 |n::rest,pre,E,A0,W,Y,A1,k=>by
  have M:=Y n (by simp);have A7:ins[n]?=some ins[n]:=by simp[M]
  have V:(pre.length:Int)<pre.length+(rest.length+1):=by omega
  have H:IntKind.i64.wrap ((pre.length:Int)+1)=pre.length+1:=aB (by unfold bq;simp at W;omega);by_cases O:ins[n].op=11
  ·have A2:jg ins n=true:=by simp[jg,A7,O]
   have ih:=BP A6 f at_ A' rest (pre++[n]) E A0 (by simpa using W) (λm hm=>Y m (by simp[hm])) A1 k;rw[ai];simp[f107,A2]at ih⊢;simp[V,H,M,O,ih]
  ·have A2:jg ins n=false:=by simp[jg,A7,O]
   have U:=A' n E A0 M A1;have A8:=(y2 (gp ins) f).1 n E;have e:kh (gp ins) f ((n::rest).filter λj=>!jg ins j) E=if (kF (gp ins) f n E).1=true then (true,(kF (gp ins) f n E).2)else kh (gp ins) f (rest.filter λj=>!jg ins j) (kF (gp ins) f n E).2:=by
    rw[List.filter_cons,A2];simp only[Bool.not_false,acH];rw[kh];obtain⟨s,b,he⟩:∃s b,kF (gp ins) f n E=(b,s):=⟨_,_,rfl⟩;rw[he];cases b<;>rfl
   rw[e];obtain⟨s,b,he⟩:∃s b,kF (gp ins) f n E=(b,s):=⟨_,_,rfl⟩;rw[he]at U A8⊢;simp only at A8;rw[ai];cases b
   ·have ih:=BP A6 f at_ A' rest (pre++[n]) s (by omega) (by simpa using W) (λm hm=>Y m (by simp[hm])) (by omega) k;simp[f107]at ih U⊢;simp[V,H,M,O,U,ih]
   ·simp at U;simp[f107];simp[V,H,M,O,U]
end
def Ef(ins:List ay):Prop:=∀i x,ins[i]?=some x->(x.op=9\/x.op=10->0<=x.a/\x.a<(ins.length:Int))/\(x.op≠9->x.op≠15->i+1<ins.length)
theorem ac3{AG:Int->Nat}{ins:List ay}{vars cells:Int}(h:mZ AG ins vars cells=true):Ef ins:=by
 intro i x A';simp only[mZ,Ds]at h;have A0:=yH h.2 i _ A';have hi:i<ins.length:=(D1.1 A').1;simp only[ahI]at A0;have AH:i+1=ins.length->x.op=15:=by
  intro I;have A1:=h.1;simp only[IQ,Ds,aak]at A1;have A9:=A1.2;unfold uM at A9;rw[an9,show ins.length-1=i by omega,A']at A9;simpa using A9
 refine⟨λH=>?_,λA2 AA=>?_⟩
 ·unfold dg at A0;rcases H with H|H<;>simp[H]at A0<;>omega
 ·have:i+1≠ins.length:=λh=>AA (AH h);omega
section
variable (ins:List ay) (vars cells:Int) (M O:Nat) (S T:List D)
theorem ac4(i:Nat)(x:ay):(sx i x).length<=2:=by
 unfold sx;repeat' split
 all_goals simp
theorem aj1(J:Ef ins){i:Nat}(hi:i<ins.length):∀j∈sx i ins[i],j<ins.length:=by
 have h:=J i ins[i] (by simp[hi]);intro j H;unfold sx at H;split at H
 ·rename_i A2;have:=h.1 (.inl A2);simp at H;omega
 ·rename_i A2;split at H
  ·rename_i AI;have:=h.1 (.inr AI);have:=h.2 A2 (by omega);simp at H;omega
  ·split at H
   ·simp at H
   ·rename_i AA;have:=h.2 A2 AA;simp at H;omega
theorem afD{i:Nat}(hi:i<ins.length):gp ins i=if ins[i].op=11 then []else (sx i ins[i]).filter λj=>!jg ins j:=by
 have A':ins[i]?=some ins[i]:=by simp[hi]
 unfold gp yG jg Bz sx;rw[A'];simp only[aak];split<;>rfl
theorem L4(U:ins.length<=5000)(J:Ef ins):∀f,Vt ins vars cells M O S T f
 |0=>λat_ E A0 _ _=>by omega
 |f+1=>by
  intro at_ E A0 V AB;have Z:at_<E.length:=by omega
  have AC:E.getD at_ 0=E[at_]:=by simp[Z]
  rw[amh (by simp)];unfold kF;rw[AC];by_cases W:E[at_]=0
  ·rw[aab (by simp[W])];have AJ:=Lu (l:=E) (i:=at_) (v:=1) (by rw[AC];exact W) Z (by decide);have AK:(iD E).set at_ (.int .i64 1)=iD (E.set at_ 1):=by simp[iD,List.map_set]
   rw[afD ins V];by_cases A3:ins[at_].op=11
   ·rw[aat A3];have AD:((iD E).set at_ (.int .i64 1)).set at_ (.int .i64 2)=iD ((E.set at_ 1).set at_ 2):=by simp[iD,List.map_set]
    simp at AD;simp[f107,Z,V,W,A3,kh,AD]
   ·rw[aab A3];have y:=ac2 at_ ins[at_] (by omega) (λh=>((J at_ _ (by simp[V])).1 h).1);have Y:=BP ins vars cells M O S T U f at_ (L4 U J f) (sx at_ ins[at_]) [] (E.set at_ 1) (by omega) (by have:=ac4 at_ ins[at_];simp;omega) (aj1 ins J V) (by simp;omega);simp only[afR,aaw]at Y;rw[<-AK]at Y;have A4:=(y2 (gp ins) f).2 ((sx at_ ins[at_]).filter λj=>!jg ins j) (E.set at_ 1);obtain⟨s,b,he⟩:∃s b,kh (gp ins) f ((sx at_ ins[at_]).filter λj=>!jg ins j) (E.set at_ 1)=(b,s):=⟨_,_,rfl⟩;rw[he]at Y A4⊢;have AE:(iD s).set at_ (.int .i64 2)=iD (s.set at_ 2):=by simp[iD,List.map_set]
    simp only[List.length_set]at A4;have AL:at_<s.length:=by omega
    simp at AE;cases b
    ·simp[f107]at y Y⊢;simp[Z,V,W,A3,y,Y,AL,AE]
    ·simp[f107]at y Y⊢;simp[Z,V,W,A3,y,Y]
  ·rw[aat W];simp[f107,Z,V,W];generalize E[at_]=z;by_cases q:z=1
   ·subst q;rfl
   ·have q2:¬((z:Int)=1):=by omega
    simp[q,q2]
theorem Ge(U:ins.length<=5000)(J:Ef ins):∀(rest pre:List Nat)(E:List Nat),pre++rest=List.range ins.length->E.length=ins.length->∀(v:Nat)(k:Kt),
 ∃A5 A8,aZ ctx 64 (.loop (Code.at (bg f64) [1,1,0,1,0,0])) ⟨26,aX,[(0,true,.ptr 0 0 0),(3,true,.vec 650 v 0 ins.length),(17,true,.d (.int .i64 ins.length)),(18,true,.d (.int .i64 pre.length))],
  [⟨0,0,fC ins vars cells (.vec 1 0 0 M) (.vec 2 0 0 O)⟩,⟨1,0,.vec 1 S⟩,⟨2,0,.vec 1 T⟩,⟨650,v,.vec 1 (iD E)⟩]⟩ k=
  if rounds (gp ins) (ins.length+1) rest E=true then
   k .ret ⟨26,aX,[(2,true,.d (.bool true))],[⟨0,0,fC ins vars cells (.vec 1 0 0 M) (.vec 2 0 0 O)⟩,⟨1,0,.vec 1 S⟩,⟨2,0,.vec 1 T⟩,⟨650,A5,.vec 1 (iD A8)⟩]⟩
  else k (.exit 0) ⟨26,aX,[(0,true,.ptr 0 0 0),(3,true,.vec 650 A5 0 ins.length),(17,true,.d (.int .i64 ins.length)),(18,true,.d (.int .i64 ins.length)),(19,true,.d (.bool false))],
   [⟨0,0,fC ins vars cells (.vec 1 0 0 M) (.vec 2 0 0 O)⟩,⟨1,0,.vec 1 S⟩,⟨2,0,.vec 1 T⟩,⟨650,A5,.vec 1 (iD A8)⟩]⟩
 |[],pre,E,A6,AB,v,k=>by
  refine⟨v,E,?_⟩;have AF:pre.length=ins.length:=by simpa using ahS List.length A6
  rw[ai];simp[f64,rounds,AF]
 |n::rest,pre,E,A6,AB,v,k=>by
  have AF:pre.length+(rest.length+1)=ins.length:=by simpa using ahS List.length A6
  have y:n=pre.length:=by
   have:=ahS (λl=>l[pre.length]?) A6;simp at this;rw[List.getElem?_range (by omega)]at this;simpa using this
  have I:pre.length<ins.length:=by omega
  have A1:IntKind.i64.wrap ((pre.length:Int)+1)=pre.length+1:=aB (by unfold bq;omega);have AJ:fresh E<=E.length:=List.countP_le_length;have A7:=L4 ins vars cells M O S T U J (ins.length+1) pre.length E (by omega) (by omega) AB;have A4:=((y2 (gp ins) (ins.length+1)).1 pre.length E).1;subst y;rw[rounds];obtain⟨s,b,he⟩:∃s b,kF (gp ins) (ins.length+1) pre.length E=(b,s):=⟨_,_,rfl⟩;rw[he]at A7 A4⊢;simp only at A4;cases b
  ·obtain⟨A5,A8,ih⟩:=Ge U J rest (pre++[pre.length]) s (by simpa using A6) (by omega) v k;refine⟨A5,A8,?_⟩;rw[ai];simp[f64]at ih A7⊢;simp[I,A1,A7,ih]
  ·refine⟨v,s,?_⟩;rw[ai];simp at A7;simp[f64];simp[I,A1,A7]
theorem Zr(U:ins.length<=5000)(J:Ef ins):
 ag ctx 64 [.ptr 0 0 0] [fC ins vars cells (.vec 1 0 0 M) (.vec 2 0 0 O),.vec 1 S,.vec 1 T]=
  some (.ret (.d (.bool (rounds (gp ins) (ins.length+1) (List.range ins.length) (List.replicate ins.length 0)))),[(0,fC ins vars cells (.vec 1 0 0 M) (.vec 2 0 0 O)),(0,.vec 1 S),(0,.vec 1 T)]):=by
 have I:=Ge ins vars cells M O S T U J (List.range ins.length) [] (List.replicate ins.length 0) rfl (by simp) 1;obtain⟨f1,I⟩:=af8 I;obtain⟨f2,I⟩:=af8 I;have g1:(ins.length:Int)*8<=140737488355328/\(ins.length:Int)<=4611686018427387904:=by omega
 rw[aru (by simp)];simp[f64]at I⊢;simp[g1,I];cases AM:rounds (gp ins) (ins.length+1) (List.range ins.length) (List.replicate ins.length 0)<;>simp;trace_state
end
@[simp] def Jh(ins:List ay)(vars cells:Int):D:=.agg [.list (ins.map cQ),.int .i64 vars,.int .i64 cells]
theorem Cd(E:Int->Nat)(V:Ec 54 E)(ins:List ay)(vars cells:Int)(I:ins.length<=5000):
 ag ctx 33 [.d (Jh ins vars cells)] []=some (.ret (.d (.bool (An E ins vars cells))),[]):=by
 have H:=acZ E V ins vars cells 0 ins.length [] (bD (List.replicate ins.length false)) I;have g1:(ins.length:Int)<=140737488355328/\(ins.length:Int)<=4611686018427387904:=by omega
 rw[ark (by simp)];unfold An;cases J:mZ E ins vars cells
 ·simp[J]at H;simp[f33,g1];rw[tj (by kernel_rfl)];simp[H]
 ·have M:=ac3 J;obtain⟨O,T⟩:=Zq ins vars cells I (λx W h=>by
   obtain⟨i,hi,rfl⟩:=List.getElem_of_mem W;exact (M i _ (by simp[hi])).1 h)
  have U:=Zr ins vars cells O.length ins.length (bD O) (bD (oH ins)) I M;simp[J]at H T U;simp[f33,g1];rw[tj (by kernel_rfl)];simp[H,T];cases Y:gN (oH ins) 0 ins []
  ·simp
  ·simp[U]
end Go.Am
end
section
namespace Go.Am
open Go Go.Proofs
variable [Inhabited bV]
set_option maxRecDepth 20000
theorem aj2(x y:ay):x=y↔x.op=y.op/\x.a=y.a/\x.b=y.b/\x.n=y.n/\x.m=y.m:=by
 constructor
 ·rintro rfl;simp
 ·intro h;cases x;cases y;simp_all
instance:DecidableEq ay:=λx y=>decidable_of_iff _ (aj2 x y).symm
theorem asj(e:EL):(DV e).1=0↔e.1=0:=by
 unfold DV;split<;>simp[*]
theorem afE{p:Pg}{g:List ay×Int×Int}(h:zG p=some g):g.1.length<=4096:=by
 unfold zG at h;simp only at h;split at h
 ·cases h
 ·cases h;simp only[aam,List.length_map,aan,aaw];omega
end Go.Am
end
section
namespace Go.Am
open Go Go.Proofs Go.Proofs.Tryz
variable [Inhabited bV]
set_option maxRecDepth 20000
set_option maxHeartbeats 1000000
theorem ac5{text:Tx}(U:text.length<=16384):
 (∃(e:Int)(t:bI),e≠0/\ag ctx 32 [.d (.str text)] []=some (.ret (.aY [.d (Jh [] 0 0),.d (.agg [.str [],.list [],.list []]),.d (.int .i64 e),.d (cZ t)]),[]))\/
 (∃(p:Pg)(g:List ay×Int×Int)(t:bI),J8 p/\zG p=some g/\ag ctx 32 [.d (.str text)] []=some (.ret (.aY [.d (Jh g.1 g.2.1 g.2.2),.d (uT p),.d (.int .i64 0),.d (cZ t)]),[])):=by
 have D:=abZ text;have O:=Q8 U;generalize qC text=r at*;obtain⟨p,e,t⟩:=r;simp only at D O;by_cases he:e=0
 ·obtain⟨f1,f2,f3⟩:=O he;subst he;obtain⟨W,Y,V⟩:=Pj (p:=p) (by simp only[uT]at f3;omega);have H:=aeS f1 V;by_cases J:(qD p).1=0
  ·have h:J8 p:=⟨f1,f2,J,f3⟩;have I:=afw h;cases M:zG p with
   |none=>
    rw[M]at I;refine .inl ⟨13,⟨0,[],0,0,0⟩,by decide,?_⟩;rw[Ml (by simp)];simp[cdD,cdE]at I;simp[DV,J]at H;simp[Ls,cZ]at D;simp[f32,D,H,I,cZ,aq]
   |some g=>
    rw[M]at I;refine .inr ⟨p,g,⟨0,[],0,0,0⟩,h,M,?_⟩;rw[Ml (by simp)];simp[cdD,cdE]at I;simp[DV,J]at H;simp[Ls,cZ]at D;simp[f32,D,H,I,cZ,aq]
  ·have T:(DV (qD p)).1≠0:=λh=>J ((asj _).1 h);generalize DV (qD p)=E at*;refine .inl ⟨E.1,⟨0,[],0,E.2,0⟩,T,?_⟩;rw[Ml (by simp)];try simp at H
   simp[Ls,cZ]at D;simp[f32,D,H,T,cZ,aq]
 ·refine .inl ⟨e,t,he,?_⟩;rw[Ml (by simp)];simp[Ls,cZ]at D;simp[f32,D,he,cZ,aq]
end Go.Am
end
section
namespace Go.Am
open Go Go.Proofs Go.Proofs.Tryz
variable [Inhabited bV]
set_option maxRecDepth 20000
def gf:Option (Out×List (Nat×aD))->Option Nat
 |some (.ret (.d (.list l)),[])=>some l.length
 |_=>none
theorem Q9{r:Option (Out×List (Nat×aD))}{n:Nat}(h:gf r=some n):∃l,r=some (.ret (.d (.list l)),[])/\l.length=n:=by
 unfold gf at h;split at h
 ·rename_i l;exact⟨l,rfl,by simpa using h⟩
 ·cases h
theorem fQ{f:FuncId}{b:Int}{n:Nat}(h:gf (aO ctx 120 f [.d (.int .i64 b)] [])=some n):∃l:List D,ag ctx f [.d (.int .i64 b)] []=some (.ret (.d (.list l)),[])/\l.length=n:=by
 obtain⟨l,E,H⟩:=Q9 h;exact⟨l,dc 120 E,H⟩
theorem apJ:gf (aO ctx 120 54 [.d (.int .i64 10)] [])=some 4:=by kernel_rfl
theorem apK:gf (aO ctx 120 54 [.d (.int .i64 11)] [])=some 4:=by kernel_rfl
theorem apL:gf (aO ctx 120 54 [.d (.int .i64 12)] [])=some 6:=by kernel_rfl
theorem apM:gf (aO ctx 120 54 [.d (.int .i64 13)] [])=some 6:=by kernel_rfl
theorem apN:gf (aO ctx 120 54 [.d (.int .i64 14)] [])=some 6:=by kernel_rfl
theorem apO:gf (aO ctx 120 54 [.d (.int .i64 15)] [])=some 3:=by kernel_rfl
theorem apP:gf (aO ctx 120 54 [.d (.int .i64 16)] [])=some 3:=by kernel_rfl
theorem apQ:gf (aO ctx 120 54 [.d (.int .i64 17)] [])=some 3:=by kernel_rfl
theorem apR:gf (aO ctx 120 54 [.d (.int .i64 18)] [])=some 3:=by kernel_rfl
theorem apS:gf (aO ctx 120 54 [.d (.int .i64 20)] [])=some 4:=by kernel_rfl
theorem apT:gf (aO ctx 120 54 [.d (.int .i64 21)] [])=some 9:=by kernel_rfl
theorem apU:gf (aO ctx 120 54 [.d (.int .i64 22)] [])=some 9:=by kernel_rfl
theorem apV:gf (aO ctx 120 54 [.d (.int .i64 23)] [])=some 9:=by kernel_rfl
theorem apW:gf (aO ctx 120 54 [.d (.int .i64 24)] [])=some 12:=by kernel_rfl
theorem apX:gf (aO ctx 120 54 [.d (.int .i64 25)] [])=some 12:=by kernel_rfl
theorem apY:gf (aO ctx 120 54 [.d (.int .i64 26)] [])=some 12:=by kernel_rfl
theorem apZ:gf (aO ctx 120 54 [.d (.int .i64 27)] [])=some 10:=by kernel_rfl
theorem ap0:gf (aO ctx 120 54 [.d (.int .i64 28)] [])=some 12:=by kernel_rfl
theorem ap1:gf (aO ctx 120 54 [.d (.int .i64 29)] [])=some 5:=by kernel_rfl
theorem ap2:gf (aO ctx 120 54 [.d (.int .i64 30)] [])=some 6:=by kernel_rfl
theorem ap3:gf (aO ctx 120 54 [.d (.int .i64 31)] [])=some 4:=by kernel_rfl
def uV:List Int:=[10,11,12,13,14,15,16,17,18,20,21,22,23,24,25,26,27,28,29,30,31]
def pX:D->Option Int
 | .agg [.int .i64 k,.str _,.str _,.str _,.int .i64 _]=>some k
 |_=>none
theorem Eg{d:D}{k:Int}(h:pX d=some k):∃a b c n,d=.agg [.int .i64 k,.str a,.str b,.str c,.int .i64 n]:=by
 unfold pX at h;split at h
 ·rename_i A1 a b c n;cases h;exact⟨a,b,c,n,rfl⟩
 ·cases h
def Qt:Option (Out×List (Nat×aD))->Option (List (Option Int))
 |some (.ret (.d (.list l)),[])=>some (l.map pX)
 |_=>none
theorem afF:Qt (aO ctx 120 137 [] [])=some (uV.map some):=by kernel_rfl
theorem Zs:∃l:List D,ag ctx 137 [] []=some (.ret (.d (.list l)),[])/\l.map pX=uV.map some:=by
 have h:=afF;generalize W:aO ctx 120 137 [] []=r at h;unfold Qt at h;split at h
 ·rename_i l;exact⟨l,dc 120 W,by simpa using h⟩
 ·cases h
theorem Zt(d:D)(k b:Int)(J:pX d=some k):ag ctx 139 [.d d,.ptr 0 0 0] [.box [.d (.int .i64 b)]]=some (.ret (.d (.bool (decide (k=b)))),[(0,.box [.d (.int .i64 b)])]):=by
 obtain⟨a,e,c,n,rfl⟩:=Eg J;rw[aby (by simp)];simp[f139]
theorem Ce(b:Int):∀(rest pre:List D),(∀d∈rest,∃k,pX d=some k/\k≠b)->(pre++rest).length<1000->∀k:Kt,
 aZ ctx 138 (.loop (Code.at (bg f138) [1,0,1,0,0])) ⟨19,aX,[(0,true,.d (.list (pre++rest))),(1,true,.fn 139 [.ptr 0 0 0]),(7,true,.d (.int .i64 (pre++rest).length)),(8,true,.d (.int .i64 pre.length))],[⟨0,0,.box [.d (.int .i64 b)]⟩]⟩ k=
  k (.exit 0) ⟨19,aX,[(0,true,.d (.list (pre++rest))),(1,true,.fn 139 [.ptr 0 0 0]),(7,true,.d (.int .i64 (pre++rest).length)),(8,true,.d (.int .i64 (pre++rest).length)),(9,true,.d (.bool false))],[⟨0,0,.box [.d (.int .i64 b)]⟩]⟩
 |[],pre,h,M,k=>by
  rw[ai];simp[f138]
 |d::rest,pre,h,M,k=>by
  obtain⟨T,O,Y⟩:=h d (by simp);have U:=Zt d T b O;obtain⟨Z,a2,a3,a4,rfl⟩:=Eg O;have ih:=Ce b rest (pre++[.agg [.int .i64 T,.str Z,.str a2,.str a3,.int .i64 a4]]) (λd J=>h d (by simp[J])) (by simpa using M) k;have E:(pre.length:Int)<pre.length+(rest.length+1):=by omega
  have H:IntKind.i64.wrap ((pre.length:Int)+1)=pre.length+1:=aB (by unfold bq;simp at M;omega);simp[Y]at U;rw[ai];simp[f138]at ih⊢;simp[E,H,U,ih]
theorem ac6(b:Int)(I:b∉uV):ag ctx 54 [.d (.int .i64 b)] []=some (.ret (.d (.list [])),[]):=by
 obtain⟨l,M,hm⟩:=Zs;have A2:l.length=21:=by have:=ahS List.length hm;simpa [uV]using this
 have y:∀d∈l,∃k,pX d=some k/\k≠b:=by
  intro d J;have E:pX d∈l.map pX:=ab0 J;rw[hm]at E;obtain⟨k,O,he⟩:=abV.1 E;exact⟨k,he.symm,λh=>I (h▸O)⟩
 have V:=Ce b l [] y (by simp;omega);have A':ag ctx 138 [.d (.list l),.fn 139 [.ptr 0 0 0]] [.box [.d (.int .i64 b)]]=some (.ret (.d (.int .i64 (-1))),[(0,.box [.d (.int .i64 b)])]):=by
  rw[Oo (by simp)];simp[f138]at V⊢;simp[V]
 have A0:ag ctx 89 [.d (.int .i64 b)] []=some (.ret (.aY [.d (.agg [.int .i64 0,.str [],.str [],.str [],.int .i64 0]),.d (.bool false)]),[]):=by
  rw[ahD (by simp)];simp[f89,M,A']
 rw[ahC (by simp)];simp[f54,A0]
theorem Vv:Ec 54 vV:=by
 intro b;by_cases I:b∈uV
 ·simp only[uV,aaC,afQ,aon]at I;rcases I with rfl|rfl|rfl|rfl|rfl|rfl|rfl|rfl|rfl|rfl|rfl|rfl|rfl|rfl|rfl|rfl|rfl|rfl|rfl|rfl|rfl
  ·obtain⟨l,E,H⟩:=fQ apJ;exact⟨l,E,by rw[H];rfl,by decide⟩
  ·obtain⟨l,E,H⟩:=fQ apK;exact⟨l,E,by rw[H];rfl,by decide⟩
  ·obtain⟨l,E,H⟩:=fQ apL;exact⟨l,E,by rw[H];rfl,by decide⟩
  ·obtain⟨l,E,H⟩:=fQ apM;exact⟨l,E,by rw[H];rfl,by decide⟩
  ·obtain⟨l,E,H⟩:=fQ apN;exact⟨l,E,by rw[H];rfl,by decide⟩
  ·obtain⟨l,E,H⟩:=fQ apO;exact⟨l,E,by rw[H];rfl,by decide⟩
  ·obtain⟨l,E,H⟩:=fQ apP;exact⟨l,E,by rw[H];rfl,by decide⟩
  ·obtain⟨l,E,H⟩:=fQ apQ;exact⟨l,E,by rw[H];rfl,by decide⟩
  ·obtain⟨l,E,H⟩:=fQ apR;exact⟨l,E,by rw[H];rfl,by decide⟩
  ·obtain⟨l,E,H⟩:=fQ apS;exact⟨l,E,by rw[H];rfl,by decide⟩
  ·obtain⟨l,E,H⟩:=fQ apT;exact⟨l,E,by rw[H];rfl,by decide⟩
  ·obtain⟨l,E,H⟩:=fQ apU;exact⟨l,E,by rw[H];rfl,by decide⟩
  ·obtain⟨l,E,H⟩:=fQ apV;exact⟨l,E,by rw[H];rfl,by decide⟩
  ·obtain⟨l,E,H⟩:=fQ apW;exact⟨l,E,by rw[H];rfl,by decide⟩
  ·obtain⟨l,E,H⟩:=fQ apX;exact⟨l,E,by rw[H];rfl,by decide⟩
  ·obtain⟨l,E,H⟩:=fQ apY;exact⟨l,E,by rw[H];rfl,by decide⟩
  ·obtain⟨l,E,H⟩:=fQ apZ;exact⟨l,E,by rw[H];rfl,by decide⟩
  ·obtain⟨l,E,H⟩:=fQ ap0;exact⟨l,E,by rw[H];rfl,by decide⟩
  ·obtain⟨l,E,H⟩:=fQ ap1;exact⟨l,E,by rw[H];rfl,by decide⟩
  ·obtain⟨l,E,H⟩:=fQ ap2;exact⟨l,E,by rw[H];rfl,by decide⟩
  ·obtain⟨l,E,H⟩:=fQ ap3;exact⟨l,E,by rw[H];rfl,by decide⟩
 ·refine⟨[],ac6 b I,?_,?_⟩
  ·simp only[uV,aaC,afQ,aon,alg]at I;simp[vV,I]
  ·simp only[uV,aaC,afQ,aon,alg]at I;simp[vV,I]
end Go.Am
end
section
namespace Go.Am
open Go
theorem asl(b:Int):D4 b=vV b:=by
 unfold D4;by_cases D:b∈iO
 ·simp only[iO,aaC,afQ,aon]at D;rcases D with rfl|rfl|rfl|rfl|rfl|rfl|rfl|rfl|rfl|rfl|rfl|rfl|rfl|rfl|rfl|rfl|rfl|rfl|rfl|rfl|rfl<;>decide
 ·rw[sl D];simp[iO]at D;unfold vV;simp[D]
section
variable {L:List ay}
end
section
variable {K S:List Int} {p f:Nat}
end
section
variable {L:List ay} {n X R:Nat}
end
end Go.Am
end
section
namespace Go.Am
open Go Go.Proofs
variable [Inhabited bV]
set_option maxRecDepth 20000
theorem Qu:ag ctx 31 [] []=some (.ret (.d (.bool true)),[]):=dc 30 (by kernel_rfl)
theorem ac7{p:Pg}(h:J8 p){g:List ay×Int×Int}(D:zG p=some g):ag ctx 33 [.d (Jh g.1 g.2.1 g.2.2)] []=some (.ret (.d (.bool true)),[]):=by
 have I:=afE D;have E:=Cd vV Vv g.1 g.2.1 g.2.2 (by omega);have H:=acK h.fit h.lit h.chk D;rw[show D4=vV from funext asl]at H;rw[H]at E;exact E
end Go.Am
end
section
namespace Go.Am
open Go Go.Proofs Go.Proofs.Tryz
variable [Inhabited bV]
set_option maxRecDepth 20000
set_option maxHeartbeats 1000000
theorem afG(text:Tx):∃n:Nat,(if (1500:Int)<text.length then (1500:Int)else text.length)=(n:Int)/\n<=text.length/\(text.take n).length<=1500:=by
 by_cases h:1500<text.length
 ·exact⟨1500,by rw[aat (by omega)];rfl,by omega,by simp;omega⟩
 ·exact⟨text.length,by rw[aab (by omega)],by omega,by simp;omega⟩
theorem Zu:ag ctx 33 [.d (Jh [] 0 0)] []=some (.ret (.d (.bool false)),[]):=by
 have E:=Cd vV Vv [] 0 0 (by decide);rw[show An vV [] 0 0=false by kernel_rfl]at E;exact E
theorem Ka(text:Tx):ag ctx 10 [.d (.str text)] []=some (.ret (.d (.bool true)),[]):=by
 have H:=Qu;obtain⟨n,I,J,V⟩:=afG text;have M:(n:Int)<=text.length:=by omega
 have D:=ac5 (text:=text.take n) (by omega);have O:=Zu;rw[arh (by simp)];rcases D with ⟨e,t,he,D⟩|⟨p,g,t,h,U,D⟩
 ·simp[cZ]at D O;simp[f10,H,I,J,M,D,he,O]
 ·have T:=ac7 h U;simp[cZ]at D T;simp[f10,H,I,J,M,D,T]
end Go.Am
end
section
namespace Go.Am
open Go
set_option maxRecDepth 20000
def av9:Nat->Nat
 |99=>207
 |143=>209
 |206=>253
 |217=>254
 |219=>255
 |224=>285
 |225=>284
 |266=>283
 |267=>286
 |314=>307
 |_=>0
def awa:Nat->Nat
 |3=>3
 |4=>4
 |5=>5
 |9=>9
 |46=>327
 |51=>285
 |146=>338
 |_=>0
def awb:Nat->Nat
 |1=>2
 |_=>0
def rho:Go.Shelf.Ren:=⟨av9,awa,awb⟩
theorem aj3:Go.Proofs.Lays.n143 Go.Proofs.Tryz.prog rho where
 mixed:=by kernel_rfl
 f143:=by kernel_rfl
 f217:=by kernel_rfl
 f219:=by kernel_rfl
 f224:=by kernel_rfl
 f225:=by kernel_rfl
 f266:=by kernel_rfl
 f267:=by kernel_rfl
 f314:=by kernel_rfl
 t3:=by kernel_rfl
 a3:=by intro w;kernel_rfl
 z3:=by intro w;kernel_rfl
 v3:=by intro w;kernel_rfl
 t4:=by kernel_rfl
 a4:=by intro w;kernel_rfl
 z4:=by intro w;kernel_rfl
 v4:=by intro w;kernel_rfl
 t5:=by kernel_rfl
 a5:=by intro w;kernel_rfl
 z5:=by intro w;kernel_rfl
 v5:=by intro w;kernel_rfl
 t9:=by kernel_rfl
 a9:=by intro w;kernel_rfl
 z9:=by intro w;kernel_rfl
 v9:=by intro w;kernel_rfl
 t46:=by kernel_rfl
 a46:=by intro w;kernel_rfl
 z46:=by intro w;kernel_rfl
 v46:=by intro w;kernel_rfl
 t51:=by kernel_rfl
 a51:=by intro w;kernel_rfl
 z51:=by intro w;kernel_rfl
 v51:=by intro w;kernel_rfl
 t146:=by kernel_rfl
 a146:=by intro w;kernel_rfl
 z146:=by intro w;kernel_rfl
 v146:=by intro w;kernel_rfl
 g1:=by kernel_rfl
theorem aj4:Go.Proofs.Lays.n217 Go.Proofs.Tryz.prog rho where
 mixed:=by kernel_rfl
 f217:=by kernel_rfl
 f266:=by kernel_rfl
 t3:=by kernel_rfl
 a3:=by intro w;kernel_rfl
 z3:=by intro w;kernel_rfl
 v3:=by intro w;kernel_rfl
 t5:=by kernel_rfl
 a5:=by intro w;kernel_rfl
 z5:=by intro w;kernel_rfl
 v5:=by intro w;kernel_rfl
 t9:=by kernel_rfl
 a9:=by intro w;kernel_rfl
 z9:=by intro w;kernel_rfl
 v9:=by intro w;kernel_rfl
theorem ap5:Go.Proofs.Lays.n99 Go.Proofs.Tryz.prog rho where
 mixed:=by kernel_rfl
 f99:=by kernel_rfl
 f206:=by kernel_rfl
 t3:=by kernel_rfl
 a3:=by intro w;kernel_rfl
 z3:=by intro w;kernel_rfl
 v3:=by intro w;kernel_rfl
 t4:=by kernel_rfl
 a4:=by intro w;kernel_rfl
 z4:=by intro w;kernel_rfl
 v4:=by intro w;kernel_rfl
 t9:=by kernel_rfl
 a9:=by intro w;kernel_rfl
 z9:=by intro w;kernel_rfl
 v9:=by intro w;kernel_rfl
end Go.Am
end
section
namespace Go.Am
open Go Go.Proofs
variable [Inhabited bV]
set_option maxRecDepth 20000
theorem zJ{P:Program}{g:FuncId}{fn:Func}(W:P.funcs[g]?=some fn)(Y:fn.body.isSome=true)(Z:(fn.name == "runtime.NumGoroutine")=false):iK P g=true:=by
 unfold iK;rw[W];simp only[Y,Z];rfl
theorem AE{w F s v}(h:aQ w F (.str s) v):∃b:ByteArray,v=.string b/\b.data.toList=s:=by
 cases h with
 |str b s h=>exact⟨b,rfl,h⟩
theorem Vw{w F k n v}(h:aQ w F (.int k n) v):v=.int k n:=by cases h;rfl
theorem Hh{T:List D}{a b:D}{w F}{vs:Array Value}(E:T=[a,b])(J:T.length=vs.size)(H:∀(i:Nat) x v,T[i]?=some x->vs[i]?=some v->aQ w F x v):
 ∃x y,vs=#[x,y]/\aQ w F a x/\aQ w F b y:=by
 subst E;obtain⟨l⟩:=vs;match l,J with
 |[x,y],_=>exact⟨x,y,rfl,H 0 a x rfl rfl,H 1 b y rfl rfl⟩
theorem aj5{w:World}{F}(M:fF w F aX):∃m,w.cell? ⟨2,0,none⟩=some (.int .i64 m):=by
 obtain⟨_,_,A0,I,O⟩:=M (2,.int .i64 (id (α:=Int) (default:bV))) (by simp[aX]);generalize id (α:=Int) (default:bV)=z at I;obtain rfl:=Vw I;exact⟨z,O 0 _ (by simp[Value.cells])⟩
theorem asm:tW ctx 207 (qT hpO):=by
 refine tW.lift ⟨zJ Tryz.func207 (by kernel_rfl) (by kernel_rfl),λT d E F w vs M V J H=>?_⟩;unfold hpO at E;split at E
 ·rename_i s p;obtain⟨x,y,rfl,I,O⟩:=Hh rfl J H;obtain⟨a,rfl,rfl⟩:=AE I;obtain⟨b,rfl,rfl⟩:=AE O;refine (Any.strings_HasPrefix ap5 a b w).mono ?_;rintro e w' ⟨rfl,rfl⟩;cases E;exact⟨_,rfl,Go.RowKit.Below.refl _ _,.bool _⟩
 ·cases E
theorem asn:tW ctx 254 (qT ibO):=by
 refine tW.lift ⟨zJ Tryz.func254 (by kernel_rfl) (by kernel_rfl),λT d E F w vs M V J H=>?_⟩;unfold ibO at E;split at E
 ·rename_i s p;obtain⟨x,y,rfl,I,O⟩:=Hh rfl J H;obtain⟨a,rfl,rfl⟩:=AE I;obtain rfl:=Vw O;refine (Any.stringslite_IndexByte aj4 a _ w).mono ?_;rintro e w' ⟨rfl,rfl⟩;cases E;exact⟨_,rfl,Go.RowKit.Below.refl _ _,.int _ _⟩
 ·cases E
theorem ap6:tW ctx 209 (qT Oj):=by
 refine tW.lift ⟨zJ Tryz.func209 (by kernel_rfl) (by kernel_rfl),λT d E F w vs M V J H=>?_⟩;unfold Oj at E;split at E
 ·rename_i s p;split at E
  ·rename_i A';obtain⟨x,y,rfl,I,O⟩:=Hh rfl J H;obtain⟨a,rfl,rfl⟩:=AE I;obtain⟨b,rfl,rfl⟩:=AE O;obtain⟨m,hm⟩:=aj5 M;refine (Any.strings_Index aj3 a b m w (by simpa using A') hm).mono ?_;rintro e w' ⟨rfl,rfl⟩;cases E;exact⟨_,rfl,Go.RowKit.Below.refl _ _,.int _ _⟩
  ·cases E
 ·cases E
theorem aj6:∀g h,ctx.BZ g=some h->tW ctx g h:=by
 intro g h M;have U:aeo g=some h:=M;unfold aeo at U;split at U;all_goals first|(cases U;first|exact asm|exact asn|exact ap6)|cases U
end Go.Am
end
section
namespace Go.Am
open Go
theorem Qv{P:Program}{w:World}{n:String}{d:DataW Unit}:∀{l:List (String×DataW Unit)}{ps:List MemPlace},DataW.LaidVars P w l ps->(n,d)∈l->
 ∃g t cs fuel p,P.globalNamed n=some g/\(P.globals[g]?).map (·.type)=some t/\w.var? P n=some cs/\DataW.trod (λ_=>()) P w 0 (λ_=>true) false fuel t cs.toList=some (d,p)
 |[],_,_,hm=>by simp at hm
 |(AE,AF)::r,ps,⟨g,t,cs,fuel,p,q,U,M,E,O,T,_⟩,hm=>by
  rcases aaC.1 hm with hm|hm
  ·cases hm;exact⟨g,t,cs,fuel,p,U,M,E,O⟩
  ·exact Qv T hm
theorem ac8{H:Type}{enc:TypeId×Value->H}{P:Program}{w:World}{base:Nat}{sp:Nat->Bool}{held:Bool}{fuel:Nat}{t e:TypeId}{n:Nat}{k:IntKind}{cs:List Value}{Y:List (DataW H)}{p:List MemPlace}
 (Z:P.underlying t=some (.array n e)) (he:P.underlying e=some (.int k)) (y:P.cellsOf e=1) (h:DataW.trod enc P w base sp held fuel t cs=some (.agg Y,p)):
 cs.length=P.cellsOf t/\Y.length=n/\∀i,i<n->∃z,cs[i]?=some (.int k z)/\Y[i]?=some (.lit (.int k z)):=by
 cases fuel with
 |zero=>simp[DataW.trod]at h
 |succ m=>
  unfold DataW.trod at h;rw[Z]at h;simp only at h;split at h
  ·rename_i A';simp only[aax,acr,DataW.agg.injEq]at h;obtain⟨xs,A2,rfl,_⟩:=h;have U:xs.length=n:=by simpa using mapM_some_length A2
   refine⟨A',by simpa using U,λi hi=>?_⟩;have M:=mapM_some_get A2 i i (by simp[hi]);have E:i<xs.length:=by omega
   have O:xs[i]?=some xs[i]:=by simp[E]
   rw[O,y]at M;obtain⟨z,T,A0,_⟩:=DataW.trod_int he M;refine⟨z,?_,by simp[O,A0]⟩;have V:=ahS (·[0]?) T;simpa [abW,acx]using V
  ·cases h
theorem Qw{P:Program}{W:World}{l:List (String×DataW Unit)}{name:String}{g:Nat}{t e:TypeId}{n:Nat}{k:IntKind}{zs:List Int}
 (A':laidMet P l W) (hm:(name,DataW.agg (zs.map λz=>.lit (.int k z)))∈l) (A1:P.globalNamed name=some g) (A9:(P.globals[g]?).map (·.type)=some t)
 (Z:P.underlying t=some (.array n e)) (he:P.underlying e=some (.int k)) (y:P.cellsOf e=1) (AG:0<n) (AA:P.cellsOf t=n):
 (g<W.heap.size/\∀cs,D.agg (zs.map λz=>.int k z)=.agg cs->∃cur e A3,W.heap[g]?=some (.cells cur e A3)/\cur.size=cs.length)/\∃A4,aQ W (λ_=>False) (.agg (zs.map λz=>.int k z)) A4/\∀(i:Nat)(c:Value),A4.cells[i]?=some c->W.cell? ⟨g,i,none⟩=some c:=by
 obtain⟨ps,J,_⟩:=A';obtain⟨AH,AI,cs,fuel,p,U,M,E,O⟩:=Qv J hm;obtain rfl:=Option.some.inj (A1.symm.trans U);obtain rfl:=Option.some.inj (A9.symm.trans M);obtain⟨A5,T,A0⟩:=ac8 Z he y O;rw[AA]at A5;simp at T;have V:∀i z,zs[i]?=some z->W.cell? ⟨g,i,none⟩=some (.int k z):=by
  intro i z I;have hi:i<n:=by
   have:=(D1.1 I).1;omega
  obtain⟨AB,AC,A6⟩:=A0 i hi;simp[I]at A6;subst A6;rw[World.var?_cell A1 E i];simpa using AC
 refine⟨⟨?_,?_⟩,.agg (zs.map λz=>Value.int k z).toArray,?_,?_⟩
 ·have I:∃z,zs[0]?=some z:=⟨zs[0]'(by omega),by simp[show 0<zs.length by omega]⟩
  obtain⟨z,I⟩:=I;exact (GP (V 0 z I)).1
 ·rintro AJ AD;obtain rfl:=D.agg.inj AD;unfold World.var? at E;rw[A1]at E;simp only[acE]at E;split at E
  ·rename_i cur e' A3 hh;cases E;exact⟨_,_,_,hh,by simp at T A5⊢;omega⟩
  ·cases E
 ·refine aQ.rj (by simp) (λv J=>?_) (λi c v A7 J=>?_)
  ·simp at J;obtain⟨z,_,rfl⟩:=J;rfl
  ·simp only[ab6,aax]at A7 J;obtain⟨z,I,rfl⟩:=A7;obtain⟨AB,A8,rfl⟩:=J;rw[I]at A8;cases A8;exact .int k z
 ·intro i c hi;simp[Value.cells]at hi;obtain⟨z,I,rfl⟩:=hi;exact V i z I
end Go.Am
end
section
namespace Go.Am
open Go
variable {H:Type} {enc:TypeId×Value->H}
theorem ac9{a:Assume}{C:Checked}{os:Os}{f:FuncId}{fn:Func}{s:ChangeSpec}{conds:List PathCond}{apart fresh handsOn again:Bool}{X:World->Array Value->Prop}
 (I:∀(w w':World)(args:Array Value),w.heap=w'.heap->X w args->X w' args)
 (own:ownKnob C.prog.godebug=none) (started:os.Started) (J:C.prog.inits.idxOf? f=none) (M:C.prog.funcs[f]?=some fn)
 (witness:∃(w:World)(tape:Tape)(i:Input),w.os=os/\(w.forCall tape i).Shaped C.prog/\i.vars=[]/\Input.okWide C.prog (w.forCall tape i) .any w.heap.size f i/\
  ((s.pre enc C.prog fn conds apart (w.forCall tape i).memory i.args/\X (w.forCall tape i).memory i.args)/\sizedMet enc C.prog fn (OpenSpec.ofChange s) apart (w.forCall tape i).memory i.args)/\a.holds C.prog (lone (Frame.enter C.prog f i.args .normal) [] (w.forCall tape i)))
 (O:∀(W:World)(base:Nat)(args:Array Value)(D gs:List (DataW H))(before:List MemPlace),
  (∀(j:Nat) t v,fn.params[j]?=some t->args[j]?=some v->Value.okWide C.prog W .any base t v)->
  DataW.Whole enc C.prog fn.params.toList s.vars apart W args.toList D gs before->X W args->W.ShapedOpen C.prog->
  Calls C.prog f args W λe E=>∃v,e=.returned v/\s.post enc C.prog fn apart fresh handsOn again W args v E):
 ReturnsInHanded a C os f .any (λw args=>(s.pre enc C.prog fn conds apart w args/\X w args)/\sizedMet enc C.prog fn (OpenSpec.ofChange s) apart w args) (s.post enc C.prog fn apart fresh handsOn again):=by
 refine returnsInHanded_of_calls own started J witness ?_;intro w tape i _ T _ U V _;obtain⟨_,_,_,Y,Z,_,_,_,_,y⟩:=U;have e:Y=fn:=Option.some.inj (Z.symm.trans M);subst e;obtain⟨⟨⟨D,gs,before,hw,A2⟩,A'⟩,A3⟩:=V;have A0:=DataW.Whole.of_heap (w':=w.forCall tape i) (by rfl) hw;refine (O (w.forCall tape i) w.heap.size i.args D gs before y A0 (I _ _ _ (by rfl) A') T).mono λe E ⟨v,he,A1⟩=>?_;subst he;exact ChangeSpec.post_blind A1
end Go.Am
end
