/-
  Texts of one proof, one behind the other.
-/
import Derived.Test.YtogaccfhfhdfpaaGreatDoorC1
import Derived.Test.YtogaccfhfhdfpaaGreatDoorC2
import Derived.Test.YtogaccfhfhdfpaaGreatDoorC3
import Derived.Test.YtogaccfhfhdfpaaGreatDoorC4
import Derived.Test.YtogaccfhfhdfpaaGreatDoorC5
import Derived.Test.YtogaccfhfhdfpaaGreatDoorC6
set_option linter.all false
section
namespace Go.Am
open Go Go.Proofs Go.Proofs.Tryz
variable [Inhabited bP]
set_option maxRecDepth 100000
set_option maxHeartbeats 8000000
structure Mk where
 out:List ax
 cells:Int
 most:Int
 ex:List (List Int)
 lv:List Int
@[simp] def du(n:Int):D:=.int .i64 n
@[simp] def gV(l:List Int):List D:=l.map du
@[simp] def mkB(p:Pg)(m:Mk)(h:Int):aE:=.box [.d (.str p.name),.d (.list (p.vars.map bx)),.d (.list (p.body.map bZ)),.vec 1 0 0 m.out.length,.d (.int .i64 m.cells),.d (.int .i64 h),.d (.int .i64 m.most),.vec 2 0 0 m.ex.length,.vec 3 0 0 m.lv.length]
@[simp] def gW(p:Pg)(m:Mk)(h:Int):List aE:=[mkB p m h,.vec 5 (m.out.map aZ),.vv (m.ex.map gV) none,.vec 1 (m.lv.map du)]
@[simp] def RZ(p:Pg)(m:Mk)(h:Int)(v1 v2 v3:Nat):List (Nat×aE):=[(0,.box [.d (.str p.name),.d (.list (p.vars.map bx)),.d (.list (p.body.map bZ)),.vec 1 v1 0 m.out.length,.d (.int .i64 m.cells),.d (.int .i64 h),.d (.int .i64 m.most),.vec 2 v2 0 m.ex.length,.vec 3 v3 0 m.lv.length]),(v1,.vec 5 (m.out.map aZ)),(v2,.vv (m.ex.map gV) none),(v3,.vec 1 (m.lv.map du))]
@[simp] def iY(p:Pg)(m:Mk)(h:Int)(a b c N O U:Nat):aE:=.box [.d (.str p.name),.d (.list (p.vars.map bx)),.d (.list (p.body.map bZ)),.vec a N 0 m.out.length,.d (.int .i64 m.cells),.d (.int .i64 h),.d (.int .i64 m.most),.vec b O 0 m.ex.length,.vec c U 0 m.lv.length]
def gX(p:Pg)(m:Mk)(h:Int)(o:Out)(r:bU):Prop:=∃v1 v2 v3,r=some (o,RZ p m h v1 v2 v3)
def Mk.put(m:Mk)(x:ax)(t:Int):Mk:={m with out:=m.out++[x],most:=max m.most t}
def DX(a b:Int):(if a<b then b else a)=max a b:=by
 rw[Int.max_def];by_cases h:a<b
 .rw[aav h,aav (by omega)]
 .by_cases V:a=b
  .subst V;simp
  .rw[aaf h,aaf (by omega)]
def IS(p:Pg)(m:Mk)(h:Int):ak ctx 102 [.ptr 0 0 0] (gW p m h)=some (.ret (.d (.int .i64 m.out.length)),RZ p m h 0 0 0):=by
 rw[agy (by simp)];simp[f102]
def kQ(p:Pg)(m:Mk)(h I:Int)(x:ax)(H:m.out.length<100000000)(hw:IntKind.i64.wrap (h+I)=h+I):gX p (m.put x (h+I)) (h+I) (.ret (.d (.int .i64 m.out.length))) (ak ctx 32 [.ptr 0 0 0,.d (aZ x),.d (.int .i64 I)] (gW p m h)):=by
 have w0:=bu (m.out.length:Int);have Z:m.out.length<=4611686018427387903:=by omega
 have y:(m.out.length+1)*40<=140737488355328:=by omega
 rw[Ul (by simp)];simp[f32,ai,hw,w0,Z,y,DX];exact⟨1,0,0,by simp[Mk.put]⟩
def Xe(p:Pg)(m:Mk)(h n:Int)(hw:IntKind.i64.wrap (m.cells+n)=m.cells+n):gX p {m with cells:=m.cells+n} h (.ret (.d (.int .i64 m.cells))) (ak ctx 150 [.ptr 0 0 0,.d (.int .i64 n)] (gW p m h)):=by
 rw[agS (by simp)];simp[f150,hw];exact⟨_,_,_,rfl⟩
def tc(p:Pg)(m:Mk)(h at_:Int)(H:m.out.length<100000000)(hw:IntKind.i64.wrap (h+ -1)=h+ -1):gX p (m.put (ins 6 at_ 0 0 0) (h+ -1)) (h+ -1) (.ret (.bh [])) (ak ctx 146 [.ptr 0 0 0,.d (.int .i64 at_)] (gW p m h)):=by
 obtain⟨v1,v2,v3,E⟩:=kQ p m h (-1) (ins 6 at_ 0 0 0) H hw;generalize m.put (ins 6 at_ 0 0 0) (h+ -1)=M at*;rw[agO (by simp)];simp[ins]at E;simp[f146,E];exact⟨_,_,_,rfl⟩
def oK(p:Pg)(m:Mk)(h:Int)(H:m.out.length<100000000)(hw:IntKind.i64.wrap h=h):gX p (m.put (ins 11 0 0 0 0) h) h (.ret (.bh [])) (ak ctx 90 [.ptr 0 0 0] (gW p m h)):=by
 obtain⟨v1,v2,v3,E⟩:=kQ p m h 0 (ins 11 0 0 0 0) H (by simpa using hw);rw[show h+0=h by omega]at E;generalize m.put (ins 11 0 0 0 0) h=M at*;rw[alK (by simp)];simp[ins]at E;simp[f90,E];exact⟨_,_,_,rfl⟩
def BN(p:Pg)(m:Mk)(h to:Int)(H:m.out.length<100000000)(hw:IntKind.i64.wrap (h+ -1)=h+ -1):gX p (m.put (ins 10 to 0 0 0) (h+ -1)) (h+ -1) (.ret (.d (.int .i64 m.out.length))) (ak ctx 147 [.ptr 0 0 0,.d (.int .i64 to)] (gW p m h)):=by
 obtain⟨v1,v2,v3,E⟩:=kQ p m h (-1) (ins 10 to 0 0 0) H hw;generalize m.put (ins 10 to 0 0 0) (h+ -1)=M at*;rw[agP (by simp)];simp[ins]at E;simp[f147,E];exact⟨_,_,_,rfl⟩
def IT(p:Pg)(m:Mk)(h to:Int)(H:m.out.length<100000000)(hw:IntKind.i64.wrap h=h):gX p (m.put (ins 9 to 0 0 0) h) h (.ret (.d (.int .i64 m.out.length))) (ak ctx 98 [.ptr 0 0 0,.d (.int .i64 to)] (gW p m h)):=by
 obtain⟨v1,v2,v3,E⟩:=kQ p m h 0 (ins 9 to 0 0 0) H (by simpa using hw);rw[show h+0=h by omega]at E;generalize m.put (ins 9 to 0 0 0) h=M at*;rw[Um (by simp)];simp[ins]at E;simp[f98,E];exact⟨_,_,_,rfl⟩
def IU(p:Pg)(m:Mk)(h at_ t:Int)(H:m.out.length<100000000)(hw:IntKind.i64.wrap (h+1)=h+1):gX p (m.put (ins (if t=2 then 3 else 2) at_ 0 0 0) (h+1)) (h+1) (.ret (.bh [])) (ak ctx 148 [.ptr 0 0 0,.d (.int .i64 at_),.d (.int .i64 t)] (gW p m h)):=by
 obtain⟨v1,v2,v3,E⟩:=kQ p m h 1 (ins (if t=2 then 3 else 2) at_ 0 0 0) H hw;generalize m.put (ins (if t=2 then 3 else 2) at_ 0 0 0) (h+1)=M at*;rw[agQ (by simp)];by_cases J:t=2
 .simp[ins,J]at E;simp[f148,J,E];exact⟨_,_,_,rfl⟩
 .simp[ins,J]at E;simp[f148,J,E];exact⟨_,_,_,rfl⟩
def Mk.lead(m:Mk)(at_:Int):Mk:={m with out:=setAt m.out at_ m.out.length}
def Xf:∀(l:List ax)(i:Nat)(v:Int)(hi:i<l.length),(l.map aZ).set i (.agg [.int .i64 l[i].op,.int .i64 v,.int .i64 l[i].b,.int .i64 l[i].n,.int .i64 l[i].m])=(setAt l i v).map aZ
 |x::l,0,v,hi=>by simp[setAt]
 |x::l,i+1,v,hi=>by
  have ih:=Xf l i v (by simpa using hi);simp only[setAt,Int.toNat_natCast]at ih⊢;have e:((i+1:Nat):Int).toNat=i+1:=by omega
  try rw[e]
  simp only[aaK,List.set_cons_succ,List.getElem_cons_succ,List.modify_succ_cons];rw[ih]
def uD(p:Pg)(m:Mk)(h:Int)(i:Nat)(hi:i<m.out.length)(E:m.out.length<100000000):ak ctx 57 [.ptr 0 0 0,.d (.int .i64 i)] (gW p m h)=some (.ret (.bh []),RZ p (m.lead i) h 0 0 0):=by
 have A2:=IS p m h;have A3:=Xf m.out i m.out.length hi;rw[alA (by simp)];simp at A2 A3;simp[f57,A2,hi,JD,LZ,LY,Bq,DC,Et,ou,vC,rC,vB,HP,HQ,HR,HS,gg,vA,yY,Ju,x8,Gb,Q6,Vy,Nn,eT,fK,m7,tJ,bn.app];simp[A3,Mk.lead]
def Mk.cS(m:Mk)(ps:List Int):Mk:={m with out:=kM m.out ps m.out.length}
def xy(m:Mk)(i:Int)(ps:List Int):m.cS (i::ps)=(m.lead i).cS ps:=by
 unfold Mk.cS Mk.lead;simp only[tP,WM]
@[simp] def GI(m:Mk)(i:Int):(m.lead i).out.length=m.out.length:=by simp[Mk.lead]
def Pl(n:Nat)(ps:List Int):Prop:=∀i∈ps,∃k:Nat,i=k/\k<n
def DY(p:Pg)(h:Int)(l:List Int)(J:l.length<100000000)(k:Kt)(R:bU):∀(rest pre:List Int)(m:Mk),l=pre++rest->m.out.length<100000000->Pl m.out.length rest->
 (∀Y:Env,k (.exit 0) ⟨16,aC,Y,[⟨0,0,iY p (m.cS rest) h 2 3 4 0 0 0⟩,⟨1,0,.vec 1 (l.map du)⟩,⟨2,0,.vec 5 ((m.cS rest).out.map aZ)⟩,⟨3,0,.vv (m.ex.map gV) none⟩,⟨4,0,.vec 1 (m.lv.map du)⟩]⟩=R)->
 aK ctx 31 (.loop (Code.at (aU f31) [1,0,0])) ⟨16,aC,[(0,true,.ptr 0 0 0),(6,true,.vec 1 0 0 l.length),(7,true,.d (.int .i64 l.length)),(8,true,.d (.int .i64 pre.length))],[⟨0,0,iY p m h 2 3 4 0 0 0⟩,⟨1,0,.vec 1 (l.map du)⟩,⟨2,0,.vec 5 (m.out.map aZ)⟩,⟨3,0,.vv (m.ex.map gV) none⟩,⟨4,0,.vec 1 (m.lv.map du)⟩]⟩ k=R
 |[],pre,m,H,E,I,D=>by
  have V:pre.length=l.length:=by rw[H];simp
  have e:m.cS []=m:=rfl;rw[e]at D;simp at D;rw[V,ag];simp[f31,D]
 |i::rest,pre,m,H,E,I,D=>by
  obtain⟨j,rfl,Z⟩:=I i (by simp);have y:pre.length<l.length:=by rw[H];simp
  have A':l[pre.length]=(j:Int):=by simp[H]
  have hle:=uD p m h j Z E;have A0:=bu ((pre.length:Int)+1);have ih:=DY p h l J k R rest (pre++[(j:Int)]) (m.lead j) (by simp[H]) (by simpa using E) (λi hi=>by simpa using I i (by simp[hi])) (λY=>by have:=D Y;rw[xy]at this;exact this);clear D;generalize m.lead j=M at*;rw[ag];simp[f31]at ih hle⊢;simp[y,A',hle,A0,ih]
def yD(p:Pg)(m:Mk)(h:Int)(l:List Int)(J:l.length<100000000)(E:m.out.length<100000000)(I:Pl m.out.length l):ak ctx 31 [.ptr 0 0 0,.vec 1 0 0 l.length] [iY p m h 2 3 4 0 0 0,.vec 1 (l.map du),.vec 5 (m.out.map aZ),.vv (m.ex.map gV) none,.vec 1 (m.lv.map du)]=
 some (.ret (.bh []),[(0,iY p (m.cS l) h 2 3 4 0 0 0),(0,.vec 1 (l.map du)),(0,.vec 5 ((m.cS l).out.map aZ)),(0,.vv (m.ex.map gV) none),(0,.vec 1 (m.lv.map du))]):=by
 have N:=λk R D=>DY p h l J k R l [] m rfl E I D;rw[aaZ (by simp)];simp[f31]at N⊢;have A1:(m.cS l).ex=m.ex:=rfl;have O:(m.cS l).lv=m.lv:=rfl;rw[N _ (some (.ret (.bh []),[(0,iY p (m.cS l) h 2 3 4 0 0 0),(0,.vec 1 (l.map du)),(0,.vec 5 ((m.cS l).out.map aZ)),(0,.vv (m.ex.map gV) none),(0,.vec 1 (m.lv.map du))])) (λY=>by simp[A1,O])];simp
def FG(p:Pg)(h:Int)(l:List Int)(J:l.length<100000000)(k:Kt)(R:bU):∀(rest pre:List Int)(m:Mk),l=m.lv->l=pre++rest->m.out.length<100000000->Pl m.out.length rest->
 (∀Y:Env,k (.exit 0) ⟨16,aC,Y,[⟨0,0,iY p (m.cS rest) h 2 3 1 0 0 0⟩,⟨1,0,.vec 1 (m.lv.map du)⟩,⟨2,0,.vec 5 ((m.cS rest).out.map aZ)⟩,⟨3,0,.vv (m.ex.map gV) none⟩]⟩=R)->
 aK ctx 31 (.loop (Code.at (aU f31) [1,0,0])) ⟨16,aC,[(0,true,.ptr 0 0 0),(6,true,.vec 1 0 0 l.length),(7,true,.d (.int .i64 l.length)),(8,true,.d (.int .i64 pre.length))],[⟨0,0,iY p m h 2 3 1 0 0 0⟩,⟨1,0,.vec 1 (m.lv.map du)⟩,⟨2,0,.vec 5 (m.out.map aZ)⟩,⟨3,0,.vv (m.ex.map gV) none⟩]⟩ k=R
 |[],pre,m,U,H,E,I,D=>by
  have V:pre.length=l.length:=by rw[H];simp
  have e:m.cS []=m:=rfl;rw[e]at D;simp at D;rw[V,ag];simp[f31,D]
 |i::rest,pre,m,U,H,E,I,D=>by
  obtain⟨j,rfl,Z⟩:=I i (by simp);have y:pre.length<m.lv.length:=by rw[<-U,H];simp
  have A':m.lv[pre.length]=(j:Int):=by
   have:l[pre.length]?=some (j:Int):=by rw[H];simp
   rw[U]at this;exact (aai.1 this).2
  have A4:l.length=m.lv.length:=by rw[U]
  have hle:=uD p m h j Z E;have A0:=bu ((pre.length:Int)+1);have ih:=FG p h l J k R rest (pre++[(j:Int)]) (m.lead j) U (by simp[H]) (by simpa using E) (λi hi=>by simpa using I i (by simp[hi])) (λY=>by have:=D Y;rw[xy]at this;exact this);have O:(m.lead j).lv=m.lv:=rfl;clear D;generalize m.lead j=M at*;rw[ag];simp[f31]at ih hle⊢;rw[O]at ih hle;simp[y,A',A4,hle,A0,ih];simp[A4]at ih;exact ih
def ZB(p:Pg)(m:Mk)(h:Int)(J:m.lv.length<100000000)(E:m.out.length<100000000)(I:Pl m.out.length m.lv):ak ctx 31 [.ptr 0 0 0,.vec 1 0 0 m.lv.length] [iY p m h 2 3 1 0 0 0,.vec 1 (m.lv.map du),.vec 5 (m.out.map aZ),.vv (m.ex.map gV) none]=
 some (.ret (.bh []),[(0,iY p (m.cS m.lv) h 2 3 1 0 0 0),(0,.vec 1 (m.lv.map du)),(0,.vec 5 ((m.cS m.lv).out.map aZ)),(0,.vv (m.ex.map gV) none)]):=by
 have N:=λk R D=>FG p h m.lv J k R m.lv [] m rfl rfl E I D;rw[aaZ (by simp)];simp[f31]at N⊢;have A1:(m.cS m.lv).ex=m.ex:=rfl;have O:(m.cS m.lv).lv=m.lv:=rfl;rw[N _ (some (.ret (.bh []),[(0,iY p (m.cS m.lv) h 2 3 1 0 0 0),(0,.vec 1 (m.lv.map du)),(0,.vec 5 ((m.cS m.lv).out.map aZ)),(0,.vv (m.ex.map gV) none)])) (λY=>by simp[A1,O])];simp
def R3(l:List Vr)(Z:l.length<=1000)(M:∀v∈l,cJ v=true)(s:Tx)(E:cL)(N:E.key=200)(k:Kt)(R:bU)(O:Int->Vr->bU)
 (V:∀(n:Int)(w:Vr) v1 v2 H,k .ret ⟨29,aC,[(4,true,.d (.int .i64 n)),(5,true,.ptr 350 v1 0),(6,true,.d (.bool true))],[E,⟨350,v1,fF w⟩,⟨550,v2,H⟩]⟩=O n w)
 (U:∀(Y:Env) v1 v2 H,k (.exit 0) ⟨29,aC,(1,true,.d (.str s))::(5,true,.ptr 350 v1 0)::Y,[E,⟨350,v1,fF so⟩,⟨550,v2,H⟩]⟩=R):∀(rest pre:List Vr)(n:Int)(v1 v2:Nat)(H:aE),l=pre++rest->0<=n->n<=1000*pre.length->
 aK ctx 145 (.loop (Code.at (aU f145) [1,1,0,1,0,0])) ⟨29,aC,[(1,true,.d (.str s)),(5,true,.ptr 350 v1 0),(7,true,.d (.int .i64 n)),(11,true,.d (.list (l.map bx))),(12,true,.d (.int .i64 l.length)),(13,true,.d (.int .i64 pre.length))],[E,⟨350,v1,fF so⟩,⟨550,v2,H⟩]⟩ k=if (bk rest s).isSome=true then O (lX rest s n).1 (lX rest s n).2 else R
 |[],pre,n,v1,v2,H,I,y,J=>by
  have A4:pre.length=l.length:=by rw[I];simp
  simp[fF,so]at U;rw[A4,ag];simp[f145,fF,so,bk];exact U _ _ _ _
 |w::rest,pre,n,v1,v2,H,I,y,J=>by
  have A0:pre.length<l.length:=by rw[I];simp
  have A1:l[pre.length]=w:=by simp[I]
  have A2:=OI (M w (by rw[I];simp));have A8:=ku (M w (by rw[I];simp));have ih:=λv2 H=>R3 l Z M s E N k R O V U rest (pre++[w]) (n+bR w) v1 v2 H (by simp[I]) (by omega) (by simp;omega);have A5:=bu ((pre.length:Int)+1);have A6:=bu (n+bR w);rw[ag];simp only[bk,lX];by_cases A':w.name=s
  .simp[f145];have:=V n w v1 (v2+1);simp[fF,A']at this;simp[A0,A1,N,bx,cZ,A',ai,this]
  .simp[f145,bx,cZ]at ih A2⊢;simp[A0,A1,N,bx,cZ,A',A2,A5,A6,ih]
abbrev gO(p:Pg):D:=.agg [.str p.name,.list (p.vars.map bx),.list (p.body.map bZ)]
def te(p:Pg)(Z:p.vars.length<=1000)(M:∀v∈p.vars,cJ v=true)(s:Tx):ak ctx 145 [.d (gO p),.d (.str s)] []=some (.ret (.bh [.d (.int .i64 (bA p.vars s).1),.d (bx (bA p.vars s).2),.d (.bool (bk p.vars s).isSome)]),[]):=by
 have A3:=λE N k R O V U v1 v2 H=>R3 p.vars Z M s E N k R O V U p.vars [] 0 v1 v2 H rfl (by omega) (by simp);have key:(if (bk p.vars s).isSome=true then some (.ret (.bh [.d (.int .i64 (lX p.vars s 0).1),.d (bx (lX p.vars s 0).2),.d (.bool true)]),([]:List (Nat×aE)))else some (.ret (.bh [.d (.int .i64 0),.d (bx so),.d (.bool false)]),[]))=some (Out.ret (.bh [.d (.int .i64 (bA p.vars s).1),.d (bx (bA p.vars s).2),.d (.bool (bk p.vars s).isSome)]),([]:List (Nat×aE))):=by
  unfold bA;cases h:(bk p.vars s).isSome with
  |true=>simp
  |false=>
   have y:∀(l:List Vr) n,(bk l s).isSome=false->lX l s n=(0,so):=by
    intro l;induction l with
    |nil=>intro n _;rfl
    |cons v r ih=>
     intro n J;simp only[bk,lX]at J⊢;split at J
     .cases J
     .rename_i A7;rw[aaf A7];exact ih _ J
   simp[y _ _ h]
 rw[agN (by simp)];simp[f145,fF,so]at A3⊢;rw[A3 _ rfl _ (some (.ret (.bh [.d (.int .i64 0),.d (bx so),.d (.bool false)]),[])) (λn w=>some (.ret (.bh [.d (.int .i64 n),.d (bx w),.d (.bool true)]),[]))]
 .exact key
 .intro n w v1 v2 H;simp[bx,cZ]
 .intro Y v1 v2 H;simp[bx,cZ,so,ai]
def ac8(s:Tx)(q:Pn):ak ctx 212 [.d (gp q),.ptr 0 0 0] [.box [.d (.str s)]]=some (.ret (.d (.bool (decide (q.name=s)))),[(0,.box [.d (.str s)])]):=by
 rw[ahi (by simp)];simp[f212,gp]
def Lh(s:Tx):∀(rest pre:List Pn),(pre++rest).length<1000000->∀k:Kt,
 aK ctx 211 (.loop (Code.at (aU f211) [1,0,1,0,0])) ⟨19,aC,[(0,true,.d (.list ((pre++rest).map gp))),(1,true,.fn 212 [.ptr 0 0 0]),(7,true,.d (.int .i64 (pre++rest).length)),(8,true,.d (.int .i64 pre.length))],[⟨0,0,.box [.d (.str s)]⟩]⟩ k=
  if rL (λq:Pn=>decide (q.name=s)) rest pre.length<0 then k (.exit 0) ⟨19,aC,[(0,true,.d (.list ((pre++rest).map gp))),(1,true,.fn 212 [.ptr 0 0 0]),(7,true,.d (.int .i64 (pre++rest).length)),(8,true,.d (.int .i64 (pre++rest).length)),(9,true,.d (.bool false))],[⟨0,0,.box [.d (.str s)]⟩]⟩
  else k .ret ⟨19,aC,[(4,true,.d (.int .i64 (rL (λq:Pn=>decide (q.name=s)) rest pre.length)))],[⟨0,0,.box [.d (.str s)]⟩]⟩
 |[],pre,H,k=>by
  rw[ag];simp[f211,rL]
 |x::rest,pre,H,k=>by
  obtain⟨b,U⟩:∃b,b=(λq:Pn=>decide (q.name=s)) x:=⟨_,rfl⟩;have V:ak ctx 212 [.d (gp x),.ptr 0 0 0] [.box [.d (.str s)]]=some (.ret (.d (.bool b)),[(0,.box [.d (.str s)])]):=by rw[U];exact ac8 s x
  have key:rL (λq:Pn=>decide (q.name=s)) (x::rest) pre.length=if b=true then (pre.length:Int)else rL (λq:Pn=>decide (q.name=s)) rest (pre.length+1):=by rw[U];rfl
  have ih:=Lh s rest (pre++[x]) (by simpa using H) k;have D:(pre.length:Int)<pre.length+(rest.length+1):=by omega
  have Z:IntKind.i64.wrap ((pre.length:Int)+1)=pre.length+1:=qL (by unfold dE;simp at H;omega);have y:¬((pre.length:Int)<0):=by omega
  try simp[gp]at V
  rw[ag,key];clear U key;cases b with
  |true=>simp[f211,D,Z,y,V,gp]
  |false=>
   simp[f211,gp]at ih⊢;simp[D,Z,V,ih,gp]
def ac9(s:Tx)(l:List Pn)(H:l.length<1000000):ak ctx 211 [.d (.list (l.map gp)),.fn 212 [.ptr 0 0 0]] [.box [.d (.str s)]]=some (.ret (.d (.int .i64 (rL (λq:Pn=>decide (q.name=s)) l 0))),[(0,.box [.d (.str s)])]):=by
 have h:=λk=>Lh s l [] (by simpa using H) k;rw[ahh (by simp)];simp[f211]at h⊢;simp[h];intro h;rcases Iz (λq:Pn=>decide (q.name=s)) l 0 with D|D
 .exact D.symm
 .omega
def Pa(s:Tx):∀(l:List Pn)(n:Nat),(match rM l s n with
 |some (i,q)=>rL (λq:Pn=>decide (q.name=s)) l n=i/\n<=i/\l[i-n]?=some q
 |none=>rL (λq:Pn=>decide (q.name=s)) l n= -1)
 |[],n=>rfl
 |q::l,n=>by
  have ih:=Pa s l (n+1);simp only[rM,rL];by_cases h:q.name=s
  .rw[aav h];simp[h]
  .rw[aaf h];simp only[h,decide_false,aeC,abc];cases I:rM l s (n+1)with
   |none=>rw[I]at ih;exact ih
   |some x=>
    obtain⟨i,w⟩:=x;rw[I]at ih;obtain⟨D,Z,y⟩:=ih;refine⟨D,by omega,?_⟩;rw[show i-n=(i-(n+1))+1 by omega];simpa using y
def Pb(p:Pg)(A2:p.vars.length<=1000)(A0:∀v∈p.vars,cJ v=true)(s f:Tx):∃b,ak ctx 149 [.d (gO p),.d (.str s),.d (.str f)] []=some (.ret (.bh [.d (.int .i64 (fL p.vars s f).1),.d (gp (fL p.vars s f).2),.d (.bool b)]),[]):=by
 have E:=te p A2 A0 s;have A7:0<=(bA p.vars s).1/\(bA p.vars s).1<=1000*1000:=by
  have key:∀(l:List Vr)(n:Int),(∀v∈l,cJ v=true)->0<=n->(lX l s n).1=0\/(n<=(lX l s n).1/\(lX l s n).1<=n+1000*l.length):=by
   intro l;induction l with
   |nil=>intro n _ _;exact .inl rfl
   |cons v r ih=>
    intro n J A8;have A9:=ku (J v (by simp));simp only[lX];split
    .exact .inr ⟨by omega,by simp;omega⟩
    .rcases ih (n+bR v) (λw hw=>J w (by simp[hw])) (by omega)with h|h
     .exact .inl h
     .exact .inr ⟨by omega,by simp;omega⟩
  unfold bA;rcases key p.vars 0 A0 (by omega)with h|h<;>omega
 have A1:=RG (bA p.vars s).2.ty;have AA:=yq (bA p.vars s).2.ty;have N:=ac9 f (eI (bA p.vars s).2.ty) (by omega);have M:=Pa f (eI (bA p.vars s).2.ty) 0;unfold fL;generalize (bA p.vars s)=A at*;obtain⟨n,w⟩:=A;simp only at*;rw[agR (by simp)];cases J:bk p.vars s with
 |none=>
  rw[J]at E;exact⟨_,by simp[f149,E,bx,cZ,kU,gp];rfl⟩
 |some v=>
  rw[J]at E;by_cases O:2<w.ty
  .by_cases A':f=[]
   .exact⟨_,by simp[f149,E,bx,cZ,kU,gp,O,A'];rfl⟩
   .cases I:rM (eI w.ty) f 0 with
    |none=>
     rw[I]at M;simp only at M;rw[M]at N;refine⟨false,?_⟩;simp[f149,E,bx,cZ,kU,gp,O,A',A1,N]
    |some x=>
     obtain⟨i,q⟩:=x;rw[I]at M;obtain⟨g1,g2,g3⟩:=M;refine⟨true,?_⟩;rw[g1]at N;have hi:i<(eI w.ty).length:=by
      have:=(aai.1 g3).1;simpa using this
     have A3:(eI w.ty)[i]=q:=by
      have:=(aai.1 g3).2;simpa using this
     have A4:=bu (n+i);have A5:¬((i:Int)<0):=by omega
     simp[f149,E,bx,cZ,O,A',A1,N,ai,A4,A5,hi,A3,gp]
  .have A6:w.ty<=2:=by omega
   exact⟨_,by simp[f149,E,bx,cZ,kU,gp,O,A6];rfl⟩
def Mk.aF(m:Mk)(l:List ax)(t:Int):Mk:={m with out:=m.out++l,most:=max m.most t}
def KE(p:Pg)(x:Ex):Prop:=∀(m:Mk)(h:Int),0<=h->h<=m.out.length->0<=m.most->m.out.length+(aj p.vars x).1.length<100000000->
 gX p (m.aF (aj p.vars x).1 (az h x)) (h+1) (.ret (.d (.bool (aj p.vars x).2))) (ak ctx 94 [.ptr 0 0 0,.d (.agg [.int .i64 (bO x),.int .i64 (il x),.str (dI x),.str (fQ x),.list ((da x).map bJ),.int .i64 (jH x)])] (gW p m h))
def R4{k:Int}{q:Pn}(h:q∈eI k):q.ty=1\/q.ty=2:=by
 by_cases A1:k∈iC
 .have all:∀q∈eI k,q.ty=1\/q.ty=2:=by
   simp only[iC,aam,aaH,ajl]at A1;rcases A1 with rfl|rfl|rfl|rfl|rfl|rfl|rfl|rfl|rfl|rfl|rfl|rfl|rfl|rfl|rfl|rfl|rfl|rfl|rfl|rfl|rfl<;>decide
  exact all q h
 .rw[rJ A1]at h;simp at h
section
variable {p:Pg} (Z:p.vars.length<=1000) (U:∀v∈p.vars,cJ v=true)
theorem aii{n line:Int}:KE p (.mk 1 n [] [] [] line):=by
 intro m h A' hh hm I;simp[aj]at I;obtain⟨v1,v2,v3,D⟩:=kQ p m h 1 (ins 1 0 0 n 0) (by omega) ((bu _));have e:m.aF (aj p.vars (.mk 1 n [] [] [] line)).1 (az h (.mk 1 n [] [] [] line))=m.put (ins 1 0 0 n 0) (h+1):=by simp[aj,az,Mk.aF,Mk.put]
 rw[e];generalize m.put (ins 1 0 0 n 0) (h+1)=M at*;simp[ins]at D;rw[BI (by simp)];simp[f94,D,aj];exact⟨_,_,_,rfl⟩
theorem aij{n line:Int}:KE p (.mk 2 n [] [] [] line):=by
 intro m h A' hh hm I;simp[aj]at I;obtain⟨v1,v2,v3,D⟩:=kQ p m h 1 (ins 1 0 0 n 0) (by omega) ((bu _));have e:m.aF (aj p.vars (.mk 2 n [] [] [] line)).1 (az h (.mk 2 n [] [] [] line))=m.put (ins 1 0 0 n 0) (h+1):=by simp[aj,az,Mk.aF,Mk.put]
 rw[e];generalize m.put (ins 1 0 0 n 0) (h+1)=M at*;simp[ins]at D;rw[BI (by simp)];simp[f94,D,aj];exact⟨_,_,_,rfl⟩
include Z U
theorem Uw{s:Tx}{v:Vr}(E:bk p.vars s=some v)(V:v.ty<=2):v.ty=1\/v.ty=2:=by
 have hm:v∈p.vars:=by
  have key:∀l:List Vr,bk l s=some v->v∈l:=by
   intro l;induction l with
   |nil=>intro h;simp[bk]at h
   |cons w r ih=>
    intro h;simp only[bk]at h;split at h
    .cases h;simp
    .exact abq _ (ih h)
  exact key _ E
 have:=U v hm;simp only[cJ,Ds,aiB,aaw]at this;rcases this.2.1.2 with h|h
 .exact h
 .have:v.ty∉iC\/v.ty∈iC:=by by_cases h:v.ty∈iC<;>simp[h]
  rcases this with O|O
  .unfold rK at h;rw[rJ O]at h;simp at h
  .simp only[iC,aam,aaH,ajl]at O;omega
theorem aik{name:Tx}{line:Int}{v:Vr}(E:bk p.vars name=some v)(V:v.ty<=2):KE p (.mk 3 0 name [] [] line):=by
 intro m h A' hh hm I;simp[aj]at I;have H:=te p Z U name;have J:=iX E;rw[E]at H;have A0:=Uw Z U E V;obtain⟨v1,v2,v3,D⟩:=IU p m h (bA p.vars name).1 v.ty (by omega) ((bu _));have A2:(if v.ty=2 then (3:Int)else 2)=1+v.ty:=by rcases A0 with h|h<;>rw[h]<;>rfl
 rw[A2]at D;have e:m.aF (aj p.vars (.mk 3 0 name [] [] line)).1 (az h (.mk 3 0 name [] [] line))=m.put (ins (1+v.ty) (bA p.vars name).1 0 0 0) (h+1):=by simp[aj,az,Mk.aF,Mk.put,J]
 have A3:(aj p.vars (.mk 3 0 name [] [] line)).2=decide (v.ty=2):=by simp[aj,J]
 rw[e,A3];rw[J]at H;generalize m.put (ins (1+v.ty) (bA p.vars name).1 0 0 0) (h+1)=M at*;simp at D;rw[BI (by simp)];simp[f94,H,bx,cZ,D,ai];exact⟨_,_,_,rfl⟩
theorem ail{name field:Tx}{line:Int}{v:Vr}{q:Pn}(E:bk p.vars name=some v)(V:2<v.ty)(A6:mE v.ty field=some q)(A8:dz field=true):KE p (.mk 5 0 name field [] line):=by
 intro m h A' hh hm I;simp[aj]at I;obtain⟨b,H⟩:=Pb p Z U name field;have J:(fL p.vars name field).2=q:=(s7 E V A6).1;have A0:q.ty=1\/q.ty=2:=R4 (s7 E V A6).2.1;obtain⟨v1,v2,v3,D⟩:=IU p m h (fL p.vars name field).1 q.ty (by omega) ((bu _));have A2:(if q.ty=2 then (3:Int)else 2)=1+q.ty:=by rcases A0 with h|h<;>rw[h]<;>rfl
 rw[A2]at D;have e:m.aF (aj p.vars (.mk 5 0 name field [] line)).1 (az h (.mk 5 0 name field [] line))=m.put (ins (1+q.ty) (fL p.vars name field).1 0 0 0) (h+1):=by simp[aj,az,Mk.aF,Mk.put,J]
 have A3:(aj p.vars (.mk 5 0 name field [] line)).2=decide (q.ty=2):=by simp[aj,J]
 rw[e,A3];rw[J]at H;generalize m.put (ins (1+q.ty) (fL p.vars name field).1 0 0 0) (h+1)=M at*;simp at D;simp[gp]at H;rw[BI (by simp)];simp[f94,H,D,ai];exact⟨_,_,_,rfl⟩
theorem aim{name:Tx}{line:Int}{v:Vr}{y:Ex}(E:bk p.vars name=some v)(V:v.ty<=2)(A7:KE p y):KE p (.mk 4 0 name [] [y] line):=by
 intro m h A' hh hm I;have J:=iX E;have A4:(aj p.vars (.mk 4 0 name [] [y] line))=((aj p.vars y).1++[ins (3+v.ty) (bA p.vars name).1 0 v.lo v.hi],decide (v.ty=2)):=by simp[aj,pE,J]
 rw[A4]at I;simp at I;have H:=te p Z U name;rw[E,J]at H;have A0:=Uw Z U E V;obtain⟨v1,v2,v3,A5⟩:=A7 m h A' hh hm (by omega);have A9:=j7 p.vars y;obtain⟨AA,AB,AC,D⟩:=kQ p (m.aF (aj p.vars y).1 (az h y)) (h+1) 0 (ins (3+v.ty) (bA p.vars name).1 0 v.lo v.hi) (by simp[Mk.aF];omega) ((bu _));have e:m.aF (aj p.vars (.mk 4 0 name [] [y] line)).1 (az h (.mk 4 0 name [] [y] line))=(m.aF (aj p.vars y).1 (az h y)).put (ins (3+v.ty) (bA p.vars name).1 0 v.lo v.hi) (h+1+0):=by
  rw[A4];simp[az,fE,Mk.aF,Mk.put];omega
 rw[e,A4];generalize (m.aF (aj p.vars y).1 (az h y)).put (ins (3+v.ty) (bA p.vars name).1 0 v.lo v.hi) (h+1+0)=M at*;generalize m.aF (aj p.vars y).1 (az h y)=N at*;simp[ins]at D A5;rw[BI (by simp)];rcases A0 with O|O
 .simp[O]at D;simp[f94,H,bx,cZ,aw,A5,D,ai,O];exact⟨_,_,_,rfl⟩
 .simp[O]at D;simp[f94,H,bx,cZ,aw,A5,D,ai,O];exact⟨_,_,_,rfl⟩
end
section
variable {p:Pg}
theorem ain{op line:Int}{y:Ex}(V:op=6\/op=7)(Z:KE p y):KE p (.mk op 0 [] [] [y] line):=by
 intro m h AB hh hm A';have AC:¬(op=1\/op=2):=by omega
 have I:¬op=3:=by omega
 have J:¬op=4:=by omega
 have O:¬op=5:=by omega
 have A0:¬op=1:=by omega
 have A1:¬op=2:=by omega
 have U:(aj p.vars (.mk op 0 [] [] [y] line))=((aj p.vars y).1++[ins 8 (if (aj p.vars y).2=true then 1 else 0) op 0 0],decide (op=7\/12<op)):=by simp[aj,gd,AC,I,J,O];rfl
 rw[U]at A';simp at A';obtain⟨v1,v2,v3,H⟩:=Z m h AB hh hm (by omega);have AF:=j7 p.vars y;obtain⟨AG,AH,AI,D⟩:=kQ p (m.aF (aj p.vars y).1 (az h y)) (h+1) 0 (ins 8 (if (aj p.vars y).2=true then 1 else 0) op 0 0) (by simp[Mk.aF];omega) ((bu _));have e:m.aF (aj p.vars (.mk op 0 [] [] [y] line)).1 (az h (.mk op 0 [] [] [y] line))=(m.aF (aj p.vars y).1 (az h y)).put (ins 8 (if (aj p.vars y).2=true then 1 else 0) op 0 0) (h+1+0):=by
  rw[U];have AD:¬(op=1\/op=2\/op=3\/op=5):=by omega
  simp[az,fE,Mk.aF,Mk.put,AD];omega
 rw[e,U];generalize (m.aF (aj p.vars y).1 (az h y)).put (ins 8 (if (aj p.vars y).2=true then 1 else 0) op 0 0) (h+1+0)=M at*;generalize m.aF (aj p.vars y).1 (az h y)=N at*;generalize (aj p.vars y).2=B at*;have E:IntKind.i64.wrap 1=1:=rfl;have w0:IntKind.i64.wrap 0=0:=rfl;simp[ins]at D H;rw[BI (by simp)];have A2:decide (13<=op)=decide (12<op):=by rw[aeI];omega
 cases B with
 |true=>
  simp at D;simp[f94,A0,A1,I,J,O,aw];rw[ag];simp[f94,aw,H,E,w0];rw[ag];simp[f94,H,D,E,w0,A2];exact⟨_,_,_,rfl⟩
 |false=>
  simp at D;simp[f94,A0,A1,I,J,O,aw];rw[ag];simp[f94,aw,H,E,w0];rw[ag];simp[f94,H,D,E,w0,A2];exact⟨_,_,_,rfl⟩
theorem aio{op line:Int}{y z:Ex}(V:8<=op)(Z:KE p y)(AJ:KE p z):KE p (.mk op 0 [] [] [y,z] line):=by
 intro m h AB hh hm A';have AC:¬(op=1\/op=2):=by omega
 have I:¬op=3:=by omega
 have J:¬op=4:=by omega
 have O:¬op=5:=by omega
 have A0:¬op=1:=by omega
 have A1:¬op=2:=by omega
 have U:(aj p.vars (.mk op 0 [] [] [y,z] line))=((aj p.vars y).1++((aj p.vars z).1++[ins 8 (if (aj p.vars z).2=true then 1 else 0) op 0 0]),decide (op=7\/12<op)):=by simp[aj,gd,AC,I,J,O];rfl
 rw[U]at A';simp at A';have AF:=j7 p.vars y;have AQ:=j7 p.vars z;obtain⟨v1,v2,v3,H⟩:=Z m h AB hh hm (by omega);obtain⟨t1,t2,t3,A3⟩:=AJ (m.aF (aj p.vars y).1 (az h y)) (h+1) (by omega) (by simp[Mk.aF];omega) (by simp[Mk.aF];omega) (by simp[Mk.aF];omega);obtain⟨AG,AH,AI,D⟩:=kQ p ((m.aF (aj p.vars y).1 (az h y)).aF (aj p.vars z).1 (az (h+1) z)) (h+1+1) (-1) (ins 8 (if (aj p.vars z).2=true then 1 else 0) op 0 0) (by simp[Mk.aF];omega) ((bu _));rw[show h+1+1+ -1=h+1 by omega]at D;have e:m.aF (aj p.vars (.mk op 0 [] [] [y,z] line)).1 (az h (.mk op 0 [] [] [y,z] line))=((m.aF (aj p.vars y).1 (az h y)).aF (aj p.vars z).1 (az (h+1) z)).put (ins 8 (if (aj p.vars z).2=true then 1 else 0) op 0 0) (h+1):=by
  rw[U];have AD:¬(op=1\/op=2\/op=3\/op=5):=by omega
  simp[az,fE,Mk.aF,Mk.put,AD];omega
 rw[e,U];generalize ((m.aF (aj p.vars y).1 (az h y)).aF (aj p.vars z).1 (az (h+1) z)).put (ins 8 (if (aj p.vars z).2=true then 1 else 0) op 0 0) (h+1)=M at*;generalize (m.aF (aj p.vars y).1 (az h y)).aF (aj p.vars z).1 (az (h+1) z)=AR at*;generalize m.aF (aj p.vars y).1 (az h y)=N at*;generalize (aj p.vars z).2=B at*;generalize (aj p.vars y).2=AS at*;have E:IntKind.i64.wrap 1=1:=rfl;have w0:IntKind.i64.wrap 0=0:=rfl;have A8:IntKind.i64.wrap 2=2:=rfl;have AE:IntKind.i64.wrap (-1)= -1:=rfl;have A2:decide (13<=op)=decide (12<op):=by rw[aeI];omega
 simp[ins]at D H A3;rw[BI (by simp)];cases B with
 |true=>
  simp at D A3;simp[f94,A0,A1,I,J,O,aw];rw[ag];simp[f94,aw,H,E,w0];rw[ag];simp[f94,aw,A3,E,w0,A8];rw[ag];simp[f94,D,E,w0,A8,AE,A2];exact⟨_,_,_,rfl⟩
 |false=>
  simp at D A3;simp[f94,A0,A1,I,J,O,aw];rw[ag];simp[f94,aw,H,E,w0];rw[ag];simp[f94,aw,A3,E,w0,A8];rw[ag];simp[f94,D,E,w0,A8,AE,A2];exact⟨_,_,_,rfl⟩
end
def ny{p:Pg}(A9:p.vars.length<=1000)(AA:∀v∈p.vars,cJ v=true):∀x:Ex,bE x=true->(aJ p.vars x).e=0->KE p x
 | .mk op n name field sub line,AK,ex=>by
  have ih:∀y∈sub,bE y=true->(aJ p.vars y).e=0->KE p y:=λy Z=>ny A9 AA y;have AL:=Ao AK ex;cases AL with
  |num h=>exact aii
  |sk h=>exact aij
  |var A4 D A5=>exact aik A9 AA A4 A5
  |idx A4 D A5 A6 A7 ty=>exact aim A9 AA A4 A5 (ih _ (by simp) A6 A7)
  |Rx A4 A5 AM AN=>exact ail A9 AA A4 A5 AM AN
  |one V A6 A7 ty=>exact ain V (ih _ (by simp) A6 A7)
  |two V A6 A7 AO AP ty AT=>exact aio V.1 (ih _ (by simp) A6 A7) (ih _ (by simp) AO AP)
termination_by x=>SizeOf.sizeOf x
decreasing_by all_goals (simp_wf;have:=amM Z;omega)
end Go.Am
end
section
namespace Go.Am
open Go
set_option maxRecDepth 100000
set_option maxHeartbeats 8000000
def iZ(ex:List (List Int))(a:List Int):List (List Int):=
 match ex.getLast? with
 |some r=>ex.dropLast++[r++a]
 |none=>[]
def ky(ex:List (List Int))(r a:List Int):iZ (ex++[r]) a=ex++[r++a]:=by simp[iZ]
def oL(ex:List (List Int)):iZ ex []=ex:=by
 rcases aiu ex with h|⟨l,r,h⟩
 .subst h;rfl
 .rw[h,ajt,ky,aee]
def Li(ex:List (List Int))(a b:List Int):iZ (iZ ex a) b=iZ ex (a++b):=by
 rcases aiu ex with h|⟨l,r,h⟩
 .subst h;rfl
 .rw[h,ajt,ky,ky,ky,adX]
@[simp] def Xh(ex:List (List Int))(a:List Int):(iZ ex a).length=ex.length:=by
 rcases aiu ex with h|⟨l,r,h⟩
 .subst h;rfl
 .rw[h,ajt,ky];simp
def Mk.aW(m:Mk)(l:List ax)(c t:Int):Mk:=
 ⟨m.out++di m.out.length l,c,max m.most t,iZ m.ex (db (-1) m.out.length l),m.lv++db (-2) m.out.length l⟩
def EO(m:Mk)(a b:List ax)(c H t I:Int):(m.aW a c t).aW b H I=m.aW (jn a b) H (max t I):=by
 unfold Mk.aW;simp only[Mk.mk.injEq,aal,oZ];rw[Ov,L9 (by decide),L9 (by decide),Li];simp[adX,Int.max_assoc]
def ZC(m:Mk)(h:0<=m.most):m.aW [] m.cells 0=m:=by
 unfold Mk.aW;simp[db,oL];cases m;simp at h⊢;omega
def qU{m:Mk}{l:List ax}(h:Flat l)(t:Int):m.aW l m.cells t=m.aF l t:=by
 unfold Mk.aW Mk.aF;rw[h.di,s9 h,s9 h,oL];simp
def BO{m:Mk}{l:List ax}{x:ax}{t u:Int}:(m.aF l t).put x u=m.aF (l++[x]) (max t u):=by
 unfold Mk.aF Mk.put;simp[adX,Int.max_assoc]
def Lj{m:Mk}{l r:List ax}{t u:Int}:(m.aF l t).aF r u=m.aF (l++r) (max t u):=by
 unfold Mk.aF;simp[adX,Int.max_assoc]
def ZD{m:Mk}{x:ax}{u:Int}:m.put x u=m.aF [x] u:=rfl
def yE{m:Mk}{l:List ax}{t u:Int}(h:max m.most t=max m.most u):m.aF l t=m.aF l u:=by
 unfold Mk.aF;rw[h]
def oM{m:Mk}{l:List ax}{c t u:Int}(h:max m.most t=max m.most u):m.aW l c t=m.aW l c u:=by
 unfold Mk.aW;rw[h]
def nK(h:Int)(x:Ex):h+1<=az h x:=by
 obtain⟨op,n,name,field,sub,line⟩:=x;unfold az;split
 .exact aje _
 .omega
def DZ(k:Int):∀(l:List ax)(n:Nat),∀i∈db k n l,∃j:Nat,i=j/\j<n+l.length
 |[],n,i,h=>by simp[db]at h
 |x::r,n,i,h=>by
  simp only[db]at h;have key:i∈db k (n+1) r->∃j:Nat,i=j/\j<n+(x::r).length:=λh=>by
   obtain⟨j,e,M⟩:=DZ k r (n+1) i h;exact⟨j,e,by simp;omega⟩
  split at h
  .rcases aam.1 h with rfl|h
   .exact⟨n,rfl,by simp⟩
   .exact key h
  .exact key h
def tf(k:Int):∀(l:List ax)(n:Nat),(db k n l).length<=l.length
 |[],n=>by simp[db]
 |x::r,n=>by
  have:=tf k r (n+1);simp only[db];split<;>simp<;>omega
def jK(m:Mk):Prop:=m.lv.length<=m.out.length/\∀r∈m.ex,r.length<=m.out.length
def Xi{ex:List (List Int)}{a r:List Int}(h:r∈iZ ex a):∃E∈ex,r.length<=E.length+a.length:=by
 rcases aiu ex with e|⟨l,q,e⟩
 .subst e;simp[iZ]at h
 .rw[e,ajt]at h⊢;rw[ky]at h;rcases aaA.1 h with h|h
  .exact⟨r,by simp[h],by omega⟩
  .simp at h;subst h;exact⟨q,by simp,by simp⟩
def jK.put{m:Mk}(h:jK m)(x:ax)(t:Int):jK (m.put x t):=
 ⟨by have:=h.1;simp[Mk.put];omega,λr D=>by have:=h.2 r D;simp[Mk.put];omega⟩
def jK.aF{m:Mk}(h:jK m)(l:List ax)(t:Int):jK (m.aF l t):=
 ⟨by have:=h.1;simp[Mk.aF];omega,λr D=>by have:=h.2 r D;simp[Mk.aF];omega⟩
def jK.aW{m:Mk}(h:jK m)(l:List ax)(c t:Int):jK (m.aW l c t):=by
 refine⟨?_,λr D=>?_⟩
 .have:=h.1;have:=tf (-2) l m.out.length;simp[Mk.aW];omega
 .obtain⟨E,J,D⟩:=Xi D;have:=h.2 E J;have:=tf (-1) l m.out.length;simp[Mk.aW];omega
def jK.lead{m:Mk}(h:jK m)(i:Int):jK (m.lead i):=by
 have e:(m.lead i).out.length=m.out.length:=by simp[Mk.lead]
 exact⟨by rw[e];exact h.1,λr D=>by rw[e];exact h.2 r D⟩
end Go.Am
end
section
namespace Go.Am
open Go Go.Proofs Go.Proofs.Tryz
variable [Inhabited bP]
set_option maxRecDepth 100000
set_option maxHeartbeats 8000000
section
variable {p:Pg} (D:p.vars.length<=1000) (E:∀v∈p.vars,cJ v=true)
include D E
theorem Xj{name:Tx}{U V:Int}{v:Vr}{val:Ex}(O:bk p.vars name=some v)(Z:bE val=true)(A':(aJ p.vars val).e=0)(m:Mk)(hm:0<=m.most)(A1:m.out.length+(aj p.vars val).1.length<99999999):
 gX p (m.aF ((aj p.vars val).1++[ins 6 (bA p.vars name).1 0 0 0]) (az 0 val)) 0 (.ret (.bh [])) (ak ctx 91 [.ptr 0 0 0,.d (bZ (.mk 1 [] (.mk 3 0 name [] [] U) val [] [] [] [] V))] (gW p m 0)):=by
 have H:=te p D E name;rw[O]at H;obtain⟨v1,v2,v3,I⟩:=ny D E val Z A' m 0 (by omega) (by omega) hm (by omega);obtain⟨A2,A3,A4,J⟩:=tc p (m.aF (aj p.vars val).1 (az 0 val)) 1 (bA p.vars name).1 (by simp[Mk.aF];omega) (by decide);have e:m.aF ((aj p.vars val).1++[ins 6 (bA p.vars name).1 0 0 0]) (az 0 val)=(m.aF (aj p.vars val).1 (az 0 val)).put (ins 6 (bA p.vars name).1 0 0 0) (1+ -1):=by
  rw[BO];exact yE (by have:=nK 0 val;omega)
 rw[e];generalize (m.aF (aj p.vars val).1 (az 0 val)).put (ins 6 (bA p.vars name).1 0 0 0) (1+ -1)=M at*;generalize m.aF (aj p.vars val).1 (az 0 val)=N at*;simp at I J;rw[aa0 (by simp)];simp[f91,dk,H,bx,cZ,I,J,ai];exact⟨_,_,_,rfl⟩
theorem Xk{name:Tx}{U V:Int}{v:Vr}{y val:Ex}(O:bk p.vars name=some v)(A5:bE y=true)(A6:(aJ p.vars y).e=0)(Z:bE val=true)(A':(aJ p.vars val).e=0)(m:Mk)(hm:0<=m.most)(A1:m.out.length+(aj p.vars y).1.length+(aj p.vars val).1.length<99999999):
 gX p (m.aF ((aj p.vars y).1++((aj p.vars val).1++[ins 7 (bA p.vars name).1 0 v.lo v.hi])) (max (az 0 y) (az 1 val))) 0 (.ret (.bh [])) (ak ctx 91 [.ptr 0 0 0,.d (bZ (.mk 1 [] (.mk 4 0 name [] [y] U) val [] [] [] [] V))] (gW p m 0)):=by
 have H:=te p D E name;rw[O,iX O]at H;obtain⟨v1,v2,v3,I⟩:=ny D E y A5 A6 m 0 (by omega) (by omega) hm (by omega);have A7:=j7 p.vars y;obtain⟨t1,t2,t3,A0⟩:=ny D E val Z A' (m.aF (aj p.vars y).1 (az 0 y)) 1 (by omega) (by simp[Mk.aF];omega) (by simp[Mk.aF];omega) (by simp[Mk.aF];omega);obtain⟨A2,A3,A4,J⟩:=kQ p ((m.aF (aj p.vars y).1 (az 0 y)).aF (aj p.vars val).1 (az 1 val)) 2 (-2) (ins 7 (bA p.vars name).1 0 v.lo v.hi) (by simp[Mk.aF];omega) (by decide);have e:m.aF ((aj p.vars y).1++((aj p.vars val).1++[ins 7 (bA p.vars name).1 0 v.lo v.hi])) (max (az 0 y) (az 1 val))=((m.aF (aj p.vars y).1 (az 0 y)).aF (aj p.vars val).1 (az 1 val)).put (ins 7 (bA p.vars name).1 0 v.lo v.hi) (2+ -2):=by
  rw[Lj,BO,adX];exact yE (by have:=nK 0 y;omega)
 rw[e];generalize ((m.aF (aj p.vars y).1 (az 0 y)).aF (aj p.vars val).1 (az 1 val)).put (ins 7 (bA p.vars name).1 0 v.lo v.hi) (2+ -2)=M at*;generalize (m.aF (aj p.vars y).1 (az 0 y)).aF (aj p.vars val).1 (az 1 val)=A8 at*;generalize m.aF (aj p.vars y).1 (az 0 y)=N at*;simp[ins]at I A0 J;rw[aa0 (by simp)];simp[f91,dk,H,bx,cZ,aw,I,A0,J,ai];exact⟨_,_,_,rfl⟩
end
@[simp] def mqM(p:Pg)(m:Mk)(h:Int)(v1 v2 v3:Nat):List cL:=[⟨0,0,.box [.d (.str p.name),.d (.list (p.vars.map bx)),.d (.list (p.body.map bZ)),.vec 1 v1 0 m.out.length,.d (.int .i64 m.cells),.d (.int .i64 h),.d (.int .i64 m.most),.vec 2 v2 0 m.ex.length,.vec 3 v3 0 m.lv.length]⟩,⟨1,v1,.vec 5 (m.out.map aZ)⟩,⟨2,v2,.vv (m.ex.map gV) none⟩,⟨3,v3,.vec 1 (m.lv.map du)⟩]
section
variable {p:Pg} (H:p.vars.length<=1000) (I:∀v∈p.vars,cJ v=true)
include H I
theorem IX(x:Sm)(A0:(dy x).length<100000000)(at_:AV)(v:Vr)(k:Kt)(Q:Mk->bU->Prop)
 (J:∀(Y:Env) M v1 v2 v3 v6 X6,Q M (k (.exit 0) ⟨60,aC,(0,true,.ptr 0 0 0)::(3,true,.ptr 250 1 0)::(4,true,at_)::(5,true,.ptr 350 1 0)::Y,mqM p M 0 v1 v2 v3++[⟨250,1,bB x⟩,⟨350,1,fF v⟩,⟨600,v6,X6⟩]⟩)):
 ∀(fr fp:List Tx)(D O:List Ex)(m:Mk)(v1 v2 v3 v6:Nat)(X6:aE),dy x=fp++fr->bS x=O++D->fp.length=O.length->fr.length=D.length->(∀c∈D,bE c=true/\(aJ p.vars c).e=0)->0<=m.most->m.out.length+(cV p.vars (eG x) fr D).length<99999999->
 Q (m.aF (cV p.vars (eG x) fr D) (eL D)) (aK ctx 99 (.loop (Code.at (aU f99) [1,1,0,1,0,0])) ⟨60,aC,[(0,true,.ptr 0 0 0),(3,true,.ptr 250 1 0),(4,true,at_),(5,true,.ptr 350 1 0),(24,true,.d (.list ((dy x).map .str))),(25,true,.d (.int .i64 (dy x).length)),(26,true,.d (.int .i64 fp.length))],mqM p m 0 v1 v2 v3++[⟨250,1,bB x⟩,⟨350,1,fF v⟩,⟨600,v6,X6⟩]⟩ k)
 |[],fp,D,O,m,v1,v2,v3,v6,X6,U,V,Z,y,E,hm,A'=>by
  have A1:D=[]:=xo (by simpa using y.symm);subst A1;have e:m.aF (cV p.vars (eG x) [] []) (eL [])=m:=by
   simp[cV,eL,Mk.aF];cases m;simp at hm⊢;omega
  rw[e];have A8:fp.length=(dy x).length:=by rw[U];simp
  have:=J [(24,true,.d (.list ((dy x).map .str))),(25,true,.d (.int .i64 (dy x).length)),(26,true,.d (.int .i64 (dy x).length)),(27,true,.d (.bool false))] m v1 v2 v3 v6 X6;simp at this;rw[A8,ag];simp[f99,this]
 |f::fr,fp,D,O,m,v1,v2,v3,v6,X6,U,V,Z,y,E,hm,A'=>by
  obtain⟨c,D,rfl⟩:∃c r,D=c::r:=by
   cases D with
   |nil=>simp at y
   |cons c r=>exact⟨c,r,rfl⟩
  have AP:=j7 p.vars c;have A9:cV p.vars (eG x) (f::fr) (c::D)=((aj p.vars c).1++[ins 6 (fL p.vars (eG x) f).1 0 0 0])++cV p.vars (eG x) fr D:=by simp[cV]
  rw[A9]at A'⊢;simp at A';obtain⟨AA,AB⟩:=E c (by simp);obtain⟨b,A3⟩:=Pb p H I (eG x) f;obtain⟨s1,s2,AQ,A4⟩:=ny H I c AA AB m 0 (by omega) (by omega) hm (by omega);obtain⟨AC,AD,AE,A5⟩:=tc p (m.aF (aj p.vars c).1 (az 0 c)) 1 (fL p.vars (eG x) f).1 (by simp[Mk.aF];omega) (by decide);have e:m.aF (((aj p.vars c).1++[ins 6 (fL p.vars (eG x) f).1 0 0 0])++cV p.vars (eG x) fr D) (eL (c::D))=((m.aF (aj p.vars c).1 (az 0 c)).put (ins 6 (fL p.vars (eG x) f).1 0 0 0) (1+ -1)).aF (cV p.vars (eG x) fr D) (eL D):=by
   rw[BO,Lj];exact yE (by have:=nK 0 c;simp only[eL];omega)
  rw[e];have AF:0<=((m.aF (aj p.vars c).1 (az 0 c)).put (ins 6 (fL p.vars (eG x) f).1 0 0 0) (1+ -1)).most:=by simp[Mk.put,Mk.aF];omega
  have AG:((m.aF (aj p.vars c).1 (az 0 c)).put (ins 6 (fL p.vars (eG x) f).1 0 0 0) (1+ -1)).out.length=m.out.length+(aj p.vars c).1.length+1:=by simp[Mk.put,Mk.aF];omega
  have ih:=λv1 v2 v3 v6 X6=>IX x A0 at_ v k Q J fr (fp++[f]) D (O++[c]) ((m.aF (aj p.vars c).1 (az 0 c)).put (ins 6 (fL p.vars (eG x) f).1 0 0 0) (1+ -1)) v1 v2 v3 v6 X6 (by simp[U]) (by simp[V]) (by simp[Z]) (by simpa using y) (λc A1=>E c (by simp[A1])) AF (by rw[AG];omega);clear J E e;generalize (m.aF (aj p.vars c).1 (az 0 c)).put (ins 6 (fL p.vars (eG x) f).1 0 0 0) (1+ -1)=M at*;generalize m.aF (aj p.vars c).1 (az 0 c)=N at*;have AH:fp.length<(dy x).length:=by rw[U];simp
  have AI:(dy x)[fp.length]=f:=by simp[U]
  have AJ:fp.length<(bS x).length:=by rw[V,Z];simp
  have AK:(bS x)[fp.length]=c:=by simp[V,Z]
  have AL:=bu ((fp.length:Int)+1);rw[ag];simp at A4 A5 A3;simp[f99]at ih⊢;simp[AH,AI,AJ,AK,aw,gp,A3,A4,A5,ai,AL,ih]
theorem ada{name:Tx}{to val:Ex}{conds:List Ex}{fields:List Tx}{line:Int}{v:Vr}(A6:bk p.vars name=some v)(AM:conds.length=fields.length)(A0:fields.length<100000000)(E:∀c∈conds,bE c=true/\(aJ p.vars c).e=0)(m:Mk)(hm:0<=m.most)(A':m.out.length+(cV p.vars name fields conds).length<99999998):
 gX p (m.aF (cV p.vars name fields conds++[ins 12 (bA p.vars name).1 v.ty 0 0]) (eL conds)) 0 (.ret (.bh [])) (ak ctx 99 [.ptr 0 0 0,.d (bZ (.mk 9 name to val conds [] fields [] line))] (gW p m 0)):=by
 have A7:=te p H I name;rw[A6,iX A6]at A7;have AN:=λ(N:Mk) (h:N.out.length<100000000)=>kQ p N 0 0 (ins 12 (bA p.vars name).1 v.ty 0 0) h (by decide);have e:m.aF (cV p.vars name fields conds++[ins 12 (bA p.vars name).1 v.ty 0 0]) (eL conds)=(m.aF (cV p.vars name fields conds) (eL conds)).put (ins 12 (bA p.vars name).1 v.ty 0 0) (0+0):=by
  rw[BO];exact yE (by omega)
 rw[e];obtain⟨AC,AD,AE,hu⟩:=AN (m.aF (cV p.vars name fields conds) (eL conds)) (by simp[Mk.aF];omega);have A2:=λ(at_:AV) (k:Kt) (Q:Mk->bU->Prop) J v6 X6=>IX H I (.mk 9 name to val conds [] fields [] line) A0 at_ v k Q J fields [] conds [] m 0 0 0 v6 X6 rfl rfl rfl AM.symm E hm (by simpa using (by omega:m.out.length+(cV p.vars name fields conds).length<99999999));rw[alO (by simp)];generalize (m.aF (cV p.vars name fields conds) (eL conds)).put (ins 12 (bA p.vars name).1 v.ty 0 0) (0+0)=M at*;simp only[afj,Ws,Wr]at A2;generalize m.aF (cV p.vars name fields conds) (eL conds)=N at*;simp[ins]at hu;simp[f99]at A2⊢;simp[dk,A7,bx,cZ,ai];refine A2 _ _ (λX r=>X=N->gX p M 0 (.ret (.bh [])) r) (λY X v1 v2 v3 v6 X6 AO=>?_) _ _ rfl;subst AO;simp[f99,hu];exact⟨_,_,_,rfl⟩
end
end Go.Am
end
section
namespace Go.Am
open Go
set_option maxRecDepth 100000
set_option maxHeartbeats 8000000
def dY:List (List ax×Int)->Int
 |[]=>0
 |t::r=>max t.2 (dY r)
def dQ(ts:List (List ax×Int)):List (List ax):=ts.map (·.1)
def Mk.dS(m:Mk)(ts:List (List ax×Int))(bs:List (List ax))(c t:Int):Mk:=
 ⟨m.out++lE 0 m.out.length (dQ ts) bs,c,max m.most t,iZ m.ex (yy (-1) m.out.length (dQ ts) bs),m.lv++yy (-2) m.out.length (dQ ts) bs⟩
def Pd(m:Mk)(ts:List (List ax×Int))(h:0<=m.most):m.dS ts [] m.cells 0=m:=by
 unfold Mk.dS;have N:lE 0 m.out.length (dQ ts) []=[]:=by unfold lE;rfl
 have E:∀k,yy k m.out.length (dQ ts) []=[]:=λk=>by unfold yy;rfl
 rw[N,E,E,oL];cases m;simp at h⊢;omega
def Mk.gY(m:Mk)(t:List ax×Int):Mk:=(m.aF t.1 t.2).put (ins 10 0 0 0 0) 0
def BP(a b c:List ax)(x:ax)(v:Int)(k:Int)(O:k=((a.length+b.length:Nat):Int)):setAt (a++b++x::c) k v=a++b++{x with a:=v}::c:=by
 have:=uA (a++b) x c v;simp only[aal]at this;rw[O];exact this
def R5(m:Mk)(t:List ax×Int)(ts:List (List ax×Int))(b:List ax)(c u:Int)(U:0<=m.most):
 ((m.gY t).aW b c u).lead (m.out.length+t.1.length:Nat)=m.dS (t::ts) [b] c (max t.2 u):=by
 unfold Mk.gY Mk.aF Mk.put Mk.aW Mk.lead Mk.dS dQ;simp only[aaK,lE,yy,ad1,aee,Mk.mk.injEq,amD];have D:(m.out++t.1++[ins 10 0 0 0 0]).length=m.out.length+t.1.length+1:=by simp;omega
 rw[D];refine⟨?_,by omega,rfl,rfl⟩;have:=BP m.out t.1 (di (m.out.length+t.1.length+1) b) (ins 10 0 0 0 0) ((m.out.length+t.1.length+1+b.length:Nat):Int) ((m.out.length+t.1.length:Nat):Int) rfl;simp only[ins]at this⊢;have E:((m.out++t.1++[({op:=10,a:=0,b:=0,n:=0,m:=0}:ax)]++di (m.out.length+t.1.length+1) b).length:Int)=((m.out.length+t.1.length+1+b.length:Nat):Int):=by simp;omega
 rw[E];have H:m.out++t.1++[({op:=10,a:=0,b:=0,n:=0,m:=0}:ax)]++di (m.out.length+t.1.length+1) b=m.out++t.1++({op:=10,a:=0,b:=0,n:=0,m:=0}:ax)::di (m.out.length+t.1.length+1) b:=by simp
 rw[H,this];simp
def R6(m:Mk)(t:List ax×Int)(ts:List (List ax×Int))(b:List ax)(bs:List (List ax))(c I u J:Int)(U:0<=m.most)(V:bs≠[]):
 ((((m.gY t).aW b c u).put (ins 9 0 0 0 0) 0).lead (m.out.length+t.1.length:Nat)).dS ts bs I J=m.dS (t::ts) (b::bs) I (max t.2 (max u J)):=by
 have Z:((((m.gY t).aW b c u).put (ins 9 0 0 0 0) 0).lead (m.out.length+t.1.length:Nat)).out.length=m.out.length+t.1.length+2+b.length:=by
  simp[Mk.gY,Mk.aF,Mk.put,Mk.aW,Mk.lead];omega
 have y:((((m.gY t).aW b c u).put (ins 9 0 0 0 0) 0).lead (m.out.length+t.1.length:Nat)).out=m.out++(t.1++ins 10 (m.out.length+t.1.length+2+b.length) 0 0 0::(di (m.out.length+t.1.length+1) b++[ins 9 0 0 0 0])):=by
  unfold Mk.gY Mk.aF Mk.put Mk.aW Mk.lead;simp only
  have D:(m.out++t.1++[ins 10 0 0 0 0]).length=m.out.length+t.1.length+1:=by simp;omega
  rw[D];have:=BP m.out t.1 (di (m.out.length+t.1.length+1) b++[ins 9 0 0 0 0]) (ins 10 0 0 0 0) ((m.out.length+t.1.length+2+b.length:Nat):Int) ((m.out.length+t.1.length:Nat):Int) rfl;have E:((m.out++t.1++[ins 10 0 0 0 0]++di (m.out.length+t.1.length+1) b++[ins 9 0 0 0 0]).length:Int)=((m.out.length+t.1.length+2+b.length:Nat):Int):=by simp;omega
  rw[E];have H:m.out++t.1++[ins 10 0 0 0 0]++di (m.out.length+t.1.length+1) b++[ins 9 0 0 0 0]=m.out++t.1++ins 10 0 0 0 0::(di (m.out.length+t.1.length+1) b++[ins 9 0 0 0 0]):=by simp
  rw[H,this];simp[ins]
 have hex:((((m.gY t).aW b c u).put (ins 9 0 0 0 0) 0).lead (m.out.length+t.1.length:Nat)).ex=iZ m.ex (db (-1) (m.out.length+t.1.length+1) b):=by
  unfold Mk.gY Mk.aF Mk.put Mk.aW Mk.lead;simp only
  have D:(m.out++t.1++[ins 10 0 0 0 0]).length=m.out.length+t.1.length+1:=by simp;omega
  rw[D]
 have A':((((m.gY t).aW b c u).put (ins 9 0 0 0 0) 0).lead (m.out.length+t.1.length:Nat)).lv=m.lv++db (-2) (m.out.length+t.1.length+1) b:=by
  unfold Mk.gY Mk.aF Mk.put Mk.aW Mk.lead;simp only
  have D:(m.out++t.1++[ins 10 0 0 0 0]).length=m.out.length+t.1.length+1:=by simp;omega
  rw[D]
 have A0:((((m.gY t).aW b c u).put (ins 9 0 0 0 0) 0).lead (m.out.length+t.1.length:Nat)).most=max m.most (max t.2 u):=by
  simp[Mk.gY,Mk.aF,Mk.put,Mk.aW,Mk.lead];omega
 generalize (((m.gY t).aW b c u).put (ins 9 0 0 0 0) 0).lead (m.out.length+t.1.length:Nat)=M at*;unfold Mk.dS;rw[Z,y,hex,A',A0];simp only[dQ,aaK,lE,yy,aaf V,Mk.mk.injEq,amD,Li,adX];exact⟨by simp,by omega,trivial⟩
def R7(m:Mk)(b:List ax)(c u:Int):m.aW b c u=m.dS [] [b] c u:=by
 unfold Mk.aW Mk.dS dQ;simp[lE,yy]
end Go.Am
end
section
namespace Go.Am
open Go Go.Proofs Go.Proofs.Tryz
variable [Inhabited bP]
set_option maxRecDepth 100000
set_option maxHeartbeats 8000000
def Lk(p:Pg)(m:Mk)(h:Int)(s:Sm)(o:Out)(r:bU):Prop:=∃v1 v2 v3,r=some (o,[(0,.box [.ptr 2 0 0]),(0,bB s),(0,iY p m h 3 4 5 v1 v2 v3),(v1,.vec 5 (m.out.map aZ)),(v2,.vv (m.ex.map gV) none),(v3,.vec 1 (m.lv.map du))])
section
variable {p:Pg} (D:p.vars.length<=1000) (H:∀v∈p.vars,cJ v=true)
include D H
theorem adb(s:Sm)(i:Nat)(c:Ex)(I:(bS s)[i]?=some c)(N:bE c=true)(O:(aJ p.vars c).e=0)(m:Mk)(hm:0<=m.most)(y:m.out.length+(aj p.vars c).1.length<99999999):
 Lk p (m.aF (aj p.vars c).1 (az 0 c)) 1 s (.ret (.bh [])) (ak ctx 93 [.d (.int .i64 i),.ptr 0 0 0,.ptr 1 0 0] [.box [.ptr 2 0 0],bB s,iY p m 0 3 4 5 0 0 0,.vec 5 (m.out.map aZ),.vv (m.ex.map gV) none,.vec 1 (m.lv.map du)]):=by
 obtain⟨v1,v2,v3,J⟩:=ny D H c N O m 0 (by omega) (by omega) hm (by omega);have U:i<(bS s).length:=(aai.1 I).1;have V:(bS s)[i]=c:=(aai.1 I).2;generalize m.aF (aj p.vars c).1 (az 0 c)=M at*;simp at J;rw[alL (by simp)];simp[f93,ai,U,V,aw,J];exact⟨_,_,_,rfl⟩
end
mutual
def AA:Sm->Nat
 | .mk _ _ _ _ _ _ _ blocks _=>zz blocks+1
def jL:List Sm->Nat
 |[]=>0
 |x::r=>max (AA x) (jL r)
def zz:List (List Sm)->Nat
 |[]=>0
 |b::r=>max (jL b) (zz r)
end
def GJ:∀{l:List (List Sm)}{b:List Sm},b∈l->jL b<=zz l
 |c::r,b,h=>by
  simp only[zz];rcases aam.1 h with rfl|h
  .omega
  .have:=GJ h;omega
def xz(p:Pg)(lp:Bool)(b:List Sm):Prop:=∀(m:Mk),0<=m.most->0<=m.cells->jK m->(lp=true->m.ex≠[])->m.out.length+(ah p.vars b m.cells).1.length<99999990->(ah p.vars b m.cells).2<99999990->m.ex.length+jL b<99999990->
 gX p (m.aW (ah p.vars b m.cells).1 (ah p.vars b m.cells).2 (aM b)) 0 (.ret (.bh [])) (ak ctx 29 [.ptr 0 0 0,.d (.list (b.map bZ))] (gW p m 0))
@[simp] def FH(p:Pg)(m:Mk)(s:Sm)(E:List Int)(v1 v2 v3 Z:Nat):List cL:=[⟨0,0,iY p m 0 3 4 5 v1 v2 v3⟩,⟨1,0,.box [.ptr 0 0 0]⟩,⟨2,0,bB s⟩,⟨3,v1,.vec 5 (m.out.map aZ)⟩,⟨4,v2,.vv (m.ex.map gV) none⟩,⟨5,v3,.vec 1 (m.lv.map du)⟩,⟨500,Z,.vec 1 (E.map du)⟩]
def ade{p:Pg}{s:Sm}{blocks:List (List Sm)}{n i:Nat}{b:List Sm}(U:i<blocks.length)(V:blocks[i]=b)(Z:i<n)(A3:n<99999990)(A4:i+1<blocks.length)(A5:blocks.length<99999990)
 {m H I:Mk} (N:Lk p H 1 s (.ret (.bh [])) (ak ctx 93 [.d (.int .i64 i),.ptr 0 0 0,.ptr 1 0 0] [.box [.ptr 2 0 0],bB s,iY p m 0 3 4 5 0 0 0,.vec 5 (m.out.map aZ),.vv (m.ex.map gV) none,.vec 1 (m.lv.map du)]))
 (A8:H.out.length<99999990)
 (J:gX p I 0 (.ret (.bh [])) (ak ctx 29 [.ptr 0 0 0,.d (.list (b.map bZ))] (gW p (H.put (ins 10 0 0 0 0) 0) 0)))
 (A9:H.out.length<I.out.length/\I.out.length<99999990) (E:List Int) (AA:E.length<99999990) (k:Kt) (Q:bU->Prop)
 (M:∀v1 v2 v3 D,Q (aK ctx 92 (.loop (Code.at (aU f92) [1,0,1,0,0])) ⟨49,aC,[(0,true,.ptr 0 0 0),(1,true,.d (.list (blocks.map dr))),(2,true,.d (.int .i64 n)),(3,true,.fn 93 [.ptr 1 0 0,.ptr 2 0 0]),(8,true,.vec 500 D 0 (E.length+1)),(12,true,.d (.list (blocks.map dr))),(13,true,.d (.int .i64 blocks.length)),(14,true,.d (.int .i64 (i+1)))],FH p ((I.put (ins 9 0 0 0 0) 0).lead H.out.length) s (E++[(I.out.length:Int)]) v1 v2 v3 D⟩ k))
 (v1 v2 v3 D:Nat):
 Q (aK ctx 92 (.loop (Code.at (aU f92) [1,0,1,0,0])) ⟨49,aC,[(0,true,.ptr 0 0 0),(1,true,.d (.list (blocks.map dr))),(2,true,.d (.int .i64 n)),(3,true,.fn 93 [.ptr 1 0 0,.ptr 2 0 0]),(8,true,.vec 500 D 0 E.length),(12,true,.d (.list (blocks.map dr))),(13,true,.d (.int .i64 blocks.length)),(14,true,.d (.int .i64 i))],FH p m s E v1 v2 v3 D⟩ k):=by
 obtain⟨AB,a2,a3,N⟩:=N;obtain⟨AC,AD,AE,O⟩:=BN p H 1 0 (by omega) (by decide);rw[show (1:Int)+ -1=0 by omega]at O;obtain⟨d1,d2,d3,J⟩:=J;obtain⟨AI,AJ,AK,A6⟩:=IT p I 0 0 (by omega) (by decide);have A7:(I.put (ins 9 0 0 0 0) 0).out.length=I.out.length+1:=by simp[Mk.put]
 have y:=uD p (I.put (ins 9 0 0 0 0) 0) 0 H.out.length (by rw[A7];omega) (by rw[A7];omega);have A':=bu ((i:Int)+1);have A0:=bu ((blocks.length:Int)-1);have A1:(i:Int)<(blocks.length:Int)-1:=by omega
 have AF:E.length<=4611686018427387903:=by omega
 have AG:(E.length+1)*8<=140737488355328:=by omega
 have A2:(0:Int)<=H.out.length:=by omega
 generalize (I.put (ins 9 0 0 0 0) 0).lead H.out.length=AH at*;generalize I.put (ins 9 0 0 0 0) 0=AL at*;generalize H.put (ins 10 0 0 0 0) 0=M2 at*;rw[ag];simp at N O J A6 y;simp[f92]at M⊢;simp[U,V,dr,Z,N,O,J,A6,y,A',A0,A1,AF,AG,A2,M]
def adf{p:Pg}{s:Sm}{blocks:List (List Sm)}{n i:Nat}{b:List Sm}(U:i<blocks.length)(V:blocks[i]=b)(Z:i<n)(A3:n<99999990)(A4:¬i+1<blocks.length)(A5:blocks.length<99999990)
 {m H I:Mk} (N:Lk p H 1 s (.ret (.bh [])) (ak ctx 93 [.d (.int .i64 i),.ptr 0 0 0,.ptr 1 0 0] [.box [.ptr 2 0 0],bB s,iY p m 0 3 4 5 0 0 0,.vec 5 (m.out.map aZ),.vv (m.ex.map gV) none,.vec 1 (m.lv.map du)]))
 (A8:H.out.length<99999990)
 (J:gX p I 0 (.ret (.bh [])) (ak ctx 29 [.ptr 0 0 0,.d (.list (b.map bZ))] (gW p (H.put (ins 10 0 0 0 0) 0) 0)))
 (A9:H.out.length<I.out.length/\I.out.length<99999990) (E:List Int) (AA:E.length<99999990) (k:Kt) (Q:bU->Prop)
 (M:∀v1 v2 v3 D,Q (aK ctx 92 (.loop (Code.at (aU f92) [1,0,1,0,0])) ⟨49,aC,[(0,true,.ptr 0 0 0),(1,true,.d (.list (blocks.map dr))),(2,true,.d (.int .i64 n)),(3,true,.fn 93 [.ptr 1 0 0,.ptr 2 0 0]),(8,true,.vec 500 D 0 E.length),(12,true,.d (.list (blocks.map dr))),(13,true,.d (.int .i64 blocks.length)),(14,true,.d (.int .i64 (i+1)))],FH p (I.lead H.out.length) s E v1 v2 v3 D⟩ k))
 (v1 v2 v3 D:Nat):
 Q (aK ctx 92 (.loop (Code.at (aU f92) [1,0,1,0,0])) ⟨49,aC,[(0,true,.ptr 0 0 0),(1,true,.d (.list (blocks.map dr))),(2,true,.d (.int .i64 n)),(3,true,.fn 93 [.ptr 1 0 0,.ptr 2 0 0]),(8,true,.vec 500 D 0 E.length),(12,true,.d (.list (blocks.map dr))),(13,true,.d (.int .i64 blocks.length)),(14,true,.d (.int .i64 i))],FH p m s E v1 v2 v3 D⟩ k):=by
 obtain⟨AB,a2,a3,N⟩:=N;obtain⟨AC,AD,AE,O⟩:=BN p H 1 0 (by omega) (by decide);rw[show (1:Int)+ -1=0 by omega]at O;obtain⟨d1,d2,d3,J⟩:=J;have y:=uD p I 0 H.out.length (by omega) (by omega);have A':=bu ((i:Int)+1);have A0:=bu ((blocks.length:Int)-1);have A1:¬(i:Int)<(blocks.length:Int)-1:=by omega
 have A2:(0:Int)<=H.out.length:=by omega
 generalize I.lead H.out.length=AH at*;generalize H.put (ins 10 0 0 0 0) 0=M2 at*;rw[ag];simp at N O J y;simp[f92]at M⊢;simp[U,V,dr,Z,N,O,J,y,A',A0,A1,A2,M]
def adg{p:Pg}{s:Sm}{blocks:List (List Sm)}{n i:Nat}{b:List Sm}(U:i<blocks.length)(V:blocks[i]=b)(Z:¬i<n)(A3:n<99999990)(A4:¬i+1<blocks.length)(A5:blocks.length<99999990)
 {m I:Mk}
 (J:gX p I 0 (.ret (.bh [])) (ak ctx 29 [.ptr 0 0 0,.d (.list (b.map bZ))] (gW p m 0)))
 (E:List Int) (k:Kt) (Q:bU->Prop)
 (M:∀v1 v2 v3 D,Q (aK ctx 92 (.loop (Code.at (aU f92) [1,0,1,0,0])) ⟨49,aC,[(0,true,.ptr 0 0 0),(1,true,.d (.list (blocks.map dr))),(2,true,.d (.int .i64 n)),(3,true,.fn 93 [.ptr 1 0 0,.ptr 2 0 0]),(8,true,.vec 500 D 0 E.length),(12,true,.d (.list (blocks.map dr))),(13,true,.d (.int .i64 blocks.length)),(14,true,.d (.int .i64 (i+1)))],FH p I s E v1 v2 v3 D⟩ k))
 (v1 v2 v3 D:Nat):
 Q (aK ctx 92 (.loop (Code.at (aU f92) [1,0,1,0,0])) ⟨49,aC,[(0,true,.ptr 0 0 0),(1,true,.d (.list (blocks.map dr))),(2,true,.d (.int .i64 n)),(3,true,.fn 93 [.ptr 1 0 0,.ptr 2 0 0]),(8,true,.vec 500 D 0 E.length),(12,true,.d (.list (blocks.map dr))),(13,true,.d (.int .i64 blocks.length)),(14,true,.d (.int .i64 i))],FH p m s E v1 v2 v3 D⟩ k):=by
 obtain⟨d1,d2,d3,J⟩:=J;have A':=bu ((i:Int)+1);have A0:=bu ((blocks.length:Int)-1);have A1:¬(i:Int)<(blocks.length:Int)-1:=by omega
 rw[ag];simp at J;simp[f92]at M⊢;simp[U,V,dr,Z,J,A',A0,A1,M]
def GK{p:Pg}{s:Sm}{blocks:List (List Sm)}{n:Nat}{m:Mk}(E:List Int)(k:Kt)(Q:bU->Prop)
 (M:∀(Y:Env) v1 v2 v3 D,Q (k (.exit 0) ⟨49,aC,(0,true,.ptr 0 0 0)::(1,true,.d (.list (blocks.map dr)))::(2,true,.d (.int .i64 n))::(3,true,.fn 93 [.ptr 1 0 0,.ptr 2 0 0])::(8,true,.vec 500 D 0 E.length)::Y,FH p m s E v1 v2 v3 D⟩))
 (v1 v2 v3 D:Nat) {i:Nat} (hi:i=blocks.length):
 Q (aK ctx 92 (.loop (Code.at (aU f92) [1,0,1,0,0])) ⟨49,aC,[(0,true,.ptr 0 0 0),(1,true,.d (.list (blocks.map dr))),(2,true,.d (.int .i64 n)),(3,true,.fn 93 [.ptr 1 0 0,.ptr 2 0 0]),(8,true,.vec 500 D 0 E.length),(12,true,.d (.list (blocks.map dr))),(13,true,.d (.int .i64 blocks.length)),(14,true,.d (.int .i64 i))],FH p m s E v1 v2 v3 D⟩ k):=by
 subst hi;rw[ag];simp[f92]at M⊢;exact M _ _ _ _ _
def R8(p:Pg)(m:Mk)(h:Int)(s:Sm)(q:Int)(o:Out)(r:bU):Prop:=∃v1 v2 v3,r=some (o,[(0,.box [.ptr 3 0 0]),(0,bB s),(0,.box [.d (.int .i64 q)]),(0,iY p m h 4 5 6 v1 v2 v3),(v1,.vec 5 (m.out.map aZ)),(v2,.vv (m.ex.map gV) none),(v3,.vec 1 (m.lv.map du))])
@[simp] def FI(p:Pg)(m:Mk)(s:Sm)(q:Int)(E:List Int)(v1 v2 v3 D:Nat):List cL:=[⟨0,0,iY p m 0 4 5 6 v1 v2 v3⟩,⟨1,0,.box [.ptr 0 0 0]⟩,⟨2,0,bB s⟩,⟨3,0,.box [.d (.int .i64 q)]⟩,⟨4,v1,.vec 5 (m.out.map aZ)⟩,⟨5,v2,.vv (m.ex.map gV) none⟩,⟨6,v3,.vec 1 (m.lv.map du)⟩,⟨500,D,.vec 1 (E.map du)⟩]
def adh{p:Pg}{s:Sm}{q:Int}{blocks:List (List Sm)}{n i:Nat}{b:List Sm}(U:i<blocks.length)(V:blocks[i]=b)(Z:i<n)(A3:n<99999990)(A4:i+1<blocks.length)(A5:blocks.length<99999990)
 {m H I:Mk} (N:R8 p H 1 s q (.ret (.bh [])) (ak ctx 151 [.d (.int .i64 i),.ptr 0 0 0,.ptr 1 0 0,.ptr 2 0 0] [.box [.ptr 3 0 0],bB s,.box [.d (.int .i64 q)],iY p m 0 4 5 6 0 0 0,.vec 5 (m.out.map aZ),.vv (m.ex.map gV) none,.vec 1 (m.lv.map du)]))
 (A8:H.out.length<99999990)
 (J:gX p I 0 (.ret (.bh [])) (ak ctx 29 [.ptr 0 0 0,.d (.list (b.map bZ))] (gW p (H.put (ins 10 0 0 0 0) 0) 0)))
 (A9:H.out.length<I.out.length/\I.out.length<99999990) (E:List Int) (AA:E.length<99999990) (k:Kt) (Q:bU->Prop)
 (M:∀v1 v2 v3 D,Q (aK ctx 92 (.loop (Code.at (aU f92) [1,0,1,0,0])) ⟨49,aC,[(0,true,.ptr 0 0 0),(1,true,.d (.list (blocks.map dr))),(2,true,.d (.int .i64 n)),(3,true,.fn 151 [.ptr 1 0 0,.ptr 2 0 0,.ptr 3 0 0]),(8,true,.vec 500 D 0 (E.length+1)),(12,true,.d (.list (blocks.map dr))),(13,true,.d (.int .i64 blocks.length)),(14,true,.d (.int .i64 (i+1)))],FI p ((I.put (ins 9 0 0 0 0) 0).lead H.out.length) s q (E++[(I.out.length:Int)]) v1 v2 v3 D⟩ k))
 (v1 v2 v3 D:Nat):
 Q (aK ctx 92 (.loop (Code.at (aU f92) [1,0,1,0,0])) ⟨49,aC,[(0,true,.ptr 0 0 0),(1,true,.d (.list (blocks.map dr))),(2,true,.d (.int .i64 n)),(3,true,.fn 151 [.ptr 1 0 0,.ptr 2 0 0,.ptr 3 0 0]),(8,true,.vec 500 D 0 E.length),(12,true,.d (.list (blocks.map dr))),(13,true,.d (.int .i64 blocks.length)),(14,true,.d (.int .i64 i))],FI p m s q E v1 v2 v3 D⟩ k):=by
 obtain⟨AB,a2,a3,N⟩:=N;obtain⟨AC,AD,AE,O⟩:=BN p H 1 0 (by omega) (by decide);rw[show (1:Int)+ -1=0 by omega]at O;obtain⟨d1,d2,d3,J⟩:=J;obtain⟨AI,AJ,AK,A6⟩:=IT p I 0 0 (by omega) (by decide);have A7:(I.put (ins 9 0 0 0 0) 0).out.length=I.out.length+1:=by simp[Mk.put]
 have y:=uD p (I.put (ins 9 0 0 0 0) 0) 0 H.out.length (by rw[A7];omega) (by rw[A7];omega);have A':=bu ((i:Int)+1);have A0:=bu ((blocks.length:Int)-1);have A1:(i:Int)<(blocks.length:Int)-1:=by omega
 have AF:E.length<=4611686018427387903:=by omega
 have AG:(E.length+1)*8<=140737488355328:=by omega
 have A2:(0:Int)<=H.out.length:=by omega
 generalize (I.put (ins 9 0 0 0 0) 0).lead H.out.length=AH at*;generalize I.put (ins 9 0 0 0 0) 0=AL at*;generalize H.put (ins 10 0 0 0 0) 0=M2 at*;rw[ag];simp at N O J A6 y;simp[f92]at M⊢;simp[U,V,dr,Z,N,O,J,A6,y,A',A0,A1,AF,AG,A2,M]
def adi{p:Pg}{s:Sm}{q:Int}{blocks:List (List Sm)}{n i:Nat}{b:List Sm}(U:i<blocks.length)(V:blocks[i]=b)(Z:i<n)(A3:n<99999990)(A4:¬i+1<blocks.length)(A5:blocks.length<99999990)
 {m H I:Mk} (N:R8 p H 1 s q (.ret (.bh [])) (ak ctx 151 [.d (.int .i64 i),.ptr 0 0 0,.ptr 1 0 0,.ptr 2 0 0] [.box [.ptr 3 0 0],bB s,.box [.d (.int .i64 q)],iY p m 0 4 5 6 0 0 0,.vec 5 (m.out.map aZ),.vv (m.ex.map gV) none,.vec 1 (m.lv.map du)]))
 (A8:H.out.length<99999990)
 (J:gX p I 0 (.ret (.bh [])) (ak ctx 29 [.ptr 0 0 0,.d (.list (b.map bZ))] (gW p (H.put (ins 10 0 0 0 0) 0) 0)))
 (A9:H.out.length<I.out.length/\I.out.length<99999990) (E:List Int) (AA:E.length<99999990) (k:Kt) (Q:bU->Prop)
 (M:∀v1 v2 v3 D,Q (aK ctx 92 (.loop (Code.at (aU f92) [1,0,1,0,0])) ⟨49,aC,[(0,true,.ptr 0 0 0),(1,true,.d (.list (blocks.map dr))),(2,true,.d (.int .i64 n)),(3,true,.fn 151 [.ptr 1 0 0,.ptr 2 0 0,.ptr 3 0 0]),(8,true,.vec 500 D 0 E.length),(12,true,.d (.list (blocks.map dr))),(13,true,.d (.int .i64 blocks.length)),(14,true,.d (.int .i64 (i+1)))],FI p (I.lead H.out.length) s q E v1 v2 v3 D⟩ k))
 (v1 v2 v3 D:Nat):
 Q (aK ctx 92 (.loop (Code.at (aU f92) [1,0,1,0,0])) ⟨49,aC,[(0,true,.ptr 0 0 0),(1,true,.d (.list (blocks.map dr))),(2,true,.d (.int .i64 n)),(3,true,.fn 151 [.ptr 1 0 0,.ptr 2 0 0,.ptr 3 0 0]),(8,true,.vec 500 D 0 E.length),(12,true,.d (.list (blocks.map dr))),(13,true,.d (.int .i64 blocks.length)),(14,true,.d (.int .i64 i))],FI p m s q E v1 v2 v3 D⟩ k):=by
 obtain⟨AB,a2,a3,N⟩:=N;obtain⟨AC,AD,AE,O⟩:=BN p H 1 0 (by omega) (by decide);rw[show (1:Int)+ -1=0 by omega]at O;obtain⟨d1,d2,d3,J⟩:=J;have y:=uD p I 0 H.out.length (by omega) (by omega);have A':=bu ((i:Int)+1);have A0:=bu ((blocks.length:Int)-1);have A1:¬(i:Int)<(blocks.length:Int)-1:=by omega
 have A2:(0:Int)<=H.out.length:=by omega
 generalize I.lead H.out.length=AH at*;generalize H.put (ins 10 0 0 0 0) 0=M2 at*;rw[ag];simp at N O J y;simp[f92]at M⊢;simp[U,V,dr,Z,N,O,J,y,A',A0,A1,A2,M]
def adj{p:Pg}{s:Sm}{q:Int}{blocks:List (List Sm)}{n i:Nat}{b:List Sm}(U:i<blocks.length)(V:blocks[i]=b)(Z:¬i<n)(A3:n<99999990)(A4:¬i+1<blocks.length)(A5:blocks.length<99999990)
 {m I:Mk}
 (J:gX p I 0 (.ret (.bh [])) (ak ctx 29 [.ptr 0 0 0,.d (.list (b.map bZ))] (gW p m 0)))
 (E:List Int) (k:Kt) (Q:bU->Prop)
 (M:∀v1 v2 v3 D,Q (aK ctx 92 (.loop (Code.at (aU f92) [1,0,1,0,0])) ⟨49,aC,[(0,true,.ptr 0 0 0),(1,true,.d (.list (blocks.map dr))),(2,true,.d (.int .i64 n)),(3,true,.fn 151 [.ptr 1 0 0,.ptr 2 0 0,.ptr 3 0 0]),(8,true,.vec 500 D 0 E.length),(12,true,.d (.list (blocks.map dr))),(13,true,.d (.int .i64 blocks.length)),(14,true,.d (.int .i64 (i+1)))],FI p I s q E v1 v2 v3 D⟩ k))
 (v1 v2 v3 D:Nat):
 Q (aK ctx 92 (.loop (Code.at (aU f92) [1,0,1,0,0])) ⟨49,aC,[(0,true,.ptr 0 0 0),(1,true,.d (.list (blocks.map dr))),(2,true,.d (.int .i64 n)),(3,true,.fn 151 [.ptr 1 0 0,.ptr 2 0 0,.ptr 3 0 0]),(8,true,.vec 500 D 0 E.length),(12,true,.d (.list (blocks.map dr))),(13,true,.d (.int .i64 blocks.length)),(14,true,.d (.int .i64 i))],FI p m s q E v1 v2 v3 D⟩ k):=by
 obtain⟨d1,d2,d3,J⟩:=J;have A':=bu ((i:Int)+1);have A0:=bu ((blocks.length:Int)-1);have A1:¬(i:Int)<(blocks.length:Int)-1:=by omega
 rw[ag];simp at J;simp[f92]at M⊢;simp[U,V,dr,Z,J,A',A0,A1,M]
def GL{p:Pg}{s:Sm}{q:Int}{blocks:List (List Sm)}{n:Nat}{m:Mk}(E:List Int)(k:Kt)(Q:bU->Prop)
 (M:∀(Y:Env) v1 v2 v3 D,Q (k (.exit 0) ⟨49,aC,(0,true,.ptr 0 0 0)::(1,true,.d (.list (blocks.map dr)))::(2,true,.d (.int .i64 n))::(3,true,.fn 151 [.ptr 1 0 0,.ptr 2 0 0,.ptr 3 0 0])::(8,true,.vec 500 D 0 E.length)::Y,FI p m s q E v1 v2 v3 D⟩))
 (v1 v2 v3 D:Nat) {i:Nat} (hi:i=blocks.length):
 Q (aK ctx 92 (.loop (Code.at (aU f92) [1,0,1,0,0])) ⟨49,aC,[(0,true,.ptr 0 0 0),(1,true,.d (.list (blocks.map dr))),(2,true,.d (.int .i64 n)),(3,true,.fn 151 [.ptr 1 0 0,.ptr 2 0 0,.ptr 3 0 0]),(8,true,.vec 500 D 0 E.length),(12,true,.d (.list (blocks.map dr))),(13,true,.d (.int .i64 blocks.length)),(14,true,.d (.int .i64 i))],FI p m s q E v1 v2 v3 D⟩ k):=by
 subst hi;rw[ag];simp[f92]at M⊢;exact M _ _ _ _ _
@[simp] def aqe:List.range 7=[0,1,2,3,4,5,6]:=rfl
@[simp] def aqf:List.range 8=[0,1,2,3,4,5,6,7]:=rfl
@[simp] def mqL(p:Pg)(m:Mk)(h:Int)(s:Sm)(q:Int)(v1 v2 v3:Nat):List cL:=[⟨0,0,.box [.ptr 3 0 0]⟩,⟨1,0,bB s⟩,⟨2,0,.box [.d (.int .i64 q)]⟩,⟨3,0,iY p m h 4 5 6 v1 v2 v3⟩,⟨4,v1,.vec 5 (m.out.map aZ)⟩,⟨5,v2,.vv (m.ex.map gV) none⟩,⟨6,v3,.vec 1 (m.lv.map du)⟩]
def Ll{p:Pg}{s:Sm}{q:Int}(l:List Int)(I:l.length<99999990)(k:Kt)(Q:Mk->bU->Prop)
 (E:∀(Y:Env) M v1 v2 v3,Q M (k (.exit 0) ⟨38,aC,Y,mqL p M 1 s q v1 v2 v3⟩)):
 ∀(rest pre:List Int)(m:Mk)(v1 v2 v3:Nat),l=pre++rest->rest.length%2=0->0<=m.most->m.out.length+rest.length<99999990->2<=m.most\/rest≠[]->
 Q (m.aF (cK q rest) 2) (aK ctx 151 (.loop (Code.at (aU f151) [1,1,1,0,0])) ⟨38,aC,[(1,true,.ptr 0 0 0),(3,true,.ptr 2 0 0),(5,true,.d (.list (l.map λn=>.int .i64 n))),(6,true,.d (.int .i64 pre.length))],mqL p m 1 s q v1 v2 v3⟩ k)
 |[],pre,m,v1,v2,v3,D,he,hm,H,J=>by
  have A0:pre.length=l.length:=by rw[D];simp
  have e:m.aF (cK q []) 2=m:=by
   simp[cK,Mk.aF];cases m;simp at hm J⊢;omega
  rw[e];have O:=bu ((l.length:Int)+1);have U:¬(l.length:Int)+1<l.length:=by omega
  rw[A0,ag];simp at E;simp[f151,O,U,E]
 |[a],pre,m,v1,v2,v3,D,he,hm,H,J=>by simp at he
 |a::b::rest,pre,m,v1,v2,v3,D,he,hm,H,J=>by
  simp only[aao]at H he;obtain⟨A1,A2,A3,g1⟩:=kQ p m 1 1 (ins 14 q 0 a b) (by omega) (by decide);obtain⟨d1,d2,d3,g2⟩:=kQ p (m.put (ins 14 q 0 a b) (1+1)) (1+1) (-1) (ins 8 1 21 0 0) (by simp[Mk.put];omega) (by decide);have e:m.aF (cK q (a::b::rest)) 2=((m.put (ins 14 q 0 a b) (1+1)).put (ins 8 1 21 0 0) (1+1+ -1)).aF (cK q rest) 2:=by
   simp only[cK,Mk.put,Mk.aF,Mk.mk.injEq];simp;omega
  rw[e];have ih:=λv1 v2 v3=>Ll (p:=p) (s:=s) (q:=q) l I k Q E rest (pre++[a,b]) ((m.put (ins 14 q 0 a b) (1+1)).put (ins 8 1 21 0 0) (1+1+ -1)) v1 v2 v3 (by simp[D]) (by omega) (by simp[Mk.put];omega) (by simp[Mk.put];omega) (by simp[Mk.put];omega);clear E e;generalize (m.put (ins 14 q 0 a b) (1+1)).put (ins 8 1 21 0 0) (1+1+ -1)=M at*;generalize m.put (ins 14 q 0 a b) (1+1)=N at*;have A9:l.length=pre.length+(rest.length+2):=by rw[D];simp
  have O:=bu ((pre.length:Int)+1);have U:(pre.length:Int)+1<l.length:=by omega
  have A4:=bu ((pre.length:Int)+2);have i1:pre.length<l.length:=by omega
  have i2:l[pre.length]=a:=by simp[D]
  have i3:pre.length+1<l.length:=by omega
  have i4:l[pre.length+1]=b:=by simp[D]
  have i5:((pre.length:Int)+1).toNat=pre.length+1:=by omega
  have i6:(0:Int)<=(pre.length:Int)+1:=by omega
  rw[ag];simp[ins]at g1 g2;simp[f151]at ih⊢;simp[O,U,A4,i1,i2,i3,i4,i5,i6,g1,g2,ai,ih]
def ZE{p:Pg}(s:Sm)(q:Int)(i:Nat)(l:List Int)(V:(dn s)[i]?=some l)(Z:oE l=true)(m:Mk)(hm:0<=m.most)(H:m.out.length+l.length+1<99999990):
 R8 p (m.aF (ins 1 0 0 0 0::cK q l) 2) 1 s q (.ret (.bh [])) (ak ctx 151 [.d (.int .i64 i),.ptr 0 0 0,.ptr 1 0 0,.ptr 2 0 0] [.box [.ptr 3 0 0],bB s,.box [.d (.int .i64 q)],iY p m 0 4 5 6 0 0 0,.vec 5 (m.out.map aZ),.vv (m.ex.map gV) none,.vec 1 (m.lv.map du)]):=by
 have I:l.length<99999990:=by omega
 simp only[oE,Ds,afz,aaw,aeA]at Z;obtain⟨A5,y,_⟩:=Z;obtain⟨A1,A2,A3,g1⟩:=kQ p m 0 1 (ins 1 0 0 0 0) (by omega) (by decide);have e:m.aF (ins 1 0 0 0 0::cK q l) 2=(m.put (ins 1 0 0 0 0) (0+1)).aF (cK q l) 2:=by
  simp only[Mk.put,Mk.aF,Mk.mk.injEq];simp;omega
 rw[e];have A':=λk Q E v1 v2 v3=>Ll (p:=p) (s:=s) (q:=q) l I k Q E l [] (m.put (ins 1 0 0 0 0) (0+1)) v1 v2 v3 rfl (by omega) (by simp[Mk.put];omega) (by simp[Mk.put];omega) (.inr (by intro h;simp[h]at A5));generalize (m.put (ins 1 0 0 0 0) (0+1)).aF (cK q l) 2=M at*;generalize m.put (ins 1 0 0 0 0) (0+1)=N at*;have A6:i<(dn s).length:=(aai.1 V).1;have y:(dn s)[i]=l:=(aai.1 V).2;rw[agT (by simp)];simp[ins]at g1;simp[f151]at A'⊢;simp[g1,A6,y,mQ];refine A' _ (λX r=>X=M->R8 p M 1 s q (.ret (.bh [])) r) (λY X v1 v2 v3 A7=>?_) _ _ _ rfl;subst A7;have A8:List.range 7=[0,1,2,3,4,5,6]:=rfl;simp[A8];exact⟨_,_,_,rfl⟩
def yF(vs:List Vr):∀(l:List (List Sm))(c:Int),(ay vs l c).1.length=l.length
 |[],c=>by simp[ay]
 |b::r,c=>by simp[ay,yF vs r]
def Pe{vs:List Vr}{l:List (List Sm)}{c:Int}:(ay vs l c).1=[]↔l=[]:=by
 constructor
 .intro h;have:=yF vs l c;rw[h]at this;exact xo this.symm
 .rintro rfl;simp[ay]
def Xl(t:List ax)(ts:List (List ax))(b:List ax)(r:List (List ax)):t.length+1+b.length+(if r=[]then 0 else 1+(ck ts r).length)<=(ck (t::ts) (b::r)).length:=by
 simp only[ck];by_cases h:r=[]
 .subst h;simp[cv];omega
 .simp[h,cv];omega
def EP(m:Mk)(t:List ax×Int):(m.gY t).out.length=m.out.length+t.1.length+1:=by simp[Mk.gY,Mk.aF,Mk.put];omega
def yG{m:Mk}{ts:List (List ax×Int)}{bs:List (List ax)}{c t u:Int}(h:max m.most t=max m.most u):m.dS ts bs c t=m.dS ts bs c u:=by
 unfold Mk.dS;rw[h]
def BQ{vs:List Vr}:∀(l:List (List Sm))(c:Int),0<=c->(∀b∈l,∀c,0<=c->c<=(ah vs b c).2)->c<=(ay vs l c).2
 |[],c,_,_=>by simp[ay]
 |b::r,c,AD,h=>by
  have O:=h b (by simp) c AD;have V:=BQ r (ah vs b c).2 (by omega) (λb A2=>h b (by simp[A2]));simp only[ay];omega
section
variable {p:Pg} {lp:Bool}
theorem Pf{s:Sm}{blocks:List (List Sm)}{ts:List (List ax×Int)}(A9:blocks.length<99999990)(AR:ts.length<=blocks.length)(AS:blocks.length<=ts.length+1)
 (AK:∀(i:Nat)(t:List ax×Int),ts[i]?=some t->∀m:Mk,0<=m.most->m.out.length+t.1.length<99999990->Lk p (m.aF t.1 t.2) 1 s (.ret (.bh [])) (ak ctx 93 [.d (.int .i64 i),.ptr 0 0 0,.ptr 1 0 0] [.box [.ptr 2 0 0],bB s,iY p m 0 3 4 5 0 0 0,.vec 5 (m.out.map aZ),.vv (m.ex.map gV) none,.vec 1 (m.lv.map du)]))
 (AE:∀b∈blocks,xz p lp b) (AF:∀b∈blocks,∀c,0<=c->c<=(ah p.vars b c).2) (k:Kt) (Q:Mk->List Int->bU->Prop)
 (AA:∀(Y:Env) M E v1 v2 v3 I,Q M E (k (.exit 0) ⟨49,aC,(0,true,.ptr 0 0 0)::(1,true,.d (.list (blocks.map dr)))::(2,true,.d (.int .i64 ts.length))::(3,true,.fn 93 [.ptr 1 0 0,.ptr 2 0 0])::(8,true,.vec 500 I 0 E.length)::Y,FH p M s E v1 v2 v3 I⟩)):
 ∀(D N:List (List Sm))(H U:List (List ax×Int))(m:Mk)(E:List Int)(v1 v2 v3 I:Nat),blocks=N++D->ts=U++H->(N.length=U.length\/(H=[]/\D=[]))->0<=m.most->0<=m.cells->jK m->(lp=true->m.ex≠[])->
 m.out.length+(ck (dQ H) (ay p.vars D m.cells).1).length<99999990->(ay p.vars D m.cells).2<99999990->(∀b∈blocks,m.ex.length+jL b<99999990)->E.length+D.length<99999980->
 Q (m.dS H (ay p.vars D m.cells).1 (ay p.vars D m.cells).2 (max (dY H) (bz D))) (E++gH m.out.length (dQ H) (ay p.vars D m.cells).1)
  (aK ctx 92 (.loop (Code.at (aU f92) [1,0,1,0,0])) ⟨49,aC,[(0,true,.ptr 0 0 0),(1,true,.d (.list (blocks.map dr))),(2,true,.d (.int .i64 ts.length)),(3,true,.fn 93 [.ptr 1 0 0,.ptr 2 0 0]),(8,true,.vec 500 I 0 E.length),(12,true,.d (.list (blocks.map dr))),(13,true,.d (.int .i64 blocks.length)),(14,true,.d (.int .i64 N.length))],FH p m s E v1 v2 v3 I⟩ k)
 |[],N,H,U,m,E,v1,v2,v3,I,O,V,J,hm,A3,A4,hex,Z,A0,A5,AG=>by
  have AH:H=[]:=by
   rcases J with J|J
   .have A6:blocks.length=N.length:=by rw[O];simp
    have a2:ts.length=U.length+H.length:=by rw[V];simp
    exact xo (by omega)
   .exact J.1
  subst AH;have AL:(ay p.vars [] m.cells)=([],m.cells):=by simp[ay]
  have y:m.dS [] (ay p.vars [] m.cells).1 (ay p.vars [] m.cells).2 (max (dY []) (bz []))=m:=by
   rw[AL];have:=Pd m [] hm;simpa [dY,bz]using this
  have A':E++gH m.out.length (dQ []) (ay p.vars [] m.cells).1=E:=by rw[AL];simp[gH]
  rw[y,A'];exact GK E k (Q m E) (λY v1 v2 v3 I=>AA Y m E v1 v2 v3 I) v1 v2 v3 I (by rw[O];simp)
 |b::D,N,[],U,m,E,v1,v2,v3,I,O,V,J,hm,A3,A4,hex,Z,A0,A5,AG=>by
  have J:N.length=U.length:=by
   rcases J with J|J
   .exact J
   .cases J.2
  have A6:blocks.length=N.length+(D.length+1):=by rw[O];simp
  have a2:ts.length=U.length:=by rw[V];simp
  have A7:D=[]:=xo (by omega);subst A7;have AI:ay p.vars [b] m.cells=([(ah p.vars b m.cells).1],(ah p.vars b m.cells).2):=by simp[ay]
  rw[AI]at Z A0⊢;have Aa:m.out.length+(ah p.vars b m.cells).1.length<99999990:=by simpa [dQ,ck]using Z
  have A1:=AE b (by rw[O];simp) m hm A3 A4 hex (by omega) A0 (A5 b (by rw[O];simp));have y:m.dS [] [(ah p.vars b m.cells).1] (ah p.vars b m.cells).2 (max (dY []) (bz [b]))=m.aW (ah p.vars b m.cells).1 (ah p.vars b m.cells).2 (aM b):=by
   rw[<-R7];exact oM (by simp only[dY,bz];omega)
  have A':E++gH m.out.length (dQ []) [(ah p.vars b m.cells).1]=E:=by simp[dQ,gH]
  simp only
  rw[y,A'];refine adg (i:=N.length) (b:=b) (by omega) (by simp[O]) (by omega) (by omega) (by omega) A9 A1 E k (Q _ E) (λv1 v2 v3 I=>?_) v1 v2 v3 I;exact GK E k (Q _ E) (λY v1 v2 v3 I=>AA Y _ E v1 v2 v3 I) v1 v2 v3 I (i:=N.length+1) (by omega)
 |b::D,N,t::H,U,m,E,v1,v2,v3,I,O,V,J,hm,A3,A4,hex,Z,A0,A5,AG=>by
  have J:N.length=U.length:=by
   rcases J with J|J
   .exact J
   .cases J.2
  have A6:blocks.length=N.length+(D.length+1):=by rw[O];simp
  have a2:ts.length=U.length+(H.length+1):=by rw[V];simp
  have AI:ay p.vars (b::D) m.cells=((ah p.vars b m.cells).1::(ay p.vars D (ah p.vars b m.cells).2).1,(ay p.vars D (ah p.vars b m.cells).2).2):=by simp[ay]
  rw[AI]at Z A0⊢;have AT:=Xl t.1 (dQ H) (ah p.vars b m.cells).1 (ay p.vars D (ah p.vars b m.cells).2).1;have Ab:=AF b (by rw[O];simp) m.cells A3;have Ac:=BQ D (ah p.vars b m.cells).2 (by omega) (λb A2=>AF b (by rw[O];simp[A2]));have AU:dQ (t::H)=t.1::dQ H:=rfl;rw[AU]at Z⊢;simp only at A0 Z;have AM:=AK N.length t (by rw[V,J];simp) m hm (by omega);have AV:0<=(m.gY t).most:=by simp[Mk.gY,Mk.aF,Mk.put];omega
  have A1:=AE b (by rw[O];simp) (m.gY t) AV A3 ((A4.aF _ _).put _ _) hex (by rw[EP];show _+(ah p.vars b m.cells).1.length<_;omega) (by show (ah p.vars b m.cells).2<_;omega) (A5 b (by rw[O];simp));have A1:gX p ((m.gY t).aW (ah p.vars b m.cells).1 (ah p.vars b m.cells).2 (aM b)) 0 (.ret (.bh [])) (ak ctx 29 [.ptr 0 0 0,.d (.list (b.map bZ))] (gW p ((m.aF t.1 t.2).put (ins 10 0 0 0 0) 0) 0)):=A1;have A8:(m.aF t.1 t.2).out.length=m.out.length+t.1.length:=by simp[Mk.aF]
  have AB:((m.gY t).aW (ah p.vars b m.cells).1 (ah p.vars b m.cells).2 (aM b)).out.length=m.out.length+t.1.length+1+(ah p.vars b m.cells).1.length:=by
   show ((m.gY t).out++di _ _).length=_;rw[aal,oZ,EP]
  have AN:((m.aF t.1 t.2).out.length:Int)=((m.out.length+t.1.length:Nat):Int):=by rw[A8]
  by_cases A7:D=[]
  .subst A7;have AH:H=[]:=xo (by simp at A6;omega);subst AH;have AW:ay p.vars [] (ah p.vars b m.cells).2=([],(ah p.vars b m.cells).2):=by simp[ay]
   rw[AW];have y:m.dS [t] [(ah p.vars b m.cells).1] (ah p.vars b m.cells).2 (max (dY [t]) (bz [b]))=((m.gY t).aW (ah p.vars b m.cells).1 (ah p.vars b m.cells).2 (aM b)).lead (m.aF t.1 t.2).out.length:=by
    rw[AN,R5 m t [] _ _ _ hm];exact yG (by simp only[dY,bz];omega)
   have A':E++gH m.out.length (t.1::dQ []) [(ah p.vars b m.cells).1]=E:=by simp[dQ,gH]
   simp only
   rw[y,A'];refine adf (i:=N.length) (b:=b) (by omega) (by simp[O]) (by omega) (by omega) (by simp at A6;omega) A9 AM (by rw[A8];omega) A1 (by rw[A8,AB];omega) E (by omega) k (Q _ E) (λv1 v2 v3 I=>?_) v1 v2 v3 I;exact GK E k (Q _ E) (λY v1 v2 v3 I=>AA Y _ E v1 v2 v3 I) v1 v2 v3 I (i:=N.length+1) (by simp at A6;omega)
  .have Ad:0<D.length:=by
    cases D with
    |nil=>exact absurd rfl A7
    |cons _ _=>simp
   have AJ:(ay p.vars D (ah p.vars b m.cells).2).1≠[]:=λh=>A7 (Pe.1 h);rw[aaf AJ]at AT;refine ade (i:=N.length) (b:=b) (by omega) (by simp[O]) (by omega) (by omega) (by omega) A9 AM (by rw[A8];omega) A1 (by rw[A8,AB];omega) E (by omega) k (Q _ _) (λv1 v2 v3 I=>?_) v1 v2 v3 I;have y:=R6 m t H (ah p.vars b m.cells).1 (ay p.vars D (ah p.vars b m.cells).2).1 (ah p.vars b m.cells).2 (ay p.vars D (ah p.vars b m.cells).2).2 (aM b) (max (dY H) (bz D)) hm AJ;have A':gH m.out.length (t.1::dQ H) ((ah p.vars b m.cells).1::(ay p.vars D (ah p.vars b m.cells).2).1)=((m.out.length+t.1.length+1+(ah p.vars b m.cells).1.length:Nat):Int)::gH (m.out.length+t.1.length+2+(ah p.vars b m.cells).1.length) (dQ H) (ay p.vars D (ah p.vars b m.cells).2).1:=by
    simp only[gH,aaf AJ]
   have AO:((((m.gY t).aW (ah p.vars b m.cells).1 (ah p.vars b m.cells).2 (aM b)).put (ins 9 0 0 0 0) 0).lead (m.out.length+t.1.length:Nat)).out.length=m.out.length+t.1.length+2+(ah p.vars b m.cells).1.length:=by
    rw[GI];show (((m.gY t).aW _ _ _).out++_).length=_;rw[aal,AB];simp;omega
   have AC:((((m.gY t).aW (ah p.vars b m.cells).1 (ah p.vars b m.cells).2 (aM b)).put (ins 9 0 0 0 0) 0).lead (m.out.length+t.1.length:Nat)).cells=(ah p.vars b m.cells).2:=rfl;have AP:((((m.gY t).aW (ah p.vars b m.cells).1 (ah p.vars b m.cells).2 (aM b)).put (ins 9 0 0 0 0) 0).lead (m.out.length+t.1.length:Nat)).ex.length=m.ex.length:=by
    show (iZ m.ex _).length=_;simp
   have AX:0<=((((m.gY t).aW (ah p.vars b m.cells).1 (ah p.vars b m.cells).2 (aM b)).put (ins 9 0 0 0 0) 0).lead (m.out.length+t.1.length:Nat)).most:=by
    simp[Mk.lead,Mk.put,Mk.aW];omega
   have AY:m.dS (t::H) ((ah p.vars b m.cells).1::(ay p.vars D (ah p.vars b m.cells).2).1) (ay p.vars D (ah p.vars b m.cells).2).2 (max (dY (t::H)) (bz (b::D)))=((((m.gY t).aW (ah p.vars b m.cells).1 (ah p.vars b m.cells).2 (aM b)).put (ins 9 0 0 0 0) 0).lead (m.out.length+t.1.length:Nat)).dS H (ay p.vars D (ah p.vars b m.cells).2).1 (ay p.vars D (ah p.vars b m.cells).2).2 (max (dY H) (bz D)):=by
    rw[y];exact yG (by simp only[dY,bz];omega)
   have ih:=Pf A9 AR AS AK AE AF k Q AA D (N++[b]) H (U++[t]) ((((m.gY t).aW (ah p.vars b m.cells).1 (ah p.vars b m.cells).2 (aM b)).put (ins 9 0 0 0 0) 0).lead (m.out.length+t.1.length:Nat)) (E++[((m.out.length+t.1.length+1+(ah p.vars b m.cells).1.length:Nat):Int)]) v1 v2 v3 I (by simp[O]) (by simp[V]) (.inl (by simp[J])) AX (by rw[AC];omega) ((((((A4.aF _ _).put _ _).aW _ _ _).put _ _).lead _)) (λh=>by
    intro AD;have:=AP;rw[AD]at this;have AZ:=hex h;cases AQ:m.ex with
    |nil=>exact AZ AQ
    |cons _ _=>rw[AQ]at this;simp at this) (by rw[AO,AC];omega) (by rw[AC];omega) (λb A2=>by rw[AP];exact A5 b A2) (by simp at AG⊢;omega)
   rw[AO,AC]at ih;simp only
   rw[AY,A',AN,AB];have A_:E++((m.out.length+t.1.length+1+(ah p.vars b m.cells).1.length:Nat):Int)::gH (m.out.length+t.1.length+2+(ah p.vars b m.cells).1.length) (dQ H) (ay p.vars D (ah p.vars b m.cells).2).1=E++[((m.out.length+t.1.length+1+(ah p.vars b m.cells).1.length:Nat):Int)]++gH (m.out.length+t.1.length+2+(ah p.vars b m.cells).1.length) (dQ H) (ay p.vars D (ah p.vars b m.cells).2).1:=by simp
   rw[A_];simpa using ih
end
section
variable {p:Pg} {lp:Bool}
theorem Ph{s:Sm}{q:Int}{blocks:List (List Sm)}{ts:List (List ax×Int)}(A8:blocks.length<99999990)(AQ:ts.length<=blocks.length)(AR:blocks.length<=ts.length+1)
 (AJ:∀(i:Nat)(t:List ax×Int),ts[i]?=some t->∀m:Mk,0<=m.most->m.out.length+t.1.length<99999990->R8 p (m.aF t.1 t.2) 1 s q (.ret (.bh [])) (ak ctx 151 [.d (.int .i64 i),.ptr 0 0 0,.ptr 1 0 0,.ptr 2 0 0] [.box [.ptr 3 0 0],bB s,.box [.d (.int .i64 q)],iY p m 0 4 5 6 0 0 0,.vec 5 (m.out.map aZ),.vv (m.ex.map gV) none,.vec 1 (m.lv.map du)]))
 (AC:∀b∈blocks,xz p lp b) (AD:∀b∈blocks,∀c,0<=c->c<=(ah p.vars b c).2) (k:Kt) (Q:Mk->List Int->bU->Prop)
 (A9:∀(Y:Env) M E v1 v2 v3 I,Q M E (k (.exit 0) ⟨49,aC,(0,true,.ptr 0 0 0)::(1,true,.d (.list (blocks.map dr)))::(2,true,.d (.int .i64 ts.length))::(3,true,.fn 151 [.ptr 1 0 0,.ptr 2 0 0,.ptr 3 0 0])::(8,true,.vec 500 I 0 E.length)::Y,FI p M s q E v1 v2 v3 I⟩)):
 ∀(D N:List (List Sm))(H U:List (List ax×Int))(m:Mk)(E:List Int)(v1 v2 v3 I:Nat),blocks=N++D->ts=U++H->(N.length=U.length\/(H=[]/\D=[]))->0<=m.most->0<=m.cells->jK m->(lp=true->m.ex≠[])->
 m.out.length+(ck (dQ H) (ay p.vars D m.cells).1).length<99999990->(ay p.vars D m.cells).2<99999990->(∀b∈blocks,m.ex.length+jL b<99999990)->E.length+D.length<99999980->
 Q (m.dS H (ay p.vars D m.cells).1 (ay p.vars D m.cells).2 (max (dY H) (bz D))) (E++gH m.out.length (dQ H) (ay p.vars D m.cells).1)
  (aK ctx 92 (.loop (Code.at (aU f92) [1,0,1,0,0])) ⟨49,aC,[(0,true,.ptr 0 0 0),(1,true,.d (.list (blocks.map dr))),(2,true,.d (.int .i64 ts.length)),(3,true,.fn 151 [.ptr 1 0 0,.ptr 2 0 0,.ptr 3 0 0]),(8,true,.vec 500 I 0 E.length),(12,true,.d (.list (blocks.map dr))),(13,true,.d (.int .i64 blocks.length)),(14,true,.d (.int .i64 N.length))],FI p m s q E v1 v2 v3 I⟩ k)
 |[],N,H,U,m,E,v1,v2,v3,I,O,V,J,hm,A2,A3,hex,Z,A0,A4,AE=>by
  have AF:H=[]:=by
   rcases J with J|J
   .have A5:blocks.length=N.length:=by rw[O];simp
    have a2:ts.length=U.length+H.length:=by rw[V];simp
    exact xo (by omega)
   .exact J.1
  subst AF;have AK:(ay p.vars [] m.cells)=([],m.cells):=by simp[ay]
  have y:m.dS [] (ay p.vars [] m.cells).1 (ay p.vars [] m.cells).2 (max (dY []) (bz []))=m:=by
   rw[AK];have:=Pd m [] hm;simpa [dY,bz]using this
  have A':E++gH m.out.length (dQ []) (ay p.vars [] m.cells).1=E:=by rw[AK];simp[gH]
  rw[y,A'];exact GL E k (Q m E) (λY v1 v2 v3 I=>A9 Y m E v1 v2 v3 I) v1 v2 v3 I (by rw[O];simp)
 |b::D,N,[],U,m,E,v1,v2,v3,I,O,V,J,hm,A2,A3,hex,Z,A0,A4,AE=>by
  have J:N.length=U.length:=by
   rcases J with J|J
   .exact J
   .cases J.2
  have A5:blocks.length=N.length+(D.length+1):=by rw[O];simp
  have a2:ts.length=U.length:=by rw[V];simp
  have A6:D=[]:=xo (by omega);subst A6;have AG:ay p.vars [b] m.cells=([(ah p.vars b m.cells).1],(ah p.vars b m.cells).2):=by simp[ay]
  rw[AG]at Z A0⊢;have Aa:m.out.length+(ah p.vars b m.cells).1.length<99999990:=by simpa [dQ,ck]using Z
  have A1:=AC b (by rw[O];simp) m hm A2 A3 hex (by omega) A0 (A4 b (by rw[O];simp));have y:m.dS [] [(ah p.vars b m.cells).1] (ah p.vars b m.cells).2 (max (dY []) (bz [b]))=m.aW (ah p.vars b m.cells).1 (ah p.vars b m.cells).2 (aM b):=by
   rw[<-R7];exact oM (by simp only[dY,bz];omega)
  have A':E++gH m.out.length (dQ []) [(ah p.vars b m.cells).1]=E:=by simp[dQ,gH]
  simp only
  rw[y,A'];refine adj (i:=N.length) (b:=b) (by omega) (by simp[O]) (by omega) (by omega) (by omega) A8 A1 E k (Q _ E) (λv1 v2 v3 I=>?_) v1 v2 v3 I;exact GL E k (Q _ E) (λY v1 v2 v3 I=>A9 Y _ E v1 v2 v3 I) v1 v2 v3 I (i:=N.length+1) (by omega)
 |b::D,N,t::H,U,m,E,v1,v2,v3,I,O,V,J,hm,A2,A3,hex,Z,A0,A4,AE=>by
  have J:N.length=U.length:=by
   rcases J with J|J
   .exact J
   .cases J.2
  have A5:blocks.length=N.length+(D.length+1):=by rw[O];simp
  have a2:ts.length=U.length+(H.length+1):=by rw[V];simp
  have AG:ay p.vars (b::D) m.cells=((ah p.vars b m.cells).1::(ay p.vars D (ah p.vars b m.cells).2).1,(ay p.vars D (ah p.vars b m.cells).2).2):=by simp[ay]
  rw[AG]at Z A0⊢;have AS:=Xl t.1 (dQ H) (ah p.vars b m.cells).1 (ay p.vars D (ah p.vars b m.cells).2).1;have Ab:=AD b (by rw[O];simp) m.cells A2;have Ac:=BQ D (ah p.vars b m.cells).2 (by omega) (λb AH=>AD b (by rw[O];simp[AH]));have AT:dQ (t::H)=t.1::dQ H:=rfl;rw[AT]at Z⊢;simp only at A0 Z;have AL:=AJ N.length t (by rw[V,J];simp) m hm (by omega);have AU:0<=(m.gY t).most:=by simp[Mk.gY,Mk.aF,Mk.put];omega
  have A1:=AC b (by rw[O];simp) (m.gY t) AU A2 ((A3.aF _ _).put _ _) hex (by rw[EP];show _+(ah p.vars b m.cells).1.length<_;omega) (by show (ah p.vars b m.cells).2<_;omega) (A4 b (by rw[O];simp));have A1:gX p ((m.gY t).aW (ah p.vars b m.cells).1 (ah p.vars b m.cells).2 (aM b)) 0 (.ret (.bh [])) (ak ctx 29 [.ptr 0 0 0,.d (.list (b.map bZ))] (gW p ((m.aF t.1 t.2).put (ins 10 0 0 0 0) 0) 0)):=A1;have A7:(m.aF t.1 t.2).out.length=m.out.length+t.1.length:=by simp[Mk.aF]
  have AA:((m.gY t).aW (ah p.vars b m.cells).1 (ah p.vars b m.cells).2 (aM b)).out.length=m.out.length+t.1.length+1+(ah p.vars b m.cells).1.length:=by
   show ((m.gY t).out++di _ _).length=_;rw[aal,oZ,EP]
  have AM:((m.aF t.1 t.2).out.length:Int)=((m.out.length+t.1.length:Nat):Int):=by rw[A7]
  by_cases A6:D=[]
  .subst A6;have AF:H=[]:=xo (by simp at A5;omega);subst AF;have AV:ay p.vars [] (ah p.vars b m.cells).2=([],(ah p.vars b m.cells).2):=by simp[ay]
   rw[AV];have y:m.dS [t] [(ah p.vars b m.cells).1] (ah p.vars b m.cells).2 (max (dY [t]) (bz [b]))=((m.gY t).aW (ah p.vars b m.cells).1 (ah p.vars b m.cells).2 (aM b)).lead (m.aF t.1 t.2).out.length:=by
    rw[AM,R5 m t [] _ _ _ hm];exact yG (by simp only[dY,bz];omega)
   have A':E++gH m.out.length (t.1::dQ []) [(ah p.vars b m.cells).1]=E:=by simp[dQ,gH]
   simp only
   rw[y,A'];refine adi (i:=N.length) (b:=b) (by omega) (by simp[O]) (by omega) (by omega) (by simp at A5;omega) A8 AL (by rw[A7];omega) A1 (by rw[A7,AA];omega) E (by omega) k (Q _ E) (λv1 v2 v3 I=>?_) v1 v2 v3 I;exact GL E k (Q _ E) (λY v1 v2 v3 I=>A9 Y _ E v1 v2 v3 I) v1 v2 v3 I (i:=N.length+1) (by simp at A5;omega)
  .have Ad:0<D.length:=by
    cases D with
    |nil=>exact absurd rfl A6
    |cons _ _=>simp
   have AI:(ay p.vars D (ah p.vars b m.cells).2).1≠[]:=λh=>A6 (Pe.1 h);rw[aaf AI]at AS;refine adh (i:=N.length) (b:=b) (by omega) (by simp[O]) (by omega) (by omega) (by omega) A8 AL (by rw[A7];omega) A1 (by rw[A7,AA];omega) E (by omega) k (Q _ _) (λv1 v2 v3 I=>?_) v1 v2 v3 I;have y:=R6 m t H (ah p.vars b m.cells).1 (ay p.vars D (ah p.vars b m.cells).2).1 (ah p.vars b m.cells).2 (ay p.vars D (ah p.vars b m.cells).2).2 (aM b) (max (dY H) (bz D)) hm AI;have A':gH m.out.length (t.1::dQ H) ((ah p.vars b m.cells).1::(ay p.vars D (ah p.vars b m.cells).2).1)=((m.out.length+t.1.length+1+(ah p.vars b m.cells).1.length:Nat):Int)::gH (m.out.length+t.1.length+2+(ah p.vars b m.cells).1.length) (dQ H) (ay p.vars D (ah p.vars b m.cells).2).1:=by
    simp only[gH,aaf AI]
   have AN:((((m.gY t).aW (ah p.vars b m.cells).1 (ah p.vars b m.cells).2 (aM b)).put (ins 9 0 0 0 0) 0).lead (m.out.length+t.1.length:Nat)).out.length=m.out.length+t.1.length+2+(ah p.vars b m.cells).1.length:=by
    rw[GI];show (((m.gY t).aW _ _ _).out++_).length=_;rw[aal,AA];simp;omega
   have AB:((((m.gY t).aW (ah p.vars b m.cells).1 (ah p.vars b m.cells).2 (aM b)).put (ins 9 0 0 0 0) 0).lead (m.out.length+t.1.length:Nat)).cells=(ah p.vars b m.cells).2:=rfl;have AO:((((m.gY t).aW (ah p.vars b m.cells).1 (ah p.vars b m.cells).2 (aM b)).put (ins 9 0 0 0 0) 0).lead (m.out.length+t.1.length:Nat)).ex.length=m.ex.length:=by
    show (iZ m.ex _).length=_;simp
   have AW:0<=((((m.gY t).aW (ah p.vars b m.cells).1 (ah p.vars b m.cells).2 (aM b)).put (ins 9 0 0 0 0) 0).lead (m.out.length+t.1.length:Nat)).most:=by
    simp[Mk.lead,Mk.put,Mk.aW];omega
   have AX:m.dS (t::H) ((ah p.vars b m.cells).1::(ay p.vars D (ah p.vars b m.cells).2).1) (ay p.vars D (ah p.vars b m.cells).2).2 (max (dY (t::H)) (bz (b::D)))=((((m.gY t).aW (ah p.vars b m.cells).1 (ah p.vars b m.cells).2 (aM b)).put (ins 9 0 0 0 0) 0).lead (m.out.length+t.1.length:Nat)).dS H (ay p.vars D (ah p.vars b m.cells).2).1 (ay p.vars D (ah p.vars b m.cells).2).2 (max (dY H) (bz D)):=by
    rw[y];exact yG (by simp only[dY,bz];omega)
   have ih:=Ph A8 AQ AR AJ AC AD k Q A9 D (N++[b]) H (U++[t]) ((((m.gY t).aW (ah p.vars b m.cells).1 (ah p.vars b m.cells).2 (aM b)).put (ins 9 0 0 0 0) 0).lead (m.out.length+t.1.length:Nat)) (E++[((m.out.length+t.1.length+1+(ah p.vars b m.cells).1.length:Nat):Int)]) v1 v2 v3 I (by simp[O]) (by simp[V]) (.inl (by simp[J])) AW (by rw[AB];omega) ((((((A3.aF _ _).put _ _).aW _ _ _).put _ _).lead _)) (λh=>by
    intro AY;have:=AO;rw[AY]at this;have AZ:=hex h;cases AP:m.ex with
    |nil=>exact AZ AP
    |cons _ _=>rw[AP]at this;simp at this) (by rw[AN,AB];omega) (by rw[AB];omega) (λb AH=>by rw[AO];exact A4 b AH) (by simp at AE⊢;omega)
   rw[AN,AB]at ih;simp only
   rw[AX,A',AM,AA];have A_:E++((m.out.length+t.1.length+1+(ah p.vars b m.cells).1.length:Nat):Int)::gH (m.out.length+t.1.length+2+(ah p.vars b m.cells).1.length) (dQ H) (ay p.vars D (ah p.vars b m.cells).2).1=E++[((m.out.length+t.1.length+1+(ah p.vars b m.cells).1.length:Nat):Int)]++gH (m.out.length+t.1.length+2+(ah p.vars b m.cells).1.length) (dQ H) (ay p.vars D (ah p.vars b m.cells).2).1:=by simp
   rw[A_];simpa using ih
end
def I2:∀(n:Nat)(ts bs:List (List ax)),∀i∈gH n ts bs,∃k:Nat,i=k/\k<n+(lE 0 n ts bs).length
 |_,_,[],i,h=>by simp[gH]at h
 |n,[],b::r,i,h=>by
  simp only[gH,lE]at h⊢;by_cases I:r=[]
  .rw[aav I]at h;simp at h
  .rw[aaf I]at h⊢;rcases aam.1 h with rfl|h
   .exact⟨_,rfl,by simp⟩
   .obtain⟨k,e,J⟩:=I2 (n+b.length+1) [] r i h;exact⟨k,e,by simp;omega⟩
 |n,t::ts,b::r,i,h=>by
  simp only[gH,lE]at h⊢;by_cases I:r=[]
  .rw[aav I]at h;simp at h
  .rw[aaf I]at h⊢;rcases aam.1 h with rfl|h
   .exact⟨_,rfl,by simp;omega⟩
   .obtain⟨k,e,J⟩:=I2 (n+t.length+2+b.length) ts r i h;exact⟨k,e,by simp;omega⟩
def qV{m:Mk}{ts:List (List ax×Int)}{bs:List (List ax)}{c t:Int}(y:∀x∈dQ ts,Flat x):(m.dS ts bs c t).cS (gH m.out.length (dQ ts) bs)=m.aW (ck (dQ ts) bs) c t:=by
 unfold Mk.cS Mk.dS Mk.aW;simp only[Mk.mk.injEq,amD,and_true];refine⟨?_,by rw[IH (by decide) _ _ _ y],by rw[IH (by decide) _ _ _ y]⟩;have:=ab5 (pre:=m.out) rfl (ts:=dQ ts) (bs:=bs) y;rw[<-this];congr 1;simp[Aq]
def ER:∀(n:Nat)(ts bs:List (List ax)),(gH n ts bs).length<=bs.length
 |_,_,[]=>by simp[gH]
 |n,[],b::r=>by
  simp only[gH];split
  .simp
  .have:=ER (n+b.length+1) [] r;simp;omega
 |n,t::ts,b::r=>by
  simp only[gH];split
  .simp
  .have:=ER (n+t.length+2+b.length) ts r;simp;omega
def MkJ(p:Pg)(m:Mk)(s:Sm)(r:bU):Prop:=∃v1 v2 v3,r=some (.ret (.bh []),[(0,iY p m 0 3 4 5 v1 v2 v3),(0,.box [.ptr 0 0 0]),(0,bB s),(v1,.vec 5 (m.out.map aZ)),(v2,.vv (m.ex.map gV) none),(v3,.vec 1 (m.lv.map du))])
def MkK(p:Pg)(m:Mk)(s:Sm)(q:Int)(r:bU):Prop:=∃v1 v2 v3,r=some (.ret (.bh []),[(0,iY p m 0 4 5 6 v1 v2 v3),(0,.box [.ptr 0 0 0]),(0,bB s),(0,.box [.d (.int .i64 q)]),(v1,.vec 5 (m.out.map aZ)),(v2,.vv (m.ex.map gV) none),(v3,.vec 1 (m.lv.map du))])
section
variable {p:Pg} {lp:Bool}
theorem Ux{s:Sm}{blocks:List (List Sm)}{ts:List (List ax×Int)}(AF:blocks.length<99999980)(A':ts.length<=blocks.length)(A0:blocks.length<=ts.length+1)(D:∀x∈dQ ts,Flat x)
 (A1:∀(i:Nat)(t:List ax×Int),ts[i]?=some t->∀m:Mk,0<=m.most->m.out.length+t.1.length<99999990->Lk p (m.aF t.1 t.2) 1 s (.ret (.bh [])) (ak ctx 93 [.d (.int .i64 i),.ptr 0 0 0,.ptr 1 0 0] [.box [.ptr 2 0 0],bB s,iY p m 0 3 4 5 0 0 0,.vec 5 (m.out.map aZ),.vv (m.ex.map gV) none,.vec 1 (m.lv.map du)]))
 (A2:∀b∈blocks,xz p lp b) (A3:∀b∈blocks,∀c,0<=c->c<=(ah p.vars b c).2) (m:Mk) (hm:0<=m.most) (A4:0<=m.cells) (A5:jK m) (hex:lp=true->m.ex≠[])
 (A6:m.out.length+(ck (dQ ts) (ay p.vars blocks m.cells).1).length<99999990) (A7:(ay p.vars blocks m.cells).2<99999990) (A8:∀b∈blocks,m.ex.length+jL b<99999990):
 MkJ p (m.aW (ck (dQ ts) (ay p.vars blocks m.cells).1) (ay p.vars blocks m.cells).2 (max (dY ts) (bz blocks))) s
  (ak ctx 92 [.ptr 0 0 0,.d (.list (blocks.map dr)),.d (.int .i64 ts.length),.fn 93 [.ptr 1 0 0,.ptr 2 0 0]] [iY p m 0 3 4 5 0 0 0,.box [.ptr 0 0 0],bB s,.vec 5 (m.out.map aZ),.vv (m.ex.map gV) none,.vec 1 (m.lv.map du)]):=by
 have O:=λk Q A9 v1 v2 v3 U=>Pf (by omega) A' A0 A1 A2 A3 k Q A9 blocks [] ts [] m [] v1 v2 v3 U rfl rfl (.inl rfl) hm A4 A5 hex A6 A7 A8 (by simp;omega);have AA:(gH m.out.length (dQ ts) (ay p.vars blocks m.cells).1).length<100000000:=by
  have:=ER m.out.length (dQ ts) (ay p.vars blocks m.cells).1;rw[yF]at this;omega
 have AB:(m.dS ts (ay p.vars blocks m.cells).1 (ay p.vars blocks m.cells).2 (max (dY ts) (bz blocks))).out.length<100000000:=by
  simp only[Mk.dS,aal,Aq];omega
 have AC:Pl (m.dS ts (ay p.vars blocks m.cells).1 (ay p.vars blocks m.cells).2 (max (dY ts) (bz blocks))).out.length (gH m.out.length (dQ ts) (ay p.vars blocks m.cells).1):=by
  intro i hi;obtain⟨k,e,J⟩:=I2 _ _ _ i hi;exact⟨k,e,by simpa [Mk.dS]using J⟩
 have H:=yD p (m.dS ts (ay p.vars blocks m.cells).1 (ay p.vars blocks m.cells).2 (max (dY ts) (bz blocks))) 0 _ AA AB AC;have V:(m.dS ts (ay p.vars blocks m.cells).1 (ay p.vars blocks m.cells).2 (max (dY ts) (bz blocks))).ex=(m.aW (ck (dQ ts) (ay p.vars blocks m.cells).1) (ay p.vars blocks m.cells).2 (max (dY ts) (bz blocks))).ex:=by rw[<-qV D];rfl
 have Z:(m.dS ts (ay p.vars blocks m.cells).1 (ay p.vars blocks m.cells).2 (max (dY ts) (bz blocks))).lv=(m.aW (ck (dQ ts) (ay p.vars blocks m.cells).1) (ay p.vars blocks m.cells).2 (max (dY ts) (bz blocks))).lv:=by rw[<-qV D];rfl
 rw[qV D]at H;generalize m.aW (ck (dQ ts) (ay p.vars blocks m.cells).1) (ay p.vars blocks m.cells).2 (max (dY ts) (bz blocks))=M at*;generalize m.dS ts (ay p.vars blocks m.cells).1 (ay p.vars blocks m.cells).2 (max (dY ts) (bz blocks))=N at*;generalize gH m.out.length (dQ ts) (ay p.vars blocks m.cells).1=E at*;rw[aa1 (by simp)];simp[V,Z]at H;simp[f92]at O⊢;refine O _ (λX F r=>X=N->F=E->MkJ p M s r) (λY X F v1 v2 v3 U AD AE=>?_) _ _ _ _ rfl rfl;subst AD AE;simp[f92,H,V,Z];exact⟨_,_,_,rfl⟩
theorem Uy{s:Sm}{q:Int}{blocks:List (List Sm)}{ts:List (List ax×Int)}(AF:blocks.length<99999980)(A':ts.length<=blocks.length)(A0:blocks.length<=ts.length+1)(D:∀x∈dQ ts,Flat x)
 (A1:∀(i:Nat)(t:List ax×Int),ts[i]?=some t->∀m:Mk,0<=m.most->m.out.length+t.1.length<99999990->R8 p (m.aF t.1 t.2) 1 s q (.ret (.bh [])) (ak ctx 151 [.d (.int .i64 i),.ptr 0 0 0,.ptr 1 0 0,.ptr 2 0 0] [.box [.ptr 3 0 0],bB s,.box [.d (.int .i64 q)],iY p m 0 4 5 6 0 0 0,.vec 5 (m.out.map aZ),.vv (m.ex.map gV) none,.vec 1 (m.lv.map du)]))
 (A2:∀b∈blocks,xz p lp b) (A3:∀b∈blocks,∀c,0<=c->c<=(ah p.vars b c).2) (m:Mk) (hm:0<=m.most) (A4:0<=m.cells) (A5:jK m) (hex:lp=true->m.ex≠[])
 (A6:m.out.length+(ck (dQ ts) (ay p.vars blocks m.cells).1).length<99999990) (A7:(ay p.vars blocks m.cells).2<99999990) (A8:∀b∈blocks,m.ex.length+jL b<99999990):
 MkK p (m.aW (ck (dQ ts) (ay p.vars blocks m.cells).1) (ay p.vars blocks m.cells).2 (max (dY ts) (bz blocks))) s q
  (ak ctx 92 [.ptr 0 0 0,.d (.list (blocks.map dr)),.d (.int .i64 ts.length),.fn 151 [.ptr 1 0 0,.ptr 2 0 0,.ptr 3 0 0]] [iY p m 0 4 5 6 0 0 0,.box [.ptr 0 0 0],bB s,.box [.d (.int .i64 q)],.vec 5 (m.out.map aZ),.vv (m.ex.map gV) none,.vec 1 (m.lv.map du)]):=by
 have O:=λk Q A9 v1 v2 v3 U=>Ph (by omega) A' A0 A1 A2 A3 k Q A9 blocks [] ts [] m [] v1 v2 v3 U rfl rfl (.inl rfl) hm A4 A5 hex A6 A7 A8 (by simp;omega);have AA:(gH m.out.length (dQ ts) (ay p.vars blocks m.cells).1).length<100000000:=by
  have:=ER m.out.length (dQ ts) (ay p.vars blocks m.cells).1;rw[yF]at this;omega
 have AB:(m.dS ts (ay p.vars blocks m.cells).1 (ay p.vars blocks m.cells).2 (max (dY ts) (bz blocks))).out.length<100000000:=by
  simp only[Mk.dS,aal,Aq];omega
 have AC:Pl (m.dS ts (ay p.vars blocks m.cells).1 (ay p.vars blocks m.cells).2 (max (dY ts) (bz blocks))).out.length (gH m.out.length (dQ ts) (ay p.vars blocks m.cells).1):=by
  intro i hi;obtain⟨k,e,J⟩:=I2 _ _ _ i hi;exact⟨k,e,by simpa [Mk.dS]using J⟩
 have H:=yD p (m.dS ts (ay p.vars blocks m.cells).1 (ay p.vars blocks m.cells).2 (max (dY ts) (bz blocks))) 0 _ AA AB AC;have V:(m.dS ts (ay p.vars blocks m.cells).1 (ay p.vars blocks m.cells).2 (max (dY ts) (bz blocks))).ex=(m.aW (ck (dQ ts) (ay p.vars blocks m.cells).1) (ay p.vars blocks m.cells).2 (max (dY ts) (bz blocks))).ex:=by rw[<-qV D];rfl
 have Z:(m.dS ts (ay p.vars blocks m.cells).1 (ay p.vars blocks m.cells).2 (max (dY ts) (bz blocks))).lv=(m.aW (ck (dQ ts) (ay p.vars blocks m.cells).1) (ay p.vars blocks m.cells).2 (max (dY ts) (bz blocks))).lv:=by rw[<-qV D];rfl
 rw[qV D]at H;generalize m.aW (ck (dQ ts) (ay p.vars blocks m.cells).1) (ay p.vars blocks m.cells).2 (max (dY ts) (bz blocks))=M at*;generalize m.dS ts (ay p.vars blocks m.cells).1 (ay p.vars blocks m.cells).2 (max (dY ts) (bz blocks))=N at*;generalize gH m.out.length (dQ ts) (ay p.vars blocks m.cells).1=E at*;rw[aa1 (by simp)];simp[V,Z]at H;simp[f92]at O⊢;refine O _ (λX F r=>X=N->F=E->MkK p M s q r) (λY X F v1 v2 v3 U AD AE=>?_) _ _ _ _ rfl rfl;subst AD AE;simp[f92,H,V,Z];exact⟨_,_,_,rfl⟩
end
def Mk.I3(m:Mk)(t b:List ax)(c u:Int):Mk:=
 ⟨m.out++(ins 11 0 0 0 0::t++(ins 10 (m.out.length+t.length+3+b.length) 0 0 0::di (m.out.length+t.length+2) b++[ins 9 m.out.length 0 0 0])),c,max m.most u,iZ m.ex (db (-1) (m.out.length+t.length+2) b),m.lv++db (-2) (m.out.length+t.length+2) b⟩
def Mk.I4(m:Mk)(t b:List ax)(c u:Int):Mk:=
 ⟨m.out++(di m.out.length b++(ins 11 0 0 0 0::t++[ins 10 m.out.length 0 0 0])),c,max m.most u,iZ m.ex (db (-1) m.out.length b),m.lv++db (-2) m.out.length b⟩
section
variable {p:Pg} (J:p.vars.length<=1000) (M:∀v∈p.vars,cJ v=true)
include J M
theorem air{to val:Ex}{b:List Sm}{line:Int}(N:bE val=true)(O:(aJ p.vars val).e=0)(U:xz p true b)(m:Mk)(hm:0<=m.most)(V:0<=m.cells)(Z:jK m)(hex:m.ex≠[])
 (A1:m.out.length+(aj p.vars val).1.length+(ah p.vars b m.cells).1.length+3<99999990) (A2:(ah p.vars b m.cells).2<99999990) (A3:m.ex.length+jL b<99999990):
 Lk p (m.I3 (aj p.vars val).1 (ah p.vars b m.cells).1 (ah p.vars b m.cells).2 (max (az 0 val) (aM b))) 0 (.mk 5 [] to val [] [] [] [b] line) (.ret (.bh [])) (ak ctx 154 [.ptr 0 0 0,.ptr 1 0 0] [.box [.ptr 2 0 0],bB (.mk 5 [] to val [] [] [] [b] line),iY p m 0 3 4 5 0 0 0,.vec 5 (m.out.map aZ),.vv (m.ex.map gV) none,.vec 1 (m.lv.map du)]):=by
 have g0:=IS p m 0;obtain⟨A4,a2,a3,g1⟩:=oK p m 0 (by omega) (by decide);have E:(m.put (ins 11 0 0 0 0) 0).out.length=m.out.length+1:=by simp[Mk.put]
 obtain⟨A5,A6,A7,g2⟩:=ny J M val N O (m.put (ins 11 0 0 0 0) 0) 0 (by omega) (by omega) (by simp[Mk.put];omega) (by rw[E];omega);have D:((m.put (ins 11 0 0 0 0) 0).aF (aj p.vars val).1 (az 0 val)).out.length=m.out.length+1+(aj p.vars val).1.length:=by
  show ((m.put (ins 11 0 0 0 0) 0).out++_).length=_;rw[aal,E]
 obtain⟨A8,A9,AA,g3⟩:=BN p ((m.put (ins 11 0 0 0 0) 0).aF (aj p.vars val).1 (az 0 val)) 1 0 (by rw[D];omega) (by decide);rw[show (1:Int)+ -1=0 by omega]at g3;have H:(((m.put (ins 11 0 0 0 0) 0).aF (aj p.vars val).1 (az 0 val)).put (ins 10 0 0 0 0) 0).out.length=m.out.length+(aj p.vars val).1.length+2:=by
  show (((m.put (ins 11 0 0 0 0) 0).aF (aj p.vars val).1 (az 0 val)).out++_).length=_;rw[aal,D];simp;omega
 obtain⟨d1,d2,d3,g4⟩:=U (((m.put (ins 11 0 0 0 0) 0).aF (aj p.vars val).1 (az 0 val)).put (ins 10 0 0 0 0) 0) (by simp[Mk.put,Mk.aF];omega) V (((Z.put _ _).aF _ _).put _ _) (λ_=>hex) (by rw[H];show _+(ah p.vars b m.cells).1.length<_;omega) (by show (ah p.vars b m.cells).2<_;omega) (by show m.ex.length+_<_;omega);have A':((((m.put (ins 11 0 0 0 0) 0).aF (aj p.vars val).1 (az 0 val)).put (ins 10 0 0 0 0) 0).aW (ah p.vars b m.cells).1 (ah p.vars b m.cells).2 (aM b)).out.length=m.out.length+(aj p.vars val).1.length+2+(ah p.vars b m.cells).1.length:=by
  show ((((m.put (ins 11 0 0 0 0) 0).aF (aj p.vars val).1 (az 0 val)).put (ins 10 0 0 0 0) 0).out++di _ _).length=_;rw[aal,H,oZ]
 obtain⟨AE,AF,A0,g5⟩:=IT p ((((m.put (ins 11 0 0 0 0) 0).aF (aj p.vars val).1 (az 0 val)).put (ins 10 0 0 0 0) 0).aW (ah p.vars b m.cells).1 (ah p.vars b m.cells).2 (aM b)) 0 m.out.length (by rw[A'];omega) (by decide);have y:(((((m.put (ins 11 0 0 0 0) 0).aF (aj p.vars val).1 (az 0 val)).put (ins 10 0 0 0 0) 0).aW (ah p.vars b m.cells).1 (ah p.vars b m.cells).2 (aM b)).put (ins 9 m.out.length 0 0 0) 0).out.length=m.out.length+(aj p.vars val).1.length+3+(ah p.vars b m.cells).1.length:=by
  show (((((m.put (ins 11 0 0 0 0) 0).aF (aj p.vars val).1 (az 0 val)).put (ins 10 0 0 0 0) 0).aW (ah p.vars b m.cells).1 (ah p.vars b m.cells).2 (aM b)).out++_).length=_;rw[aal,A'];simp;omega
 have g6:=uD p (((((m.put (ins 11 0 0 0 0) 0).aF (aj p.vars val).1 (az 0 val)).put (ins 10 0 0 0 0) 0).aW (ah p.vars b m.cells).1 (ah p.vars b m.cells).2 (aM b)).put (ins 9 m.out.length 0 0 0) 0) 0 (m.out.length+1+(aj p.vars val).1.length) (by rw[y];omega) (by rw[y];omega);have I:(((((m.put (ins 11 0 0 0 0) 0).aF (aj p.vars val).1 (az 0 val)).put (ins 10 0 0 0 0) 0).aW (ah p.vars b m.cells).1 (ah p.vars b m.cells).2 (aM b)).put (ins 9 m.out.length 0 0 0) 0).lead (m.out.length+1+(aj p.vars val).1.length:Nat)=m.I3 (aj p.vars val).1 (ah p.vars b m.cells).1 (ah p.vars b m.cells).2 (max (az 0 val) (aM b)):=by
  unfold Mk.lead;rw[y];unfold Mk.I3 Mk.aW;rw[H];simp only[Mk.put,Mk.aF,Mk.mk.injEq,amD,and_true];refine⟨?_,by have:=nK 0 val;omega⟩;have:=BP m.out (ins 11 0 0 0 0::(aj p.vars val).1) (di (m.out.length+(aj p.vars val).1.length+2) (ah p.vars b m.cells).1++[ins 9 m.out.length 0 0 0]) (ins 10 0 0 0 0) ((m.out.length+(aj p.vars val).1.length+3+(ah p.vars b m.cells).1.length:Nat):Int) ((m.out.length+1+(aj p.vars val).1.length:Nat):Int) (by simp;omega);have A0:m.out++[ins 11 0 0 0 0]++(aj p.vars val).1++[ins 10 0 0 0 0]++di (m.out.length+(aj p.vars val).1.length+2) (ah p.vars b m.cells).1++[ins 9 m.out.length 0 0 0]=m.out++(ins 11 0 0 0 0::(aj p.vars val).1)++ins 10 0 0 0 0::(di (m.out.length+(aj p.vars val).1.length+2) (ah p.vars b m.cells).1++[ins 9 m.out.length 0 0 0]):=by simp
  rw[A0,this];simp[ins]
 rw[D]at g3;rw[I]at g6;generalize m.I3 (aj p.vars val).1 (ah p.vars b m.cells).1 (ah p.vars b m.cells).2 (max (az 0 val) (aM b))=AG at*;generalize ((((m.put (ins 11 0 0 0 0) 0).aF (aj p.vars val).1 (az 0 val)).put (ins 10 0 0 0 0) 0).aW (ah p.vars b m.cells).1 (ah p.vars b m.cells).2 (aM b)).put (ins 9 m.out.length 0 0 0) 0=AH at*;have g4:ak ctx 29 [.ptr 0 0 0,.d (.list (b.map bZ))] (gW p (((m.put (ins 11 0 0 0 0) 0).aF (aj p.vars val).1 (az 0 val)).put (ins 10 0 0 0 0) 0) 0)=some (.ret (.bh []),RZ p ((((m.put (ins 11 0 0 0 0) 0).aF (aj p.vars val).1 (az 0 val)).put (ins 10 0 0 0 0) 0).aW (ah p.vars b m.cells).1 (ah p.vars b m.cells).2 (aM b)) 0 d1 d2 d3):=g4;generalize (((m.put (ins 11 0 0 0 0) 0).aF (aj p.vars val).1 (az 0 val)).put (ins 10 0 0 0 0) 0).aW (ah p.vars b m.cells).1 (ah p.vars b m.cells).2 (aM b)=AB at*;generalize ((m.put (ins 11 0 0 0 0) 0).aF (aj p.vars val).1 (az 0 val)).put (ins 10 0 0 0 0) 0=AC at*;generalize (m.put (ins 11 0 0 0 0) 0).aF (aj p.vars val).1 (az 0 val)=M2 at*;generalize m.put (ins 11 0 0 0 0) 0=AD at*;rw[W0 (by simp)];simp at g0 g1 g2 g3 g4 g5 g6;simp[f154,ai,dr,g0,g1,g2,g3,g4,g5,g6];exact⟨_,_,_,rfl⟩
theorem ais{to val:Ex}{b:List Sm}{line:Int}(N:bE val=true)(O:(aJ p.vars val).e=0)(U:xz p true b)(m:Mk)(hm:0<=m.most)(V:0<=m.cells)(Z:jK m)(hex:m.ex≠[])
 (A1:m.out.length+(aj p.vars val).1.length+(ah p.vars b m.cells).1.length+2<99999990) (A2:(ah p.vars b m.cells).2<99999990) (A3:m.ex.length+jL b<99999990):
 Lk p (m.I4 (aj p.vars val).1 (ah p.vars b m.cells).1 (ah p.vars b m.cells).2 (max (az 0 val) (aM b))) 0 (.mk 6 [] to val [] [] [] [b] line) (.ret (.bh [])) (ak ctx 154 [.ptr 0 0 0,.ptr 1 0 0] [.box [.ptr 2 0 0],bB (.mk 6 [] to val [] [] [] [b] line),iY p m 0 3 4 5 0 0 0,.vec 5 (m.out.map aZ),.vv (m.ex.map gV) none,.vec 1 (m.lv.map du)]):=by
 have g0:=IS p m 0;obtain⟨d1,d2,d3,g1⟩:=U m hm V Z (λ_=>hex) (by omega) (by omega) (by omega);have E:(m.aW (ah p.vars b m.cells).1 (ah p.vars b m.cells).2 (aM b)).out.length=m.out.length+(ah p.vars b m.cells).1.length:=by
  show (m.out++di _ _).length=_;rw[aal,oZ]
 obtain⟨A4,a2,a3,g2⟩:=oK p (m.aW (ah p.vars b m.cells).1 (ah p.vars b m.cells).2 (aM b)) 0 (by rw[E];omega) (by decide);have D:((m.aW (ah p.vars b m.cells).1 (ah p.vars b m.cells).2 (aM b)).put (ins 11 0 0 0 0) 0).out.length=m.out.length+(ah p.vars b m.cells).1.length+1:=by
  show ((m.aW (ah p.vars b m.cells).1 (ah p.vars b m.cells).2 (aM b)).out++_).length=_;rw[aal,E];rfl
 obtain⟨A5,A6,A7,g3⟩:=ny J M val N O ((m.aW (ah p.vars b m.cells).1 (ah p.vars b m.cells).2 (aM b)).put (ins 11 0 0 0 0) 0) 0 (by omega) (by omega) (by simp[Mk.put,Mk.aW];omega) (by rw[D];omega);have H:(((m.aW (ah p.vars b m.cells).1 (ah p.vars b m.cells).2 (aM b)).put (ins 11 0 0 0 0) 0).aF (aj p.vars val).1 (az 0 val)).out.length=m.out.length+(ah p.vars b m.cells).1.length+1+(aj p.vars val).1.length:=by
  show (((m.aW (ah p.vars b m.cells).1 (ah p.vars b m.cells).2 (aM b)).put (ins 11 0 0 0 0) 0).out++_).length=_;rw[aal,D]
 obtain⟨A8,A9,AA,g4⟩:=BN p (((m.aW (ah p.vars b m.cells).1 (ah p.vars b m.cells).2 (aM b)).put (ins 11 0 0 0 0) 0).aF (aj p.vars val).1 (az 0 val)) 1 m.out.length (by rw[H];omega) (by decide);rw[show (1:Int)+ -1=0 by omega]at g4;have I:(((m.aW (ah p.vars b m.cells).1 (ah p.vars b m.cells).2 (aM b)).put (ins 11 0 0 0 0) 0).aF (aj p.vars val).1 (az 0 val)).put (ins 10 m.out.length 0 0 0) 0=m.I4 (aj p.vars val).1 (ah p.vars b m.cells).1 (ah p.vars b m.cells).2 (max (az 0 val) (aM b)):=by
  unfold Mk.I4 Mk.aW;simp only[Mk.put,Mk.aF,Mk.mk.injEq,amD,and_true];exact⟨by simp,by have:=nK 0 val;omega⟩
 rw[I]at g4;generalize m.I4 (aj p.vars val).1 (ah p.vars b m.cells).1 (ah p.vars b m.cells).2 (max (az 0 val) (aM b))=AB at*;clear I;generalize ((m.aW (ah p.vars b m.cells).1 (ah p.vars b m.cells).2 (aM b)).put (ins 11 0 0 0 0) 0).aF (aj p.vars val).1 (az 0 val)=AC at*;generalize (m.aW (ah p.vars b m.cells).1 (ah p.vars b m.cells).2 (aM b)).put (ins 11 0 0 0 0) 0=M2 at*;generalize m.aW (ah p.vars b m.cells).1 (ah p.vars b m.cells).2 (aM b)=AD at*;rw[W0 (by simp)];simp at g0 g1 g2 g3 g4;simp[f154,ai,dr,g0,g1,g2,g3,g4];exact⟨_,_,_,rfl⟩
end
def Mk.I5(m:Mk)(at_ cell:Int)(b:List ax)(c u:Int):Mk:=
 ⟨m.out++(ins 11 0 0 0 0::ins 13 at_ cell 0 0::ins 10 (m.out.length+b.length+8) 0 0 0::di (m.out.length+3) b++[ins 2 at_ 0 0 0,ins 2 (cell+1) 0 0 0,ins 8 0 8 0 0,ins 6 at_ 0 0 0,ins 9 m.out.length 0 0 0]),c,max m.most u,iZ m.ex (db (-1) (m.out.length+3) b),m.lv++db (-2) (m.out.length+3) b⟩
def MkF(p:Pg)(m:Mk)(s:Sm)(at_ cell:Int)(r:bU):Prop:=∃v1 v2 v3,r=some (.ret (.bh []),[(0,.box [.ptr 4 0 0]),(0,.box [.d (.int .i64 at_)]),(0,.box [.d (.int .i64 cell)]),(0,bB s),(0,iY p m 0 5 6 7 v1 v2 v3),(v1,.vec 5 (m.out.map aZ)),(v2,.vv (m.ex.map gV) none),(v3,.vec 1 (m.lv.map du))])
section
variable {p:Pg}
theorem ait{name:Tx}{to val:Ex}{conds:List Ex}{b:List Sm}{line at_ cell:Int}(A9:xz p true b)(m:Mk)(hm:0<=m.most)(AA:0<=m.cells)(AB:jK m)(hex:m.ex≠[])(AC:dE (cell+1))
 (AN:m.out.length+(ah p.vars b m.cells).1.length+8<99999990) (AO:(ah p.vars b m.cells).2<99999990) (AP:m.ex.length+jL b<99999990):
 MkF p (m.I5 at_ cell (ah p.vars b m.cells).1 (ah p.vars b m.cells).2 (max 2 (aM b))) (.mk 4 name to val conds [] [] [b] line) at_ cell (ak ctx 153 [.ptr 0 0 0,.ptr 1 0 0,.ptr 2 0 0,.ptr 3 0 0] [.box [.ptr 4 0 0],.box [.d (.int .i64 at_)],.box [.d (.int .i64 cell)],bB (.mk 4 name to val conds [] [] [b] line),iY p m 0 5 6 7 0 0 0,.vec 5 (m.out.map aZ),.vv (m.ex.map gV) none,.vec 1 (m.lv.map du)]):=by
 have g0:=IS p m 0;obtain⟨AQ,a2,a3,g1⟩:=oK p m 0 (by omega) (by decide);have AD:(m.put (ins 11 0 0 0 0) 0).out.length=m.out.length+1:=by simp[Mk.put]
 generalize I:m.put (ins 11 0 0 0 0) 0=J at g1 AD;obtain⟨AR,AS,AT,g2⟩:=kQ p J 0 1 (ins 13 at_ cell 0 0) (by omega) (by decide);have A5:(J.put (ins 13 at_ cell 0 0) (0+1)).out.length=m.out.length+2:=by simp[Mk.put];omega
 generalize M:J.put (ins 13 at_ cell 0 0) (0+1)=M2 at g2 A5;obtain⟨AU,AV,AW,g3⟩:=BN p M2 (0+1) 0 (by omega) (by decide);rw[show (0:Int)+1+ -1=0 by omega]at g3;have H:(M2.put (ins 10 0 0 0 0) 0).out.length=m.out.length+3:=by simp[Mk.put];omega
 generalize N:M2.put (ins 10 0 0 0 0) 0=D at g3 H;have f3:D.cells=m.cells/\D.ex=m.ex/\D.lv=m.lv/\0<=D.most/\D.most=max m.most 1/\D.out=m.out++[ins 11 0 0 0 0,ins 13 at_ cell 0 0,ins 10 0 0 0 0]:=by
  subst N M I;simp[Mk.put];omega
 have q3:jK D:=by
  subst N M I;exact ((AB.put _ _).put _ _).put _ _
 obtain⟨d1,d2,d3,g4⟩:=A9 D f3.2.2.2.1 (by rw[f3.1];exact AA) q3 (λ_=>by rw[f3.2.1];exact hex) (by rw[f3.1];omega) (by rw[f3.1];omega) (by rw[f3.2.1];omega);rw[f3.1]at g4;have AE:(D.aW (ah p.vars b m.cells).1 (ah p.vars b m.cells).2 (aM b)).out.length=m.out.length+3+(ah p.vars b m.cells).1.length:=by
  show (D.out++di _ _).length=_;rw[aal,oZ,H]
 generalize O:D.aW (ah p.vars b m.cells).1 (ah p.vars b m.cells).2 (aM b)=U at g4 AE;obtain⟨AX,A6,AY,g5⟩:=IU p U 0 at_ 1 (by omega) (by decide);rw[aaf (by decide)]at g5;have AF:(U.put (ins 2 at_ 0 0 0) (0+1)).out.length=m.out.length+4+(ah p.vars b m.cells).1.length:=by simp[Mk.put];omega
 generalize V:U.put (ins 2 at_ 0 0 0) (0+1)=Z at g5 AF;obtain⟨AZ,A_,Aa,g6⟩:=IU p Z (0+1) (cell+1) 1 (by omega) (by decide);rw[aaf (by decide)]at g6;have AG:(Z.put (ins 2 (cell+1) 0 0 0) (0+1+1)).out.length=m.out.length+5+(ah p.vars b m.cells).1.length:=by simp[Mk.put];omega
 generalize y:Z.put (ins 2 (cell+1) 0 0 0) (0+1+1)=A' at g6 AG;obtain⟨i1,i2,i3,g7⟩:=kQ p A' (0+1+1) (-1) (ins 8 0 8 0 0) (by omega) (by decide);have AH:(A'.put (ins 8 0 8 0 0) (0+1+1+ -1)).out.length=m.out.length+6+(ah p.vars b m.cells).1.length:=by simp[Mk.put];omega
 generalize A0:A'.put (ins 8 0 8 0 0) (0+1+1+ -1)=A1 at g7 AH;obtain⟨Ab,Ac,Ad,g8⟩:=tc p A1 (0+1+1+ -1) at_ (by omega) (by decide);rw[show (0:Int)+1+1+ -1+ -1=0 by omega]at g8;have AI:(A1.put (ins 6 at_ 0 0 0) 0).out.length=m.out.length+7+(ah p.vars b m.cells).1.length:=by simp[Mk.put];omega
 generalize A2:A1.put (ins 6 at_ 0 0 0) 0=A3 at g8 AI;obtain⟨Ae,Af,Ag,g9⟩:=IT p A3 0 m.out.length (by omega) (by decide);have A7:(A3.put (ins 9 m.out.length 0 0 0) 0).out.length=m.out.length+8+(ah p.vars b m.cells).1.length:=by simp[Mk.put];omega
 generalize A4:A3.put (ins 9 m.out.length 0 0 0) 0=E at g9 A7;have g10:=uD p E 0 (m.out.length+2) (by omega) (by omega);have A8:E.lead (m.out.length+2:Nat)=m.I5 at_ cell (ah p.vars b m.cells).1 (ah p.vars b m.cells).2 (max 2 (aM b)):=by
  have AJ:E.out=(m.out++[ins 11 0 0 0 0,ins 13 at_ cell 0 0])++ins 10 0 0 0 0::(di (m.out.length+3) (ah p.vars b m.cells).1++[ins 2 at_ 0 0 0,ins 2 (cell+1) 0 0 0,ins 8 0 8 0 0,ins 6 at_ 0 0 0,ins 9 m.out.length 0 0 0]):=by
   subst A4 A2 A0 y V O;simp[Mk.put,Mk.aW,H,f3]
  have AK:E.ex=iZ m.ex (db (-1) (m.out.length+3) (ah p.vars b m.cells).1)/\E.lv=m.lv++db (-2) (m.out.length+3) (ah p.vars b m.cells).1/\E.cells=(ah p.vars b m.cells).2/\E.most=max m.most (max 2 (aM b)):=by
   subst A4 A2 A0 y V O;simp[Mk.put,Mk.aW,H,f3];omega
  unfold Mk.lead Mk.I5;rw[A7];simp only[AK,Mk.mk.injEq,and_true];rw[AJ];have:=uA (m.out++[ins 11 0 0 0 0,ins 13 at_ cell 0 0]) (ins 10 0 0 0 0) (di (m.out.length+3) (ah p.vars b m.cells).1++[ins 2 at_ 0 0 0,ins 2 (cell+1) 0 0 0,ins 8 0 8 0 0,ins 6 at_ 0 0 0,ins 9 m.out.length 0 0 0]) ((m.out.length+8+(ah p.vars b m.cells).1.length:Nat):Int);have A6:((m.out++[ins 11 0 0 0 0,ins 13 at_ cell 0 0]).length:Int)=((m.out.length+2:Nat):Int):=by simp
  rw[A6]at this;rw[this];simp[ins];omega
 rw[A8]at g10;generalize m.I5 at_ cell (ah p.vars b m.cells).1 (ah p.vars b m.cells).2 (max 2 (aM b))=Ah at*;have AL:IntKind.i64.wrap (cell+1)=cell+1:=qL AC;rw[A5]at g3;clear I M N O V y A0 A2 A4 A8 f3;have AM:List.range 8=[0,1,2,3,4,5,6,7]:=rfl;rw[agU (by simp)];simp[ins]at g0 g1 g2 g3 g4 g5 g6 g7 g8 g9 g10;simp[f153,ai,dr,AL,AM,g0,g1,g2,g3,g4,g5,g6,g7,g8,g9,g10];exact⟨_,_,_,rfl⟩
end
def Mk.eY(m:Mk):Mk:={m with ex:=m.ex++[[]]}
def jK.eY{m:Mk}(h:jK m):jK m.eY:=
 ⟨h.1,λr H=>by
  rcases aaA.1 H with H|H
  .exact h.2 r H
  .simp at H;subst H;simp⟩
def Mk.vo(m:Mk)(ex:List (List Int))(row:List Int):Mk:={m with out:=kM m.out row m.out.length,ex:=ex}
def Pm{p:Pg}{s:Sm}{m M:Mk}{row:List Int}(O:M.ex=m.ex++[row])(D:Lk p M 0 s (.ret (.bh [])) (ak ctx 154 [.ptr 0 0 0,.ptr 1 0 0] [.box [.ptr 2 0 0],bB s,iY p m.eY 0 3 4 5 0 0 0,.vec 5 (m.out.map aZ),.vv (m.eY.ex.map gV) none,.vec 1 (m.lv.map du)]))
 (A0:row.length<99999990) (A1:M.out.length<99999990) (U:Pl M.out.length row) (A2:m.ex.length<99999990):
 MkJ p (M.vo m.ex row) s (ak ctx 152 [.ptr 0 0 0,.fn 154 [.ptr 1 0 0,.ptr 2 0 0]] [iY p m 0 3 4 5 0 0 0,.box [.ptr 0 0 0],bB s,.vec 5 (m.out.map aZ),.vv (m.ex.map gV) none,.vec 1 (m.lv.map du)]):=by
 obtain⟨v1,v2,v3,D⟩:=D;have E:=yD p {M with ex:=m.ex} 0 row (by omega) (by simpa using (by omega:M.out.length<100000000)) U;have e:({M with ex:=m.ex}:Mk).cS row=M.vo m.ex row:=rfl;rw[e]at E;have I:(M.vo m.ex row).ex=m.ex:=rfl;have J:(M.vo m.ex row).lv=M.lv:=rfl;generalize M.vo m.ex row=N at*;simp[O,Mk.eY]at D;simp[I,J]at E;have V:m.ex.length<=4611686018427387903:=by omega
 have Z:(m.ex.length+1)*24<=140737488355328:=by omega
 have y:IntKind.i64.wrap ((m.ex.length:Int)+1-1)=m.ex.length:=by rw[show (m.ex.length:Int)+1-1=m.ex.length by omega];exact (bu _)
 have A':=bu (m.ex.length:Int);rw[WZ (by simp)];simp[f152,D,V,Z,y,A',E];rw[<-I,<-J];exact⟨_,_,_,rfl⟩
def MkG(p:Pg)(m:Mk)(s:Sm)(at_ cell:Int)(r:bU):Prop:=∃v1 v2 v3,r=some (.ret (.bh []),[(0,iY p m 0 5 6 7 v1 v2 v3),(0,.box [.ptr 0 0 0]),(0,.box [.d (.int .i64 at_)]),(0,.box [.d (.int .i64 cell)]),(0,bB s),(v1,.vec 5 (m.out.map aZ)),(v2,.vv (m.ex.map gV) none),(v3,.vec 1 (m.lv.map du))])
def ZF{p:Pg}{s:Sm}{at_ cell:Int}{m M:Mk}{row:List Int}(O:M.ex=m.ex++[row])(D:MkF p M s at_ cell (ak ctx 153 [.ptr 0 0 0,.ptr 1 0 0,.ptr 2 0 0,.ptr 3 0 0] [.box [.ptr 4 0 0],.box [.d (.int .i64 at_)],.box [.d (.int .i64 cell)],bB s,iY p m.eY 0 5 6 7 0 0 0,.vec 5 (m.out.map aZ),.vv (m.eY.ex.map gV) none,.vec 1 (m.lv.map du)]))
 (A0:row.length<99999990) (A1:M.out.length<99999990) (U:Pl M.out.length row) (A2:m.ex.length<99999990):
 MkG p (M.vo m.ex row) s at_ cell (ak ctx 152 [.ptr 0 0 0,.fn 153 [.ptr 1 0 0,.ptr 2 0 0,.ptr 3 0 0,.ptr 4 0 0]] [iY p m 0 5 6 7 0 0 0,.box [.ptr 0 0 0],.box [.d (.int .i64 at_)],.box [.d (.int .i64 cell)],bB s,.vec 5 (m.out.map aZ),.vv (m.ex.map gV) none,.vec 1 (m.lv.map du)]):=by
 obtain⟨v1,v2,v3,D⟩:=D;have E:=yD p {M with ex:=m.ex} 0 row (by omega) (by simpa using (by omega:M.out.length<100000000)) U;have e:({M with ex:=m.ex}:Mk).cS row=M.vo m.ex row:=rfl;rw[e]at E;have I:(M.vo m.ex row).ex=m.ex:=rfl;have J:(M.vo m.ex row).lv=M.lv:=rfl;generalize M.vo m.ex row=N at*;simp[O,Mk.eY]at D;simp[I,J]at E;have V:m.ex.length<=4611686018427387903:=by omega
 have Z:(m.ex.length+1)*24<=140737488355328:=by omega
 have y:IntKind.i64.wrap ((m.ex.length:Int)+1-1)=m.ex.length:=by rw[show (m.ex.length:Int)+1-1=m.ex.length by omega];exact (bu _)
 have A':=bu (m.ex.length:Int);rw[WZ (by simp)];simp[f152,D,V,Z,y,A',E];rw[<-I,<-J];exact⟨_,_,_,rfl⟩
def aiw(m:Mk)(t b:List ax)(c u:Int):(m.eY.I3 t b c u).ex=m.ex++[db (-1) (m.out.length+t.length+2) b]:=by
 show iZ (m.ex++[[]]) _=_;rw[ky];rfl
def adk{m:Mk}{t b:List ax}{c u:Int}(E:Flat t):(m.eY.I3 t b c u).vo m.ex (db (-1) (m.out.length+t.length+2) b)=m.aW (ig t b) c u:=by
 unfold Mk.vo Mk.I3 Mk.aW Mk.eY;simp only[Mk.mk.injEq,amD];have O:((m.out++(ins 11 0 0 0 0::t++(ins 10 (m.out.length+t.length+3+b.length) 0 0 0::di (m.out.length+t.length+2) b++[ins 9 m.out.length 0 0 0]))).length:Int)=m.out.length+t.length+3+b.length:=by simp;omega
 rw[O];refine⟨Ud E rfl rfl,?_,?_⟩
 .have:db (-1) m.out.length (ig t b)=[]:=Oy _ _;rw[this,oL]
 .rw[WO (by decide) (by decide) E]
def aix(m:Mk)(t b:List ax)(c u:Int):(m.eY.I4 t b c u).ex=m.ex++[db (-1) m.out.length b]:=by
 show iZ (m.ex++[[]]) _=_;rw[ky];rfl
def adl{m:Mk}{t b:List ax}{c u:Int}(E:Flat t):(m.eY.I4 t b c u).vo m.ex (db (-1) m.out.length b)=m.aW (lP t b) c u:=by
 unfold Mk.vo Mk.I4 Mk.aW Mk.eY;simp only[Mk.mk.injEq,amD];have O:((m.out++(di m.out.length b++(ins 11 0 0 0 0::t++[ins 10 m.out.length 0 0 0]))).length:Int)=m.out.length+b.length+t.length+2:=by simp;omega
 rw[O];refine⟨Zh E rfl rfl,?_,?_⟩
 .have:db (-1) m.out.length (lP t b)=[]:=Oy _ _;rw[this,oL]
 .rw[ab3 (by decide) (by decide) E]
def Uz(t b:List ax):(ig t b).length=t.length+3+b.length:=by simp[ig];omega
def ZG(t b:List ax):(lP t b).length=t.length+2+b.length:=by simp[lP];omega
section
variable {p:Pg} (U:p.vars.length<=1000) (V:∀v∈p.vars,cJ v=true)
include U V
theorem ZH{to val:Ex}{b:List Sm}{line:Int}(H:bE val=true)(I:(aJ p.vars val).e=0)(Z:xz p true b)(m:Mk)(hm:0<=m.most)(y:0<=m.cells)(A':jK m)
 (A0:m.out.length+(ig (aj p.vars val).1 (ah p.vars b m.cells).1).length<99999990) (A1:(ah p.vars b m.cells).2<99999990) (A2:m.ex.length+1+jL b<99999990):
 gX p (m.aW (ig (aj p.vars val).1 (ah p.vars b m.cells).1) (ah p.vars b m.cells).2 (max (az 0 val) (aM b))) 0 (.ret (.bh [])) (ak ctx 97 [.ptr 0 0 0,.d (bZ (.mk 5 [] to val [] [] [] [b] line))] (gW p m 0)):=by
 rw[Uz]at A0;have A3:m.eY.ex.length=m.ex.length+1:=by simp[Mk.eY]
 have J:=air U V (to:=to) (line:=line) H I Z m.eY hm y A'.eY (by simp[Mk.eY]) (by show m.out.length+_+(ah p.vars b m.cells).1.length+3<_;omega) A1 (by rw[A3];exact A2);rw[show m.eY.cells=m.cells from rfl]at J;have A4:=tf (-1) (ah p.vars b m.cells).1 (m.out.length+(aj p.vars val).1.length+2);have N:(m.eY.I3 (aj p.vars val).1 (ah p.vars b m.cells).1 (ah p.vars b m.cells).2 (max (az 0 val) (aM b))).out.length=m.out.length+(aj p.vars val).1.length+3+(ah p.vars b m.cells).1.length:=by
  simp[Mk.I3,Mk.eY];omega
 obtain⟨v1,v2,v3,D⟩:=Pm (m:=m) (aiw m _ _ _ _) J (by omega) (by rw[N];omega) (λi hi=>by
  obtain⟨j,e,A5⟩:=DZ _ _ _ i hi;exact⟨j,e,by rw[N];omega⟩) (by omega)
 rw[adk (n8 val H I)]at D;generalize m.aW (ig (aj p.vars val).1 (ah p.vars b m.cells).1) (ah p.vars b m.cells).2 (max (az 0 val) (aM b))=M at*;rw[aa2 (by simp)];simp at D;simp[f97,dk,D];exact⟨_,_,_,rfl⟩
theorem Xo{to val:Ex}{b:List Sm}{line:Int}(H:bE val=true)(I:(aJ p.vars val).e=0)(Z:xz p true b)(m:Mk)(hm:0<=m.most)(y:0<=m.cells)(A':jK m)
 (A0:m.out.length+(lP (aj p.vars val).1 (ah p.vars b m.cells).1).length<99999990) (A1:(ah p.vars b m.cells).2<99999990) (A2:m.ex.length+1+jL b<99999990):
 gX p (m.aW (lP (aj p.vars val).1 (ah p.vars b m.cells).1) (ah p.vars b m.cells).2 (max (az 0 val) (aM b))) 0 (.ret (.bh [])) (ak ctx 97 [.ptr 0 0 0,.d (bZ (.mk 6 [] to val [] [] [] [b] line))] (gW p m 0)):=by
 rw[ZG]at A0;have A3:m.eY.ex.length=m.ex.length+1:=by simp[Mk.eY]
 have J:=ais U V (to:=to) (line:=line) H I Z m.eY hm y A'.eY (by simp[Mk.eY]) (by show m.out.length+_+(ah p.vars b m.cells).1.length+2<_;omega) A1 (by rw[A3];exact A2);rw[show m.eY.cells=m.cells from rfl]at J;have A4:=tf (-1) (ah p.vars b m.cells).1 m.out.length;have N:(m.eY.I4 (aj p.vars val).1 (ah p.vars b m.cells).1 (ah p.vars b m.cells).2 (max (az 0 val) (aM b))).out.length=m.out.length+(aj p.vars val).1.length+2+(ah p.vars b m.cells).1.length:=by
  simp[Mk.I4,Mk.eY];omega
 obtain⟨v1,v2,v3,D⟩:=Pm (m:=m) (aix m _ _ _ _) J (by omega) (by rw[N];omega) (λi hi=>by
  obtain⟨j,e,A5⟩:=DZ _ _ _ i hi;exact⟨j,e,by rw[N];omega⟩) (by omega)
 rw[adl (n8 val H I)]at D;generalize m.aW (lP (aj p.vars val).1 (ah p.vars b m.cells).1) (ah p.vars b m.cells).2 (max (az 0 val) (aM b))=M at*;rw[aa2 (by simp)];simp at D;simp[f97,dk,D];exact⟨_,_,_,rfl⟩
end
end Go.Am
end
