/-
  Texts of one proof, one behind the other.
-/
import Derived.Test.YtogaccfhfhdfpaaGreatDoorC1
import Derived.Test.YtogaccfhfhdfpaaGreatDoorC2
import Derived.Test.YtogaccfhfhdfpaaGreatDoorC3
import Derived.Test.YtogaccfhfhdfpaaGreatDoorC4
import Derived.Test.YtogaccfhfhdfpaaGreatDoorC5
set_option linter.all false
section
namespace Go.Am
open Go Go.Proofs Go.Proofs.Tryz
variable [Inhabited bP]
set_option maxRecDepth 100000
set_option maxHeartbeats 8000000
@[simp] def aqd(a b:Tx):(a == b)=decide (a=b):=by by_cases h:a=b<;>simp[h]
def rN:D->Option Int
 | .agg [.int .i64 k,.str _,.str _,.str _,.int .i64 _]=>some k
 |_=>none
def FA{d:D}{k:Int}(h:rN d=some k):∃a b c n,d=.agg [.int .i64 k,.str a,.str b,.str c,.int .i64 n]:=by
 unfold rN at h;split at h
 .rename_i A3 a b c n;cases h;exact⟨a,b,c,n,rfl⟩
 .cases h
def RE:Option (Out×List (Nat×aE))->Option (List (Option Int))
 |some (.ret (.d (.list l)),[])=>some (l.map rN)
 |_=>none
def ahE:RE (bm ctx 120 168 [] [])=some (iC.map some):=by kernel_rfl
def Zo:∃l:List D,ak ctx 168 [] []=some (.ret (.d (.list l)),[])/\l.map rN=iC.map some:=by
 have h:=ahE;generalize V:bm ctx 120 168 [] []=r at h;unfold RE at h;split at h
 .rename_i l;exact⟨l,sS 120 V,by simpa using h⟩
 .cases h
def Zp(d:D)(k b:Int)(H:rN d=some k):ak ctx 170 [.d d,.ptr 0 0 0] [.box [.d (.int .i64 b)]]=some (.ret (.d (.bool (decide (k=b)))),[(0,.box [.d (.int .i64 b)])]):=by
 obtain⟨a,e,c,n,rfl⟩:=FA H;rw[ag3 (by simp)];simp[f170]
def FB(b:Int):∀(rest pre:List D),(∀d∈rest,∃k,rN d=some k/\k≠b)->(pre++rest).length<1000->∀k:Kt,
 aK ctx 169 (.loop (Code.at (aU f169) [1,0,1,0,0])) ⟨19,aC,[(0,true,.d (.list (pre++rest))),(1,true,.fn 170 [.ptr 0 0 0]),(7,true,.d (.int .i64 (pre++rest).length)),(8,true,.d (.int .i64 pre.length))],[⟨0,0,.box [.d (.int .i64 b)]⟩]⟩ k=
  k (.exit 0) ⟨19,aC,[(0,true,.d (.list (pre++rest))),(1,true,.fn 170 [.ptr 0 0 0]),(7,true,.d (.int .i64 (pre++rest).length)),(8,true,.d (.int .i64 (pre++rest).length)),(9,true,.d (.bool false))],[⟨0,0,.box [.d (.int .i64 b)]⟩]⟩
 |[],pre,h,I,k=>by
  rw[ag];simp[f169]
 |d::rest,pre,h,I,k=>by
  obtain⟨N,J,Z⟩:=h d (by simp);have O:=Zp d N b J;obtain⟨y,a2,a3,a4,rfl⟩:=FA J;have ih:=FB b rest (pre++[.agg [.int .i64 N,.str y,.str a2,.str a3,.int .i64 a4]]) (λd H=>h d (by simp[H])) (by simpa using I) k;have M:(pre.length:Int)<pre.length+(rest.length+1):=by omega
  have A':IntKind.i64.wrap ((pre.length:Int)+1)=pre.length+1:=qL (by unfold dE;simp at I;omega);simp[Z]at O;rw[ag];simp[f169]at ih⊢;simp[M,A',O,ih]
def Un(b:Int)(E:b∉iC):ak ctx 71 [.d (.int .i64 b)] []=some (.ret (.d (.list [])),[]):=by
 obtain⟨l,I,hm⟩:=Zo;have A4:l.length=21:=by have:=aeH List.length hm;simpa [iC]using this
 have A0:∀d∈l,∃k,rN d=some k/\k≠b:=by
  intro d H;have M:rN d∈l.map rN:=abb H;rw[hm]at M;obtain⟨k,J,he⟩:=aaD.1 M;exact⟨k,he.symm,λh=>E (h▸J)⟩
 have U:=FB b l [] A0 (by simp;omega);have A1:ak ctx 169 [.d (.list l),.fn 170 [.ptr 0 0 0]] [.box [.d (.int .i64 b)]]=some (.ret (.d (.int .i64 (-1))),[(0,.box [.d (.int .i64 b)])]):=by
  rw[ag2 (by simp)];simp[f169]at U⊢;simp[U]
 have A2:ak ctx 110 [.d (.int .i64 b)] []=some (.ret (.bh [.d (.agg [.int .i64 0,.str [],.str [],.str [],.int .i64 0]),.d (.bool false)]),[]):=by
  rw[agz (by simp)];simp[f110,I,A1]
 rw[alB (by simp)];simp[f71,A2]
def ac1{b:Int}(E:b∈iC):ak ctx 71 [.d (.int .i64 b)] []=some (.ret (.d (.list ((eI b).map gp))),[]):=by
 simp only[iC,aam,aaH]at E;repeat' (obtain rfl|E:=E)
 all_goals exact sS 120 (by as_aux_lemma=>kernel_rfl)
def RG(b:Int):ak ctx 71 [.d (.int .i64 b)] []=some (.ret (.d (.list ((eI b).map gp))),[]):=by
 by_cases E:b∈iC
 .exact ac1 E
 .rw[rJ E];exact Un b E
def vj:Vr:=⟨[],0,0,false,0,0,0,0⟩
def fV(vs:List Vr)(s:Tx):Vr:=(bk vs s).getD vj
def yC:Pn:=⟨[],0,false⟩
def fP(k:Int)(s:Tx):Pn:=(mE k s).getD yC
@[simp] def Uo(t:Tx):D:=.str t
def IL(s:Tx)(l:List Tx)(A':l.length<=1000)(k:Kt)(R1 R2:bU)
 (H:k .ret ⟨15,aC,[(2,true,.d (.bool true))],[]⟩=R1)
 (E:∀Y:Env,k (.exit 0) ⟨15,aC,Y,[]⟩=R2):∀(rest:List Tx)(j:Nat),l.drop j=rest->j+rest.length=l.length->
 aK ctx 48 (.loop (Code.at (aU f48) [1,0,1,0,0])) ⟨15,aC,[(0,true,.d (.str s)),(5,true,.d (.list (l.map Uo))),(6,true,.d (.int .i64 l.length)),(7,true,.d (.int .i64 j))],[]⟩ k=if s∈rest then R1 else R2
 |[],j,J,I=>by
  have I:j=l.length:=by simpa using I
  subst I;rw[ag];simp[f48,E]
 |x::rest,j,J,I=>by
  have N:j<l.length:=by simp at I;omega
  have Z:l[j]=x:=by
   have:=aeH (·[0]?) J;simp at this;simpa [N]using this
  have ih:=IL s l A' k R1 R2 H E rest (j+1) (by rw[<-List.tail_drop,J];rfl) (by simp at I;omega);have O:=bu ((j:Int)+1);rw[ag];by_cases A0:x=s
  .simp[f48];simp[N,Z,A0,H]
  .have A5:¬s=x:=λh=>A0 h.symm;simp[f48]at ih⊢;simp[N,Z,A0,A5,O,ih]
def W2(s:Tx):ak ctx 48 [.d (.str s)] []=some (.ret (.d (.bool (yn s))),[]):=by
 have U:=λk R1 R2 H E=>IL s lD (by decide) k R1 R2 H E lD 0 rfl (by decide);have e:List.map Uo lD=lD.map Uo:=rfl;have A9:lD.length=36:=rfl;have A6:List.range' 0 36=[0,1,2,3,4,5,6,7,8,9,10,11,12,13,14,15,16,17,18,19,20,21,22,23,24,25,26,27,28,29,30,31,32,33,34,35]:=rfl;rw[alu (by simp)];unfold yn;generalize A1:decide (s∈lD)=B;simp[f48,lD]at U;simp[f48,A6];rw[U _ (some (.ret (.d (.bool true)),[])) (some (.ret (.d (.bool false)),[])) (by simp) (by simp)];subst A1;by_cases hm:s∈lD
 .rw[aep hm];simp only[lD,aam,aaH,ajl]at hm;rw[aav hm]
 .rw[decide_eq_false hm];simp only[lD,aam,aaH,ajl]at hm;rw[aaf hm]
def IM(s:Tx)(A':s.length<=16)(k:Kt)(R1 R2:bU)
 (H:k .ret ⟨59,aC,[(2,true,.d (.bool false))],[]⟩=R1)
 (E:∀Y:Env,k (.exit 0) ⟨59,aC,Y,[]⟩=R2):∀(rest:Tx)(j:Nat),s.drop j=rest->j+rest.length=s.length->
 aK ctx 22 (.loop (Code.at (aU f22) [1,1,0,1,0,0])) ⟨59,aC,[(0,true,.d (.str s)),(3,true,.d (.int .i64 j))],[]⟩ k=if yo rest j=true then R2 else R1
 |[],j,J,I=>by
  have I:j=s.length:=by simpa using I
  subst I;rw[ag];simp[f22,E,yo]
 |c::rest,j,J,I=>by
  have N:j<s.length:=by simp at I;omega
  have Z:ki s j=c:=by
   have:=aeH (·[0]?) J;simp at this;simp[ki,this]
  have ih:=IM s A' k R1 R2 H E rest (j+1) (by rw[<-List.tail_drop,J];rfl) (by simp at I;omega);have O:=bu ((j:Int)+1);have key:yo (c::rest) j=((Y5 c||(!decide (j=0)&&(decide (c=95)||Y6 c)))&&yo rest (j+1)):=rfl;have A7:decide (c=95)=decide (c.toNat=95):=by
   rw[aeI];exact⟨λh=>by rw[h];rfl,λh=>UInt8.toNat_inj.1 (by rw[h];rfl)⟩
  rw[key,A7];generalize yo rest (j+1)=B at*;rw[ag];simp[f22]at ih⊢;simp[N,Z,O,H,ih];unfold Y5 Y6;grind
def fI(s:Tx):ak ctx 22 [.d (.str s)] []=some (.ret (.d (.bool (dz s))),[]):=by
 have hw:=W2 s;unfold dz;rw[ald (by simp)];by_cases H:s.length<1
 .have E:¬1<=s.length:=by omega
  have M:(s.length:Int)<1:=by omega
  simp[f22,E,M]
 .by_cases A2:16<s.length
  .have E:1<=s.length:=by omega
   have M:¬(s.length:Int)<1:=by omega
   have V:¬s.length<=16:=by omega
   have y:(16:Int)<s.length:=by omega
   simp[f22,E,M,V,A2,y]
  .have E:1<=s.length:=by omega
   have M:¬(s.length:Int)<1:=by omega
   have V:s.length<=16:=by omega
   have y:¬(16:Int)<s.length:=by omega
   cases A4:yn s with
   |true=>
    rw[A4]at hw;simp[f22,E,M,V,A2,y,hw]
   |false=>
    rw[A4]at hw;have U:=λk R1 R2 H E=>IM s V k R1 R2 H E s 0 rfl (by simp);simp[f22]at U;simp[f22,E,M,V,A2,y,hw];rw[U _ (some (.ret (.d (.bool false)),[])) (some (.ret (.d (.bool true)),[])) (by simp) (by simp)];cases yo s 0<;>simp
def RH{x:Ex}(h:(dI x).length<100000000/\(fQ x).length<100000000/\(da x).length<100000000):ak ctx 52 [.d (.agg [.int .i64 (bO x),.int .i64 (il x),.str (dI x),.str (fQ x),.list ((da x).map bJ),.int .i64 (jH x)])] []=some (.ret (.d (.bool (ek x))),[]):=by
 have O:=bu ((dI x).length+(fQ x).length:Int);have A8:=bu ((dI x).length+(fQ x).length+(da x).length:Int);unfold ek;generalize A1:decide ((dI x).length+(fQ x).length+(da x).length=0)=B;rw[alx (by simp)];by_cases A3:bO x=0
 .by_cases H:il x=0
  .simp[f52,A3,H];rw[O,A8,<-A1,aeI];omega
  .simp[f52,A3,H]
 .simp[f52,A3]
def Zq(op:Int):ak ctx 50 [.d (.int .i64 op)] []=some (.ret (.bh [.d (.bool (decide (op=4\/op=9))),.d (.bool (decide (op=1))),.d (.bool (decide (op=1\/op=3\/op=5\/op=6)))]),[]):=by
 rw[alv (by simp)];simp[f50];grind
def rO(x:Ex):bE x=(!decide ((bO x=1/\il x<0)\/(bO x=2/\(il x<0\/1<il x))\/(2<bO x/\il x≠0)\/bO x<1\/21<bO x)&&
 (decide ((da x).length=dW (bO x))&&((if bO x=3\/bO x=4\/bO x=5 then dz (dI x)else decide (dI x=[]))&&((if bO x=5 then dz (fQ x)else decide (fQ x=[]))&&bY (da x))))):=by
 cases x;rw[bE];rfl
def KF(l:List Ex):Prop:=ak ctx 51 [.d (.list (l.map bJ))] []=some (.ret (.d (.bool (bY l))),[])
def ahF{l:List Ex}(Z:l.length<100000000){i:Nat}{x:Ex}(E:i<l.length)(H:l[i]=x)(D:KF (da x))(y:(da x).length<100000000)(k:Kt)(R1 R2:bU)(B:Bool)
 (I:∀v X,k .ret ⟨126,aC,[(2,true,.d (.bool false))],[⟨300,v,X⟩]⟩=R1)
 (ih:∀v X,aK ctx 51 (.loop (Code.at (aU f51) [1,0,1,0,0])) ⟨126,aC,[(0,true,.d (.list (l.map bJ))),(3,true,.d (.int .i64 (i+1)))],[⟨300,v,X⟩]⟩ k=if B=true then R2 else R1) (h:bO x<1) (v:Nat) (X:aE):
 aK ctx 51 (.loop (Code.at (aU f51) [1,0,1,0,0])) ⟨126,aC,[(0,true,.d (.list (l.map bJ))),(3,true,.d (.int .i64 i))],[⟨300,v,X⟩]⟩ k=if (bE x&&B)=true then R2 else R1:=by
 have J:=bu ((i:Int)+1);have M:=fI (dI x);have O:=fI (fQ x);unfold KF at D;rw[rO];generalize bY (da x)=S at*;generalize dz (dI x)=N at*;generalize dz (fQ x)=F at*;have A':¬bO x=1:=by omega
 have A0:¬bO x=2:=by omega
 have A2:¬bO x=3:=by omega
 have A3:¬bO x=4:=by omega
 have A4:¬bO x=5:=by omega
 have A5:¬bO x=6:=by omega
 have A6:¬bO x=7:=by omega
 have d1:¬2<bO x:=by omega
 rw[ag];simp[f51]at ih⊢;simp[E,H,J,aw,h,D,M,O,ih,I,A',A0,d1];intros;omega
def ahG{l:List Ex}(Z:l.length<100000000){i:Nat}{x:Ex}(E:i<l.length)(H:l[i]=x)(D:KF (da x))(y:(da x).length<100000000)(k:Kt)(R1 R2:bU)(B:Bool)
 (I:∀v X,k .ret ⟨126,aC,[(2,true,.d (.bool false))],[⟨300,v,X⟩]⟩=R1)
 (ih:∀v X,aK ctx 51 (.loop (Code.at (aU f51) [1,0,1,0,0])) ⟨126,aC,[(0,true,.d (.list (l.map bJ))),(3,true,.d (.int .i64 (i+1)))],[⟨300,v,X⟩]⟩ k=if B=true then R2 else R1) (h:bO x=1) (v:Nat) (X:aE):
 aK ctx 51 (.loop (Code.at (aU f51) [1,0,1,0,0])) ⟨126,aC,[(0,true,.d (.list (l.map bJ))),(3,true,.d (.int .i64 i))],[⟨300,v,X⟩]⟩ k=if (bE x&&B)=true then R2 else R1:=by
 have J:=bu ((i:Int)+1);have M:=fI (dI x);have O:=fI (fQ x);unfold KF at D;rw[rO];generalize bY (da x)=S at*;generalize dz (dI x)=N at*;generalize dz (fQ x)=F at*;rw[ag];simp[f51]at ih⊢;have V:dW 1=0:=rfl;by_cases U:il x<0
 .simp[E,H,J,aw,h,D,M,O,ih,I,U];intros;omega
 .by_cases A1:1<il x
  .simp[E,H,J,aw,h,D,M,O,ih,I,U,A1,V];grind
  .simp[E,H,J,aw,h,D,M,O,ih,I,U,A1,V];grind
def ahH{l:List Ex}(Z:l.length<100000000){i:Nat}{x:Ex}(E:i<l.length)(H:l[i]=x)(D:KF (da x))(y:(da x).length<100000000)(k:Kt)(R1 R2:bU)(B:Bool)
 (I:∀v X,k .ret ⟨126,aC,[(2,true,.d (.bool false))],[⟨300,v,X⟩]⟩=R1)
 (ih:∀v X,aK ctx 51 (.loop (Code.at (aU f51) [1,0,1,0,0])) ⟨126,aC,[(0,true,.d (.list (l.map bJ))),(3,true,.d (.int .i64 (i+1)))],[⟨300,v,X⟩]⟩ k=if B=true then R2 else R1) (h:bO x=2) (v:Nat) (X:aE):
 aK ctx 51 (.loop (Code.at (aU f51) [1,0,1,0,0])) ⟨126,aC,[(0,true,.d (.list (l.map bJ))),(3,true,.d (.int .i64 i))],[⟨300,v,X⟩]⟩ k=if (bE x&&B)=true then R2 else R1:=by
 have J:=bu ((i:Int)+1);have M:=fI (dI x);have O:=fI (fQ x);unfold KF at D;rw[rO];generalize bY (da x)=S at*;generalize dz (dI x)=N at*;generalize dz (fQ x)=F at*;rw[ag];simp[f51]at ih⊢;have V:dW 2=0:=rfl;by_cases U:il x<0
 .simp[E,H,J,aw,h,D,M,O,ih,I,U];intros;omega
 .by_cases A1:1<il x
  .simp[E,H,J,aw,h,D,M,O,ih,I,U,A1,V];intros;omega
  .simp[E,H,J,aw,h,D,M,O,ih,I,U,A1,V];grind
def ahI{l:List Ex}(Z:l.length<100000000){i:Nat}{x:Ex}(E:i<l.length)(H:l[i]=x)(D:KF (da x))(y:(da x).length<100000000)(k:Kt)(R1 R2:bU)(B:Bool)
 (I:∀v X,k .ret ⟨126,aC,[(2,true,.d (.bool false))],[⟨300,v,X⟩]⟩=R1)
 (ih:∀v X,aK ctx 51 (.loop (Code.at (aU f51) [1,0,1,0,0])) ⟨126,aC,[(0,true,.d (.list (l.map bJ))),(3,true,.d (.int .i64 (i+1)))],[⟨300,v,X⟩]⟩ k=if B=true then R2 else R1) (h:bO x=3) (v:Nat) (X:aE):
 aK ctx 51 (.loop (Code.at (aU f51) [1,0,1,0,0])) ⟨126,aC,[(0,true,.d (.list (l.map bJ))),(3,true,.d (.int .i64 i))],[⟨300,v,X⟩]⟩ k=if (bE x&&B)=true then R2 else R1:=by
 have J:=bu ((i:Int)+1);have M:=fI (dI x);have O:=fI (fQ x);unfold KF at D;rw[rO];generalize bY (da x)=S at*;generalize dz (dI x)=N at*;generalize dz (fQ x)=F at*;rw[ag];simp[f51]at ih⊢;have V:dW 3=0:=rfl;by_cases U:il x=0
 .simp[E,H,J,aw,h,D,M,O,ih,I,U,V];grind
 .simp[E,H,J,aw,h,D,M,O,ih,I,U]
def ahJ{l:List Ex}(Z:l.length<100000000){i:Nat}{x:Ex}(E:i<l.length)(H:l[i]=x)(D:KF (da x))(y:(da x).length<100000000)(k:Kt)(R1 R2:bU)(B:Bool)
 (I:∀v X,k .ret ⟨126,aC,[(2,true,.d (.bool false))],[⟨300,v,X⟩]⟩=R1)
 (ih:∀v X,aK ctx 51 (.loop (Code.at (aU f51) [1,0,1,0,0])) ⟨126,aC,[(0,true,.d (.list (l.map bJ))),(3,true,.d (.int .i64 (i+1)))],[⟨300,v,X⟩]⟩ k=if B=true then R2 else R1) (h:bO x=4) (v:Nat) (X:aE):
 aK ctx 51 (.loop (Code.at (aU f51) [1,0,1,0,0])) ⟨126,aC,[(0,true,.d (.list (l.map bJ))),(3,true,.d (.int .i64 i))],[⟨300,v,X⟩]⟩ k=if (bE x&&B)=true then R2 else R1:=by
 have J:=bu ((i:Int)+1);have M:=fI (dI x);have O:=fI (fQ x);unfold KF at D;rw[rO];generalize bY (da x)=S at*;generalize dz (dI x)=N at*;generalize dz (fQ x)=F at*;rw[ag];simp[f51]at ih⊢;have V:dW 4=1:=rfl;by_cases U:il x=0
 .simp[E,H,J,aw,h,D,M,O,ih,I,U,V];grind
 .simp[E,H,J,aw,h,D,M,O,ih,I,U]
def ahK{l:List Ex}(Z:l.length<100000000){i:Nat}{x:Ex}(E:i<l.length)(H:l[i]=x)(D:KF (da x))(y:(da x).length<100000000)(k:Kt)(R1 R2:bU)(B:Bool)
 (I:∀v X,k .ret ⟨126,aC,[(2,true,.d (.bool false))],[⟨300,v,X⟩]⟩=R1)
 (ih:∀v X,aK ctx 51 (.loop (Code.at (aU f51) [1,0,1,0,0])) ⟨126,aC,[(0,true,.d (.list (l.map bJ))),(3,true,.d (.int .i64 (i+1)))],[⟨300,v,X⟩]⟩ k=if B=true then R2 else R1) (h:bO x=5) (v:Nat) (X:aE):
 aK ctx 51 (.loop (Code.at (aU f51) [1,0,1,0,0])) ⟨126,aC,[(0,true,.d (.list (l.map bJ))),(3,true,.d (.int .i64 i))],[⟨300,v,X⟩]⟩ k=if (bE x&&B)=true then R2 else R1:=by
 have J:=bu ((i:Int)+1);have M:=fI (dI x);have O:=fI (fQ x);unfold KF at D;rw[rO];generalize bY (da x)=S at*;generalize dz (dI x)=N at*;generalize dz (fQ x)=F at*;rw[ag];simp[f51]at ih⊢;have V:dW 5=0:=rfl;by_cases U:il x=0
 .simp[E,H,J,aw,h,D,M,O,ih,I,U,V];grind
 .simp[E,H,J,aw,h,D,M,O,ih,I,U]
def ahL{l:List Ex}(Z:l.length<100000000){i:Nat}{x:Ex}(E:i<l.length)(H:l[i]=x)(D:KF (da x))(y:(da x).length<100000000)(k:Kt)(R1 R2:bU)(B:Bool)
 (I:∀v X,k .ret ⟨126,aC,[(2,true,.d (.bool false))],[⟨300,v,X⟩]⟩=R1)
 (ih:∀v X,aK ctx 51 (.loop (Code.at (aU f51) [1,0,1,0,0])) ⟨126,aC,[(0,true,.d (.list (l.map bJ))),(3,true,.d (.int .i64 (i+1)))],[⟨300,v,X⟩]⟩ k=if B=true then R2 else R1) (h:bO x=6) (v:Nat) (X:aE):
 aK ctx 51 (.loop (Code.at (aU f51) [1,0,1,0,0])) ⟨126,aC,[(0,true,.d (.list (l.map bJ))),(3,true,.d (.int .i64 i))],[⟨300,v,X⟩]⟩ k=if (bE x&&B)=true then R2 else R1:=by
 have J:=bu ((i:Int)+1);have M:=fI (dI x);have O:=fI (fQ x);unfold KF at D;rw[rO];generalize bY (da x)=S at*;generalize dz (dI x)=N at*;generalize dz (fQ x)=F at*;rw[ag];simp[f51]at ih⊢;have V:dW 6=1:=rfl;by_cases U:il x=0
 .simp[E,H,J,aw,h,D,M,O,ih,I,U,V];grind
 .simp[E,H,J,aw,h,D,M,O,ih,I,U]
def ahM{l:List Ex}(Z:l.length<100000000){i:Nat}{x:Ex}(E:i<l.length)(H:l[i]=x)(D:KF (da x))(y:(da x).length<100000000)(k:Kt)(R1 R2:bU)(B:Bool)
 (I:∀v X,k .ret ⟨126,aC,[(2,true,.d (.bool false))],[⟨300,v,X⟩]⟩=R1)
 (ih:∀v X,aK ctx 51 (.loop (Code.at (aU f51) [1,0,1,0,0])) ⟨126,aC,[(0,true,.d (.list (l.map bJ))),(3,true,.d (.int .i64 (i+1)))],[⟨300,v,X⟩]⟩ k=if B=true then R2 else R1) (h:bO x=7) (v:Nat) (X:aE):
 aK ctx 51 (.loop (Code.at (aU f51) [1,0,1,0,0])) ⟨126,aC,[(0,true,.d (.list (l.map bJ))),(3,true,.d (.int .i64 i))],[⟨300,v,X⟩]⟩ k=if (bE x&&B)=true then R2 else R1:=by
 have J:=bu ((i:Int)+1);have M:=fI (dI x);have O:=fI (fQ x);unfold KF at D;rw[rO];generalize bY (da x)=S at*;generalize dz (dI x)=N at*;generalize dz (fQ x)=F at*;rw[ag];simp[f51]at ih⊢;have V:dW 7=1:=rfl;by_cases U:il x=0
 .simp[E,H,J,aw,h,D,M,O,ih,I,U,V];grind
 .simp[E,H,J,aw,h,D,M,O,ih,I,U]
def ahN{l:List Ex}(Z:l.length<100000000){i:Nat}{x:Ex}(E:i<l.length)(H:l[i]=x)(D:KF (da x))(y:(da x).length<100000000)(k:Kt)(R1 R2:bU)(B:Bool)
 (I:∀v X,k .ret ⟨126,aC,[(2,true,.d (.bool false))],[⟨300,v,X⟩]⟩=R1)
 (ih:∀v X,aK ctx 51 (.loop (Code.at (aU f51) [1,0,1,0,0])) ⟨126,aC,[(0,true,.d (.list (l.map bJ))),(3,true,.d (.int .i64 (i+1)))],[⟨300,v,X⟩]⟩ k=if B=true then R2 else R1) (h:7<bO x) (v:Nat) (X:aE):
 aK ctx 51 (.loop (Code.at (aU f51) [1,0,1,0,0])) ⟨126,aC,[(0,true,.d (.list (l.map bJ))),(3,true,.d (.int .i64 i))],[⟨300,v,X⟩]⟩ k=if (bE x&&B)=true then R2 else R1:=by
 have J:=bu ((i:Int)+1);have M:=fI (dI x);have O:=fI (fQ x);unfold KF at D;rw[rO];generalize bY (da x)=S at*;generalize dz (dI x)=N at*;generalize dz (fQ x)=F at*;have A':¬bO x=1:=by omega
 have A0:¬bO x=2:=by omega
 have A2:¬bO x=3:=by omega
 have A3:¬bO x=4:=by omega
 have A4:¬bO x=5:=by omega
 have A5:¬bO x=6:=by omega
 have A6:¬bO x=7:=by omega
 have d1:2<bO x:=by omega
 have d2:¬bO x<1:=by omega
 have V:dW (bO x)=2:=by unfold dW;rw[aaf (by omega),aav h]
 rw[ag];simp[f51]at ih⊢;by_cases U:il x=0
 .by_cases A7:21<bO x
  .simp[E,H,J,aw,h,D,M,O,ih,I,U,A7,A',A0,A2,A3,A4,A5,A6,d1,d2];intros;omega
  .simp[E,H,J,aw,h,D,M,O,ih,I,U,A7,V,A',A0,A2,A3,A4,A5,A6,d1,d2];grind
 .simp[E,H,J,aw,h,D,M,O,ih,I,U,A',A0,d1];intros;omega
def K8(l:List Ex)(D:l.length<100000000)(Z:∀x∈l,KF (da x))(O:∀x∈l,(da x).length<100000000)(k:Kt)(R1 R2:bU)
 (E:∀v X,k .ret ⟨126,aC,[(2,true,.d (.bool false))],[⟨300,v,X⟩]⟩=R1)
 (V:∀(Y:Env) v X,k (.exit 0) ⟨126,aC,Y,[⟨300,v,X⟩]⟩=R2):∀(rest pre:List Ex)(v:Nat)(X:aE),l=pre++rest->
 aK ctx 51 (.loop (Code.at (aU f51) [1,0,1,0,0])) ⟨126,aC,[(0,true,.d (.list (l.map bJ))),(3,true,.d (.int .i64 pre.length))],[⟨300,v,X⟩]⟩ k=if bY rest=true then R2 else R1
 |[],pre,v,X,U=>by
  have A':pre.length=l.length:=by rw[U];simp
  rw[A',ag];simp[f51,V,bY]
 |x::rest,pre,v,X,U=>by
  have I:pre.length<l.length:=by rw[U];simp
  have J:l[pre.length]=x:=by simp[U]
  have M:=Z x (by rw[U];simp);have N:=O x (by rw[U];simp);have ih:∀v X,aK ctx 51 (.loop (Code.at (aU f51) [1,0,1,0,0])) ⟨126,aC,[(0,true,.d (.list (l.map bJ))),(3,true,.d (.int .i64 (pre.length+1)))],[⟨300,v,X⟩]⟩ k=if bY rest=true then R2 else R1:=λv X=>by
   have:=K8 l D Z O k R1 R2 E V rest (pre++[x]) v X (by simp[U]);simpa using this
  have key:bY (x::rest)=(bE x&&bY rest):=by rw[bY]
  rw[key];have A0:bO x<1\/bO x=1\/bO x=2\/bO x=3\/bO x=4\/bO x=5\/bO x=6\/bO x=7\/7<bO x:=by omega
  rcases A0 with h|h|h|h|h|h|h|h|h
  .exact ahF D I J M N k R1 R2 _ E ih h v X
  .exact ahG D I J M N k R1 R2 _ E ih h v X
  .exact ahH D I J M N k R1 R2 _ E ih h v X
  .exact ahI D I J M N k R1 R2 _ E ih h v X
  .exact ahJ D I J M N k R1 R2 _ E ih h v X
  .exact ahK D I J M N k R1 R2 _ E ih h v X
  .exact ahL D I J M N k R1 R2 _ E ih h v X
  .exact ahM D I J M N k R1 R2 _ E ih h v X
  .exact ahN D I J M N k R1 R2 _ E ih h v X
def W3{l:List Ex}(D:l.length<100000000)(Z:∀x∈l,KF (da x))(O:∀x∈l,(da x).length<100000000):KF l:=by
 have h:=λk R1 R2 E V v X=>K8 l D Z O k R1 R2 E V l [] v X rfl;unfold KF;rw[alw (by simp)];simp[f51]at h⊢;rw[h _ (some (.ret (.d (.bool false)),[])) (some (.ret (.d (.bool true)),[]))]
 .cases bY l<;>simp
 .intro v X;simp
 .intro Y v X;simp
mutual
def Au:Ex->Prop
 | .mk _ _ name field sub _=>(name.length<100000000/\field.length<100000000/\sub.length<100000000)/\rP sub
def rP:List Ex->Prop
 |[]=>True
 |x::r=>Au x/\rP r
end
mutual
def ahO:∀x:Ex,Au x->KF (da x)/\(da x).length<100000000
 | .mk op nn name field sub line,h=>by
  simp only[Au]at h;have O:=EM sub h.2;exact⟨W3 h.1.2.2 (λx H=>(O x H).1) (λx H=>(O x H).2),h.1.2.2⟩
def EM:∀l:List Ex,rP l->∀x∈l,KF (da x)/\(da x).length<100000000
 |[],_,x,H=>by simp at H
 |y::r,h,x,H=>by
  simp only[rP]at h;have E:=ahO y h.1;have V:=EM r h.2;rcases aam.1 H with e|H
  .rw[e];exact E
  .exact V x H
end
def GB{l:List Ex}(D:l.length<100000000)(h:rP l):KF l:=
 W3 D (λx H=>(EM l h x H).1) (λx H=>(EM l h x H).2)
@[simp] def smL(x:Sm):List D:=[.int .i64 (bM x),.str (eG x),
 .int .i64 (bO (dJ x)),.int .i64 (il (dJ x)),.str (dI (dJ x)),.str (fQ (dJ x)),.list ((da (dJ x)).map bJ),.int .i64 (jH (dJ x)),
 .int .i64 (bO (dq x)),.int .i64 (il (dq x)),.str (dI (dq x)),.str (fQ (dq x)),.list ((da (dq x)).map bJ),.int .i64 (jH (dq x)),
 .list ((bS x).map bJ),.list ((dn x).map mQ),.list ((dy x).map .str),.list ((aV x).map dr),.int .i64 (jA x)]
section
variable {vs:List Vr} {n:Int} (E:vs.length<1000000) (H:∀v∈vs,cJ v=true)
include E H
end
@[simp] def bB(x:Sm):aE:=.box [.d (.int .i64 (bM x)),.d (.str (eG x)),.d (.int .i64 (bO (dJ x))),.d (.int .i64 (il (dJ x))),.d (.str (dI (dJ x))),.d (.str (fQ (dJ x))),.d (.list ((da (dJ x)).map bJ)),.d (.int .i64 (jH (dJ x))),
 .d (.int .i64 (bO (dq x))),.d (.int .i64 (il (dq x))),.d (.str (dI (dq x))),.d (.str (fQ (dq x))),.d (.list ((da (dq x)).map bJ)),.d (.int .i64 (jH (dq x))),.d (.list ((bS x).map bJ)),.d (.list ((dn x).map mQ)),.d (.list ((dy x).map .str)),.d (.list ((aV x).map dr)),.d (.int .i64 (jA x))]
@[simp] def fF(v:Vr):aE:=.box [.d (.str v.name),.d (.int .i64 v.ty),.d (.int .i64 v.sec),.d (.bool v.arr),.d (.int .i64 v.lo),.d (.int .i64 v.hi),.d (.int .i64 v.init),.d (.int .i64 v.line)]
def OI{v:Vr}(E:cJ v=true):ak ctx 54 [.d (bx v)] []=some (.ret (.d (.int .i64 (bR v))),[]):=by
 have I:=RG v.ty;rw[aly (by simp)];unfold bR;cases D:v.arr with
 |true=>
  simp only[cJ,Ds,D,ad1,aaw]at E;have J:=bu (v.hi-v.lo);have M:=bu (v.hi-v.lo+1);simp[f54,bx,cZ,D,J,M]
 |false=>
  by_cases H:2<v.ty
  .simp[f54,bx,cZ,D,H,I]
  .simp[f54,bx,cZ,D,H]
def ku{v:Vr}(E:cJ v=true):0<=bR v/\bR v<=256:=by
 have:=yq v.ty;unfold bR;cases D:v.arr with
 |true=>
  simp only[cJ,Ds,D,ad1,aaw]at E;simp only[ad1];omega
 |false=>
  simp only[aeC,abc];split<;>omega
@[reducible] noncomputable def cw(p:List Nat):Code:=Code.at (aU f24) p
section
variable {x:Sm} {v:Nat} {k:Kt} {R1:bU} {a b:AV} (D:k .ret ⟨258,aC,[(2,true,.d (.bool false))],[⟨300,v,bB x⟩]⟩=R1)
def OJ(x:Sm):Bool:=decide (1<=bM x/\bM x<=9)&&(if bM x=4\/bM x=9 then dz (eG x)else decide (eG x=[]))
def OK(x:Sm):Bool:=if bM x=1 then decide (bO (dJ x)=3\/bO (dJ x)=4)&&bE (dJ x)else ek (dJ x)
def JP(x:Sm):Bool:=(if bM x=1\/bM x=3\/bM x=5\/bM x=6 then !ek (dq x)&&bE (dq x)else ek (dq x))&&bY (bS x)
include D
theorem aph{d6 d7:AV}:aK ctx 24 (cw [1,0,1,0,0,1,0,0,1,1,0]) ⟨258,aC,[(0,true,a),(3,true,b),(4,true,.ptr 300 v 0),(5,true,.d (.bool (decide (bM x=4\/bM x=9)))),(6,true,d6),(7,true,d7)],[⟨300,v,bB x⟩]⟩ k=
 if OJ x=true then k .normal ⟨258,aC,[(0,true,a),(3,true,b),(4,true,.ptr 300 v 0),(6,true,d6),(7,true,d7),(59,true,.d (.bool false))],[⟨300,v,bB x⟩]⟩else R1:=by
 have O:=fI (eG x);unfold OJ;simp only[bB]at D;generalize dz (eG x)=N at*;by_cases E:bM x<1
 .have M:¬1<=bM x:=by omega
  simp[cw,f24];simp[E,M,D]
 .have M:1<=bM x:=by omega
  by_cases V:9<bM x
  .have H:¬bM x<=9:=by omega
   simp[cw,f24];simp[E,M,V,H,D]
  .have H:bM x<=9:=by omega
   by_cases I:bM x=4
   .simp only[I]at D⊢;cases N<;>(simp[cw,f24];simp[I,O,D])
   .by_cases U:bM x=9
    .simp only[U]at D⊢;cases N<;>(simp[cw,f24];simp[U,O,D])
    .by_cases he:eG x=[]
     .simp only[he]at D⊢;simp[cw,f24];simp[E,M,V,H,I,U,he,D]
     .simp[cw,f24];simp[E,M,V,H,I,U,he,D]
theorem api{d7:AV}(Z:(dI (dJ x)).length<100000000/\(fQ (dJ x)).length<100000000/\(da (dJ x)).length<100000000)(J:KF [dJ x]):aK ctx 24 (cw [1,0,1,0,0,1,0,0,1,1,1,0]) ⟨258,aC,[(0,true,a),(3,true,b),(4,true,.ptr 300 v 0),(6,true,.d (.bool (decide (bM x=1)))),(7,true,d7),(59,true,.d (.bool false))],[⟨300,v,bB x⟩]⟩ k=
 if OK x=true then k .normal ⟨258,aC,[(0,true,a),(3,true,b),(4,true,.ptr 300 v 0),(7,true,d7),(89,true,.d (.bool false))],[⟨300,v,bB x⟩]⟩else R1:=by
 have O:=RH Z;unfold KF at J;simp[aw,bY]at J;unfold OK;simp only[bB]at D;generalize ek (dJ x)=N at*;generalize bE (dJ x)=T at*;by_cases E:bM x=1
 .simp only[E]at D;by_cases H:bO (dJ x)=3
  .simp only[H]at D J;cases T<;>(simp[cw,f24];simp[E,H,J,D])
  .by_cases I:bO (dJ x)=4
   .simp only[I]at D J;cases T<;>(simp[cw,f24];simp[E,I,J,D])
   .simp[cw,f24];simp[E,H,I,D]
 .cases N<;>(simp[cw,f24];simp[E,O,D])
end
section
variable {x:Sm} {v:Nat} {k:Kt} {R1:bU} {a b:AV}
theorem apj(D:k .ret ⟨258,aC,[(2,true,.d (.bool false))],[⟨300,v,bB x⟩]⟩=R1){V:Bool}(A8:V=decide (bM x=1\/bM x=3\/bM x=5\/bM x=6))(A9:(dI (dq x)).length<100000000/\(fQ (dq x)).length<100000000/\(da (dq x)).length<100000000)(A5:KF [dq x])(A6:KF (bS x)):aK ctx 24 (cw [1,0,1,0,0,1,0,0,1,1,1,1,0]) ⟨258,aC,[(0,true,a),(3,true,b),(4,true,.ptr 300 v 0),(7,true,.d (.bool V)),(89,true,.d (.bool false))],[⟨300,v,bB x⟩]⟩ k=
 if JP x=true then k .normal ⟨258,aC,[(0,true,a),(3,true,b),(4,true,.ptr 300 v 0),(118,true,.d (.bool false))],[⟨300,v,bB x⟩]⟩else R1:=by
 have A7:=RH A9;unfold KF at A5 A6;simp[aw,bY]at A5;have e:JP x=((if V=true then !ek (dq x)&&bE (dq x)else ek (dq x))&&bY (bS x)):=by
  unfold JP;rw[A8];by_cases h:bM x=1\/bM x=3\/bM x=5\/bM x=6
  .rw[aav h,aav (by simpa using h)]
  .rw[aaf h,aaf (by simpa using h)]
 rw[e];simp only[bB]at D;generalize ek (dq x)=N at*;generalize bE (dq x)=T at*;generalize bY (bS x)=W at*;clear A8 e;cases V with
 |true=>
  cases N with
  |true=>(simp[cw,f24];simp[A7,D])
  |false=>cases T<;>cases W<;>(simp[cw,f24];simp[A7,A5,A6,D])
 |false=>cases N<;>cases W<;>(simp[cw,f24];simp[A7,A6,D])
theorem apk{X:Env}:aK ctx 24 (cw [1,0,1,0,0,1,0,0,1,1,1,1,1,0]) ⟨258,aC,[(0,true,a),(3,true,b),(4,true,.ptr 300 v 0),(118,true,.d (.bool false))],[⟨300,v,bB x⟩]⟩ k=
 k .normal ⟨258,aC,[(0,true,a),(3,true,b),(4,true,.ptr 300 v 0),(8,true,.d (.int .i64 0)),(9,true,.d (.int .i64 0)),(10,true,.d (.int .i64 0)),(11,true,.d (.int .i64 0)),(12,true,.d (.int .i64 0))],[⟨300,v,bB x⟩]⟩:=by
 simp[cw,f24]
def DU(n:Int):Int:=if 1<n then n else 1
def sq(x:Sm):Int:=if bM x=2 then DU (bS x).length else if bM x=4 then 3 else if bM x=9 then (dy x).length else 0
def sr(x:Sm):Int:=if bM x=3 then (dn x).length else 0
def nP(x:Sm):Int:=if bM x=9 then (dy x).length else 0
def ko(x:Sm):Int:=if bM x=2 then DU (bS x).length else if bM x=3 then (dn x).length else if bM x=4\/bM x=5\/bM x=6 then 1 else 0
def kO(x:Sm):Int:=if bM x=2\/bM x=3 then 1 else 0
def cX(x:Sm):Env:=if bM x=2\/bM x=3\/bM x=4\/bM x=5\/bM x=6\/bM x=9 then []else [(144,true,.d (.bool false))]
theorem ahQ(A':bM x=2):aK ctx 24 (cw [1,0,1,0,0,1,0,0,1,1,1,1,1,1,0]) ⟨258,aC,[(0,true,a),(3,true,b),(4,true,.ptr 300 v 0),(8,true,.d (.int .i64 0)),(9,true,.d (.int .i64 0)),(10,true,.d (.int .i64 0)),(11,true,.d (.int .i64 0)),(12,true,.d (.int .i64 0))],[⟨300,v,bB x⟩]⟩ k=
 k .normal ⟨258,aC,[(0,true,a),(3,true,b),(4,true,.ptr 300 v 0),(8,true,.d (.int .i64 (sq x))),(9,true,.d (.int .i64 (sr x))),(10,true,.d (.int .i64 (nP x))),(11,true,.d (.int .i64 (ko x))),(12,true,.d (.int .i64 (kO x)))]++cX x,[⟨300,v,bB x⟩]⟩:=by
 unfold sq sr nP ko kO cX;simp[cw,f24];simp[A',ai,DU]
theorem ahR(A0:bM x=3):aK ctx 24 (cw [1,0,1,0,0,1,0,0,1,1,1,1,1,1,0]) ⟨258,aC,[(0,true,a),(3,true,b),(4,true,.ptr 300 v 0),(8,true,.d (.int .i64 0)),(9,true,.d (.int .i64 0)),(10,true,.d (.int .i64 0)),(11,true,.d (.int .i64 0)),(12,true,.d (.int .i64 0))],[⟨300,v,bB x⟩]⟩ k=
 k .normal ⟨258,aC,[(0,true,a),(3,true,b),(4,true,.ptr 300 v 0),(8,true,.d (.int .i64 (sq x))),(9,true,.d (.int .i64 (sr x))),(10,true,.d (.int .i64 (nP x))),(11,true,.d (.int .i64 (ko x))),(12,true,.d (.int .i64 (kO x)))]++cX x,[⟨300,v,bB x⟩]⟩:=by
 unfold sq sr nP ko kO cX;simp[cw,f24];simp[A0,ai,DU]
theorem ahS(A1:bM x=4):aK ctx 24 (cw [1,0,1,0,0,1,0,0,1,1,1,1,1,1,0]) ⟨258,aC,[(0,true,a),(3,true,b),(4,true,.ptr 300 v 0),(8,true,.d (.int .i64 0)),(9,true,.d (.int .i64 0)),(10,true,.d (.int .i64 0)),(11,true,.d (.int .i64 0)),(12,true,.d (.int .i64 0))],[⟨300,v,bB x⟩]⟩ k=
 k .normal ⟨258,aC,[(0,true,a),(3,true,b),(4,true,.ptr 300 v 0),(8,true,.d (.int .i64 (sq x))),(9,true,.d (.int .i64 (sr x))),(10,true,.d (.int .i64 (nP x))),(11,true,.d (.int .i64 (ko x))),(12,true,.d (.int .i64 (kO x)))]++cX x,[⟨300,v,bB x⟩]⟩:=by
 unfold sq sr nP ko kO cX;simp[cw,f24];simp[A1,ai,DU]
theorem ahT(A2:bM x=5):aK ctx 24 (cw [1,0,1,0,0,1,0,0,1,1,1,1,1,1,0]) ⟨258,aC,[(0,true,a),(3,true,b),(4,true,.ptr 300 v 0),(8,true,.d (.int .i64 0)),(9,true,.d (.int .i64 0)),(10,true,.d (.int .i64 0)),(11,true,.d (.int .i64 0)),(12,true,.d (.int .i64 0))],[⟨300,v,bB x⟩]⟩ k=
 k .normal ⟨258,aC,[(0,true,a),(3,true,b),(4,true,.ptr 300 v 0),(8,true,.d (.int .i64 (sq x))),(9,true,.d (.int .i64 (sr x))),(10,true,.d (.int .i64 (nP x))),(11,true,.d (.int .i64 (ko x))),(12,true,.d (.int .i64 (kO x)))]++cX x,[⟨300,v,bB x⟩]⟩:=by
 unfold sq sr nP ko kO cX;simp[cw,f24];simp[A2,ai,DU]
theorem ahU(A3:bM x=6):aK ctx 24 (cw [1,0,1,0,0,1,0,0,1,1,1,1,1,1,0]) ⟨258,aC,[(0,true,a),(3,true,b),(4,true,.ptr 300 v 0),(8,true,.d (.int .i64 0)),(9,true,.d (.int .i64 0)),(10,true,.d (.int .i64 0)),(11,true,.d (.int .i64 0)),(12,true,.d (.int .i64 0))],[⟨300,v,bB x⟩]⟩ k=
 k .normal ⟨258,aC,[(0,true,a),(3,true,b),(4,true,.ptr 300 v 0),(8,true,.d (.int .i64 (sq x))),(9,true,.d (.int .i64 (sr x))),(10,true,.d (.int .i64 (nP x))),(11,true,.d (.int .i64 (ko x))),(12,true,.d (.int .i64 (kO x)))]++cX x,[⟨300,v,bB x⟩]⟩:=by
 unfold sq sr nP ko kO cX;simp[cw,f24];simp[A3,ai,DU]
theorem ahV(E:bM x=9):aK ctx 24 (cw [1,0,1,0,0,1,0,0,1,1,1,1,1,1,0]) ⟨258,aC,[(0,true,a),(3,true,b),(4,true,.ptr 300 v 0),(8,true,.d (.int .i64 0)),(9,true,.d (.int .i64 0)),(10,true,.d (.int .i64 0)),(11,true,.d (.int .i64 0)),(12,true,.d (.int .i64 0))],[⟨300,v,bB x⟩]⟩ k=
 k .normal ⟨258,aC,[(0,true,a),(3,true,b),(4,true,.ptr 300 v 0),(8,true,.d (.int .i64 (sq x))),(9,true,.d (.int .i64 (sr x))),(10,true,.d (.int .i64 (nP x))),(11,true,.d (.int .i64 (ko x))),(12,true,.d (.int .i64 (kO x)))]++cX x,[⟨300,v,bB x⟩]⟩:=by
 unfold sq sr nP ko kO cX;simp[cw,f24];simp[E,ai,DU]
theorem ahW(A':¬bM x=2)(A0:¬bM x=3)(A1:¬bM x=4)(A2:¬bM x=5)(A3:¬bM x=6)(E:¬bM x=9):aK ctx 24 (cw [1,0,1,0,0,1,0,0,1,1,1,1,1,1,0]) ⟨258,aC,[(0,true,a),(3,true,b),(4,true,.ptr 300 v 0),(8,true,.d (.int .i64 0)),(9,true,.d (.int .i64 0)),(10,true,.d (.int .i64 0)),(11,true,.d (.int .i64 0)),(12,true,.d (.int .i64 0))],[⟨300,v,bB x⟩]⟩ k=
 k .normal ⟨258,aC,[(0,true,a),(3,true,b),(4,true,.ptr 300 v 0),(8,true,.d (.int .i64 (sq x))),(9,true,.d (.int .i64 (sr x))),(10,true,.d (.int .i64 (nP x))),(11,true,.d (.int .i64 (ko x))),(12,true,.d (.int .i64 (kO x)))]++cX x,[⟨300,v,bB x⟩]⟩:=by
 unfold sq sr nP ko kO cX;simp[cw,f24];simp[A',A0,A1,A2,A3,E,ai,DU]
theorem apl:aK ctx 24 (cw [1,0,1,0,0,1,0,0,1,1,1,1,1,1,0]) ⟨258,aC,[(0,true,a),(3,true,b),(4,true,.ptr 300 v 0),(8,true,.d (.int .i64 0)),(9,true,.d (.int .i64 0)),(10,true,.d (.int .i64 0)),(11,true,.d (.int .i64 0)),(12,true,.d (.int .i64 0))],[⟨300,v,bB x⟩]⟩ k=
 k .normal ⟨258,aC,[(0,true,a),(3,true,b),(4,true,.ptr 300 v 0),(8,true,.d (.int .i64 (sq x))),(9,true,.d (.int .i64 (sr x))),(10,true,.d (.int .i64 (nP x))),(11,true,.d (.int .i64 (ko x))),(12,true,.d (.int .i64 (kO x)))]++cX x,[⟨300,v,bB x⟩]⟩:=by
 by_cases A':bM x=2
 .exact ahQ A'
 .by_cases A0:bM x=3
  .exact ahR A0
  .by_cases A1:bM x=4
   .exact ahS A1
   .by_cases A2:bM x=5
    .exact ahT A2
    .by_cases A3:bM x=6
     .exact ahU A3
     .by_cases E:bM x=9
      .exact ahV E
      .exact ahW A' A0 A1 A2 A3 E
theorem alS(D:k .ret ⟨258,aC,[(2,true,.d (.bool false))],[⟨300,v,bB x⟩]⟩=R1){O U Z H J:Int}(hw:IntKind.i64.wrap (H+J)=H+J):aK ctx 24 (cw [1,0,1,0,0,1,0,0,1,1,1,1,1,1,1,0]) ⟨258,aC,[(0,true,a),(3,true,b),(4,true,.ptr 300 v 0),(8,true,.d (.int .i64 O)),(9,true,.d (.int .i64 U)),(10,true,.d (.int .i64 Z)),(11,true,.d (.int .i64 H)),(12,true,.d (.int .i64 J))],[⟨300,v,bB x⟩]⟩ k=
 if (((bS x).length:Int)=O/\((dn x).length:Int)=U/\((dy x).length:Int)=Z/\¬((aV x).length:Int)<H/\¬H+J<((aV x).length:Int))then k .normal ⟨258,aC,[(0,true,a),(3,true,b),(4,true,.ptr 300 v 0),(186,true,.d (.bool false))],[⟨300,v,bB x⟩]⟩else R1:=by
 simp only[bB]at D;by_cases I:((bS x).length:Int)=O
 .by_cases E:((dn x).length:Int)=U
  .by_cases M:((dy x).length:Int)=Z
   .by_cases y:((aV x).length:Int)<H
    ·(simp[cw,f24];simp[I,E,M,y,D];intros;exfalso;omega)
    .by_cases A4:H+J<((aV x).length:Int)
     ·(simp[cw,f24];simp[I,E,M,y,hw,A4,D];intros;exfalso;omega)
     ·(simp[cw,f24];simp[I,E,M,y,hw,A4,D])
   ·(simp[cw,f24];simp[I,E,M,D])
  ·(simp[cw,f24];simp[I,E,D])
 ·(simp[cw,f24];simp[I,D])
theorem alT(D:k .ret ⟨258,aC,[(2,true,.d (.bool false))],[⟨300,v,bB x⟩]⟩=R1){O U Z H J:Int}(hw:IntKind.i64.wrap (H+J)=H+J):aK ctx 24 (cw [1,0,1,0,0,1,0,0,1,1,1,1,1,1,1,0]) ⟨258,aC,[(0,true,a),(3,true,b),(4,true,.ptr 300 v 0),(8,true,.d (.int .i64 O)),(9,true,.d (.int .i64 U)),(10,true,.d (.int .i64 Z)),(11,true,.d (.int .i64 H)),(12,true,.d (.int .i64 J)),(144,true,.d (.bool false))],[⟨300,v,bB x⟩]⟩ k=
 if (((bS x).length:Int)=O/\((dn x).length:Int)=U/\((dy x).length:Int)=Z/\¬((aV x).length:Int)<H/\¬H+J<((aV x).length:Int))then k .normal ⟨258,aC,[(0,true,a),(3,true,b),(4,true,.ptr 300 v 0),(186,true,.d (.bool false))],[⟨300,v,bB x⟩]⟩else R1:=by
 simp only[bB]at D;by_cases I:((bS x).length:Int)=O
 .by_cases E:((dn x).length:Int)=U
  .by_cases M:((dy x).length:Int)=Z
   .by_cases y:((aV x).length:Int)<H
    ·(simp[cw,f24];simp[I,E,M,y,D];intros;exfalso;omega)
    .by_cases A4:H+J<((aV x).length:Int)
     ·(simp[cw,f24];simp[I,E,M,y,hw,A4,D];intros;exfalso;omega)
     ·(simp[cw,f24];simp[I,E,M,y,hw,A4,D])
   ·(simp[cw,f24];simp[I,E,M,D])
  ·(simp[cw,f24];simp[I,E,D])
 ·(simp[cw,f24];simp[I,D])
end
def KS(b:List Sm):Prop:=ak ctx 24 [.d (.list (b.map bZ))] []=some (.ret (.d (.bool (eF b))),[])
section
variable {x:Sm} {v:Nat} {k:Kt} {R1 R2:bU} {a b:AV}
theorem OL(O:(dy x).length<100000000)(E:k .ret ⟨258,aC,[(2,true,.d (.bool false))],[⟨300,v,bB x⟩]⟩=R1)
 (H:k (.exit 3) ⟨258,aC,[(0,true,a),(3,true,b),(4,true,.ptr 300 v 0),(13,true,.d (.int .i64 (dy x).length)),(191,true,.d (.bool false))],[⟨300,v,bB x⟩]⟩=R2):∀(rest pre:List Tx),dy x=pre++rest->
 aK ctx 24 (.loop (cw [1,0,1,0,0,1,0,0,1,1,1,1,1,1,1,1,0,1,0,0])) ⟨258,aC,[(0,true,a),(3,true,b),(4,true,.ptr 300 v 0),(13,true,.d (.int .i64 pre.length))],[⟨300,v,bB x⟩]⟩ k=if rest.all dz=true then R2 else R1
 |[],pre,D=>by
  have U:pre.length=(dy x).length:=by rw[D];simp
  simp only[bB]at H;rw[U,ag];simp[cw,f24,H]
 |c::rest,pre,D=>by
  have I:pre.length<(dy x).length:=by rw[D];simp
  have J:(dy x)[pre.length]=c:=by simp[D]
  have ih:=OL O E H rest (pre++[c]) (by simp[D]);have M:=fI c;have V:=bu ((pre.length:Int)+1);simp only[bB]at E;rw[ahP];generalize dz c=N at*;rw[ag];cases N with
  |true=>
   simp[cw,f24]at ih⊢;simp[I,J,M,V,ih]
  |false=>
   simp[cw,f24];simp[I,J,M,E]
theorem OM{l:List Int}{i:Nat}(hi:i<(dn x).length)(Z:(dn x)[i]=l)(O:l.length<100000000)(E:k .ret ⟨258,aC,[(2,true,.d (.bool false))],[⟨300,v,bB x⟩]⟩=R1)
 (H:k (.exit 7) ⟨258,aC,[(0,true,a),(3,true,b),(4,true,.ptr 300 v 0),(14,true,.d (.int .i64 i)),(15,true,.d (.int .i64 l.length)),(232,true,.d (.bool false))],[⟨300,v,bB x⟩]⟩=R2):∀(rest pre:List Int),l=pre++rest->
 aK ctx 24 (.loop (cw [1,0,1,0,0,1,0,0,1,1,1,1,1,1,1,1,1,0,1,0,0,1,0,0,1,1,0,0])) ⟨258,aC,[(0,true,a),(3,true,b),(4,true,.ptr 300 v 0),(14,true,.d (.int .i64 i)),(15,true,.d (.int .i64 pre.length))],[⟨300,v,bB x⟩]⟩ k=if rest.all (λn=>decide (n≠ -9223372036854775808))=true then R2 else R1
 |[],pre,D=>by
  have U:pre.length=l.length:=by rw[D];simp
  simp only[bB]at H;rw[U,ag];simp[cw,f24];simp[hi,Z,mQ,H]
 |c::rest,pre,D=>by
  have I:pre.length<l.length:=by rw[D];simp
  have J:l[pre.length]=c:=by simp[D]
  have ih:=OM hi Z O E H rest (pre++[c]) (by simp[D]);have V:=bu ((pre.length:Int)+1);simp only[bB]at E;rw[ahP];rw[ag];by_cases y:c= -9223372036854775808
  .simp[cw,f24];simp[hi,Z,mQ,I,J,y,E]
  .simp[cw,f24]at ih⊢;simp[hi,Z,mQ,I,J,y,V,ih]
theorem ON(O:(aV x).length<100000000)(A':∀c∈aV x,KS c)(E:k .ret ⟨258,aC,[(2,true,.d (.bool false))],[⟨300,v,bB x⟩]⟩=R1)
 (H:k (.exit 9) ⟨258,aC,[(0,true,a),(3,true,b),(4,true,.ptr 300 v 0),(16,true,.d (.int .i64 (aV x).length)),(248,true,.d (.bool false))],[⟨300,v,bB x⟩]⟩=R2):∀(rest pre:List (List Sm)),aV x=pre++rest->
 aK ctx 24 (.loop (cw [1,0,1,0,0,1,0,0,1,1,1,1,1,1,1,1,1,1,1,0,0])) ⟨258,aC,[(0,true,a),(3,true,b),(4,true,.ptr 300 v 0),(16,true,.d (.int .i64 pre.length))],[⟨300,v,bB x⟩]⟩ k=if cA rest=true then R2 else R1
 |[],pre,D=>by
  have U:pre.length=(aV x).length:=by rw[D];simp
  simp only[bB]at H;rw[U,ag];simp[cw,f24,H,cA]
 |c::rest,pre,D=>by
  have I:pre.length<(aV x).length:=by rw[D];simp
  have J:(aV x)[pre.length]=c:=by simp[D]
  have ih:=ON O A' E H rest (pre++[c]) (by simp[D]);have M:=A' c (by rw[D];simp);have V:=bu ((pre.length:Int)+1);simp only[bB]at E;unfold KS at M;have key:cA (c::rest)=(eF c&&cA rest):=by rw[cA]
  rw[key];generalize eF c=N at*;rw[ag];cases N with
  |true=>
   simp[cw,f24]at ih⊢;simp[I,J,M,dr,V,ih]
  |false=>
   simp[cw,f24];simp[I,J,M,dr,E]
end
section
variable {x:Sm} {v:Nat} {k:Kt} {R1 R2:bU} {a b:AV}
theorem OP(A':(dn x).length<100000000)(Z:∀l∈dn x,l.length<100000000)(D:k .ret ⟨258,aC,[(2,true,.d (.bool false))],[⟨300,v,bB x⟩]⟩=R1)
 (H:k (.exit 5) ⟨258,aC,[(0,true,a),(3,true,b),(4,true,.ptr 300 v 0),(14,true,.d (.int .i64 (dn x).length)),(205,true,.d (.bool false))],[⟨300,v,bB x⟩]⟩=R2):∀(rest pre:List (List Int)),dn x=pre++rest->
 aK ctx 24 (.loop (cw [1,0,1,0,0,1,0,0,1,1,1,1,1,1,1,1,1,0,1,0,0])) ⟨258,aC,[(0,true,a),(3,true,b),(4,true,.ptr 300 v 0),(14,true,.d (.int .i64 pre.length))],[⟨300,v,bB x⟩]⟩ k=if rest.all oE=true then R2 else R1
 |[],pre,E=>by
  have A0:pre.length=(dn x).length:=by rw[E];simp
  simp only[bB]at H;rw[A0,ag];simp[cw,f24,H]
 |c::rest,pre,E=>by
  have J:pre.length<(dn x).length:=by rw[E];simp
  have M:(dn x)[pre.length]=c:=by simp[E]
  have A1:=Z c (by rw[E];simp);have ih:=OP A' Z D H rest (pre++[c]) (by simp[E]);have A2:=bu ((pre.length:Int)+1);have y:=λk R1 R2 D H=>OM (a:=a) (b:=b) (v:=v) (k:=k) (R1:=R1) (R2:=R2) J M A1 D H c [] rfl;simp only[bB]at D;rw[ahP];have key:oE c=(!decide (c.length=0)&&(decide (c.length%2=0)&&c.all λn=>decide (n≠ -9223372036854775808))):=rfl;rw[key];generalize (c.all λn=>decide (n≠ -9223372036854775808))=B at*;rw[ag];have N:((c.length:Int)).tmod 2=((c.length%2:Nat):Int):=(Int.ofNat_tmod c.length 2).symm;by_cases I:c.length=0
  .have O:c=[]:=aaB I;simp[cw,f24];simp[J,M,mQ,I,O,D]
  .have O:¬c=[]:=λh=>I (by rw[h];rfl);by_cases V:c.length%2=1
   .have U:¬c.length%2=0:=by omega
    rw[V]at N;simp[cw,f24];simp[J,M,mQ,I,O,V,U,N,D]
   .have U:c.length%2=0:=by omega
    rw[U]at N;simp[cw,f24]at ih y⊢;simp[J,M,mQ,I,O,V,U,N];rw[y];cases B<;>simp[D,A2,ih]
end
section
variable {x:Sm} {v:Nat} {k:Kt} {R1 R2:bU} {a b:AV}
theorem apm(I:(dy x).length<100000000)(D:k .ret ⟨258,aC,[(2,true,.d (.bool false))],[⟨300,v,bB x⟩]⟩=R1):
 aK ctx 24 (cw [1,0,1,0,0,1,0,0,1,1,1,1,1,1,1,1,0]) ⟨258,aC,[(0,true,a),(3,true,b),(4,true,.ptr 300 v 0),(186,true,.d (.bool false))],[⟨300,v,bB x⟩]⟩ k=
 if (dy x).all dz=true then k .normal ⟨258,aC,[(0,true,a),(3,true,b),(4,true,.ptr 300 v 0),(13,true,.d (.int .i64 (dy x).length)),(191,true,.d (.bool false))],[⟨300,v,bB x⟩]⟩else R1:=by
 have E:=λk R1 R2 D H=>OL (a:=a) (b:=b) (v:=v) (k:=k) (R1:=R1) (R2:=R2) I D H (dy x) [] rfl;simp only[bB]at D;generalize (dy x).all dz=B at*;simp[cw,f24]at E⊢;rw[E];cases B<;>simp[D]
theorem apn(I:(dn x).length<100000000)(V:∀l∈dn x,l.length<100000000)(D:k .ret ⟨258,aC,[(2,true,.d (.bool false))],[⟨300,v,bB x⟩]⟩=R1){d1 d2:AV}:
 aK ctx 24 (cw [1,0,1,0,0,1,0,0,1,1,1,1,1,1,1,1,1,0]) ⟨258,aC,[(0,true,a),(3,true,b),(4,true,.ptr 300 v 0),(13,true,d1),(191,true,d2)],[⟨300,v,bB x⟩]⟩ k=
 if (dn x).all oE=true then k .normal ⟨258,aC,[(0,true,a),(3,true,b),(4,true,.ptr 300 v 0),(14,true,.d (.int .i64 (dn x).length)),(205,true,.d (.bool false))],[⟨300,v,bB x⟩]⟩else R1:=by
 have E:=λk R1 R2 D H=>OP (a:=a) (b:=b) (v:=v) (k:=k) (R1:=R1) (R2:=R2) I V D H (dn x) [] rfl;simp only[bB]at D;generalize (dn x).all oE=B at*;simp[cw,f24]at E⊢;rw[E];cases B<;>simp[D]
theorem apo(I:(aV x).length<100000000)(Z:∀c∈aV x,KS c)(D:k .ret ⟨258,aC,[(2,true,.d (.bool false))],[⟨300,v,bB x⟩]⟩=R1){d1 d2:AV}:
 aK ctx 24 (cw [1,0,1,0,0,1,0,0,1,1,1,1,1,1,1,1,1,1]) ⟨258,aC,[(0,true,a),(3,true,b),(4,true,.ptr 300 v 0),(14,true,d1),(205,true,d2)],[⟨300,v,bB x⟩]⟩ k=
 if cA (aV x)=true then k .normal ⟨258,aC,[(0,true,a),(3,true,b),(4,true,.ptr 300 v 0),(16,true,.d (.int .i64 (aV x).length)),(248,true,.d (.bool false))],[⟨300,v,bB x⟩]⟩else R1:=by
 have E:=λk R1 R2 D H=>ON (a:=a) (b:=b) (v:=v) (k:=k) (R1:=R1) (R2:=R2) I Z D H (aV x) [] rfl;simp only[bB]at D;generalize cA (aV x)=B at*;simp[cw,f24]at E⊢;rw[E];cases B<;>simp[D]
theorem apq:aK ctx 24 (cw [1,0,1,0,0,1,0,0,1,0]) ⟨258,aC,[(0,true,a),(3,true,b),(4,true,.ptr 300 v 0)],[⟨300,v,bB x⟩]⟩ k=
 k .normal ⟨258,aC,[(0,true,a),(3,true,b),(4,true,.ptr 300 v 0),(5,true,.d (.bool (decide (bM x=4\/bM x=9)))),(6,true,.d (.bool (decide (bM x=1)))),(7,true,.d (.bool (decide (bM x=1\/bM x=3\/bM x=5\/bM x=6))))],[⟨300,v,bB x⟩]⟩:=by
 have y:=Zq (bM x);simp[cw,f24];simp[y]
end
def JQ(x:Sm):Bool:=decide (((bS x).length:Int)=sq x/\((dn x).length:Int)=sr x/\((dy x).length:Int)=nP x/\¬((aV x).length:Int)<ko x/\¬ko x+kO x<((aV x).length:Int))
def Up(x:Sm):JQ x=cQ (bM x) (bS x).length (dn x).length (dy x).length (aV x).length:=by
 unfold JQ cQ sq sr nP ko kO DU;generalize bM x=o;generalize (bS x).length=A';generalize (dn x).length=A0;generalize (dy x).length=A1;generalize (aV x).length=A2;rw[Bool.eq_iff_iff];by_cases H:o=2
 .subst H;by_cases h:(1:Int)<A'
  .simp[h];omega
  .simp[h];omega
 .by_cases J:o=3
  .subst J;simp;omega
  .by_cases M:o=4
   .subst M;simp;omega
   .by_cases N:o=5
    .subst N;simp;omega
    .by_cases O:o=6
     .subst O;simp;omega
     .by_cases U:o=9
      .subst U;simp;omega
      .simp[H,J,M,N,O,U]
def ahX(x:Sm):jr x=(OJ x&&(OK x&&(JP x&&(JQ x&&((dy x).all dz&&((dn x).all oE&&cA (aV x))))))):=by
 rw[Up];obtain⟨op,name,to,val,conds,A3,fields,blocks,line⟩:=x;unfold jr OJ OK JP;simp only[Bool.and_assoc];rfl
def aa3(x:Ex):Au x↔((dI x).length<100000000/\(fQ x).length<100000000/\(da x).length<100000000)/\rP (da x):=by
 obtain⟨op,nn,name,field,sub,line⟩:=x;simp only[Au,DM,N8,pW]
mutual
def xw:Sm->Prop
 | .mk _ _ to val conds H fields blocks _=>(Au to/\Au val/\(conds.length<100000000/\rP conds)/\(H.length<100000000/\∀l∈H,l.length<100000000)/\fields.length<100000000/\blocks.length<100000000)/\mI blocks
def mJ:List Sm->Prop
 |[]=>True
 |x::r=>xw x/\mJ r
def mI:List (List Sm)->Prop
 |[]=>True
 |b::r=>(b.length<100000000/\mJ b)/\mI r
end
def Av(x:Sm):Prop:=Au (dJ x)/\Au (dq x)/\((bS x).length<100000000/\rP (bS x))/\((dn x).length<100000000/\∀l∈dn x,l.length<100000000)/\(dy x).length<100000000/\(aV x).length<100000000
def aa4(x:Sm):xw x↔Av x/\mI (aV x):=by
 obtain⟨op,name,to,val,conds,H,fields,blocks,line⟩:=x;unfold xw Av;rfl
def Zr(x:Sm):cX x=[]\/cX x=[(144,true,.d (.bool false))]:=by
 unfold cX;split
 .exact .inl rfl
 .exact .inr rfl
def alU{x:Sm}(h:Av x):IntKind.i64.wrap (ko x+kO x)=ko x+kO x:=by
 obtain⟨_,_,⟨I,_⟩,⟨AG,_⟩,_,_⟩:=h;apply qL;have AH:0<=ko x/\ko x<200000000:=by
  unfold ko DU;split
  .split<;>omega
  .split
   .omega
   .split<;>omega
 have a2:0<=kO x/\kO x<=1:=by
  unfold kO;split<;>omega
 unfold dE;omega
section
variable {x:Sm} {v:Nat} {k:Kt} {R1:bU} {a b:AV}
theorem ahY(M:Av x)(V:∀c∈aV x,KS c)(I:k .ret ⟨258,aC,[(2,true,.d (.bool false))],[⟨300,v,bB x⟩]⟩=R1):
 aK ctx 24 (cw [1,0,1,0,0,1,0,0,1]) ⟨258,aC,[(0,true,a),(3,true,b),(4,true,.ptr 300 v 0)],[⟨300,v,bB x⟩]⟩ k=
 if jr x=true then k .normal ⟨258,aC,[(0,true,a),(3,true,b),(4,true,.ptr 300 v 0),(16,true,.d (.int .i64 (aV x).length)),(248,true,.d (.bool false))],[⟨300,v,bB x⟩]⟩else R1:=by
 have Z:cw [1,0,1,0,0,1,0,0,1]=Code.seq (cw [1,0,1,0,0,1,0,0,1,0]) (cw [1,0,1,0,0,1,0,0,1,1]):=rfl;have y:cw [1,0,1,0,0,1,0,0,1,1]=Code.seq (cw [1,0,1,0,0,1,0,0,1,1,0]) (cw [1,0,1,0,0,1,0,0,1,1,1]):=rfl;have A':cw [1,0,1,0,0,1,0,0,1,1,1]=Code.seq (cw [1,0,1,0,0,1,0,0,1,1,1,0]) (cw [1,0,1,0,0,1,0,0,1,1,1,1]):=rfl;have A0:cw [1,0,1,0,0,1,0,0,1,1,1,1]=Code.seq (cw [1,0,1,0,0,1,0,0,1,1,1,1,0]) (cw [1,0,1,0,0,1,0,0,1,1,1,1,1]):=rfl;have A1:cw [1,0,1,0,0,1,0,0,1,1,1,1,1]=Code.seq (cw [1,0,1,0,0,1,0,0,1,1,1,1,1,0]) (cw [1,0,1,0,0,1,0,0,1,1,1,1,1,1]):=rfl;have A2:cw [1,0,1,0,0,1,0,0,1,1,1,1,1,1]=Code.seq (cw [1,0,1,0,0,1,0,0,1,1,1,1,1,1,0]) (cw [1,0,1,0,0,1,0,0,1,1,1,1,1,1,1]):=rfl;have A3:cw [1,0,1,0,0,1,0,0,1,1,1,1,1,1,1]=Code.seq (cw [1,0,1,0,0,1,0,0,1,1,1,1,1,1,1,0]) (cw [1,0,1,0,0,1,0,0,1,1,1,1,1,1,1,1]):=rfl;have A4:cw [1,0,1,0,0,1,0,0,1,1,1,1,1,1,1,1]=Code.seq (cw [1,0,1,0,0,1,0,0,1,1,1,1,1,1,1,1,0]) (cw [1,0,1,0,0,1,0,0,1,1,1,1,1,1,1,1,1]):=rfl;have A5:cw [1,0,1,0,0,1,0,0,1,1,1,1,1,1,1,1,1]=Code.seq (cw [1,0,1,0,0,1,0,0,1,1,1,1,1,1,1,1,1,0]) (cw [1,0,1,0,0,1,0,0,1,1,1,1,1,1,1,1,1,1]):=rfl;have D:∀c,Dw ctx 24 c k .ret ⟨258,aC,[(2,true,.d (.bool false))],[⟨300,v,bB x⟩]⟩=R1:=λ_=>I;have hw:=alU M;obtain⟨N,O,⟨A6,A7⟩,⟨A8,A9⟩,AA,AB⟩:=M;have AC:KF [dJ x]:=GB (l:=[dJ x]) (by simp) ⟨N,trivial⟩;have AD:KF [dq x]:=GB (l:=[dq x]) (by simp) ⟨O,trivial⟩;have AE:KF (bS x):=GB A6 A7;rw[ahX];rw[Z,ir,apq,kK,y,ir,aph (D _)];cases OJ x
 .rw[aih,aaf abd,aaf abd]
 rw[aav rfl,ai6,kK,A',ir,api (D _) ((aa3 _).1 N).1 AC];cases OK x
 .rw[aih,aaf abd,aaf abd]
 rw[aav rfl,ai6,kK,A0,ir,apj (D _) rfl ((aa3 _).1 O).1 AD AE];cases JP x
 .rw[aih,aaf abd,aaf abd]
 rw[aav rfl,ai6,kK,A1,ir,apk (X:=[]),kK,A2,ir,apl,kK,A3,ir];have AF:∀E:Kt,E .ret ⟨258,aC,[(2,true,.d (.bool false))],[⟨300,v,bB x⟩]⟩=R1->aK ctx 24 (cw [1,0,1,0,0,1,0,0,1,1,1,1,1,1,1,0]) ⟨258,aC,[(0,true,a),(3,true,b),(4,true,.ptr 300 v 0),(8,true,.d (.int .i64 (sq x))),(9,true,.d (.int .i64 (sr x))),(10,true,.d (.int .i64 (nP x))),(11,true,.d (.int .i64 (ko x))),(12,true,.d (.int .i64 (kO x)))]++cX x,[⟨300,v,bB x⟩]⟩ E=
  if JQ x=true then E .normal ⟨258,aC,[(0,true,a),(3,true,b),(4,true,.ptr 300 v 0),(186,true,.d (.bool false))],[⟨300,v,bB x⟩]⟩else R1:=by
  intro E U;unfold JQ;rcases Zr x with J|J
  .rw[J,aee,alS U hw];simp only[aaw]
  .rw[J];simp only[aeR,aba];rw[alT U hw];simp only[aaw]
 rw[AF _ (D _)];cases JQ x
 .rw[aih,aaf abd,aaf abd]
 rw[aav rfl,ai6,kK,A4,ir,apm AA (D _)];cases (dy x).all dz
 .rw[aih,aaf abd,aaf abd]
 rw[aav rfl,ai6,kK,A5,ir,apn A8 A9 (D _)];cases (dn x).all oE
 .rw[aih,aaf abd,aaf abd]
 rw[aav rfl,ai6,kK,apo AB V I]
end
def OQ(l:List Sm)(J:l.length<100000000)(U:∀x∈l,Av x)(V:∀x∈l,∀c∈aV x,KS c)(k:Kt)(R1 R2:bU)
 (E:∀v X,k .ret ⟨258,aC,[(2,true,.d (.bool false))],[⟨300,v,X⟩]⟩=R1)
 (H:∀(Y:Env) v X,k (.exit 0) ⟨258,aC,Y,[⟨300,v,X⟩]⟩=R2):∀(rest pre:List Sm)(v:Nat)(X:aE),l=pre++rest->
 aK ctx 24 (.loop (cw [1,0,1,0,0])) ⟨258,aC,[(0,true,.d (.list (l.map bZ))),(3,true,.d (.int .i64 pre.length))],[⟨300,v,X⟩]⟩ k=if eF rest=true then R2 else R1
 |[],pre,v,X,I=>by
  have A':pre.length=l.length:=by rw[I];simp
  rw[A',ag];simp[cw,f24,H,eF]
 |x::rest,pre,v,X,I=>by
  have A0:pre.length<l.length:=by rw[I];simp
  have A1:l[pre.length]=x:=by simp[I]
  have hm:x∈l:=by rw[I];simp
  have Z:=λ(v:Nat) (a b:AV) (k:Kt)=>ahY (v:=v) (a:=a) (b:=b) (k:=k) (U x hm) (V x hm) rfl;have ih:∀v X,aK ctx 24 (.loop (cw [1,0,1,0,0])) ⟨258,aC,[(0,true,.d (.list (l.map bZ))),(3,true,.d (.int .i64 (pre.length+1)))],[⟨300,v,X⟩]⟩ k=if eF rest=true then R2 else R1:=λv X=>by
   have:=OQ l J U V k R1 R2 E H rest (pre++[x]) v X (by simp[I]);simpa using this
  have A2:=bu ((pre.length:Int)+1);have key:eF (x::rest)=(jr x&&eF rest):=by rw[eF]
  rw[key];generalize jr x=N at*;generalize eF rest=M at*;rw[ag];simp[cw,f24]at Z ih⊢;simp[A0,A1,dk];simp[Z];cases N<;>simp[E,A2,ih]
def W4{l:List Sm}(J:l.length<100000000)(U:∀x∈l,Av x)(V:∀x∈l,∀c∈aV x,KS c):KS l:=by
 have h:=λk R1 R2 E H v X=>OQ l J U V k R1 R2 E H l [] v X rfl;unfold KS;rw[alf (by simp)];simp[cw,f24]at h⊢;rw[h _ (some (.ret (.d (.bool false)),[])) (some (.ret (.d (.bool true)),[]))]
 .cases eF l<;>simp
 .intro v X;simp
 .intro Y v X;simp
mutual
def ah0:∀x:Sm,xw x->Av x/\∀c∈aV x,KS c
 | .mk op name to val conds A3 fields blocks line,h=>by
  have h:=(aa4 _).1 h;exact⟨h.1,RI blocks h.2⟩
def EN:∀l:List Sm,mJ l->∀x∈l,Av x/\∀c∈aV x,KS c
 |[],_,x,D=>by simp at D
 |y::r,h,x,D=>by
  simp only[mJ]at h;have E:=ah0 y h.1;have H:=EN r h.2;rcases aam.1 D with e|D
  .rw[e];exact E
  .exact H x D
def RI:∀l:List (List Sm),mI l->∀c∈l,KS c
 |[],_,c,O=>by simp at O
 |b::r,h,c,O=>by
  simp only[mI]at h;have E:=EN b h.1.2;have H:=RI r h.2;rcases aam.1 O with e|O
  .rw[e];exact W4 h.1.1 (λx D=>(E x D).1) (λx D=>(E x D).2)
  .exact H c O
end
def Zs{l:List Sm}(J:l.length<100000000)(h:mJ l):KS l:=
 W4 J (λx D=>(EN l h x D).1) (λx D=>(EN l h x D).2)
def JR(k:Int):ak ctx 41 [.d (.int .i64 k)] []=some (.ret (.d (.list ((eI k).map gp))),[]):=by
 by_cases D:k∈19::iC
 .simp only[iC,aam,aaH]at D;repeat' (obtain rfl|D:=D)
  all_goals exact sS 120 (by kernel_rfl)
 .rw[rJ λh=>D (abq _ h),alo (by simp)];simp only[iC,aam,aaH,ajl]at D;by_cases E:k<10
  .simp[f41,E]
  .have H:31<k:=by omega
   simp[f41,E,H]
abbrev Rw:=Int×Tx×Tx×List Tx
def IN:List Rw:=[
 (10,[84,79,78],[105,73,111,79],[[73,78],[80,84],[81],[69,84]]),
 (11,[84,79,70],[105,73,111,79],[[73,78],[80,84],[81],[69,84]]),
 (12,[84,80],[105,73,111,79,46,46],[[73,78],[80,84],[81],[69,84]]),
 (13,[67,84,85],[105,105,73,111,79,46],[[67,85],[82],[80,86],[81],[67,86]]),
 (14,[67,84,68],[105,105,73,111,79,46],[[67,68],[76,68],[80,86],[81],[67,86]]),
 (15,[82,95,84,82,73,71],[105,111,46],[[67,76,75],[81]]),
 (16,[70,95,84,82,73,71],[105,111,46],[[67,76,75],[81]]),
 (17,[83,82],[105,105,111],[[83,49],[82],[81,49]]),
 (18,[82,83],[105,105,111],[[83],[82,49],[81,49]]),
 (20,[77,67,95,80,111,119,101,114],[73,105,111,111],[[65,120,105,115],[69,110,97,98,108,101],[83,116,97,116,117,115],[69,114,114,111,114]]),
 (21,[77,67,95,72,111,109,101],[73,105,111,111,111,111,111,46,46],[[65,120,105,115],[69,120,101,99,117,116,101],[68,111,110,101],[66,117,115,121],[65,99,116,105,118,101],[67,111,109,109,97,110,100,65,98,111,114,116,101,100],[69,114,114,111,114]]),
 (22,[77,67,95,83,116,111,112],[73,105,111,111,111,111,111,46,46],[[65,120,105,115],[69,120,101,99,117,116,101],[68,111,110,101],[66,117,115,121],[65,99,116,105,118,101],[67,111,109,109,97,110,100,65,98,111,114,116,101,100],[69,114,114,111,114]]),
 (23,[77,67,95,72,97,108,116],[73,105,111,111,111,111,111,46,46],[[65,120,105,115],[69,120,101,99,117,116,101],[68,111,110,101],[66,117,115,121],[65,99,116,105,118,101],[67,111,109,109,97,110,100,65,98,111,114,116,101,100],[69,114,114,111,114]]),
 (24,[77,67,95,77,111,118,101,65,98,115,111,108,117,116,101],[73,105,73,73,73,111,111,111,111,111,46,46],[[65,120,105,115],[69,120,101,99,117,116,101],[80,111,115,105,116,105,111,110],[86,101,108,111,99,105,116,121],[66,117,102,102,101,114,77,111,100,101],[68,111,110,101],[66,117,115,121],[65,99,116,105,118,101],[67,111,109,109,97,110,100,65,98,111,114,116,101,100],[69,114,114,111,114]]),
 (25,[77,67,95,77,111,118,101,82,101,108,97,116,105,118,101],[73,105,73,73,73,111,111,111,111,111,46,46],[[65,120,105,115],[69,120,101,99,117,116,101],[68,105,115,116,97,110,99,101],[86,101,108,111,99,105,116,121],[66,117,102,102,101,114,77,111,100,101],[68,111,110,101],[66,117,115,121],[65,99,116,105,118,101],[67,111,109,109,97,110,100,65,98,111,114,116,101,100],[69,114,114,111,114]]),
 (26,[77,67,95,77,111,118,101,65,100,100,105,116,105,118,101],[73,105,73,73,73,111,111,111,111,111,46,46],[[65,120,105,115],[69,120,101,99,117,116,101],[68,105,115,116,97,110,99,101],[86,101,108,111,99,105,116,121],[66,117,102,102,101,114,77,111,100,101],[68,111,110,101],[66,117,115,121],[65,99,116,105,118,101],[67,111,109,109,97,110,100,65,98,111,114,116,101,100],[69,114,114,111,114]]),
 (27,[77,67,95,77,111,118,101,86,101,108,111,99,105,116,121],[73,105,73,111,111,111,111,111,46,46],[[65,120,105,115],[69,120,101,99,117,116,101],[86,101,108,111,99,105,116,121],[73,110,86,101,108,111,99,105,116,121],[66,117,115,121],[65,99,116,105,118,101],[67,111,109,109,97,110,100,65,98,111,114,116,101,100],[69,114,114,111,114]]),
 (28,[77,67,95,71,101,97,114,73,110],[73,105,73,73,73,111,111,111,111,111,46,46],[[65,120,105,115],[69,120,101,99,117,116,101],[77,97,115,116,101,114],[78,117,109,101,114,97,116,111,114],[68,101,110,111,109,105,110,97,116,111,114],[73,110,71,101,97,114],[66,117,115,121],[65,99,116,105,118,101],[67,111,109,109,97,110,100,65,98,111,114,116,101,100],[69,114,114,111,114]]),
 (29,[77,67,95,82,101,115,101,116],[73,105,111,111,46],[[65,120,105,115],[69,120,101,99,117,116,101],[68,111,110,101],[69,114,114,111,114]]),
 (30,[77,67,95,83,101,116,80,111,115,105,116,105,111,110],[73,105,73,111,111,46],[[65,120,105,115],[69,120,101,99,117,116,101],[80,111,115,105,116,105,111,110],[68,111,110,101],[69,114,114,111,114]]),
 (31,[77,67,95,83,101,116,79,118,101,114,114,105,100,101],[73,105,73,111],[[65,120,105,115],[69,110,97,98,108,101],[80,101,114,99,101,110,116],[69,110,97,98,108,101,100]])]
def rwD(r:Rw):D:=.agg [.int .i64 r.1,.str r.2.1,.str r.2.2.1,.list (r.2.2.2.map .str)]
def ah1:ak ctx 49 [] []=some (.ret (.d (.list (IN.map rwD))),[]):=sS 120 (by kernel_rfl)
def zx(k:Int):List Rw->Tx
 |[]=>[]
 |r::l=>if r.1=k then r.2.1 else zx k l
def RJ(q:Int)(l:List Rw)(O:l.length<1000)(k:Kt)(RF:Tx->bU)
 (H:∀t,k .ret ⟨24,aC,[(2,true,.d (.str t))],[]⟩=RF t)
 (I:∀Y:Env,k (.exit 0) ⟨24,aC,Y,[]⟩=RF []):∀(rest pre:List Rw),l=pre++rest->
 aK ctx 23 (.loop (Code.at (aU f23) [1,1,0,1,0,0])) ⟨24,aC,[(0,true,.d (.int .i64 q)),(3,true,.d (.list (l.map rwD))),(4,true,.d (.int .i64 pre.length))],[]⟩ k=RF (zx q rest)
 |[],pre,E=>by
  have U:pre.length=l.length:=by rw[E];simp
  rw[U,ag];simp[f23,I,zx]
 |x::rest,pre,E=>by
  have J:pre.length<l.length:=by rw[E];simp
  have M:l[pre.length]=x:=by simp[E]
  have ih:=RJ q l O k RF H I rest (pre++[x]) (by simp[E]);have V:=bu ((pre.length:Int)+1);rw[ag];by_cases N:x.1=q
  .simp[f23];simp[J,M,rwD,N,H,zx]
  .simp[f23]at ih⊢;simp[J,M,rwD,N,V,ih,zx]
def apr(q:Int):ak ctx 23 [.d (.int .i64 q)] []=some (.ret (.d (.str (zx q IN))),[]):=by
 have h:=λk RF H I=>RJ q IN (by decide) k RF H I IN [] rfl;have Z:=ah1;rw[ale (by simp)];generalize IN=l at*;simp[f23]at h⊢;simp[Z];rw[h _ (λt=>some (.ret (.d (.str t)),[])) (by simp) (by simp)]
def ac2(q:Int):(zx q IN=[])↔rK q=false:=by
 by_cases h:10<=q/\q<=31
 .have:q=10\/q=11\/q=12\/q=13\/q=14\/q=15\/q=16\/q=17\/q=18\/q=19\/q=20\/q=21\/q=22\/q=23\/q=24\/q=25\/q=26\/q=27\/q=28\/q=29\/q=30\/q=31:=by omega
  rcases this with h|h|h|h|h|h|h|h|h|h|h|h|h|h|h|h|h|h|h|h|h|h<;>subst h<;>decide
 .have e:∀n:Int,10<=n->n<=31->¬n=q:=λn a b c=>h (by omega);have y:eI q=[]:=by
   unfold eI Rl;simp only[yp];rw[aaf (e _ (by decide) (by decide)),aaf (e _ (by decide) (by decide)),aaf (e _ (by decide) (by decide)),aaf (e _ (by decide) (by decide)),aaf (e _ (by decide) (by decide)),aaf (e _ (by decide) (by decide)),aaf (e _ (by decide) (by decide)),aaf (e _ (by decide) (by decide)),aaf (e _ (by decide) (by decide)),aaf (e _ (by decide) (by decide)),aaf (e _ (by decide) (by decide)),aaf (e _ (by decide) (by decide)),aaf (e _ (by decide) (by decide)),aaf (e _ (by decide) (by decide)),aaf (e _ (by decide) (by decide)),aaf (e _ (by decide) (by decide)),aaf (e _ (by decide) (by decide)),aaf (e _ (by decide) (by decide)),aaf (e _ (by decide) (by decide)),aaf (e _ (by decide) (by decide)),aaf (e _ (by decide) (by decide))]
  have A':zx q IN=[]:=by
   unfold IN;simp only[zx];rw[aaf (e _ (by decide) (by decide)),aaf (e _ (by decide) (by decide)),aaf (e _ (by decide) (by decide)),aaf (e _ (by decide) (by decide)),aaf (e _ (by decide) (by decide)),aaf (e _ (by decide) (by decide)),aaf (e _ (by decide) (by decide)),aaf (e _ (by decide) (by decide)),aaf (e _ (by decide) (by decide)),aaf (e _ (by decide) (by decide)),aaf (e _ (by decide) (by decide)),aaf (e _ (by decide) (by decide)),aaf (e _ (by decide) (by decide)),aaf (e _ (by decide) (by decide)),aaf (e _ (by decide) (by decide)),aaf (e _ (by decide) (by decide)),aaf (e _ (by decide) (by decide)),aaf (e _ (by decide) (by decide)),aaf (e _ (by decide) (by decide)),aaf (e _ (by decide) (by decide)),aaf (e _ (by decide) (by decide))]
  rw[A'];unfold rK;rw[y];simp
section
variable {vs:List Vr} {n:Int} (D:vs.length<1000000) (E:∀v∈vs,cJ v=true)
def W5(vs:List Vr)(x:Sm):EL:=match bk vs (eG x)with
 |none=>(9,jA x)
 |some v=>if v.ty<=2 then (10,jA x)else jW vs v.ty (jA x) (dy x) (bS x) []
def coE(vs:List Vr)(x:Sm):EL:=match bk vs (eG x)with
 |none=>(9,jA x)
 |some v=>if v.sec=1 then (1,jA x)else if v.arr=true\/v.ty≠1 then (10,jA x)else fu (mF vs 1 (bS x)) (yr vs (aV x))
include D E
end
def vM(vs:List Vr)(lp:Bool)(x:Sm):kr vs lp x=
 if bM x=1 then Iy vs (dJ x) (dq x) (jA x)
 else if bM x=2 then eO vs lp (bS x) (aV x)
 else if bM x=3 then fu (dP vs (dq x) 1) (eO vs lp [] (aV x))
 else if bM x=4 then coE vs x
 else if bM x=5 then fu (dP vs (dq x) 2) (yr vs (aV x))
 else if bM x=6 then fu (yr vs (aV x)) (dP vs (dq x) 2)
 else if bM x=7 then (if lp=true then (0,0)else (14,jA x))
 else if bM x=9 then W5 vs x
 else (0,0):=by
 obtain⟨op,name,to,val,conds,D,fields,blocks,line⟩:=x;unfold kr coE W5;rfl
mutual
def RL:Sm->Nat
 | .mk _ _ _ _ conds D fields blocks _=>1+conds.length+D.length+fields.length+zy blocks
def uU:List Sm->Nat
 |[]=>0
 |x::r=>RL x+uU r
def zy:List (List Sm)->Nat
 |[]=>0
 |b::r=>uU b+1+zy r
end
def GC:∀l:List Sm,l.length<=uU l
 |[]=>by simp[uU]
 | .mk _ _ _ _ c E f H _::r=>by have:=GC r;simp only[uU,RL,aao];omega
def OR:∀l:List (List Sm),l.length<=zy l
 |[]=>by simp[zy]
 |b::r=>by have:=OR r;simp only[zy,aao];omega
section
variable {vs:List Vr} {n:Int} (I:vs.length<1000000) (J:∀v∈vs,cJ v=true)
end
section
variable {vs:List Vr} {n:Int} (D:vs.length<1000000) (E:∀v∈vs,cJ v=true)
theorem nc{a b:EL}(h:a.1=0):fu a b=b:=by unfold fu;rw[aaf (by simp[h])]
theorem rQ{a b:EL}(h:¬a.1=0):fu a b=a:=by unfold fu;rw[aav h]
include D E
end
def eo(e:EL):EL:=if e.1=0 then (0,0)else e
@[reducible] noncomputable def gN(p:List Nat):Code:=Code.at (aU f8) p
def W6(w:Vr):Bool:=dz w.name&&decide (0<=w.sec/\w.sec<=2)
def W7(w:Vr):Bool:=decide (w.ty=1\/w.ty=2)||rK w.ty
def W8(w:Vr):Bool:=if w.arr=true then decide (w.ty<=2/\0<=w.lo/\w.lo<=w.hi/\w.hi<=255)else decide (w.lo=0/\w.hi=0)
def fiE(w:Vr):Bool:=!decide (((w.arr=true\/2<w.ty)/\w.init≠0)\/(w.ty=2/\(w.init<0\/1<w.init))\/w.init= -9223372036854775808)
def ah3(w:Vr):cJ w=(W6 w&&(W7 w&&(W8 w&&fiE w))):=by
 unfold cJ W6 W7 W8 fiE;simp only[Bool.and_assoc]
section
variable {w:Vr} {v:Nat} {k:Kt} {R1:bU} {a b:AV} {B:aE} (D:k .ret ⟨129,aC,[(2,true,.d (.bool false))],[⟨150,1,B⟩,⟨300,v,fF w⟩]⟩=R1)
include D
theorem alV:aK ctx 8 (gN [1,1,0,1,0,0,1,0,0,1,0]) ⟨129,aC,[(1,true,a),(3,true,b),(4,true,.ptr 300 v 0)],[⟨150,1,B⟩,⟨300,v,fF w⟩]⟩ k=
 if W6 w=true then k .normal ⟨129,aC,[(1,true,a),(3,true,b),(4,true,.ptr 300 v 0),(40,true,.d (.bool false))],[⟨150,1,B⟩,⟨300,v,fF w⟩]⟩else R1:=by
 have U:=fI w.name;unfold W6;simp only[fF]at D;generalize dz w.name=N at*;cases N with
 |false=>(simp[gN,f8];simp[U,D])
 |true=>
  by_cases E:w.sec<0
  .have H:¬0<=w.sec:=by omega
   (simp[gN,f8];simp[U,E,H,D])
  .have H:0<=w.sec:=by omega
   by_cases I:2<w.sec
   .have M:¬w.sec<=2:=by omega
    (simp[gN,f8];simp[U,E,H,I,M,D])
   .have M:w.sec<=2:=by omega
    (simp[gN,f8];simp[U,E,H,I,M,D])
theorem alW{d:AV}:aK ctx 8 (gN [1,1,0,1,0,0,1,0,0,1,1,0]) ⟨129,aC,[(1,true,a),(3,true,b),(4,true,.ptr 300 v 0),(40,true,d)],[⟨150,1,B⟩,⟨300,v,fF w⟩]⟩ k=
 if W7 w=true then k .normal ⟨129,aC,[(1,true,a),(3,true,b),(4,true,.ptr 300 v 0),(54,true,.d (.bool false))],[⟨150,1,B⟩,⟨300,v,fF w⟩]⟩else R1:=by
 have U:=apr w.ty;have A2:=ac2 w.ty;unfold W7;simp only[fF]at D;generalize zx w.ty IN=T at*;generalize rK w.ty=Q at*;by_cases E:w.ty=1
 ·(simp only[E]at D⊢;simp[gN,f8];simp[E])
 .by_cases H:w.ty=2
  ·(simp only[H]at D⊢;simp[gN,f8];simp[H])
  .by_cases Z:T=[]
   .have A0:=A2.1 Z
    (simp[gN,f8];simp[U,E,H,Z,A0,D])
   .have A0:Q=true:=by cases Q with|true=>rfl|false=>exact absurd (A2.2 rfl) Z
    (simp[gN,f8];simp[U,E,H,Z,A0,D])
theorem alX{d:AV}:aK ctx 8 (gN [1,1,0,1,0,0,1,0,0,1,1,1,0]) ⟨129,aC,[(1,true,a),(3,true,b),(4,true,.ptr 300 v 0),(54,true,d)],[⟨150,1,B⟩,⟨300,v,fF w⟩]⟩ k=
 if W8 w=true then k .normal ⟨129,aC,[(1,true,a),(3,true,b),(4,true,.ptr 300 v 0),(93,true,.d (.bool false))],[⟨150,1,B⟩,⟨300,v,fF w⟩]⟩else R1:=by
 unfold W8;simp only[fF]at D;obtain⟨name,ty,sec,arr,lo,hi,init,line⟩:=w;simp only at D⊢;cases arr with
 |false=>
  by_cases E:lo=0
  .by_cases H:hi=0
   ·(simp[gN,f8];simp[E,H,D])
   ·(simp only[E]at D;simp[gN,f8];simp[E,H,D])
  ·(simp[gN,f8];simp[E,D])
 |true=>
  by_cases E:2<ty
  .have J:¬ty<=2:=by omega
   (simp[gN,f8];simp[E,J,D])
  .have J:ty<=2:=by omega
   by_cases H:lo<0
   .have V:¬0<=lo:=by omega
    (simp[gN,f8];simp[E,J,H,V,D])
   .have V:0<=lo:=by omega
    by_cases I:hi<lo
    .have y:¬lo<=hi:=by omega
     (simp[gN,f8];simp[E,J,H,V,I,y,D])
    .have y:lo<=hi:=by omega
     by_cases M:255<hi
     .have O:¬hi<=255:=by omega
      (simp[gN,f8];simp[E,J,H,V,I,y,M,O,D])
     .have O:hi<=255:=by omega
      (simp[gN,f8];simp[E,J,H,V,I,y,M,O,D])
theorem alY{d:AV}:aK ctx 8 (gN [1,1,0,1,0,0,1,0,0,1,1,1,1]) ⟨129,aC,[(1,true,a),(3,true,b),(4,true,.ptr 300 v 0),(93,true,d)],[⟨150,1,B⟩,⟨300,v,fF w⟩]⟩ k=
 if fiE w=true then k .normal ⟨129,aC,[(1,true,a),(3,true,b),(125,true,.d (.bool false))],[⟨150,1,B⟩,⟨300,v,fF w⟩]⟩else R1:=by
 unfold fiE;simp only[fF]at D;obtain⟨name,ty,sec,arr,lo,hi,init,line⟩:=w;simp only at D⊢;cases arr with
 |true=>
  by_cases H:init=0
  .subst H;by_cases I:ty=2
   .subst I;(simp[gN,f8];all_goals simp[D])
   ·(simp[gN,f8];all_goals simp[I,D])
  ·(simp[gN,f8];all_goals simp[H,D])
 |false=>
  by_cases E:2<ty
  .have I:¬ty=2:=by omega
   have J:¬ty<=2:=by omega
   by_cases H:init=0
   .subst H;(simp[gN,f8];all_goals simp[E,J,I,D])
   ·(simp[gN,f8];all_goals simp[E,J,H,I,D])
  .have J:ty<=2:=by omega
   by_cases I:ty=2
   .subst I;by_cases M:init<0
    .have O:¬0<=init:=by omega
     (simp[gN,f8];all_goals simp[M,O,D])
    .have O:0<=init:=by omega
     by_cases A3:1<init
     .have A1:¬init<=1:=by omega
      (simp[gN,f8];all_goals simp[M,O,A3,A1,D])
     .have A':¬init= -9223372036854775808:=by omega
      have A1:init<=1:=by omega
      (simp[gN,f8];all_goals simp[M,O,A3,A1,A',D])
   .by_cases A':init= -9223372036854775808
    .subst A';(simp[gN,f8];all_goals simp[E,J,I,D])
    ·(simp[gN,f8];all_goals simp[E,J,I,A',D])
end
section
variable {w:Vr} {v:Nat} {k:Kt} {R1:bU} {a b:AV} {B:aE}
theorem ah5(A':k .ret ⟨129,aC,[(2,true,.d (.bool false))],[⟨150,1,B⟩,⟨300,v,fF w⟩]⟩=R1):
 aK ctx 8 (gN [1,1,0,1,0,0,1,0,0,1]) ⟨129,aC,[(1,true,a),(3,true,b),(4,true,.ptr 300 v 0)],[⟨150,1,B⟩,⟨300,v,fF w⟩]⟩ k=
 if cJ w=true then k .normal ⟨129,aC,[(1,true,a),(3,true,b),(125,true,.d (.bool false))],[⟨150,1,B⟩,⟨300,v,fF w⟩]⟩else R1:=by
 have A3:gN [1,1,0,1,0,0,1,0,0,1]=Code.seq (gN [1,1,0,1,0,0,1,0,0,1,0]) (gN [1,1,0,1,0,0,1,0,0,1,1]):=rfl;have A4:gN [1,1,0,1,0,0,1,0,0,1,1]=Code.seq (gN [1,1,0,1,0,0,1,0,0,1,1,0]) (gN [1,1,0,1,0,0,1,0,0,1,1,1]):=rfl;have A5:gN [1,1,0,1,0,0,1,0,0,1,1,1]=Code.seq (gN [1,1,0,1,0,0,1,0,0,1,1,1,0]) (gN [1,1,0,1,0,0,1,0,0,1,1,1,1]):=rfl;have V:∀c,Dw ctx 8 c k .ret ⟨129,aC,[(2,true,.d (.bool false))],[⟨150,1,B⟩,⟨300,v,fF w⟩]⟩=R1:=λ_=>A';rw[ah3,A3,ir,alV (V _)];cases W6 w
 .rw[aih,aaf abd,aaf abd]
 rw[aav rfl,ai6,kK,A4,ir,alW (V _)];cases W7 w
 .rw[aih,aaf abd,aaf abd]
 rw[aav rfl,ai6,kK,A5,ir,alX (V _)];cases W8 w
 .rw[aih,aaf abd,aaf abd]
 rw[aav rfl,ai6,kK,alY A']
end
def RN(l:List Vr)(A6:l.length<=64)(D E:AV)(k:Kt)(R1 R2:bU)
 (I:∀v X,k .ret ⟨129,aC,[(2,true,.d (.bool false))],[⟨150,1,.box [D,.d (.list (l.map bx)),E]⟩,⟨300,v,X⟩]⟩=R1)
 (J:∀(b c:AV) v X,k (.exit 0) ⟨129,aC,[(1,true,.ptr 150 1 0),(3,true,b),(19,true,c)],[⟨150,1,.box [D,.d (.list (l.map bx)),E]⟩,⟨300,v,X⟩]⟩=R2):∀(rest pre:List Vr)(v:Nat)(X:aE),l=pre++rest->
 aK ctx 8 (.loop (gN [1,1,0,1,0,0])) ⟨129,aC,[(1,true,.ptr 150 1 0),(3,true,.d (.int .i64 pre.length))],[⟨150,1,.box [D,.d (.list (l.map bx)),E]⟩,⟨300,v,X⟩]⟩ k=if rest.all cJ=true then R2 else R1
 |[],pre,v,X,H=>by
  have A7:pre.length=l.length:=by rw[H];simp
  rw[A7,ag];simp[gN,f8,J]
 |x::rest,pre,v,X,H=>by
  have A8:pre.length<l.length:=by rw[H];simp
  have A9:l[pre.length]=x:=by simp[H]
  have O:=λ(v:Nat) (a b:AV) (k:Kt)=>ah5 (w:=x) (v:=v) (a:=a) (b:=b) (k:=k) (B:=.box [D,.d (.list (l.map bx)),E]) rfl;have ih:∀v X,aK ctx 8 (.loop (gN [1,1,0,1,0,0])) ⟨129,aC,[(1,true,.ptr 150 1 0),(3,true,.d (.int .i64 (pre.length+1)))],[⟨150,1,.box [D,.d (.list (l.map bx)),E]⟩,⟨300,v,X⟩]⟩ k=if rest.all cJ=true then R2 else R1:=λv X=>by
   have:=RN l A6 D E k R1 R2 I J rest (pre++[x]) v X (by simp[H]);simpa using this
  have AA:=bu ((pre.length:Int)+1);rw[ahP];generalize cJ x=N at*;generalize rest.all cJ=M at*;rw[ag];simp[gN,f8]at O ih⊢;simp[A8,A9,bx,cZ];simp[O];cases N<;>simp[I,AA,ih]
def ah6{p:Pg}(O:p.body.length<100000000)(AB:mJ p.body):ak ctx 8 [.d (.agg [.str p.name,.list (p.vars.map bx),.list (p.body.map bZ)])] []=some (.ret (.d (.bool (uT p))),[]):=by
 have Z:=fI p.name;have A0:=Zs O AB;unfold KS at A0;rw[apd (by simp)];unfold uT;generalize dz p.name=N at*;generalize eF p.body=M at*;cases N with
 |false=>simp[f8,Z]
 |true=>
  by_cases A1:64<p.vars.length
  .have y:(64:Int)<p.vars.length:=by omega
   have U:¬p.vars.length<=64:=by omega
   simp[f8,Z,A1,y,U]
  .have y:¬(64:Int)<p.vars.length:=by omega
   have U:p.vars.length<=64:=by omega
   have A2:=λD E k R1 R2 I J v X=>RN p.vars U D E k R1 R2 I J p.vars [] v X rfl;generalize p.vars.all cJ=Q at*;simp[gN,f8]at A2;simp[f8,Z,A1,y,U];rw[A2 _ _ _ (some (.ret (.d (.bool false)),[])) (some (.ret (.d (.bool M)),[]))]
   .cases Q<;>simp
   .intro v X;simp
   .intro b c v X;simp[A0]
def SE(l:List Ex):Prop:=∀most:Int,∃n d:Int,ak ctx 86 [.d (.list (l.map bJ)),.d (.int .i64 most)] []=some (.ret (.bh [.d (.int .i64 n),.d (.int .i64 d)]),[])
def RO(l:List Ex)(E:l.length<100000000)(J:∀x∈l,SE (da x))(most:Int)(k:Kt)(Q:bU->Prop)
 (H:∀(n d:Int)(b c:AV),Q (k (.exit 0) ⟨44,aC,[(0,true,.d (.list (l.map bJ))),(1,true,.d (.int .i64 most)),(6,true,.d (.int .i64 n)),(7,true,.d (.int .i64 d)),(8,true,b),(19,true,c)],[]⟩)):∀(rest pre:List Ex)(n d:Int),l=pre++rest->
 Q (aK ctx 86 (.loop (Code.at (aU f86) [1,1,0,1,0,0])) ⟨44,aC,[(0,true,.d (.list (l.map bJ))),(1,true,.d (.int .i64 most)),(6,true,.d (.int .i64 n)),(7,true,.d (.int .i64 d)),(8,true,.d (.int .i64 pre.length))],[]⟩ k)
 |[],pre,n,d,D=>by
  have O:pre.length=l.length:=by rw[D];simp
  rw[O,ag];simp[f86,H]
 |x::rest,pre,n,d,D=>by
  have M:pre.length<l.length:=by rw[D];simp
  have U:l[pre.length]=x:=by simp[D]
  obtain⟨m,Z,hm⟩:=J x (by rw[D];simp) (IntKind.i64.wrap (most-n));have ih:∀n d,Q (aK ctx 86 (.loop (Code.at (aU f86) [1,1,0,1,0,0])) ⟨44,aC,[(0,true,.d (.list (l.map bJ))),(1,true,.d (.int .i64 most)),(6,true,.d (.int .i64 n)),(7,true,.d (.int .i64 d)),(8,true,.d (.int .i64 (pre.length+1)))],[]⟩ k):=λn d=>by
   have:=RO l E J most k Q H rest (pre++[x]) n d (by simp[D]);simpa using this
  have V:=bu ((pre.length:Int)+1);rw[ag];by_cases N:n<=most
  .simp[f86]at ih⊢;simp[M,U,N,aw,hm,V,ih]
  .simp[f86];simp[M,N,H]
def ah8{l:List Ex}(E:l.length<100000000)(J:∀x∈l,SE (da x)):SE l:=by
 intro most;have h:=λk Q H=>RO l E J most k Q H l [] 0 0 rfl;rw[alH (by simp)];simp[f86]at h⊢;apply h _ (λA=>∃n d:Int,A=some (.ret (.bh [.d (.int .i64 n),.d (.int .i64 d)]),[]));intro n d b c;simp
mutual
def aps:∀x:Ex,Au x->SE (da x)
 | .mk op nn name field sub line,h=>by
  simp only[Au]at h;exact ah8 h.1.2.2 (Uq sub h.2)
def Uq:∀l:List Ex,rP l->∀x∈l,SE (da x)
 |[],_,x,I=>by simp at I
 |y::r,h,x,I=>by
  simp only[rP]at h;rcases aam.1 I with e|I
  .rw[e];exact aps y h.1
  .exact Uq r h.2 x I
end
def W9{l:List Ex}(E:l.length<100000000)(h:rP l):SE l:=ah8 E (Uq l h)
@[reducible] noncomputable def mR(p:List Nat):Code:=Code.at (aU f47) p
def SS(l:List Sm):Prop:=∀most:Int,∃n d:Int,ak ctx 47 [.d (.list (l.map bZ)),.d (.int .i64 most)] []=some (.ret (.bh [.d (.int .i64 n),.d (.int .i64 d)]),[])
section
variable {x:Sm} {v:Nat} {k:Kt} {Q:bU->Prop} {a b:AV} {most:Int}
theorem ssA(D:SE [dJ x,dq x])(E:SE (bS x))(n d:Int)
 (H:∀(n d:Int)(J M N O:AV),Q (k .normal ⟨136,aC,[(0,true,a),(1,true,.d (.int .i64 most)),(6,true,.d (.int .i64 n)),(7,true,.d (.int .i64 d)),(8,true,b),(9,true,.ptr 550 v 0),(42,true,J),(43,true,M),(44,true,N),(45,true,O)],[⟨550,v,bB x⟩]⟩)):
 Q (aK ctx 47 (mR [1,1,0,1,0,0,1,0,0,1,1,0]) ⟨136,aC,[(0,true,a),(1,true,.d (.int .i64 most)),(6,true,.d (.int .i64 n)),(7,true,.d (.int .i64 d)),(8,true,b),(9,true,.ptr 550 v 0)],[⟨550,v,bB x⟩]⟩ k):=by
 unfold SE at D E;simp[aw]at D;have I:IntKind.i64.wrap 1=1:=by decide
 have U:IntKind.i64.wrap 2=2:=by decide
 have V:List.range' 0 2=[0,1]:=rfl;simp only[bB]at H;obtain⟨m,A',hm⟩:=D (IntKind.i64.wrap (most-n));simp[mR,f47,V];rw[ag];simp[hm,I];generalize IntKind.i64.wrap (n+m)=Z;obtain⟨A0,d2,y⟩:=E (IntKind.i64.wrap (most-Z));rw[ag];simp[y,I,U];rw[ag];simp[H]
end
section
variable {x:Sm} {v:Nat} {k:Kt} {Q:bU->Prop} {a b:AV} {most:Int}
theorem ssB(n d:Int)(I J A6 A7:AV)
 (D:∀(n:Int),Q (k .normal ⟨136,aC,[(0,true,a),(1,true,.d (.int .i64 most)),(6,true,.d (.int .i64 n)),(7,true,.d (.int .i64 d)),(8,true,b),(9,true,.ptr 550 v 0)],[⟨550,v,bB x⟩]⟩)):
 Q (aK ctx 47 (mR [1,1,0,1,0,0,1,0,0,1,1,1,0]) ⟨136,aC,[(0,true,a),(1,true,.d (.int .i64 most)),(6,true,.d (.int .i64 n)),(7,true,.d (.int .i64 d)),(8,true,b),(9,true,.ptr 550 v 0),(42,true,I),(43,true,J),(44,true,A6),(45,true,A7)],[⟨550,v,bB x⟩]⟩ k):=by
 simp only[bB]at D;simp[mR,f47];apply D
theorem OT(V:(dn x).length<100000000)(d:Int)
 (D:∀(n:Int)(I J:AV),Q (k (.exit 4) ⟨136,aC,[(0,true,a),(1,true,.d (.int .i64 most)),(6,true,.d (.int .i64 n)),(7,true,.d (.int .i64 d)),(8,true,b),(9,true,.ptr 550 v 0),(14,true,I),(88,true,J)],[⟨550,v,bB x⟩]⟩)):∀(rest pre:List (List Int))(n:Int),dn x=pre++rest->
 Q (aK ctx 47 (.loop (mR [1,1,0,1,0,0,1,0,0,1,1,1,1,0,1,0,0])) ⟨136,aC,[(0,true,a),(1,true,.d (.int .i64 most)),(6,true,.d (.int .i64 n)),(7,true,.d (.int .i64 d)),(8,true,b),(9,true,.ptr 550 v 0),(14,true,.d (.int .i64 pre.length))],[⟨550,v,bB x⟩]⟩ k)
 |[],pre,n,E=>by
  have A0:pre.length=(dn x).length:=by rw[E];simp
  simp only[bB]at D;rw[A0,ag];simp[mR,f47,D]
 |c::rest,pre,n,E=>by
  have O:pre.length<(dn x).length:=by rw[E];simp
  have A1:(dn x)[pre.length]=c:=by simp[E]
  have ih:=λn=>OT V d D rest (pre++[c]) n (by simp[E]);have A2:=bu ((pre.length:Int)+1);simp only[bB]at D;rw[ag];by_cases U:n<=most
  .simp[mR,f47]at ih⊢;simp[O,A1,U,mQ,A2];apply ih
  .simp[mR,f47];simp[O,U,D]
theorem OU(V:(aV x).length<100000000)(M:∀c∈aV x,SS c)
 (D:∀(n d:Int)(I J:AV),Q (k (.exit 6) ⟨136,aC,[(0,true,a),(1,true,.d (.int .i64 most)),(6,true,.d (.int .i64 n)),(7,true,.d (.int .i64 d)),(8,true,b),(9,true,.ptr 550 v 0),(15,true,I),(111,true,J)],[⟨550,v,bB x⟩]⟩)):∀(rest pre:List (List Sm))(n d:Int),aV x=pre++rest->
 Q (aK ctx 47 (.loop (mR [1,1,0,1,0,0,1,0,0,1,1,1,1,1,1,0,0])) ⟨136,aC,[(0,true,a),(1,true,.d (.int .i64 most)),(6,true,.d (.int .i64 n)),(7,true,.d (.int .i64 d)),(8,true,b),(9,true,.ptr 550 v 0),(15,true,.d (.int .i64 pre.length))],[⟨550,v,bB x⟩]⟩ k)
 |[],pre,n,d,E=>by
  have A0:pre.length=(aV x).length:=by rw[E];simp
  simp only[bB]at D;rw[A0,ag];simp[mR,f47,D]
 |c::rest,pre,n,d,E=>by
  have O:pre.length<(aV x).length:=by rw[E];simp
  have A1:(aV x)[pre.length]=c:=by simp[E]
  have ih:=λn d=>OU V M D rest (pre++[c]) n d (by simp[E]);obtain⟨m,AH,hm⟩:=M c (by rw[E];simp) (IntKind.i64.wrap (most-n));have A2:=bu ((pre.length:Int)+1);simp only[bB]at D;rw[ag];by_cases U:n<=most
  .simp[mR,f47]at ih⊢;simp[O,A1,U,dr,hm,A2];apply ih
  .simp[mR,f47];simp[O,U,D]
theorem ah9(H:Av x)(M:∀c∈aV x,SS c)(n d:Int)
 (D:∀(n d:Int)(I J:AV),Q (k .normal ⟨136,aC,[(0,true,a),(1,true,.d (.int .i64 most)),(6,true,.d (.int .i64 n)),(7,true,.d (.int .i64 d)),(8,true,b),(9,true,.ptr 550 v 0),(15,true,I),(111,true,J)],[⟨550,v,bB x⟩]⟩)):
 Q (aK ctx 47 (mR [1,1,0,1,0,0,1,0,0,1,1]) ⟨136,aC,[(0,true,a),(1,true,.d (.int .i64 most)),(6,true,.d (.int .i64 n)),(7,true,.d (.int .i64 d)),(8,true,b),(9,true,.ptr 550 v 0)],[⟨550,v,bB x⟩]⟩ k):=by
 obtain⟨AA,AB,⟨Z,AC⟩,⟨AD,AI⟩,AJ,AE⟩:=H;have AF:mR [1,1,0,1,0,0,1,0,0,1,1]=Code.seq (mR [1,1,0,1,0,0,1,0,0,1,1,0]) (mR [1,1,0,1,0,0,1,0,0,1,1,1]):=rfl;have AG:mR [1,1,0,1,0,0,1,0,0,1,1,1]=Code.seq (mR [1,1,0,1,0,0,1,0,0,1,1,1,0]) (mR [1,1,0,1,0,0,1,0,0,1,1,1,1]):=rfl;rw[AF,ir];apply ssA (W9 (l:=[dJ x,dq x]) (by simp) ⟨AA,AB,trivial⟩) (W9 Z AC);intro n d I J A6 A7;rw[kK,AG,ir];apply ssB;intro n;rw[kK];have A8:=λk Q D=>OT (a:=a) (b:=b) (v:=v) (most:=most) (k:=k) (Q:=Q) AD d D (dn x) [] n rfl;simp[mR,f47]at A8⊢;apply A8;intro n I J;have A9:=λk Q D=>OU (a:=a) (b:=b) (v:=v) (most:=most) (k:=k) (Q:=Q) AE M D (aV x) [] n d rfl;simp[mR,f47]at A9⊢;apply A9;intro n d I J;simp only[bB]at D;simp[D]
end
def RQ(l:List Sm)(A3:l.length<100000000)(A4:∀x∈l,Av x)(M:∀x∈l,∀c∈aV x,SS c)(most:Int)(k:Kt)(Q:bU->Prop)
 (N:∀(n d:Int)(b c:AV) v X,Q (k (.exit 0) ⟨136,aC,[(0,true,.d (.list (l.map bZ))),(1,true,.d (.int .i64 most)),(6,true,.d (.int .i64 n)),(7,true,.d (.int .i64 d)),(8,true,b),(26,true,c)],[⟨550,v,X⟩]⟩)):∀(rest pre:List Sm)(n d:Int)(v:Nat)(X:aE),l=pre++rest->
 Q (aK ctx 47 (.loop (mR [1,1,0,1,0,0])) ⟨136,aC,[(0,true,.d (.list (l.map bZ))),(1,true,.d (.int .i64 most)),(6,true,.d (.int .i64 n)),(7,true,.d (.int .i64 d)),(8,true,.d (.int .i64 pre.length))],[⟨550,v,X⟩]⟩ k)
 |[],pre,n,d,v,X,E=>by
  have A0:pre.length=l.length:=by rw[E];simp
  rw[A0,ag];simp[mR,f47,N]
 |x::rest,pre,n,d,v,X,E=>by
  have O:pre.length<l.length:=by rw[E];simp
  have A1:l[pre.length]=x:=by simp[E]
  have hm:x∈l:=by rw[E];simp
  have A':=λ(v:Nat) (a b:AV) (k:Kt) (Q:bU->Prop) (n d:Int)=>ah9 (v:=v) (a:=a) (b:=b) (most:=most) (k:=k) (Q:=Q) (A4 x hm) (M x hm) n d;have ih:=λn d v X=>RQ l A3 A4 M most k Q N rest (pre++[x]) n d v X (by simp[E]);have A2:=bu ((pre.length:Int)+1);rw[ag];by_cases U:n<=most
  .simp[mR,f47]at A' ih⊢;simp[O,A1,U,dk];apply A';intro n d I J;simp[A2,ih]
  .simp[mR,f47];simp[O,U,N]
def aia{l:List Sm}(A3:l.length<100000000)(A4:∀x∈l,Av x)(M:∀x∈l,∀c∈aV x,SS c):SS l:=by
 intro most;have h:=λk Q N v X=>RQ l A3 A4 M most k Q N l [] 0 0 v X rfl;rw[als (by simp)];simp[mR,f47]at h⊢;apply h _ (λA=>∃n d:Int,A=some (.ret (.bh [.d (.int .i64 n),.d (.int .i64 d)]),[]));intro n d b c v X;simp
mutual
def apt:∀x:Sm,xw x->Av x/\∀c∈aV x,SS c
 | .mk op name to val conds AK fields blocks line,h=>by
  have h:=(aa4 _).1 h;exact⟨h.1,aa7 blocks h.2⟩
def Mb:∀l:List Sm,mJ l->∀x∈l,Av x/\∀c∈aV x,SS c
 |[],_,x,H=>by simp at H
 |y::r,h,x,H=>by
  simp only[mJ]at h;have A5:=apt y h.1;have N:=Mb r h.2;rcases aam.1 H with e|H
  .rw[e];exact A5
  .exact N x H
def aa7:∀l:List (List Sm),mI l->∀c∈l,SS c
 |[],_,c,Z=>by simp at Z
 |b::r,h,c,Z=>by
  simp only[mI]at h;have A5:=Mb b h.1.2;have N:=aa7 r h.2;rcases aam.1 Z with e|Z
  .rw[e];exact aia h.1.1 (λx H=>(A5 x H).1) (λx H=>(A5 x H).2)
  .exact N c Z
end
def aib{l:List Sm}(A3:l.length<100000000)(h:mJ l):SS l:=
 aia A3 (λx H=>(Mb l h x H).1) (λx H=>(Mb l h x H).2)
def aic{p:Pg}(A':p.body.length<100000000)(V:mJ p.body)(most:Int):∃n d:Int,ak ctx 21 [.d (.agg [.str p.name,.list (p.vars.map bx),.list (p.body.map bZ)]),.d (.int .i64 most)] []=some (.ret (.bh [.d (.int .i64 n),.d (.int .i64 d)]),[]):=by
 obtain⟨n,d,h⟩:=aib A' V most;rw[alc (by simp)];simp[f21,h]
def ac3{p:Pg}(A':p.body.length<100000000)(V:mJ p.body):∃B:Bool,ak ctx 7 [.d (.agg [.str p.name,.list (p.vars.map bx),.list (p.body.map bZ)])] []=some (.ret (.d (.bool B)),[]):=by
 obtain⟨n,d,h⟩:=aic A' V 2000;rw[apc (by simp)];simp[f7,h]
@[simp] def aZ(x:ax):D:=.agg [.int .i64 x.op,.int .i64 x.a,.int .i64 x.b,.int .i64 x.n,.int .i64 x.m]
@[simp] def avH(ins:List ax)(vars cells:Int)(x y:AV):aE:=.box [.d (.list (ins.map aZ)),.d (.int .i64 vars),.d (.int .i64 cells),x,y]
@[simp] def bD(l:List Bool):List D:=l.map .bool
section
variable (ins:List ax) (vars cells:Int) (s1 E H s2 I J:Nat) (S T:List D)
end
def uF{P:Program}{n:Nat}{t:TypeId}{d:D}(h:typed P n t d):∃m,n=m+1:=by
 cases n with
 |zero=>exact h.elim
 |succ m=>exact⟨m,rfl⟩
def nz{P:Program}{n:Nat}{t:TypeId}{d:D}(J:P.underlying t=some (.int .i64))(h:typed P n t d):∃z,d=.int .i64 z/\JI z=true:=by
 obtain⟨m,rfl⟩:=uF h;obtain⟨z,rfl,hw⟩:=Wy J h;refine⟨z,rfl,?_⟩;have I:dE z:=by
  simp[Lit.wf]at hw;unfold dE;have AA:IntKind.i64.min= -9223372036854775808:=by decide
  have AB:IntKind.i64.max=9223372036854775807:=by decide
  simp only[AA,AB]at hw;omega
 unfold dE at I;unfold JI;simp only[aaw];exact I
def adu{P:Program}{n:Nat}{t:TypeId}{d:D}(J:P.underlying t=some .bool)(h:typed P n t d):∃b,d=.bool b:=by
 obtain⟨m,rfl⟩:=uF h;exact T9 J h
def qW{P:Program}{n:Nat}{t:TypeId}{d:D}(J:P.underlying t=some .string)(h:typed P n t d):∃s,d=.str s:=by
 obtain⟨m,rfl⟩:=uF h;obtain⟨s,rfl,_⟩:=Oc J h;exact⟨s,rfl⟩
def ng{P:Program}{n:Nat}{t e:TypeId}{d:D}(J:P.underlying t=some (.slice e))(h:typed P n t d):∃xs m,m<n/\d=.list xs/\∀x∈xs,typed P m e x:=by
 obtain⟨m,rfl⟩:=uF h;obtain⟨xs,rfl,_,E⟩:=QG J h;exact⟨xs,m,by omega,rfl,E⟩
def yJ{P:Program}{n:Nat}{t:TypeId}{d:D}{fs:Array Field}(J:P.underlying t=some (.struct fs))(h:typed P n t d):∃M m,m<n/\d=.agg M/\EF P m fs.toList M:=by
 obtain⟨m,rfl⟩:=uF h;obtain⟨M,rfl,AC⟩:=Od J h;exact⟨M,m,by omega,rfl,AC⟩
def jM{α:Type}{f:α->D}{Q:α->Prop}:∀{xs:List D},(∀x∈xs,∃r,x=f r/\Q r)->∃rs:List α,xs=rs.map f/\∀r∈rs,Q r
 |[],_=>⟨[],rfl,λr h=>by cases h⟩
 |x::xs,h=>by
  obtain⟨r,rfl,AD⟩:=h x (by simp);obtain⟨rs,rfl,AE⟩:=jM (xs:=xs) (λy H=>h y (by simp[H]));exact⟨r::rs,rfl,λy H=>by
   rcases aam.1 H with rfl|H
   .exact AD
   .exact AE y H⟩
def GQ:∀{l:List Ex},(∀x∈l,eU x=true)->eu l=true
 |[],_=>by simp[eu]
 |x::r,h=>by simp only[eu,Ds];exact⟨h x (by simp),GQ λy H=>h y (by simp[H])⟩
def GR:∀{l:List Sm},(∀x∈l,oG x=true)->jD l=true
 |[],_=>by simp[jD]
 |x::r,h=>by simp only[jD,Ds];exact⟨h x (by simp),GR λy H=>h y (by simp[H])⟩
def PF:∀{l:List (List Sm)},(∀x∈l,jD x=true)->gU l=true
 |[],_=>by simp[gU]
 |x::r,h=>by simp only[gU,Ds];exact⟨h x (by simp),PF λy H=>h y (by simp[H])⟩
def GS:∀(n:Nat)(x:D),typed Tryz.prog n 114 x->∃e:Ex,x=bJ e/\eU e=true:=by
 intro n;induction n using Nat.strongRecOn with
 |ind n ih=>
 intro x h;obtain⟨M,m,hm,rfl,A1,d0,N,⟨A2,d1,O,⟨A3,d2,I,⟨A6,d3,U,⟨A7,d4,V,⟨A8,d5,Z,rfl,rfl⟩,rfl⟩,rfl⟩,rfl⟩,rfl⟩,rfl⟩:=yJ Tryz.underlying114 h;obtain⟨op,rfl,_⟩:=nz Tryz.underlying3 N;obtain⟨k,rfl,AF⟩:=nz Tryz.underlying2 O;obtain⟨name,rfl⟩:=qW Tryz.underlying9 I;obtain⟨field,rfl⟩:=qW Tryz.underlying9 U;obtain⟨xs,q,A9,rfl,A'⟩:=ng Tryz.underlying112 V;obtain⟨line,rfl,_⟩:=nz Tryz.underlying3 Z;obtain⟨l,rfl,A0⟩:=jM (f:=bJ) (Q:=λe=>eU e=true) (λx E=>ih q (by omega) x (A' x E));exact⟨.mk op k name field l line,by rw[L5];simp[z8,vU,D.cells],by
  simp only[eU,Ds];exact⟨AF,GQ A0⟩⟩
def UD{n:Nat}{x:D}(h:typed Tryz.prog n 26 x):∃l:List Int,x=mQ l/\l.all JI=true:=by
 obtain⟨xs,q,A9,rfl,A'⟩:=ng Tryz.underlying26 h;obtain⟨l,rfl,A0⟩:=jM (f:=λn=>D.int .i64 n) (Q:=λe=>JI e=true) (λx E=>nz Tryz.underlying2 (A' x E));exact⟨l,rfl,aaR.2 A0⟩
def ZT:∀(n:Nat)(x:D),typed Tryz.prog n 118 x->∃e:Sm,x=bZ e/\oG e=true:=by
 intro n;induction n using Nat.strongRecOn with
 |ind n ih=>
 intro x h;obtain⟨M,m,hm,rfl,A1,d0,N,⟨A2,d1,O,⟨A3,d2,I,⟨A6,d3,U,⟨A7,d4,V,⟨A8,d5,Z,⟨AG,d6,A4,⟨AH,d7,A5,⟨AW,d8,AI,rfl,rfl⟩,rfl⟩,rfl⟩,rfl⟩,rfl⟩,rfl⟩,rfl⟩,rfl⟩,rfl⟩:=yJ Tryz.underlying118 h;obtain⟨op,rfl,_⟩:=nz Tryz.underlying3 N;obtain⟨name,rfl⟩:=qW Tryz.underlying9 O;obtain⟨to,rfl,AJ⟩:=GS _ _ I;obtain⟨val,rfl,AK⟩:=GS _ _ U;obtain⟨AX,AY,AZ,rfl,AL⟩:=ng Tryz.underlying112 V;obtain⟨A_,Aa,Ab,rfl,AM⟩:=ng Tryz.underlying115 Z;obtain⟨Ac,Ad,Ae,rfl,AN⟩:=ng Tryz.underlying109 A4;obtain⟨Af,Ag,Ah,rfl,AO⟩:=ng Tryz.underlying116 A5;obtain⟨line,rfl,_⟩:=nz Tryz.underlying3 AI;obtain⟨conds,rfl,AP⟩:=jM (f:=bJ) (Q:=λe=>eU e=true) (λx E=>GS _ _ (AL x E));obtain⟨AQ,rfl,AR⟩:=jM (f:=mQ) (Q:=λl=>l.all JI=true) (λx E=>UD (AM x E));obtain⟨fields,rfl⟩:=zw (f:=D.str) (λx E=>qW Tryz.underlying9 (AN x E));obtain⟨blocks,rfl,AS⟩:=jM (f:=λb:List Sm=>D.list (b.map bZ)) (Q:=λb=>jD b=true) (λx E=>by
  obtain⟨xs,q,A9,rfl,A'⟩:=ng Tryz.underlying23 (AO x E);obtain⟨l,rfl,A0⟩:=jM (f:=bZ) (Q:=λe=>oG e=true) (λx E=>ih q (by omega) x (A' x E));exact⟨l,rfl,GR A0⟩)
 refine⟨.mk op name to val conds AQ fields blocks line,?_,?_⟩
 .simp[bZ,vU,EA,D.cells,L5]
 .simp only[oG,Ds];exact⟨AJ,AK,GQ AP,aaR.2 AR,PF AS⟩
def ZU{n:Nat}{x:D}(h:typed Tryz.prog n 59 x):∃v:Vr,x=bx v:=by
 obtain⟨M,m,hm,rfl,A1,d0,N,⟨A2,d1,O,⟨A3,d2,I,⟨A6,d3,U,⟨A7,d4,V,⟨A8,d5,Z,⟨AG,d6,A4,⟨AH,d7,A5,rfl,rfl⟩,rfl⟩,rfl⟩,rfl⟩,rfl⟩,rfl⟩,rfl⟩,rfl⟩:=yJ Tryz.underlying59 h;obtain⟨name,rfl⟩:=qW Tryz.underlying9 N;obtain⟨ty,rfl,_⟩:=nz Tryz.underlying3 O;obtain⟨sec,rfl,_⟩:=nz Tryz.underlying3 I;obtain⟨arr,rfl⟩:=adu Tryz.underlying4 U;obtain⟨lo,rfl,_⟩:=nz Tryz.underlying2 V;obtain⟨hi,rfl,_⟩:=nz Tryz.underlying2 Z;obtain⟨init,rfl,_⟩:=nz Tryz.underlying2 A4;obtain⟨line,rfl,_⟩:=nz Tryz.underlying3 A5;exact⟨⟨name,ty,sec,arr,lo,hi,init,line⟩,rfl⟩
def ZV{n:Nat}{x:D}(h:typed Tryz.prog n 25 x):∃p:Pg,x=.agg [.str p.name,.list (p.vars.map bx),.list (p.body.map bZ)]/\jD p.body=true:=by
 obtain⟨M,m,hm,rfl,A1,d0,N,⟨A2,d1,O,⟨A3,d2,I,rfl,rfl⟩,rfl⟩,rfl⟩:=yJ Tryz.underlying25 h;obtain⟨name,rfl⟩:=qW Tryz.underlying9 N;obtain⟨Ai,q1,Aj,rfl,AT⟩:=ng Tryz.underlying22 O;obtain⟨Ak,q2,Al,rfl,AU⟩:=ng Tryz.underlying23 I;obtain⟨vars,rfl⟩:=zw (f:=bx) (λx E=>ZU (AT x E));obtain⟨body,rfl,AV⟩:=jM (f:=bZ) (Q:=λe=>oG e=true) (λx E=>ZT _ _ (AU x E));exact⟨⟨name,vars,body⟩,rfl,GR AV⟩
@[simp] def iD(l:List Nat):List D:=l.map λ(n:Nat)=>D.int .i64 (n:Int)
section
variable (ins:List ax) (vars cells:Int) (E H:Nat) (S T:List D)
end
@[simp] def Mf(ins:List ax)(vars cells:Int):D:=.agg [.list (ins.map aZ),.int .i64 vars,.int .i64 cells]
end Go.Am
end
