/-
  Texts of one proof, one behind the other.
-/
import Derived.Test.YtjhbmdndjhgjlaaDoorB1
import Derived.Test.YtjhbmdndjhgjlaaDoorB2
import Derived.Test.YtjhbmdndjhgjlaaDoorB3
import Derived.Test.YtjhbmdndjhgjlaaDoorB4
import Derived.Test.YtjhbmdndjhgjlaaDoorB5
import Derived.Test.YtjhbmdndjhgjlaaDoorProg
import Derived.Shelf.LaysC
import Derived.KernelRfl
import Derived.Shelf.Strings.Split
import Derived.Shelf.Strings.FieldsFuncAny
import Derived.Shelf.Strconv.ParseIntPublic10
import Derived.Shelf.Strconv.Itoa4
import Derived.Shelf.Strconv.Itoa3
import Derived.ProofKit
set_option linter.all false
section
namespace Go.Am
open Go Go.Proofs Go.Proofs.Tryd
variable [Inhabited dI]
set_option maxRecDepth 20000
set_option maxHeartbeats 4000000
@[simp] def RP(a b:Tx):(a == b)=decide (a=b):=by by_cases h:a=b<;>simp[h]
def kC:D->Option Int
 | .agg [.int .i64 k,.str _,.str _,.str _,.int .i64 _]=>some k
 |_=>none
def uI{d:D}{k:Int}(h:kC d=some k):∃a b c n,d=.agg [.int .i64 k,.str a,.str b,.str c,.int .i64 n]:=by
 unfold kC at h;split at h
 .rename_i y a b c n;cases h;exact⟨a,b,c,n,rfl⟩
 .cases h
def CL:Option (Out×List (Nat×ay))->Option (List (Option Int))
 |some (.ret (.d (.list l)),[])=>some (l.map kC)
 |_=>none
def Ng:CL (aD ctx 120 55 [] [])=some (dS.map some):=by kernel_rfl
def Ig:∃l:List D,ar ctx 55 [] []=some (.ret (.d (.list l)),[])/\l.map kC=dS.map some:=by
 have h:=Ng;generalize T:aD ctx 120 55 [] []=r at h;unfold CL at h;split at h
 .rename_i l;exact⟨l,gC 120 T,by simpa using h⟩
 .cases h
def Ih(d:D)(k b:Int)(E:kC d=some k):ar ctx 57 [.d d,.ptr 0 0 0] [.box [.d (.int .i64 b)]]=some (.ret (.d (.bool (decide (k=b)))),[(0,.box [.d (.int .i64 b)])]):=by
 obtain⟨a,e,c,n,rfl⟩:=uI E;rw[OW (by simp)];simp[f57]
def uJ(b:Int):∀(rest pre:List D),(∀d∈rest,∃k,kC d=some k/\k≠b)->(pre++rest).length<1000->∀k:Kt,
 bn ctx 56 (.loop (Code.at (codeOf f56) [1,0,1,0,0])) ⟨19,cB,[(0,true,.d (.list (pre++rest))),(1,true,.fn 57 [.ptr 0 0 0]),(7,true,.d (.int .i64 (pre++rest).length)),(8,true,.d (.int .i64 pre.length))],[⟨0,0,.box [.d (.int .i64 b)]⟩]⟩ k=
  k (.exit 0) ⟨19,cB,[(0,true,.d (.list (pre++rest))),(1,true,.fn 57 [.ptr 0 0 0]),(7,true,.d (.int .i64 (pre++rest).length)),(8,true,.d (.int .i64 (pre++rest).length)),(9,true,.d (.bool false))],[⟨0,0,.box [.d (.int .i64 b)]⟩]⟩
 |[],pre,h,H,k=>by
  rw[aN];simp[f56]
 |d::rest,pre,h,H,k=>by
  obtain⟨M,I,U⟩:=h d (by simp);have N:=Ih d M b I;obtain⟨V,a2,a3,a4,rfl⟩:=uI I;have ih:=uJ b rest (pre++[.agg [.int .i64 M,.str V,.str a2,.str a3,.int .i64 a4]]) (λd E=>h d (by simp[E])) (by simpa using H) k;have J:(pre.length:Int)<pre.length+(rest.length+1):=by omega
  have W:IntKind.i64.wrap ((pre.length:Int)+1)=pre.length+1:=jW (by unfold bQ;simp at H;omega);simp[U]at N;rw[aN];simp[f56]at ih⊢;simp[J,W,N,ih]
def Et(b:Int)(A:b∉dS):ar ctx 46 [.d (.int .i64 b)] []=some (.ret (.d (.list [])),[]):=by
 obtain⟨l,H,hm⟩:=Ig;have A':l.length=21:=by have:=XR List.length hm;simpa [dS]using this
 have Y:∀d∈l,∃k,kC d=some k/\k≠b:=by
  intro d E;have J:kC d∈l.map kC:=Xw E;rw[hm]at J;obtain⟨k,I,he⟩:=Xt.1 J;exact⟨k,he.symm,λh=>A (h▸I)⟩
 have O:=uJ b l [] Y (by simp;omega);have Z:ar ctx 56 [.d (.list l),.fn 57 [.ptr 0 0 0]] [.box [.d (.int .i64 b)]]=some (.ret (.d (.int .i64 (-1))),[(0,.box [.d (.int .i64 b)])]):=by
  rw[Jv (by simp)];simp[f56]at O⊢;simp[O]
 have q:ar ctx 36 [.d (.int .i64 b)] []=some (.ret (.bc [.d (.agg [.int .i64 0,.str [],.str [],.str [],.int .i64 0]),.d (.bool false)]),[]):=by
  rw[OL (by simp)];simp[f36,H,Z]
 rw[OS (by simp)];simp[f46,q]
def Ke{b:Int}(A:b∈dS):ar ctx 46 [.d (.int .i64 b)] []=some (.ret (.d (.list ((tU b).map PQ))),[]):=by
 simp only[dS,Xm,Yg]at A;repeat' (obtain rfl|A:=A)
 all_goals exact gC 120 (by as_aux_lemma=>kernel_rfl)
def Kf(b:Int):ar ctx 46 [.d (.int .i64 b)] []=some (.ret (.d (.list ((tU b).map PQ))),[]):=by
 by_cases A:b∈dS
 .exact Ke A
 .rw[qR A];exact Et b A
section
variable {L:List Bl} {s:PS}
@[simp] theorem U8(a b:Tx):(a == b)=decide (a=b):=by by_cases h:a=b<;>simp[h]
@[simp] theorem Wq{β:Type}{b:Bool}{x y:β}:(if b=false then x else y)=if b=true then y else x:=by cases b<;>rfl
end
section
variable {L:List Bl} {s:PS} (A:L.length<1000000)
include A
end
structure Sh where
 k:Int
 name:Tx
 ins:Tx
 outs:Tx
 n:Int
def kO:List Sh:=[
 ⟨10,[84,79,78],[73,78,32,80,84,35],[81,32,69,84,35],0⟩,
 ⟨11,[84,79,70],[73,78,32,80,84,35],[81,32,69,84,35],0⟩,
 ⟨12,[84,80],[73,78,32,80,84,35],[81,32,69,84,35],2⟩,
 ⟨13,[67,84,85],[67,85,32,82,32,80,86,35],[81,32,67,86,35],1⟩,
 ⟨14,[67,84,68],[67,68,32,76,68,32,80,86,35],[81,32,67,86,35],1⟩,
 ⟨15,[82,95,84,82,73,71],[67,76,75],[81],1⟩,
 ⟨16,[70,95,84,82,73,71],[67,76,75],[81],1⟩,
 ⟨17,[83,82],[83,49,32,82],[81,49],0⟩,
 ⟨18,[82,83],[83,32,82,49],[81,49],0⟩,
 ⟨20,[77,67,95,80,111,119,101,114],[65,120,105,115,35,32,69,110,97,98,108,101],[83,116,97,116,117,115,32,69,114,114,111,114],0⟩,
 ⟨21,[77,67,95,72,111,109,101],[65,120,105,115,35,32,69,120,101,99,117,116,101],[68,111,110,101,32,66,117,115,121,32,65,99,116,105,118,101,32,67,111,109,109,97,110,100,65,98,111,114,116,101,100,32,69,114,114,111,114],2⟩,
 ⟨22,[77,67,95,83,116,111,112],[65,120,105,115,35,32,69,120,101,99,117,116,101],[68,111,110,101,32,66,117,115,121,32,65,99,116,105,118,101,32,67,111,109,109,97,110,100,65,98,111,114,116,101,100,32,69,114,114,111,114],2⟩,
 ⟨23,[77,67,95,72,97,108,116],[65,120,105,115,35,32,69,120,101,99,117,116,101],[68,111,110,101,32,66,117,115,121,32,65,99,116,105,118,101,32,67,111,109,109,97,110,100,65,98,111,114,116,101,100,32,69,114,114,111,114],2⟩,
 ⟨24,[77,67,95,77,111,118,101,65,98,115,111,108,117,116,101],[65,120,105,115,35,32,69,120,101,99,117,116,101,32,80,111,115,105,116,105,111,110,35,32,86,101,108,111,99,105,116,121,35,32,66,117,102,102,101,114,77,111,100,101,35],[68,111,110,101,32,66,117,115,121,32,65,99,116,105,118,101,32,67,111,109,109,97,110,100,65,98,111,114,116,101,100,32,69,114,114,111,114],2⟩,
 ⟨25,[77,67,95,77,111,118,101,82,101,108,97,116,105,118,101],[65,120,105,115,35,32,69,120,101,99,117,116,101,32,68,105,115,116,97,110,99,101,35,32,86,101,108,111,99,105,116,121,35,32,66,117,102,102,101,114,77,111,100,101,35],[68,111,110,101,32,66,117,115,121,32,65,99,116,105,118,101,32,67,111,109,109,97,110,100,65,98,111,114,116,101,100,32,69,114,114,111,114],2⟩,
 ⟨26,[77,67,95,77,111,118,101,65,100,100,105,116,105,118,101],[65,120,105,115,35,32,69,120,101,99,117,116,101,32,68,105,115,116,97,110,99,101,35,32,86,101,108,111,99,105,116,121,35,32,66,117,102,102,101,114,77,111,100,101,35],[68,111,110,101,32,66,117,115,121,32,65,99,116,105,118,101,32,67,111,109,109,97,110,100,65,98,111,114,116,101,100,32,69,114,114,111,114],2⟩,
 ⟨27,[77,67,95,77,111,118,101,86,101,108,111,99,105,116,121],[65,120,105,115,35,32,69,120,101,99,117,116,101,32,86,101,108,111,99,105,116,121,35],[73,110,86,101,108,111,99,105,116,121,32,66,117,115,121,32,65,99,116,105,118,101,32,67,111,109,109,97,110,100,65,98,111,114,116,101,100,32,69,114,114,111,114],2⟩,
 ⟨28,[77,67,95,71,101,97,114,73,110],[65,120,105,115,35,32,69,120,101,99,117,116,101,32,77,97,115,116,101,114,35,32,78,117,109,101,114,97,116,111,114,35,32,68,101,110,111,109,105,110,97,116,111,114,35],[73,110,71,101,97,114,32,66,117,115,121,32,65,99,116,105,118,101,32,67,111,109,109,97,110,100,65,98,111,114,116,101,100,32,69,114,114,111,114],2⟩,
 ⟨29,[77,67,95,82,101,115,101,116],[65,120,105,115,35,32,69,120,101,99,117,116,101],[68,111,110,101,32,69,114,114,111,114],1⟩,
 ⟨30,[77,67,95,83,101,116,80,111,115,105,116,105,111,110],[65,120,105,115,35,32,69,120,101,99,117,116,101,32,80,111,115,105,116,105,111,110,35],[68,111,110,101,32,69,114,114,111,114],1⟩,
 ⟨31,[77,67,95,83,101,116,79,118,101,114,114,105,100,101],[65,120,105,115,35,32,69,110,97,98,108,101,32,80,101,114,99,101,110,116,35],[69,110,97,98,108,101,100],0⟩]
@[simp] def GM(x:Sh):D:=.agg [.int .i64 x.k,.str x.name,.str x.ins,.str x.outs,.int .i64 x.n]
def kG(w:Tx):List Sh->Nat->Int
 |[],_=> -1
 |x::r,i=>if x.name=w then i else kG w r (i+1)
def qZ(w:Tx):∀(l:List Sh)(i:Nat),kG w l i= -1\/(i<=kG w l i/\kG w l i<i+l.length)
 |[],i=>.inl rfl
 |x::r,i=>by
  unfold kG;split
  .right;simp;omega
  .rcases qZ w r (i+1)with h|h
   .exact .inl h
   .right;simp only[Yk];omega
def mS(w:Tx):Int:=if kG w kO 0<0 then 0 else (kO.getD (kG w kO 0).toNat ⟨0,[],[],[],0⟩).k
def Ip:ar ctx 55 [] []=some (.ret (.d (.list (kO.map GM))),[]):=gC 120 (by kernel_rfl)
def Kk(x:Sh)(w:Tx):ar ctx 63 [.d (GM x),.ptr 0 0 0] [.box [.d (.str w)]]=some (.ret (.d (.bool (decide (x.name=w)))),[(0,.box [.d (.str w)])]):=by
 rw[OX (by simp)];simp[f63]
def tm(w:Tx):∀(rest pre:List Sh),(pre++rest).length<1000->∀k:Kt,
 bn ctx 56 (.loop (Code.at (codeOf f56) [1,0,1,0,0])) ⟨19,cB,[(0,true,.d (.list ((pre++rest).map GM))),(1,true,.fn 63 [.ptr 0 0 0]),(7,true,.d (.int .i64 (pre++rest).length)),(8,true,.d (.int .i64 pre.length))],[⟨0,0,.box [.d (.str w)]⟩]⟩ k=
  if kG w rest pre.length<0 then k (.exit 0) ⟨19,cB,[(0,true,.d (.list ((pre++rest).map GM))),(1,true,.fn 63 [.ptr 0 0 0]),(7,true,.d (.int .i64 (pre++rest).length)),(8,true,.d (.int .i64 (pre++rest).length)),(9,true,.d (.bool false))],[⟨0,0,.box [.d (.str w)]⟩]⟩
  else k .ret ⟨19,cB,[(4,true,.d (.int .i64 (kG w rest pre.length)))],[⟨0,0,.box [.d (.str w)]⟩]⟩
 |[],pre,E,k=>by
  rw[aN];simp[f56,kG]
 |x::rest,pre,E,k=>by
  have H:=Kk x w;have ih:=tm w rest (pre++[x]) (by simpa using E) k;have A:(pre.length:Int)<pre.length+(rest.length+1):=by omega
  have I:IntKind.i64.wrap ((pre.length:Int)+1)=pre.length+1:=jW (by unfold bQ;simp at E;omega);have M:¬((pre.length:Int)<0):=by omega
  simp at H;rw[aN];unfold kG;by_cases he:x.name=w
  .simp[he]at H;simp[f56,A,I,M,H,he]
  .simp[he]at H;simp[f56]at ih⊢;simp[A,I,H,he,ih]
def Ey(w:Tx):ar ctx 42 [.d (.str w)] []=some (.ret (.d (.int .i64 (mS w))),[]):=by
 have E:=tm w kO [] (by decide);have hi:ar ctx 56 [.d (.list (kO.map GM)),.fn 63 [.ptr 0 0 0]] [.box [.d (.str w)]]=some (.ret (.d (.int .i64 (kG w kO 0))),[(0,.box [.d (.str w)])]):=by
  rw[Jv (by simp)];simp[f56]at E⊢;simp[E];intro h;rcases qZ w kO 0 with A|A
  .exact A.symm
  .omega
 have U:=qZ w kO 0;have V:kO.length=21:=rfl;have J:=Ip;unfold mS;generalize kG w kO 0=j at*;have N:∀(h:j.toNat<kO.length),kO.getD j.toNat ⟨0,[],[],[],0⟩=kO[j.toNat]:=λh=>by simp[h]
 generalize kO=T at*;rw[OO (by simp)];by_cases h:j<0
 .simp[f42,J,hi,h]
 .have O:0<=j:=by omega
  have A:j.toNat<T.length:=by omega
  simp[N A];simp[f42,J,hi,h,O,A]
end Go.Am
end
section
namespace Go.Am
open Go
set_option maxRecDepth 20000
set_option maxHeartbeats 4000000
def Rj:Nat->Nat
 |129=>66
 |138=>38
 |143=>39
 |146=>13
 |171=>95
 |173=>22
 |174=>62
 |195=>58
 |197=>59
 |205=>94
 |217=>72
 |218=>60
 |219=>61
 |221=>26
 |224=>74
 |225=>73
 |229=>14
 |243=>97
 |245=>77
 |246=>34
 |247=>76
 |260=>71
 |266=>83
 |267=>75
 |268=>37
 |279=>86
 |280=>87
 |281=>88
 |282=>89
 |283=>50
 |284=>51
 |285=>52
 |286=>53
 |287=>85
 |314=>84
 |316=>93
 |317=>65
 |318=>67
 |319=>68
 |320=>69
 |321=>91
 |322=>92
 |337=>79
 |338=>80
 |_=>0
def Rk:Nat->Nat
 |0=>0
 |2=>2
 |3=>3
 |4=>4
 |5=>5
 |9=>9
 |20=>20
 |21=>21
 |31=>48
 |37=>37
 |40=>51
 |46=>123
 |51=>120
 |53=>99
 |75=>41
 |80=>47
 |85=>112
 |105=>109
 |119=>104
 |127=>66
 |138=>143
 |139=>144
 |143=>164
 |145=>166
 |146=>145
 |152=>68
 |154=>70
 |167=>147
 |168=>150
 |171=>98
 |173=>102
 |175=>148
 |210=>161
 |212=>119
 |213=>121
 |232=>153
 |233=>154
 |_=>0
def Rl:Nat->Nat
 |1=>3
 |3=>4
 |4=>5
 |15=>8
 |16=>9
 |17=>1
 |18=>6
 |19=>7
 |_=>0
def G3:Go.Shelf.Ren:=⟨Rj,Rk,Rl⟩
def Kq:Go.Proofs.Lays.n146 Go.Proofs.Tryd.prog G3 where
 mixed:=by kernel_rfl
 f138:=by kernel_rfl
 f143:=by kernel_rfl
 f146:=by kernel_rfl
 f195:=by kernel_rfl
 f197:=by kernel_rfl
 f217:=by kernel_rfl
 f218:=by kernel_rfl
 f219:=by kernel_rfl
 f221:=by kernel_rfl
 f224:=by kernel_rfl
 f225:=by kernel_rfl
 f260:=by kernel_rfl
 f266:=by kernel_rfl
 f267:=by kernel_rfl
 f268:=by kernel_rfl
 f314:=by kernel_rfl
 t0:=by kernel_rfl
 a0:=by intro w;kernel_rfl
 z0:=by intro w;kernel_rfl
 v0:=by intro w;kernel_rfl
 t3:=by kernel_rfl
 a3:=by intro w;kernel_rfl
 z3:=by intro w;kernel_rfl
 v3:=by intro w;kernel_rfl
 t4:=by kernel_rfl
 a4:=by intro w;kernel_rfl
 z4:=by intro w;kernel_rfl
 v4:=by intro w;kernel_rfl
 t5:=by kernel_rfl
 a5:=by intro w;kernel_rfl
 z5:=by intro w;kernel_rfl
 v5:=by intro w;kernel_rfl
 t9:=by kernel_rfl
 a9:=by intro w;kernel_rfl
 z9:=by intro w;kernel_rfl
 v9:=by intro w;kernel_rfl
 t21:=by kernel_rfl
 a21:=by intro w;kernel_rfl
 z21:=by intro w;kernel_rfl
 v21:=by intro w;kernel_rfl
 t31:=by kernel_rfl
 a31:=by intro w;kernel_rfl
 z31:=by intro w;kernel_rfl
 v31:=by intro w;kernel_rfl
 t46:=by kernel_rfl
 a46:=by intro w;kernel_rfl
 z46:=by intro w;kernel_rfl
 v46:=by intro w;kernel_rfl
 t51:=by kernel_rfl
 a51:=by intro w;kernel_rfl
 z51:=by intro w;kernel_rfl
 v51:=by intro w;kernel_rfl
 t105:=by kernel_rfl
 a105:=by intro w;kernel_rfl
 z105:=by intro w;kernel_rfl
 v105:=by intro w;kernel_rfl
 t119:=by kernel_rfl
 a119:=by intro w;kernel_rfl
 z119:=by intro w;kernel_rfl
 t138:=by kernel_rfl
 a138:=by intro w;kernel_rfl
 z138:=by intro w;kernel_rfl
 v138:=by intro w;kernel_rfl
 t139:=by kernel_rfl
 a139:=by intro w;kernel_rfl
 z139:=by intro w;kernel_rfl
 v139:=by intro w;kernel_rfl
 t146:=by kernel_rfl
 a146:=by intro w;kernel_rfl
 z146:=by intro w;kernel_rfl
 v146:=by intro w;kernel_rfl
 g1:=by kernel_rfl
 g3:=by kernel_rfl
 g4:=by kernel_rfl
def Kr:Go.Proofs.Lays.n229 Go.Proofs.Tryd.prog G3 where
 mixed:=by kernel_rfl
 f229:=by kernel_rfl
 t0:=by kernel_rfl
 a0:=by intro w;kernel_rfl
 z0:=by intro w;kernel_rfl
 v0:=by intro w;kernel_rfl
 t3:=by kernel_rfl
 a3:=by intro w;kernel_rfl
 z3:=by intro w;kernel_rfl
 v3:=by intro w;kernel_rfl
 t4:=by kernel_rfl
 a4:=by intro w;kernel_rfl
 z4:=by intro w;kernel_rfl
 v4:=by intro w;kernel_rfl
 t9:=by kernel_rfl
 a9:=by intro w;kernel_rfl
 z9:=by intro w;kernel_rfl
 v9:=by intro w;kernel_rfl
 t21:=by kernel_rfl
 a21:=by intro w;kernel_rfl
 z21:=by intro w;kernel_rfl
 v21:=by intro w;kernel_rfl
 t31:=by kernel_rfl
 a31:=by intro w;kernel_rfl
 z31:=by intro w;kernel_rfl
 v31:=by intro w;kernel_rfl
 t40:=by kernel_rfl
 a40:=by intro w;kernel_rfl
 z40:=by intro w;kernel_rfl
 v40:=by intro w;kernel_rfl
 t152:=by kernel_rfl
 a152:=by intro w;kernel_rfl
 z152:=by intro w;kernel_rfl
 v152:=by intro w;kernel_rfl
 t154:=by kernel_rfl
 a154:=by intro w;kernel_rfl
 z154:=by intro w;kernel_rfl
 v154:=by intro w;kernel_rfl
def Iv:Go.Proofs.LaysM.n173 Go.Proofs.Tryd.prog G3 where
 mixed:=by kernel_rfl
 f129:=by kernel_rfl
 f173:=by kernel_rfl
 f246:=by kernel_rfl
 f283:=by kernel_rfl
 f284:=by kernel_rfl
 f285:=by kernel_rfl
 f286:=by kernel_rfl
 f317:=by kernel_rfl
 f318:=by kernel_rfl
 f319:=by kernel_rfl
 f320:=by kernel_rfl
 f337:=by kernel_rfl
 f338:=by kernel_rfl
 t0:=by kernel_rfl
 a0:=by intro w;kernel_rfl
 z0:=by intro w;kernel_rfl
 v0:=by intro w;kernel_rfl
 t2:=by kernel_rfl
 a2:=by intro w;kernel_rfl
 z2:=by intro w;kernel_rfl
 v2:=by intro w;kernel_rfl
 t3:=by kernel_rfl
 a3:=by intro w;kernel_rfl
 z3:=by intro w;kernel_rfl
 v3:=by intro w;kernel_rfl
 t4:=by kernel_rfl
 a4:=by intro w;kernel_rfl
 z4:=by intro w;kernel_rfl
 v4:=by intro w;kernel_rfl
 t5:=by kernel_rfl
 a5:=by intro w;kernel_rfl
 z5:=by intro w;kernel_rfl
 v5:=by intro w;kernel_rfl
 t9:=by kernel_rfl
 a9:=by intro w;kernel_rfl
 z9:=by intro w;kernel_rfl
 v9:=by intro w;kernel_rfl
 t20:=by kernel_rfl
 a20:=by intro w;kernel_rfl
 z20:=by intro w;kernel_rfl
 v20:=by intro w;kernel_rfl
 t37:=by kernel_rfl
 a37:=by intro w;kernel_rfl
 z37:=by intro w;kernel_rfl
 v37:=by intro w;kernel_rfl
 t46:=by kernel_rfl
 a46:=by intro w;kernel_rfl
 z46:=by intro w;kernel_rfl
 v46:=by intro w;kernel_rfl
 t51:=by kernel_rfl
 a51:=by intro w;kernel_rfl
 z51:=by intro w;kernel_rfl
 v51:=by intro w;kernel_rfl
 t53:=by kernel_rfl
 a53:=by intro w;kernel_rfl
 z53:=by intro w;kernel_rfl
 v53:=by intro w;kernel_rfl
 t171:=by kernel_rfl
 a171:=by intro w;kernel_rfl
 z171:=by intro w;kernel_rfl
 v171:=by intro w;kernel_rfl
 t173:=by kernel_rfl
 a173:=by intro w;kernel_rfl
 z173:=by intro w;kernel_rfl
 v173:=by intro w;kernel_rfl
 t212:=by kernel_rfl
 a212:=by intro w;kernel_rfl
 z212:=by intro w;kernel_rfl
 v212:=by intro w;kernel_rfl
 t213:=by kernel_rfl
 a213:=by intro w;kernel_rfl
 z213:=by intro w;kernel_rfl
 t232:=by kernel_rfl
 a232:=by intro w;kernel_rfl
 z232:=by intro w;kernel_rfl
 v232:=by intro w;kernel_rfl
 t233:=by kernel_rfl
 a233:=by intro w;kernel_rfl
 z233:=by intro w;kernel_rfl
 v233:=by intro w;kernel_rfl
 g17:=by kernel_rfl
 g18:=by kernel_rfl
 g19:=by kernel_rfl
 i0:=by kernel_rfl
 i2:=by kernel_rfl
 i3:=by kernel_rfl
 i4:=by kernel_rfl
 i5:=by kernel_rfl
 i9:=by kernel_rfl
 i20:=by kernel_rfl
 i37:=by kernel_rfl
 i46:=by kernel_rfl
 i51:=by kernel_rfl
 i53:=by kernel_rfl
 i171:=by kernel_rfl
 i173:=by kernel_rfl
 i212:=by kernel_rfl
 i232:=by kernel_rfl
 i233:=by kernel_rfl
 m17:=by kernel_rfl
 m18:=by kernel_rfl
 m19:=by kernel_rfl
def vr:Go.Proofs.LaysC.n174 Go.Proofs.Tryd.prog G3 where
 mixed:=by kernel_rfl
 f129:=by kernel_rfl
 f171:=by kernel_rfl
 f174:=by kernel_rfl
 f205:=by kernel_rfl
 f243:=by kernel_rfl
 f245:=by kernel_rfl
 f246:=by kernel_rfl
 f247:=by kernel_rfl
 f279:=by kernel_rfl
 f280:=by kernel_rfl
 f281:=by kernel_rfl
 f282:=by kernel_rfl
 f283:=by kernel_rfl
 f284:=by kernel_rfl
 f285:=by kernel_rfl
 f286:=by kernel_rfl
 f287:=by kernel_rfl
 f316:=by kernel_rfl
 f317:=by kernel_rfl
 f318:=by kernel_rfl
 f319:=by kernel_rfl
 f320:=by kernel_rfl
 f321:=by kernel_rfl
 f322:=by kernel_rfl
 f337:=by kernel_rfl
 f338:=by kernel_rfl
 t0:=by kernel_rfl
 a0:=by intro w;kernel_rfl
 z0:=by intro w;kernel_rfl
 v0:=by intro w;kernel_rfl
 t2:=by kernel_rfl
 a2:=by intro w;kernel_rfl
 z2:=by intro w;kernel_rfl
 v2:=by intro w;kernel_rfl
 t3:=by kernel_rfl
 a3:=by intro w;kernel_rfl
 z3:=by intro w;kernel_rfl
 v3:=by intro w;kernel_rfl
 t4:=by kernel_rfl
 a4:=by intro w;kernel_rfl
 z4:=by intro w;kernel_rfl
 v4:=by intro w;kernel_rfl
 t5:=by kernel_rfl
 a5:=by intro w;kernel_rfl
 z5:=by intro w;kernel_rfl
 v5:=by intro w;kernel_rfl
 t9:=by kernel_rfl
 a9:=by intro w;kernel_rfl
 z9:=by intro w;kernel_rfl
 v9:=by intro w;kernel_rfl
 t20:=by kernel_rfl
 a20:=by intro w;kernel_rfl
 z20:=by intro w;kernel_rfl
 v20:=by intro w;kernel_rfl
 t21:=by kernel_rfl
 a21:=by intro w;kernel_rfl
 z21:=by intro w;kernel_rfl
 v21:=by intro w;kernel_rfl
 t37:=by kernel_rfl
 a37:=by intro w;kernel_rfl
 z37:=by intro w;kernel_rfl
 v37:=by intro w;kernel_rfl
 t46:=by kernel_rfl
 a46:=by intro w;kernel_rfl
 z46:=by intro w;kernel_rfl
 v46:=by intro w;kernel_rfl
 t51:=by kernel_rfl
 a51:=by intro w;kernel_rfl
 z51:=by intro w;kernel_rfl
 v51:=by intro w;kernel_rfl
 t53:=by kernel_rfl
 a53:=by intro w;kernel_rfl
 z53:=by intro w;kernel_rfl
 v53:=by intro w;kernel_rfl
 t75:=by kernel_rfl
 a75:=by intro w;kernel_rfl
 z75:=by intro w;kernel_rfl
 v75:=by intro w;kernel_rfl
 t85:=by kernel_rfl
 a85:=by intro w;kernel_rfl
 z85:=by intro w;kernel_rfl
 v85:=by intro w;kernel_rfl
 t127:=by kernel_rfl
 a127:=by intro w;kernel_rfl
 z127:=by intro w;kernel_rfl
 v127:=by intro w;kernel_rfl
 t143:=by kernel_rfl
 a143:=by intro w;kernel_rfl
 z143:=by intro w;kernel_rfl
 v143:=by intro w;kernel_rfl
 t145:=by kernel_rfl
 a145:=by intro w;kernel_rfl
 z145:=by intro w;kernel_rfl
 v145:=by intro w;kernel_rfl
 t167:=by kernel_rfl
 a167:=by intro w;kernel_rfl
 z167:=by intro w;kernel_rfl
 v167:=by intro w;kernel_rfl
 t168:=by kernel_rfl
 a168:=by intro w;kernel_rfl
 z168:=by intro w;kernel_rfl
 v168:=by intro w;kernel_rfl
 t171:=by kernel_rfl
 a171:=by intro w;kernel_rfl
 z171:=by intro w;kernel_rfl
 v171:=by intro w;kernel_rfl
 t173:=by kernel_rfl
 a173:=by intro w;kernel_rfl
 z173:=by intro w;kernel_rfl
 v173:=by intro w;kernel_rfl
 t175:=by kernel_rfl
 a175:=by intro w;kernel_rfl
 z175:=by intro w;kernel_rfl
 v175:=by intro w;kernel_rfl
 t210:=by kernel_rfl
 a210:=by intro w;kernel_rfl
 z210:=by intro w;kernel_rfl
 v210:=by intro w;kernel_rfl
 t212:=by kernel_rfl
 a212:=by intro w;kernel_rfl
 z212:=by intro w;kernel_rfl
 v212:=by intro w;kernel_rfl
 t213:=by kernel_rfl
 a213:=by intro w;kernel_rfl
 z213:=by intro w;kernel_rfl
 t232:=by kernel_rfl
 a232:=by intro w;kernel_rfl
 z232:=by intro w;kernel_rfl
 v232:=by intro w;kernel_rfl
 t233:=by kernel_rfl
 a233:=by intro w;kernel_rfl
 z233:=by intro w;kernel_rfl
 v233:=by intro w;kernel_rfl
 g15:=by kernel_rfl
 g16:=by kernel_rfl
 g17:=by kernel_rfl
 g18:=by kernel_rfl
 g19:=by kernel_rfl
 t80:=by kernel_rfl
 a80:=by intro w;kernel_rfl
 z80:=by intro w;kernel_rfl
 v80:=by intro w;kernel_rfl
 i0:=by kernel_rfl
 i2:=by kernel_rfl
 i3:=by kernel_rfl
 i4:=by kernel_rfl
 i5:=by kernel_rfl
 i9:=by kernel_rfl
 i20:=by kernel_rfl
 i21:=by kernel_rfl
 i37:=by kernel_rfl
 i46:=by kernel_rfl
 i51:=by kernel_rfl
 i53:=by kernel_rfl
 i75:=by kernel_rfl
 i80:=by kernel_rfl
 i85:=by kernel_rfl
 i127:=by kernel_rfl
 i143:=by kernel_rfl
 i145:=by kernel_rfl
 i167:=by kernel_rfl
 i168:=by kernel_rfl
 i171:=by kernel_rfl
 i173:=by kernel_rfl
 i175:=by kernel_rfl
 i210:=by kernel_rfl
 i212:=by kernel_rfl
 i232:=by kernel_rfl
 i233:=by kernel_rfl
 m15:=by kernel_rfl
 m16:=by kernel_rfl
 m17:=by kernel_rfl
 m18:=by kernel_rfl
 m19:=by kernel_rfl
 c0:=by kernel_rfl
 c2:=by kernel_rfl
 c3:=by kernel_rfl
 c4:=by kernel_rfl
 c5:=by kernel_rfl
 c9:=by kernel_rfl
 c20:=by kernel_rfl
 c21:=by kernel_rfl
 c37:=by kernel_rfl
 c46:=by kernel_rfl
 c51:=by kernel_rfl
 c53:=by kernel_rfl
 c75:=by kernel_rfl
 c80:=by kernel_rfl
 c85:=by kernel_rfl
 c127:=by kernel_rfl
 c143:=by kernel_rfl
 c145:=by kernel_rfl
 c167:=by kernel_rfl
 c168:=by kernel_rfl
 c171:=by kernel_rfl
 c173:=by kernel_rfl
 c175:=by kernel_rfl
 c210:=by kernel_rfl
 c212:=by kernel_rfl
 c213:=by kernel_rfl
 c232:=by kernel_rfl
 c233:=by kernel_rfl
def Iw:Go.Proofs.LaysM.n171 Go.Proofs.Tryd.prog G3 where
 mixed:=by kernel_rfl
 f129:=by kernel_rfl
 f171:=by kernel_rfl
 f243:=by kernel_rfl
 f246:=by kernel_rfl
 f283:=by kernel_rfl
 f284:=by kernel_rfl
 f285:=by kernel_rfl
 f286:=by kernel_rfl
 f317:=by kernel_rfl
 f318:=by kernel_rfl
 f319:=by kernel_rfl
 f320:=by kernel_rfl
 f337:=by kernel_rfl
 f338:=by kernel_rfl
 t0:=by kernel_rfl
 a0:=by intro w;kernel_rfl
 z0:=by intro w;kernel_rfl
 v0:=by intro w;kernel_rfl
 t2:=by kernel_rfl
 a2:=by intro w;kernel_rfl
 z2:=by intro w;kernel_rfl
 v2:=by intro w;kernel_rfl
 t3:=by kernel_rfl
 a3:=by intro w;kernel_rfl
 z3:=by intro w;kernel_rfl
 v3:=by intro w;kernel_rfl
 t4:=by kernel_rfl
 a4:=by intro w;kernel_rfl
 z4:=by intro w;kernel_rfl
 v4:=by intro w;kernel_rfl
 t5:=by kernel_rfl
 a5:=by intro w;kernel_rfl
 z5:=by intro w;kernel_rfl
 v5:=by intro w;kernel_rfl
 t9:=by kernel_rfl
 a9:=by intro w;kernel_rfl
 z9:=by intro w;kernel_rfl
 v9:=by intro w;kernel_rfl
 t20:=by kernel_rfl
 a20:=by intro w;kernel_rfl
 z20:=by intro w;kernel_rfl
 v20:=by intro w;kernel_rfl
 t37:=by kernel_rfl
 a37:=by intro w;kernel_rfl
 z37:=by intro w;kernel_rfl
 v37:=by intro w;kernel_rfl
 t46:=by kernel_rfl
 a46:=by intro w;kernel_rfl
 z46:=by intro w;kernel_rfl
 v46:=by intro w;kernel_rfl
 t51:=by kernel_rfl
 a51:=by intro w;kernel_rfl
 z51:=by intro w;kernel_rfl
 v51:=by intro w;kernel_rfl
 t53:=by kernel_rfl
 a53:=by intro w;kernel_rfl
 z53:=by intro w;kernel_rfl
 v53:=by intro w;kernel_rfl
 t171:=by kernel_rfl
 a171:=by intro w;kernel_rfl
 z171:=by intro w;kernel_rfl
 v171:=by intro w;kernel_rfl
 t173:=by kernel_rfl
 a173:=by intro w;kernel_rfl
 z173:=by intro w;kernel_rfl
 v173:=by intro w;kernel_rfl
 t212:=by kernel_rfl
 a212:=by intro w;kernel_rfl
 z212:=by intro w;kernel_rfl
 v212:=by intro w;kernel_rfl
 t213:=by kernel_rfl
 a213:=by intro w;kernel_rfl
 z213:=by intro w;kernel_rfl
 t232:=by kernel_rfl
 a232:=by intro w;kernel_rfl
 z232:=by intro w;kernel_rfl
 v232:=by intro w;kernel_rfl
 t233:=by kernel_rfl
 a233:=by intro w;kernel_rfl
 z233:=by intro w;kernel_rfl
 v233:=by intro w;kernel_rfl
 g17:=by kernel_rfl
 g18:=by kernel_rfl
 g19:=by kernel_rfl
 i0:=by kernel_rfl
 i2:=by kernel_rfl
 i3:=by kernel_rfl
 i4:=by kernel_rfl
 i5:=by kernel_rfl
 i9:=by kernel_rfl
 i20:=by kernel_rfl
 i37:=by kernel_rfl
 i46:=by kernel_rfl
 i51:=by kernel_rfl
 i53:=by kernel_rfl
 i171:=by kernel_rfl
 i173:=by kernel_rfl
 i212:=by kernel_rfl
 i232:=by kernel_rfl
 i233:=by kernel_rfl
 m17:=by kernel_rfl
 m18:=by kernel_rfl
 m19:=by kernel_rfl
end Go.Am
end
section
namespace Go.Am
open Go Go.Proofs
variable [Inhabited dI]
open Go.RowKit
set_option maxRecDepth 20000
def jq{P:Program}{g:FuncId}{fn:Func}(A3:P.funcs[g]?=some fn)(A':fn.body.isSome=true)(AC:(fn.name == "runtime.NumGoroutine")=false):dC P g=true:=by
 unfold dC;rw[A3];simp only[A',AC];rfl
def tW{w F s v}(h:aq w F (.str s) v):∃b:ByteArray,v=.string b/\b.data.toList=s:=by
 cases h with
 |str b s h=>exact⟨b,rfl,h⟩
def lj{w F k n v}(h:aq w F (.int k n) v):v=.int k n:=by cases h;rfl
def BJ{Z:List D}{a b:D}{w F}{vs:Array Value}(E:Z=[a,b])(I:Z.length=vs.size)(H:∀(i:Nat) x v,Z[i]?=some x->vs[i]?=some v->aq w F x v):
 ∃x y,vs=#[x,y]/\aq w F a x/\aq w F b y:=by
 subst E;obtain⟨l⟩:=vs;match l,I with
 |[x,y],_=>exact⟨x,y,rfl,H 0 a x rfl rfl,H 1 b y rfl rfl⟩
def Ks{Z:List D}{a:D}{w F}{vs:Array Value}(E:Z=[a])(I:Z.length=vs.size)(H:∀(i:Nat) x v,Z[i]?=some x->vs[i]?=some v->aq w F x v):
 ∃x,vs=#[x]/\aq w F a x:=by
 subst E;obtain⟨l⟩:=vs;match l,I with
 |[x],_=>exact⟨x,rfl,H 0 a x rfl rfl⟩
def Ku{w:World}{F}(M:b5 w F cB):∃m,w.cell? ⟨3,0,none⟩=some (.int .i64 m):=by
 obtain⟨_,_,A7,J,T⟩:=M (3,.int .i64 (id (α:=Int) (default:dI))) (by simp[cB]);generalize id (α:=Int) (default:dI)=z at J;obtain rfl:=lj J;exact⟨z,T 0 _ (by simp[Value.cells])⟩
def BK{w:World}{F}{g:Nat}(M:b5 w F cB)(hm:(g,D.jd)∈cB):∃v,w.cell? ⟨g,0,none⟩=some v/\(v=.nilIface\/∃t p,v=.iface t p):=by
 obtain⟨_,_,A7,J,T⟩:=M _ hm;cases J with
 |jd _ h=>
  refine⟨A7,T 0 A7 ?_,h⟩;rcases h with rfl|⟨t,p,rfl⟩<;>rfl
def Ix:kB=Go.Lib.pow10Tab:=by decide
def G4{w:World}{F}(M:b5 w F cB):Go.Lib.TabIs Tryd.prog w "internal/strconv.uint64pow10" .u64 Go.Lib.pow10Tab:=by
 obtain⟨⟨_,AF⟩,_,A7,J,T⟩:=M (1,.agg (kB.map λz=>.int .u64 z)) (by simp[cB]);obtain⟨cur,e,AW,hh,O⟩:=AF _ rfl;have AG:Tryd.prog.globalNamed "internal/strconv.uint64pow10" =some 1:=by kernel_rfl
 unfold Go.Lib.TabIs World.var?;rw[AG];simp only[X4];rw[hh];simp only[Xn];cases J with
 |agg cs a I A3 V=>
  rw[<-Ix];simp only[List.length_map]at I O;apply Array.ext
  .simp;omega
  .intro i AX AH;have hi:i<kB.length:=by simpa using AH
   have A0:∃v,a[i]?=some v:=⟨a[i]'(by omega),by simp[show i<a.size by omega]⟩
   obtain⟨v,U⟩:=A0;have q1:=V i (.int .u64 kB[i]) v (by simp[hi]) U;obtain rfl:=lj q1;have q2:=T i _ (by simpa [Value.cells]using U);unfold World.cell? at q2;simp only[hh]at q2;have q3:cur[i]?=some (.int .u64 kB[i]):=by simpa using q2
   have AI:=(Xv.1 q3).2;simp only[AI];simp
def yZ{w:World}{F:Nat->Prop}(l:List ByteArray)(b cap:Nat)(A':b<w.heap.size)(AJ:¬F b)(AK:l.length<=cap)
 (V:∀(i:Nat) s,l[i]?=some s->w.cell? ⟨b,i,none⟩=some (.string s)):aq w F (.list (l.map λs=>.str s.data.toList)) (.slice (some ⟨b,0,none⟩) l.length cap):=by
 have:=aq.list (w:=w) (F:=F) (l.map λs=>.str s.data.toList) b 0 cap 1 (λi=>.string (l[i]?.getD ⟨#[]⟩)) (by simpa using AK) A' AJ (by simp[D.size]) (λi d E=>by
  simp only[XA,Xj]at E;obtain⟨s,O,rfl⟩:=E;rw[O];exact .str s _ rfl) (λi j c hi A5=>by
  have hi:i<l.length:=by simpa using hi
  cases j with
  |zero=>
   simp[Value.cells]at A5;subst A5;have:=V i l[i] (by simp[hi]);simpa [hi]using this
  |succ j=>simp[Value.cells]at A5)
 simpa using this
def Iy:jA ctx 13 (iT pN):=by
 refine jA.lift ⟨jq Tryd.func13 (by kernel_rfl) (by kernel_rfl),λZ d E F w vs M A4 I H=>?_⟩;unfold pN at E;split at E
 .split at E
  .rename_i O;obtain⟨x,y,rfl,J,T⟩:=BJ rfl I H;obtain⟨a,rfl,rfl⟩:=tW J;obtain⟨b,rfl,rfl⟩:=tW T;obtain⟨m,hm⟩:=Ku M;refine (Any.strings_Split Kq (by kernel_rfl) a b m w (by simpa using O.1) hm (by simpa using O.2)).mono ?_;rintro e w' ⟨rfl,rfl⟩;cases E;refine⟨_,rfl,Below.alloc (Below.refl _ _) (Ds _) _,?_⟩;have A1:=Go.Lib.splitB_all b (by simpa using O.2) 0 _ a rfl;have AD:=Go.Lib.splitB_data b 0 (Go.Lib.countB a b) a;generalize AY:Go.Lib.splitB b 0 (Go.Lib.countB a b) a=L at A1 AD⊢;have he:(Go.Lib.split a.data.toList b.data.toList).map D.str=L.map λs=>.str s.data.toList:=by
    unfold Go.Lib.split;rw[show Go.Lib.count a.data.toList b.data.toList=Go.Lib.countB a b from rfl,<-AD];simp
   rw[he];rw[show Go.Lib.countB a b+1=L.length from A1.symm];refine yZ L _ _ ?_ ?_ (Ds _) ?_
   .exact (Xv.1 (heap_alloc_new w _)).1
   .intro A3;exact absurd (A4 _ A3) (by omega)
   .intro i s AL;simp only[World.cell?,heap_alloc_new];simp[AL]
  .cases E
 .cases E
def xn(w:World)(k:Nat)(os:Array Obj):Below w.heap.size w (Go.Sort.grow (w.drewN k) os):=
 ⟨rfl,rfl,rfl,by show w.heap.size<=(w.heap++os).size;rw[Array.size_append];omega,λj A5=>by show (w.heap++os)[j]?=_;exact XY A5⟩
def O5:jA ctx 22 (iT Gb):=by
 refine jA.lift ⟨jq Tryd.func22 (by kernel_rfl) (by kernel_rfl),λZ d E F w vs M A4 I H=>?_⟩;unfold Gb at E;split at E
 .split at E
  .rename_i O;obtain⟨rfl,AM,AN⟩:=O;obtain⟨x,y,rfl,J,T⟩:=BJ rfl I H;obtain rfl:=lj J;obtain rfl:=lj T;refine (Any.strconv_FormatInt_10 Iv _ AM AN w (G4 M)).mono ?_;rintro e w' ⟨rfl,k,os,rfl⟩;cases E;exact⟨_,rfl,xn w k os,.str _ _ (by simp)⟩
  .cases E
 .cases E
def O6:jA ctx 95 (iT Gc):=by
 refine jA.lift ⟨jq Tryd.func95 (by kernel_rfl) (by kernel_rfl),λZ d E F w vs M A4 I H=>?_⟩;unfold Gc at E;split at E
 .split at E
  .rename_i O;obtain⟨x,rfl,J⟩:=Ks rfl I H;obtain rfl:=lj J;refine (Any.strconv_Itoa Iw _ O.1 O.2 w (G4 M)).mono ?_;rintro e w' ⟨rfl,k,os,rfl⟩;cases E;exact⟨_,rfl,xn w k os,.str _ _ (by simp)⟩
  .cases E
 .cases E
def Iz{A2:List AV}{a b c:AV}{φ w F}{vs:Array Value}(E:A2=[a,b,c])(I:A2.length=vs.size)(H:∀(i:Nat) x v,A2[i]?=some x->vs[i]?=some v->ai φ w F x v):
 ∃x y z,vs=#[x,y,z]/\ai φ w F a x/\ai φ w F b y/\ai φ w F c z:=by
 subst E;obtain⟨l⟩:=vs;match l,I with
 |[x,y,z],_=>exact⟨x,y,z,rfl,H 0 a x rfl rfl,H 1 b y rfl rfl,H 2 c z rfl rfl⟩
def NA{A2:List AV}{a b:AV}{φ w F}{vs:Array Value}(E:A2=[a,b])(I:A2.length=vs.size)(H:∀(i:Nat) x v,A2[i]?=some x->vs[i]?=some v->ai φ w F x v):
 ∃x y,vs=#[x,y]/\ai φ w F a x/\ai φ w F b y:=by
 subst E;obtain⟨l⟩:=vs;match l,I with
 |[x,y],_=>exact⟨x,y,rfl,H 0 a x rfl rfl,H 1 b y rfl rfl⟩
def EB{φ w F x v}(h:ai φ w F (.d x) v):aq w F x v:=by cases h;assumption
def IA{φ w F a b x y}(J:ai φ w F a x)(T:ai φ w F b y):ai φ w F (.bc [a,b]) (.tuple #[x,y]):=by
 refine .bc _ _ rfl λi c v V U=>?_;match i,V,U with
 |0,V,U=>simp at V U;subst V;subst U;exact J
 |1,V,U=>simp at V U;subst V;subst U;exact T
 |i+2,V,_=>simp at V
def O7:jA ctx 62 Gd:=by
 refine⟨jq Tryd.func62 (by kernel_rfl) (by kernel_rfl),λA2 a Y φ F w vs M A4 I H=>?_⟩;unfold Gd at Y;split at Y
 .split at Y
  .rename_i O;obtain⟨rfl,rfl,A1⟩:=O;obtain⟨x,y,z,rfl,J,T,AO⟩:=Iz rfl I H;obtain⟨s,rfl,rfl⟩:=tW (EB J);obtain rfl:=lj (EB T);obtain rfl:=lj (EB AO);have A1:s.size<=281474976710656:=by simpa using A1
   cases Y;unfold Jn;rcases A9:Go.Lib.parseIntB 64 s.data.toList with n|_|_
   .refine (Any.strconv_ParseInt_10_at64_ok vr s (by omega) n A9 w).mono ?_;rintro e w' ⟨rfl,hw⟩;refine⟨_,rfl,?_,IA (.d _ _ (.int _ _)) (.lit _ rfl)⟩;rcases hw with rfl|⟨t,rfl⟩
    .exact Below.refl _ _
    .exact Go.Lib.bytesWorld_below _ _ _
   .obtain⟨AA,U,AB⟩:=BK (g:=8) M (by simp[cB]);refine (Any.strconv_ParseInt_10_at64_syntax vr s A1 A9 AA w U AB).mono ?_;rintro e w' ⟨N,rfl,_,_,A'⟩;exact⟨_,rfl,A',IA (.d _ _ (.int _ _)) (.err _ _)⟩
   .obtain⟨AA,U,AB⟩:=BK (g:=9) M (by simp[cB]);refine (Any.strconv_ParseInt_10_at64_range vr s A1 A9 AA w U AB).mono ?_;rintro e w' ⟨N,rfl,_,_,A'⟩;exact⟨_,rfl,A',IA (.d _ _ (.int _ _)) (.err _ _)⟩
  .cases Y
 .cases Y
def Cf(w:World):PredAt Tryd.prog 15 #[] encR (λr=>decide ((r:Int)=32)) w:=λW r _=>by
 unfold FnGives;go_enter Tryd.func15,Tryd.ntmps15
 go_wp2
 refine⟨rfl,_,results_tmp (t:=2) (by rw[Tryd.results15]) _ _ _,?_⟩;exact⟨rfl,0,rfl⟩
def IB{w:World}{base:Nat}{e:TypeId}{A n cap:Nat}{xs:List Value}(h:w.ownsRow base e 1 (.slice (some ⟨A,0,none⟩) n cap) n xs):A<w.heap.size/\∀(i:Nat) x,xs[i]?=some x->w.cell? ⟨A,i,none⟩=some x:=by
 obtain⟨I,h⟩:=h;rcases h with ⟨h,_⟩|⟨g,AZ,cur,U,_,hh,AC,_,O,AP⟩
 .cases h
 .cases U;refine⟨(Xv.1 hh).1,λi x A0=>?_⟩;rw[<-AP]at A0;rw[Xp]at A0;split at A0
  .simp only[World.cell?,hh];simpa using A0
  .cases A0
def O8:jA ctx 14 (CJ 15 32):=by
 refine⟨jq Tryd.func14 (by kernel_rfl) (by kernel_rfl),λA2 a Y φ F w vs M A4 I H=>?_⟩;unfold CJ at Y;split at Y
 .split at Y
  .rename_i O;obtain⟨rfl,A1⟩:=O;obtain⟨x,y,rfl,J,T⟩:=NA rfl I H;obtain⟨s,rfl,rfl⟩:=tW (EB J);have AQ:y=.func (.func 15) #[] #[]:=by
    generalize A6:AV.fn 15 []=q at T;cases T with
    |fn f cap a A_ AE AR=>
     simp only[AV.fn.injEq]at A6;obtain⟨rfl,rfl⟩:=A6;have:a=#[]:=by
      apply Array.eq_empty_of_size_eq_zero;simpa using AE.symm
     subst this;rfl
    |lJ f cap a AE AR=>
     simp only[AV.fn.injEq]at A6;have e:Nat.add f 1000000=15:=A6.1.symm;simp only[Nat.add_eq]at e;exact absurd e (Nat.ne_of_gt (Yf (by decide) (Yq _ _)))
    |_=>cases A6
   subst AQ;cases Y;refine (Any.strings_FieldsFunc Kr 15 #[] (enters_of Tryd.func15 (by kernel_rfl) rfl) (λr=>decide ((r:Int)=32)) s w (by simpa using A1) (Cf w) (by kernel_rfl) (by kernel_rfl)).mono ?_;rintro e w' ⟨A,rfl,Aa,AS,A'⟩;refine⟨_,rfl,A',.d _ _ ?_⟩;obtain⟨AT,V⟩:=IB AS;have AU:(⟨s.data.toList.toArray⟩:ByteArray)=s:=by simp
   rw[AU];refine yZ _ A _ AT (λA3=>absurd (A4 _ A3) (by omega)) (Ds _) (λi x A0=>V i _ (by simp[A0]))
  .cases Y
 .cases Y
def Kv:∀g h,ctx.rD g=some h->jA ctx g h:=by
 intro g h M;have A8:Ie g=some h:=M;unfold Ie at A8;split at A8;all_goals first|(cases A8;first|exact Iy|exact O8|exact O6|exact O5|exact O7)|cases A8
end Go.Am
end
