/-
  Texts of one proof, one behind the other.
-/
import Derived.Test.YtjhbmdndjhgjlaaGreatDoorA1
import Derived.Test.YtjhbmdndjhgjlaaGreatDoorA2
import Derived.Below
import Derived.Recover
import Derived.Orders
import Derived.Lib.ItoaNum
import Derived.Lib.Bytealg
import Derived.Lib.Index
import Derived.Lib.Strings
import Derived.Lib.Split
import Derived.Lib.FieldsP
import Derived.Lib.ParseIntB
import Derived.Laws.BitsLemmas
import Derived.Laws.Bits64
import Derived.Lib.Mul64
set_option linter.all false
section
namespace Go.Am
open Go
set_option maxRecDepth 20000
set_option maxHeartbeats 4000000
def eZ(X:Ctx)(A2:aN):Prop:=∀g args cs out l,A2 g args cs=some (out,l)->
 dF X.P g=true/\Ev X.P X.gl g args (bS 0 cs) λo m=>o=out/\m=bI 0 l
def nB{P:Program}{g:FuncId}{vs:Array Value}{w:World}(h:dF P g=true):(callFunc g vs).run P w=.ok (.enter g vs) w:=by
 unfold dF at h;split at h
 .rename_i fn An;simp only[WJ,Bool.not_eq_true']at h;have J:fn.body.isNone=false:=by
   have:=h.1;cases AE:fn.body<;>simp_all
  have W:fn.name≠ "runtime.NumGoroutine" :=by simpa using h.2
  have A7:fn.body≠none:=by intro AE;simp[AE]at J
  simp[callFunc,An,W,A7]
 .cases h
def get_none{m:Mem}{k:Nat}:Mem.get m k=none↔k∉m.map (·.key):=by
 induction m with
 |nil=>simp[Mem.get]
 |cons e r ih=>
  simp only[Mem.get,Xn,WK,not_or];split
  .rename_i h;simp[h]
  .rename_i h;rw[ih];constructor
   .exact λhh=>⟨λhe=>h he.symm,hh⟩
   .exact λhh=>hh.2
def oJ{m m':Mem}(A:m'.map (·.key)=m.map (·.key))(k:Nat):(Mem.get m' k).isNone=(Mem.get m k).isNone:=by
 have:=get_none (m:=m) (k:=k);have W:=get_none (m:=m') (k:=k);rw[A,<-this]at W;cases h:Mem.get m k<;>cases Ao:Mem.get m' k<;>simp_all
def oK(m:Mem):∀(n:Nat)(todo I:List Nat),∀k∈I,k∈collect m n todo I
 |0,todo,I,k,h=>h
 |n+1,[],I,k,h=>h
 |n+1,t::todo,I,k,h=>by
  simp only[collect];split
  .exact oK m n todo I k h
  .exact oK m n _ _ k (X9 _ h)
def oL{m m':Mem}(A:m'.map (·.key)=m.map (·.key)):∀(n:Nat)(todo I:List Nat),(∀k∈collect m n todo I,Mem.get m' k=Mem.get m k)->collect m' n todo I=collect m n todo I
 |0,todo,I,_=>rfl
 |n+1,[],I,_=>rfl
 |n+1,t::todo,I,h=>by
  simp only[collect,oJ A t]at h⊢;split
  .rename_i H;rw[H]at h;exact oL A n todo I h
  .rename_i H;rw[H]at h;have e:Mem.get m' t=Mem.get m t:=h t (oK m n _ _ t (by simp));rw[e];exact oL A n _ _ h
mutual
def zF{m m':Mem}{ρ:List Nat}{bor:Nat->Bool}{nv:Nat->Nat->Nat}(A:m'.map (·.key)=m.map (·.key))(h:∀k,(k∈ρ\/bor k=true)->Mem.get m' k=Mem.get m k):∀y:AV,vw m' ρ bor nv y=vw m ρ bor nv y
 | .ptr k U off=>by
  by_cases M:k∈ρ
  .simp only[vw,h k (.inl M)]
  .have O:∀m0:Mem,vw m0 ρ bor nv (.ptr k U off)=.aC:=by
    intro m0;simp only[vw,eE (ρ:=ρ) (k:=k) (j:=0) |>.2 M];cases Mem.get m0 k<;>rfl
   rw[O,O]
 | .tn k U t=>by
  by_cases M:k∈ρ
  .simp only[vw,h k (.inl M)]
  .have O:∀m0:Mem,vw m0 ρ bor nv (.tn k U t)=.aC:=by
    intro m0;simp only[vw,eE (ρ:=ρ) (k:=k) (j:=0) |>.2 M];cases Mem.get m0 k<;>rfl
   rw[O,O]
 | .vec k U off len=>by
  by_cases M:k∈ρ\/bor k=true
  .simp only[vw,h k M]
  .simp only[not_or]at M;have O:∀m0:Mem,vw m0 ρ bor nv (.vec k U off len)=.aC:=by
    intro m0;simp only[vw,eE (ρ:=ρ) (k:=k) (j:=0) |>.2 M.1,M.2];cases Mem.get m0 k with
    |none=>rfl
    |some e=>
     obtain⟨_,_,c⟩:=e;cases c<;>simp
   rw[O,O]
 | .bb k U i j=>by
  by_cases M:k∈ρ
  .simp only[vw,h k (.inl M)]
  .have O:∀m0:Mem,vw m0 ρ bor nv (.bb k U i j)=.aC:=by
    intro m0;simp only[vw,eE (ρ:=ρ) (k:=k) (j:=0) |>.2 M];cases Mem.get m0 k<;>rfl
   rw[O,O]
 | .agg cs=>by simp only[vw,po A h cs]
 | .fn f cap=>by simp only[vw,po A h cap]
 | .bk vs=>by simp only[vw,po A h vs]
 | .aC=>rfl
 | .d x=>rfl
 | .bR x j=>rfl
 | .dJ t x=>rfl
 | .lit v=>rfl
 | .nn=>rfl
 | .err=>rfl
def po{m m':Mem}{ρ:List Nat}{bor:Nat->Bool}{nv:Nat->Nat->Nat}(A:m'.map (·.key)=m.map (·.key))(h:∀k,(k∈ρ\/bor k=true)->Mem.get m' k=Mem.get m k):∀l:List AV,lL m' ρ bor nv l=lL m ρ bor nv l
 |[]=>rfl
 |x::r=>by simp only[lL,zF A h x,po A h r]
end
def zG{m m':Mem}{ρ:List Nat}{bor:Nat->Bool}{nv:Nat->Nat->Nat}(A:m'.map (·.key)=m.map (·.key))(h:∀k,(k∈ρ\/bor k=true)->Mem.get m' k=Mem.get m k):
 ∀(l:List Nat)(i:Nat),(∀k∈l,k∈ρ)->b9 m' ρ bor nv i l=b9 m ρ bor nv i l
 |[],i,_=>rfl
 |k::r,i,AP=>by
  simp only[b9,h k (.inl (AP k (by simp))),zG A h r (i+1) (λx Y=>AP x (by simp[Y]))];congr 1;cases Mem.get m k with
  |none=>rfl
  |some e=>
   simp only[oE,W0,true_and];cases e.cont with
   |box cs=>simp only[l7,po A h cs]
   |vv rows y=>
    cases y with
    |none=>rfl
    |some x=>simp only[l7,XB,zF A h x]
   |_=>rfl
def vA{b:Bool}{m m':Mem}{ρ B:List Nat}(A:m'.map (·.key)=m.map (·.key))(h:∀k,(k∈ρ\/B.contains k=true)->Mem.get m' k=Mem.get m k):∀l:List AV,dQ b m' ρ B l=dQ b m ρ B l
 |[]=>rfl
 |x::r=>by simp only[dQ,zF (nv:=dO) A h x,vA A h r]
def ui{m m':Mem}(d:Nat):∀(l:List Nat),(∀k∈l,Mem.get m' k=Mem.get m k)->base m' d l=base m d l
 |[],_=>rfl
 |k::r,h=>by simp only[base,h k (by simp),ui d r (λx Y=>h x (by simp[Y]))]
def zH{m m':Mem}(ρ:List Nat)(A:m'.map (·.key)=m.map (·.key)):∀(l:List Nat),p3 m' ρ l=p3 m ρ l
 |[]=>rfl
 |k::r=>by
  have:(Mem.get m' k).isSome=(Mem.get m k).isSome:=by
   have:=oJ A k;cases h:Mem.get m k<;>cases Ao:Mem.get m' k<;>simp_all
  simp only[p3,this,zH ρ A r]
def vB{A2:aN}{m m':Mem}{A3:Nat}{g:FuncId}{E:List AV}{mt:List Nat}{res:cQ}(A:m'.map (·.key)=m.map (·.key))(h:cm A2 m A3 g E mt=some res)(AU:∀k∈res.ks,Mem.get m' k=Mem.get m k):
 cm A2 m' A3 g E mt=some res:=by
 unfold cm iK iJ at h⊢;obtain⟨ρ,A4⟩:∃ρ,ρ=collect m 64 (gO mt 0 E) []:=⟨_,rfl⟩;rw[<-A4]at h;obtain⟨B,AW⟩:∃B,B=(nz mt 0 E).filter λk=>!ρ.contains k:=⟨_,rfl⟩;rw[<-AW]at h;have AF:∀k,k∈ρ\/B.contains k=true->Mem.get m' k=Mem.get m k:=by
  intro k Z;refine AU k ?_;unfold cR at h;split at h
  .split at h
   .cases h;simp only[Xe];rcases Z with J|J
    .exact .inl (.inl J)
    .exact .inl (.inr (by simpa using J))
   .cases h
  .cases h
 have Ap:collect m' 64 (gO mt 0 E) []=ρ:=by
  rw[A4];exact oL A 64 _ _ (λk Z=>AF k (.inl (A4▸Z)))
 rw[Ap,<-AW,vA A AF,zG A AF ρ 0 (λ_ h=>h),oJ A];unfold cR at h⊢;split
 .rename_i out T A8;rw[A8]at h;simp only at h;rw[zH ρ A];split
  .rename_i H;rw[W2 H]at h;cases h;have A9:∀d,base m' d ρ=base m d ρ:=λd=>ui d ρ (λk Z=>AF k (.inl Z));have Aq:∀d,base m' d (List.range' (A3+1) (T.length-ρ.length))=base m d (List.range' (A3+1) (T.length-ρ.length)):=λd=>ui d _ (λk Z=>AU k (by simp only[Xe];exact .inr Z));rw[A9,Aq]
  .rename_i H;rw[WO H]at h;cases h
 .rename_i A8;rw[A8]at h;cases h
def oM(S:St):∀(l:List Operand)(i:Nat),(bz S l)[i]?=(l[i]?).map λx=>(S.ag x).2
 |[],i=>by simp[bz]
 |x::r,i=>by cases i with|zero=>simp[bz]|succ i=>simp[bz,oM S r i]
def eO(S:St):∀(l:List Operand),(bz S l).length=l.length
 |[]=>rfl
 |x::r=>by simp[bz,eO S r]
def qd(b m ρ B):∀(l:List AV)(i:Nat),(dQ b m ρ B l)[i]?=(l[i]?).map λy=>tp b (vw m ρ (λk=>B.contains k) dO y)
 |[],i=>by simp[dQ]
 |x::r,i=>by cases i with|zero=>simp[dQ]|succ i=>simp[dQ,qd b m ρ B r i]
def mb(b m ρ B):∀(l:List AV),(dQ b m ρ B l).length=l.length
 |[]=>rfl
 |x::r=>by simp[dQ,mb b m ρ B r]
def rY(m ρ bor):∀(l:List Nat)(i j:Nat),bS i (jz (b9 m ρ bor dO j l))=bI i (b9 m ρ bor dO j l)
 |[],i,j=>rfl
 |k::r,i,j=>by
  have:oE m ρ bor dO j (Mem.get m k)=(0,(oE m ρ bor dO j (Mem.get m k)).2):=by
   cases Mem.get m k<;>rfl
  simp only[b9];rw[this];simp only[jz,bS,bI,rY m ρ bor r (i+1) (j+1)]
def uj{m:Mem}{ρ:List Nat}:∀{l:List Nat},p3 m ρ l=true->∀k∈l,(Mem.get m k).isSome=true/\k∉ρ
 |[],_,k,A=>by simp at A
 |x::r,h,k,A=>by
  simp only[p3,WJ,Bool.not_eq_true',List.contains_eq_mem,X2]at h;rcases WK.1 A with rfl|A
  .exact h.1
  .exact uj h.2 k A
def qe:∀{l:List (Nat×ax)},jj l=true->∀e∈l,fD e.2=true
 |[],_,e,he=>by simp at he
 |(v,c)::r,h,e,he=>by
  simp only[jj,WJ]at h;rcases WK.1 he with rfl|he
  .exact h.1
  .exact qe h.2 e he
def pq:∀(l:List (Nat×ax))(i k:Nat),i<=k->k<i+l.length->(Mem.get (bI i l) k).isSome=true
 |[],i,k,J,W=>by simp at W;omega
 |(v,c)::r,i,k,J,W=>by
  simp only[bI,Mem.get];split
  .rfl
  .rename_i Ar;exact pq r (i+1) k (by have BF:i≠k:=Ar;omega) (by simp at W;omega)
def Ev.Kx{P:Program}{gl f args}{cs:List ax}{out:Out}{T:List (Nat×ax)}(h:Ev P gl f args (bS 0 cs) λo m=>o=out/\m=bI 0 T)(AP:cs.length<=T.length):
 Ev P gl f args (bS 0 cs) λo m=>o=wu cs.length T out/\m=bI 0 (b9 (bI 0 T) (List.range cs.length) (λ_=>true) (λ_ v=>v) 0 (List.range cs.length)):=by
 intro φ G w vs hm AG As At;refine (h φ G w vs hm AG As At).mono ?_;rintro e w' ⟨φ',m',AH,⟨rfl,rfl⟩,AA,V,q⟩;obtain⟨s1,s2,Au⟩:=sD (G1:=G) (ρ:=List.range cs.length) (bor:=λ_=>true) (nv:=λ_ v=>v) AA List.nodup_range (λk A=>pq T 0 k (Nat.zero_le _) (by simp at A;omega)) (λb h=>.inl h) (λb h=>AA.fW b h.own)
  (λk e L b AG _ _ AI A5=>AA.fW _ ⟨e,(Mem.get_mem AG).1,L,by rw[(Mem.get_mem AG).2];exact AI,A5⟩)
 refine⟨_,_,_,⟨rfl,rfl⟩,s1,⟨?_,V.qT,?_,V.size,V.os,V.tape,V.output⟩,?_⟩
 .intro k L AI;have A:k<cs.length:=by
   have:=hm.kG k L AI;rw[zr,kQ]at this;simpa using this
  obtain⟨L',J,W,A7⟩:=V.le k L AI;exact⟨L',by simp[aR.dY,A,J],W,A7⟩
 .intro b AE A5;exact V.own b AE ((pc (φ:=φ') (nv:=λ_ v=>v) (bor:=λ_=>true) (λk A=>pq T 0 k (Nat.zero_le _) (by simp at A;omega)) b).1 A5).own
 .cases AH with
  |ret x=>
   cases e with
   |returned v=>exact (s2 x v q).norm
   |_=>exact q.elim
  |panic t x=>
   cases e with
   |panicked chain=>
    obtain⟨v,H,Y⟩:=q;exact⟨v,H,Y.mono (λ_ _ _=>rfl) (Ds _) (λb _=>Au b)⟩
   |_=>exact q.elim
def nC:∀(l:List (Nat×ax)),(jz l).length=l.length
 |[]=>rfl
 |(_,_)::r=>by simp[jz,nC r]
def rZ{AB:Nat}{b:Bool}{r:Option (Out×List (Nat×ax))}{out:Out}{l:List (Nat×ax)}(h:kZ AB b r=some (out,l)):∃AJ A1,r=some (AJ,A1)/\
 ((out=AJ/\l=A1)\/(AB<A1.length/\out=wu AB A1 AJ/\l=b9 (bI 0 A1) (List.range AB) (λ_=>true) (λ_ v=>v) 0 (List.range AB))):=by
 cases r with
 |none=>cases h
 |some p=>
  obtain⟨Av,A1⟩:=p;refine⟨Av,A1,rfl,?_⟩;simp only[kZ]at h;split at h
  .rename_i H;simp only[WJ,WV]at H;simp only[WR,W0]at h;exact .inr ⟨H.2,h.1.symm,h.2.symm⟩
  .simp only[WR,W0]at h;exact .inl ⟨h.1.symm,h.2.symm⟩
def Iy{n g:Nat}(h:g<n):sI n g=g:=by
 unfold sI;rw[decide_eq_false (Nat.not_le.2 h)]
def Es{n g:Nat}(h:g<n)(E D:List AV):mN n g E D=E++D:=by
 unfold mN;rw[decide_eq_false (Nat.not_le.2 h)]
def Iz(n g:Nat):sI n (g+n)=g:=by
 unfold sI;rw[decide_eq_true (XM n g)];exact Nat.add_sub_cancel g n
def Et(n g:Nat)(E D:List AV):mN n (g+n) E D=D++E:=by
 unfold mN;rw[decide_eq_true (XM n g)]
def Ky{g:FuncId}(h:g<mg):iV g=g:=Iy h
def zI{g:FuncId}(h:g<mg)(E D:List AV):eg g E D=E++D:=Es h E D
def Kz(g:FuncId):iV (g+mg)=g:=Iz mg g
def zJ(g:FuncId)(E D:List AV):eg (g+mg) E D=D++E:=Et mg g E D
def oc{X:Ctx}{A2:aN}(A8:eZ X A2){S:St}{o:Oper}{AK:Operand}{args:Array Operand}{Aw:Array TypeId}{g g0:FuncId}{D:List AV}{A3:Nat}{mt:List Nat}{res:cQ}
 (A5:o.op=.call {callee:=.value AK,args,argTypes:=Aw}) (AX:S.ag AK=(true,.fn g0 D)) (AY:iV g0=g) (Ax:eo S args.toList=true)
 (h:cm A2 S.mem A3 g (eg g0 (bz S args.toList) D) mt=some res) (Ay:S.gl=X.gl) {φ G a w} (A6:Rel φ G S a w) {next:Act->World->Prop} {R:Exit->Act->World->Prop}
 (Az:∀x,res.out=.ret x->∀φ' w' v,Rel φ' G {S with mem:=aL S.mem res.es} a w'->aB φ S.mem w φ' (aL S.mem res.es) w'->ai φ' w' (Fo G φ' (aL S.mem res.es)) x v->next (a.put o.dst v) w')
 (B':∀t x,res.out=.panic t x->∀φ' w' v,Rel φ' G {S with mem:=aL S.mem res.es} a w'->aB φ S.mem w φ' (aL S.mem res.es) w'->ar w' (Fo G φ' (aL S.mem res.es)) x v->R (.panic [{v:=.iface t v,recovered:=false}]) a w'):o.wp X.P a w next R:=by
 unfold cm iK iJ at h;obtain⟨ρ,A4⟩:∃ρ,ρ=collect S.mem 64 (gO mt 0 (eg g0 (bz S args.toList) D)) []:=⟨_,rfl⟩;have AZ:=ki S.mem 64 (gO mt 0 (eg g0 (bz S args.toList) D)) [] List.nodup_nil (by simp);rw[<-A4]at h AZ;generalize (nz mt 0 (eg g0 (bz S args.toList) D)).filter (λk=>!ρ.contains k)=B at h;clear A4;obtain⟨A_,Aa⟩:=AZ;unfold cR at h;split at h
 .rename_i out T B0;split at h
  .rename_i H;cases h;have B1:dF X.P g=true/\Ev X.P X.gl g (dQ (mt.contains 1000) S.mem ρ B (eg g0 (bz S args.toList) D)) (bS 0 (jz (b9 S.mem ρ (λk=>B.contains k) dO 0 ρ))) λo m=>o=out/\m=bI 0 T:=by
    obtain⟨AJ,A1,O,J⟩:=rZ B0;obtain⟨B2,Ab⟩:=A8 _ _ _ _ _ O;refine⟨B2,?_⟩;rcases J with ⟨rfl,rfl⟩|⟨AL,rfl,rfl⟩
    .exact Ab
    .have Ac:(jz (b9 S.mem ρ (λk=>B.contains k) dO 0 ρ)).length=ρ.length:=by rw[nC,ll]
     have:=Ab.Kx (by rw[Ac];omega);rw[Ac]at this;exact this
   obtain⟨Ad,Ae⟩:=B1;simp only[WJ,Bool.or_eq_true,WV]at H;obtain⟨⟨BG,B3⟩,B4⟩:=H;rw[rY]at Ae;obtain⟨v1,v2,v3⟩:=xe (B:=B) A6.mem A_ Aa;have AQ:=A6.ag AK (by rw[AX]);rw[AX]at AQ;generalize Af:a.eval AK=BH at AQ;have B5:∃vs:Array Value,(execOp a.eval o).run X.P w=.ok (.enter g vs) w/\(eg g0 (bz S args.toList) D).length=vs.size/\∀(i:Nat) y v,(eg g0 (bz S args.toList) D)[i]?=some y->vs[i]?=some v->ai φ w (Fo G φ S.mem) y v:=by
    have Ag:∀(i:Nat) y v,(bz S args.toList)[i]?=some y->(args.map a.eval)[i]?=some v->ai φ w (Fo G φ S.mem) y v:=by
     intro i y v A' A0;rw[oM]at A';simp only[Array.getElem?_map,WH]at A0;obtain⟨z,Ah,rfl⟩:=A0;obtain⟨BI,Ai,rfl⟩:=WH.1 A';rw[Xp,Ah]at Ai;cases Ai;exact A6.ag z (nY Ax z (by simpa using Array.mem_of_getElem? Ah))
    have AM:(bz S args.toList).length=(args.map a.eval).size:=by rw[eO];simp
    have Aj:∀(l r:List AV)(AN AO:Array Value),l.length=AN.size->r.length=AO.size->(∀(i:Nat) y v,l[i]?=some y->AN[i]?=some v->ai φ w (Fo G φ S.mem) y v)->(∀(i:Nat) y v,r[i]?=some y->AO[i]?=some v->ai φ w (Fo G φ S.mem) y v)->
     ∀(i:Nat) y v,(l++r)[i]?=some y->(AN++AO)[i]?=some v->ai φ w (Fo G φ S.mem) y v:=by
     intro l r AN AO J W A7 B6 i y v A' A0;by_cases hi:i<l.length
     .rw[WN hi]at A';rw[Xm (by omega)]at A0;exact A7 i y v A' A0
     .rw[WT (by omega)]at A';rw[Array.getElem?_append_right (by omega),<-J]at A0;exact B6 _ y v A' A0
    cases AQ with
    |fn _ _ AR AL AC AS=>
     have A9:g0=g:=by rw[<-AY,Ky AL]
     subst A9;refine⟨args.map a.eval++AR,by simp[execOp,A5,resolve,Af,Deferred.ofValue,invoke,nB Ad],?_,?_⟩
     .rw[zI AL,WY,AM,AC,Array.size_append]
     .rw[zI AL];exact Aj _ _ _ _ AM AC Ag AS
    |lA f _ AR AC AS=>
     have A9:f=g:=by rw[<-AY,Kz]
     subst A9;refine⟨AR++args.map a.eval,by simp[execOp,A5,resolve,Af,Deferred.ofValue,invoke,nB Ad],?_,?_⟩
     .rw[zJ,WY,AM,AC,Array.size_append]
     .rw[zJ];exact Aj _ _ _ _ AC AM AS Ag
   obtain⟨vs,B7,B8,B9⟩:=B5
   .unfold Oper.wp;rw[B7];have BA:(dQ (mt.contains 1000) S.mem ρ B (eg g0 (bz S args.toList) D)).length=vs.size:=by
     rw[mb];exact B8
    have BB:∀(i:Nat) x v,(dQ (mt.contains 1000) S.mem ρ B (eg g0 (bz S args.toList) D))[i]?=some x->vs[i]?=some v->ai (φ.dY ρ dO) w (Fo (gC φ G S.mem ρ B) (φ.dY ρ dO) (bI 0 (b9 S.mem ρ (λk=>B.contains k) dO 0 ρ))) x v:=by
     intro i x v Y A0;rw[qd]at Y;obtain⟨y,A',rfl⟩:=WH.1 Y;exact (v2 y v (B9 i y v A' A0)).tp
    have BC:bY w (Fo (gC φ G S.mem ρ B) (φ.dY ρ dO) (bI 0 (b9 S.mem ρ (λk=>B.contains k) dO 0 ρ))) X.gl:=by
     rw[<-Ay];exact A6.fX.mono (λ_ _ _=>rfl) (Ds _) (λb _=>v3 b)
    refine (Ae (φ.dY ρ dO) (gC φ G S.mem ρ B) w _ v1 BC BA BB).mono ?_;rintro e w' ⟨BJ,m2,AH,⟨rfl,rfl⟩,BD,Z,q⟩;have AT:B=[]\/(plainO AH=true/\jj T=true):=B4.imp (by simp) id;obtain⟨φ',AA,V,Ak⟩:=xf (B:=B) A6.mem A_ Aa (fr:=List.range' (A3+1) (T.length-ρ.length)) List.nodup_range' (uj B3) BD Z (by simp;omega) (AT.imp id λAD=>qe AD.2);have Al:=A6.qU AA V;cases AH with
    |ret x=>
     cases e with
     |returned v=>exact Az _ rfl φ' w' v Al V (Ak x v (AT.imp id λAD=>AD.1) q)
     |_=>exact q.elim
    |panic t x=>
     cases e with
     |panicked chain=>
      obtain⟨v,rfl,Y⟩:=q;have:=Ak (.d x) v (AT.imp id λAD=>AD.1) (.d _ _ Y);cases this with
      |d _ _ BE=>exact B' t x rfl φ' w' v Al V BE
     |_=>exact q.elim
  .cases h
 .cases h
abbrev Is(e:XE)(A:St):XE->St->Prop:=λe' As=>e'=e/\As=A
def BD(P:Program)(S:St)(o:Oper)(e:XE)(A:St):Prop:=
 A.n=S.n/\A.gl=S.gl/\(e=.normal\/∃t x,e=.panic t x)/\∀φ G a w,Rel φ G S a w->∀(next:Act->World->Prop)(R:Exit->Act->World->Prop),
  (e=.normal->∀φ' A3 w',Rel φ' G A A3 w'->aB φ S.mem w φ' A.mem w'->next A3 w')->
  (∀t x,e=.panic t x->∀φ' A3 w' v,Rel φ' G A A3 w'->aB φ S.mem w φ' A.mem w'->ar w' (Fo G φ' A.mem) x v->R (.panic [{v:=.iface t v,recovered:=false}]) A3 w')->o.wp P a w next R
def gK(S:St)(d g x):(S.put d g x).gl=S.gl:=by cases d<;>rfl
section
variable {X:Ctx} {A0:aN} {S A:St} {o:Oper} {e:XE}
theorem sP{c:Bool}{x:AV}{gb:Bool}(A6:bx X.P S o=.val c x)(AA:(dt S o&&c)=true)(H:∀t,o.dst=some t->t<S.n):BD X.P S o .normal (S.put o.dst gb x):=by
 simp at AA;have:=zc X.P S o AA.1;rw[A6]at this;refine⟨hE ..,gK ..,.inl rfl,λφ G a w E next R A4 _=>?_⟩;exact F4 this AA.2 E H (λA3 w' AC AG=>A4 rfl φ A3 w' AC (by rw[cM];grind))
theorem BE{c:Bool}{x:AV}{A_:bn}(A6:bx X.P S o=.bo c x A_)(AA:(dt S o&&c)=true)(H:∀t,o.dst=some t->t<S.n):BD X.P S o .normal (({S with mem:=Mem.set S.mem A_}:St).put o.dst true x):=by
 simp at AA;have:=zc X.P S o AA.1;rw[A6]at this;refine⟨hE ..,gK ..,.inl rfl,λφ G a w E next R A4 _=>?_⟩;exact F5 this AA.2 E H (λφ' A3 w' AC AG=>A4 rfl φ' A3 w' AC (by rw[cM];grind))
theorem AT{m:Mem}{BJ:Nat}{g:FuncId}{BK:List AV}{mt:List Nat}{out:Out}{es:List bn}{ks:List Nat}(h:cm A0 m BJ g BK mt=some ⟨out,es,ks⟩):∀e∈es,e.key∈ks:=by
 unfold cm iK iJ cR at h;split at h
 .split at h
  .obtain⟨_,rfl,rfl⟩:=h;intro e he;obtain⟨j,v,c,AJ,rfl⟩:=n7.1 he;grind
  grind
 grind
mutual
theorem Eu:∀{x y:D},rS x y=true->x=y
 |x,y,h=>by
  unfold rS at h;split at h
  .simp only[WJ,WV]at h;obtain⟨rfl,rfl⟩:=h;rfl
  .rw[Xk h]
  .rw[Xk h]
  .rw[sQ h]
  .rw[sQ h]
  .rfl
  .cases h
theorem sQ:∀{x y:List D},p4 x y=true->x=y
 |x,y,h=>by
  unfold p4 at h;split at h
  .rfl
  .simp only[WJ]at h;rw[Eu h.1,sQ h.2]
  .cases h
end
theorem IA{x y:AV}(h:wv x y=true):x=y:=by
 unfold wv at h;split at h
 .rw[Eu h]
 .grind
 .grind
 grind
theorem zN:∀{x y:List AV},sJ x y=true->x=y
 |[],[],_=>rfl
 |[],_::_,h=>by cases h
 |_::_,[],h=>by cases h
 |a::r,b::s,h=>by
  simp[sJ]at h;rw[IA h.1,zN h.2]
theorem Ew{x y:ax}(h:rT x y=true):x=y:=by
 unfold rT at h;split at h
 .rw[zN h]
 .simp at h;rw[h.1,sQ h.2]
 grind
theorem zO:∀{m:Mem}{e:bn},Mem.get m e.key=some e->Mem.set m e=m
 |[],_,_=>rfl
 |x::r,e,h=>by
  simp[Mem.get]at h;simp[Mem.set];split at h
  .grind
  .rename_i Z;rw[WO Z,zO h]
theorem tA:∀{es:List bn}{m m':Mem}{ks:List Nat},k4 m es=true->(∀e∈es,e.key∈ks)->(∀k∈ks,Mem.get m' k=Mem.get m k)->aL m' es=m'
 |[],_,_,_,_,_,_=>rfl
 |e::r,m,m',ks,h,Z,hm=>by
  simp[k4]at h;have I:Mem.get m' e.key=some e:=by
   rw[hm _ (Z e (by simp))];obtain⟨h,_⟩:=h;cases M:Mem.get m e.key with
   |none=>rw[M]at h;cases h
   |some x=>
    rw[M]at h;simp[ye,WJ]at h;have J:=(Mem.get_mem M).2;obtain⟨k,v,c⟩:=x;simp only at h J;rw[h.1,Ew h.2,J]
  rw[aL,zO I];exact tA h.2 (λe he=>Z e (Xb _ he)) hm
theorem iy{args:List Operand}{A9:Bool×AV}{out:Out}{es:List bn}{ks:List Nat}(h:bf X A0 S o args A9=some ⟨out,es,ks⟩):∃g AL AQ,A9=(true,.fn g AL)/\eo S args=true/\
 cm A0 S.mem (keyOf o) (iV g) (eg g (bz S args) AL) (X.fp (iV g)).oF=some ⟨out,AQ,ks⟩/\(∀e∈es,e.key∈ks)/\∀m',(∀k∈ks,Mem.get m' k=Mem.get S.mem k)->aL m' AQ=aL m' es:=by
 unfold bf at h;split at h
 .rename_i g AL;split at h
  .rename_i AA;generalize (X.fp (iV g)).oF.contains 2000=b at h;cases A7:cm A0 S.mem (keyOf o) (iV g) (eg g (bz S args) AL) (X.fp (iV g)).oF with
   |none=>rw[A7]at h;cases b<;>cases h
   |some res=>
    obtain⟨Bj,AQ,Bk⟩:=res;have Z:=AT A7;rw[A7]at h;cases b with
    |false=>cases h;grind
    |true=>
     simp[p5]at h;cases A6:k4 S.mem AQ with
     |false=>rw[A6]at h;cases h;grind
     |true=>rw[A6]at h;cases h;exact⟨g,AL,AQ,rfl,AA,A7,by simp,λm' hm=>tA A6 Z hm⟩
  grind
 grind
theorem Gr(A5:eZ X A0){A9:Operand}{args:Array Operand}{AR:Array TypeId}(W:o.op=.call {callee:=.value A9,args,argTypes:=AR})(A1:S.gl=X.gl)(H:∀t,o.dst=some t->t<S.n)
 (h:rR S o.dst (bf X A0 S o args.toList (S.ag A9))=some (e,A)):BD X.P S o e A:=by
 cases AS:bf X A0 S o args.toList (S.ag A9)with
 |none=>rw[AS]at h;cases h
 |some res=>
  rw[AS]at h;obtain⟨out,es,ks⟩:=res;obtain⟨g,AL,AQ,At,AA,Af,_,AW⟩:=iy AS;have AW:=AW S.mem (λ_ _=>rfl);cases out with
  |ret x=>
   obtain⟨rfl,rfl⟩:=h;refine⟨hE ..,gK ..,.inl rfl,λφ G a w E next R A4 _=>?_⟩;refine oc A5 W At rfl AA Af A1 E (λAd J φ' w' v AC AG AH=>?_) (λt Ad J=>by cases J);cases J;rw[AW]at AC AG AH;exact A4 rfl φ' _ w' (AC.put o.dst H true x v (λ_=>AH)) (by rw[cM];grind)
  |panic t x=>
   obtain⟨rfl,rfl⟩:=h;refine⟨rfl,rfl,.inr ⟨t,x,rfl⟩,λφ G a w E next R _ AO=>?_⟩;refine oc A5 W At rfl AA Af A1 E (λAd J=>by cases J) (λBL Ad J φ' w' v AC AG AH=>?_);grind
theorem Ey{x:Operand}(W:o.op=.panic x)(h:uc S (S.ag x)=some (e,A)):BD X.P S o e A:=by
 cases J:S.ag x with
 |mk g y=>
  rw[J]at h;unfold uc at h;split at h
  .rename_i t d heq;cases heq;obtain⟨rfl,rfl⟩:=h;refine⟨rfl,rfl,.inr ⟨t,d,rfl⟩,λφ G a w E next R _ AO=>?_⟩;have AH:=E.ag x (by rw[J]);rw[J]at AH;generalize BM:a.eval x=u at AH;cases AH with
   |dJ _ _ v H=>
    have Ay:(execOp a.eval o).run X.P w=.halt (.panic (.iface t v)) w:=by
     simp[execOp,W,BM,Instr.panic]
    unfold Oper.wp;rw[Ay];exact AO t d rfl φ a w v E (aB.refl ..) H
  grind
theorem r0(A5:eZ X A0)(A1:S.gl=X.gl)(H:∀t,o.dst=some t->t<S.n)(h:dR X A0 S o (bx X.P S o)=some (e,A)):BD X.P S o e A:=by
 generalize A6:bx X.P S o=r at h;cases r with
 |val c x=>
  simp only[dR]at h;split at h
  .rename_i AA;cases h;exact sP A6 AA H
  grind
 |bo c x A_=>
  simp only[dR]at h;split at h
  .rename_i AA;cases h;exact BE A6 AA H
  grind
 |no=>
  simp[dR,lU]at h;split at h
  .rename_i A9 args AR W;exact Gr A5 W A1 H h
  .rename_i x W;exact Ey W h
  grind
def r5(P:Program)(all:List Oper)(S:St)(o:Oper)(e:XE)(A:St):Prop:=
 A.n=S.n/\A.gl=S.gl/\(e=.normal\/∃t x,e=.panic t x)/\∀φ G a w,Rel φ G S a w->∀(next:Act->World->Prop)(R:Exit->Act->World->Prop),
  (e=.normal->∀φ' A3 w',Rel φ' G A A3 w'->aB φ S.mem w φ' A.mem w'->next A3 w')->
  (∀t x,e=.panic t x->∀φ' A3 w' v,Rel φ' G A A3 w'->aB φ S.mem w φ' A.mem w'->ar w' (Fo G φ' A.mem) x v->R (.panic [{v:=.iface t v,recovered:=false}]) A3 w')->
  if Region.wanted o (yielded all.toArray a.tmps)then o.wp P a w next R else next (a.put o.dst undef) w
theorem sR{all:List Oper}(h:BD X.P S o e A)(hw:∀φ G a w,Rel φ G S a w->Region.wanted o (yielded all.toArray a.tmps)=true):r5 X.P all S o e A:=by
 obtain⟨I,O,AE,AK⟩:=h;refine⟨I,O,AE,λφ G a w E next R A4 AO=>?_⟩;grind
theorem r6{φ:aR}{w:World}{F:Nat->Prop}{x:AV}(J:x=.aC\/x=.bk []):ai φ w F x undef:=by
 rcases J with rfl|rfl
 .exact .aC _
 .exact .bk [] #[] rfl (λi c v h=>by grind)
theorem vC{all:List Oper}{j:Nat}{φ G a w}(h:Rel φ G S a w)(M:kc all S j=some (true,.bk [])):yielded all.toArray a.tmps j=none:=by
 unfold kc at M;split at M
 .rename_i o W;split at M
  .rename_i t AI;have I:=h.env t _ M;unfold yielded;simp[W,AI];rw[W4]at I;cases A2:a.tmps[t]? with
   |none=>rfl
   |some v=>
    rw[A2]at I;cases I;rfl
  grind
 grind
theorem zP{all:List Oper}{gb:Bool}{x:AV}(J:gb=true->x=.aC\/x=.bk [])(H:∀t,o.dst=some t->t<S.n)(hw:∀φ G a w,Rel φ G S a w->Region.wanted o (yielded all.toArray a.tmps)=false):r5 X.P all S o .normal (S.put o.dst gb x):=by
 refine⟨hE ..,gK ..,.inl rfl,λφ G a w E next R A4 _=>?_⟩;rw[WO (by grind)];exact A4 rfl φ _ w (E.put o.dst H gb x undef (λM=>r6 (J M))) (by rw[cM];exact aB.refl ..)
theorem xu{all:List Oper}{j:Nat}{AD t:Bool}(M:o.guard=some (j,AD))(A8:kc all S j=some (true,.d (.bool t))){φ G a w}(E:Rel φ G S a w):Region.wanted o (yielded all.toArray a.tmps)=(t == AD):=by
 have Au:=D8 E A8;simp[Region.wanted];grind
theorem um(S:St)(d b):(S.cz d b).n=S.n:=hE ..
theorem sS(S:St)(d b):(S.cz d b).gl=S.gl:=gK ..
theorem vD(S:St)(d b):(S.cz d b).mem=S.mem:=cM ..
theorem HU{all:List Oper}{S:St}{j:Nat}{t b:Bool}(A8:kc all S j=some (true,.d (.bool t)))(AM:t=b)(u:Nat):Env.lk (S.cz (gD all j) b).env u=Env.lk S.env u:=by
 unfold kc at A8;unfold St.cz gD;split at A8
 .rename_i BN AJ;split at A8
  .rename_i d H;simp[AJ,H,St.put,Env.lk];grind
  grind
 grind
theorem KC{all:List Oper}{S:St}{j:Nat}{t b:Bool}(A8:kc all S j=some (true,.d (.bool t)))(AM:t=b){φ G a w}(E:Rel φ G S a w):Rel φ G (S.cz (gD all j) b) a w:=
 Rel.eqv E ⟨(um ..).symm,(sS ..).symm,(vD ..).symm,λu=>(HU A8 AM u).symm⟩
theorem nD{all:List Oper}(A5:eZ X A0)(A1:S.gl=X.gl)(H:∀t,o.dst=some t->t<S.n){md:Bool}(h:iL X A0 md all S o=some (e,A)):r5 X.P all S o e A:=by
 unfold iL at h;split at h
 .rename_i M;exact sR (r0 A5 A1 H h) (λ_ _ _ _ _=>by simp[Region.wanted,M])
 .rename_i j AD M;split at h
  .rename_i t A8;replace A8:=zB A8;have hw:∀φ G a w,Rel φ G S a w->Region.wanted o (yielded all.toArray a.tmps)=(t == AD):=λφ G a w E=>xu M A8 E;have other:∀{r:br},bx X.P S o=r->(if (t == AD)=true then dR X A0 S o r else some (.normal,S.put o.dst true .aC))=some (e,A)->r5 X.P all S o e A:=by
    intro r A6 h;split at h
    .exact sR (r0 A5 A1 H (by grind)) (λφ G a w E=>by grind)
    .cases h;exact zP (λ_=>.inl rfl) H (λφ G a w E=>by grind)
   cases md with
   |true=>
    simp only at h;have B6:∀b,t=b->∀φ G a w,Rel φ G S a w->Rel φ G (S.cz (gD all j) b) a w:=λb AM φ G a w E=>KC A8 AM E;split at h
    .have Ae:t=AD:=by grind
     have:=r0 (S:=S.cz (gD all j) AD) A5 (by rw[sS];grind) (λt AI=>by rw[um];grind) h;obtain⟨I,O,AE,AK⟩:=this;refine sR ⟨by rw[I,um],by rw[O,sS],AE,λφ G a w E next R A4 AO=>?_⟩ (λφ G a w E=>by grind);have BO:=AK φ G a w (B6 AD Ae φ G a w E) next R
     rw[vD]at BO;grind
    .have Ae:t=!AD:=by cases t<;>cases AD<;>simp_all
     cases h;refine⟨by rw[hE,um],by rw[gK,sS],.inl rfl,λφ G a w E next R A4 _=>?_⟩;rw[WO (by grind)];exact A4 rfl φ _ w ((B6 _ Ae φ G a w E).put o.dst (λt AI=>by rw[um];grind) true (.bk []) undef (λ_=>r6 (.inr rfl))) (by rw[cM,vD];exact aB.refl ..)
   |false=>
   simp only at h;unfold jS at h;split at h
   .rename_i c x A6;split at h
    .rename_i A7;cases h;cases AM:(t == AD)
     .exact zP (by simp) H (λφ G a w E=>by grind)
     .exact sR (sP A6 (A7 AM) H) (λφ G a w E=>by grind)
    grind
   grind
  .rename_i A8;replace A8:=xq A8;cases h;exact zP (λ_=>.inr rfl) H (λφ G a w E=>by
    simp only[Region.wanted,M,vC E A8];grind)
  grind
theorem dG{r:Option (XE×St)}{k:St->Option (XE×St)}{y:XE×St}(h:andThen r k=some y):(∃S1,r=some (.normal,S1)/\k S1=some y)\/(r=some y/\y.1≠.normal):=by
 unfold andThen at h;grind
theorem aB.post{n:Nat}{φ φ':aR}{G:Fr}{m:Mem}{w w':World}{e:XE}{A:St}{A3:Act}(A4:A.n=n)(E:Rel φ' G A A3 w')(Z:aB φ m w φ' A.mem w')(he:e=.normal):iU n φ G m w (Is e A) .normal A3 w':=
 ⟨φ',A,A4,⟨he.symm,rfl⟩,E,Z⟩
theorem r7{md:Bool}{all:List Oper}(A5:eZ X A0):∀(ops:List Oper)(S:St)(e:XE)(A:St),eh X A0 md all ops S=some (e,A)->S.gl=X.gl->fB S.n ops=true->
 A.n=S.n/\A.gl=S.gl/\∀φ G a w,Rel φ G S a w->∀Q:Exit->Act->World->Prop,(∀e' A3 w',iU S.n φ G S.mem w (Is e A) e' A3 w'->Q e' A3 w')->wpList X.P all.toArray Q ops a w
 |[],S,e,A,h,A1,H=>by
  obtain⟨rfl,rfl⟩:=h;exact⟨rfl,rfl,λφ G a w E Q Ak=>Ak _ _ _ (aB.post rfl E (aB.refl ..) rfl)⟩
 |o::rest,S,e,A,h,A1,H=>by
  simp only[fB,X8,WJ]at H;obtain⟨Az,H⟩:=H;have AP:∀t,o.dst=some t->t<S.n:=λt AI=>by grind
  rcases dG h with ⟨S1,I,O⟩|⟨I,O⟩
  .obtain⟨Ag,Av,_,B'⟩:=nD A5 A1 AP I;obtain⟨BP,BQ,BR⟩:=r7 A5 rest S1 e A O (Av.trans A1) (by rw[Ag];exact H);refine⟨BP.trans Ag,BQ.trans Av,λφ G a w E Q Ak=>?_⟩;have:=B' φ G a w E (wpList X.P all.toArray Q rest) Q
    (λ_ φ' A3 w' AC AG=>BR φ' G A3 w' AC Q (λe' a2 BS AO=>Ak e' a2 BS (by rw[<-Ag];exact AO.weaken AG))) (λt x he=>by cases he)
   unfold wpList;grind
  .obtain⟨Ag,Av,Bl,B'⟩:=nD A5 A1 AP I;refine⟨Ag,Av,λφ G a w E Q Ak=>?_⟩;have:=B' φ G a w E (wpList X.P all.toArray Q rest) Q
    (λhe=>absurd he O) (λt x he φ' A3 w' v AC AG AH=>Ak _ _ _ ⟨φ',A,t,x,v,rfl,AH,Ag,⟨he.symm,rfl⟩,AC,AG⟩)
   unfold wpList;grind
theorem lW{all:List Oper}{ks:List Nat}{A S:St}(h:fR all o ks A S){x:Operand}(J:x∈o.op.operands.toList):A.ag x=S.ag x:=by
 cases x with
 |tmp t=>
  simp[St.ag];rw[h.env t (by simp[looks];grind)]
 |global g=>simp[St.ag,h.gl]
 |_=>rfl
theorem xw{all:List Oper}{ks:List Nat}{A S:St}(h:fR all o ks A S){j AD}(M:o.guard=some (j,AD)):Am.kc all A j=Am.kc all S j:=by
 unfold Am.kc;split
 .rename_i BN AJ;split
  .rename_i t AI;exact h.env t (by simp[looks,HL];grind)
  .rfl
 .rfl
theorem og{A S:St}:∀{l:List Operand},(∀x∈l,A.ag x=S.ag x)->eo A l=eo S l
 |[],_=>rfl
 |x::r,h=>by simp[eo,h x (by simp),og (l:=r) (λy Au=>h y (Xb _ Au))]
theorem oN{A S:St}:∀{l:List Operand},(∀x∈l,A.ag x=S.ag x)->bz A l=bz S l
 |[],_=>rfl
 |x::r,h=>by simp[bz,h x (by simp),oN (l:=r) (λy Au=>h y (Xb _ Au))]
theorem zQ{A S:St}(h:∀x∈o.op.operands.toList,A.ag x=S.ag x):dt A o=dt S o:=by
 unfold dt;split
 .rfl
 .exact og h
theorem xx{all:List Oper}{c:Bool}{x:AV}{gb:Bool}(H:∀t,o.dst=some t->t<S.n)(A6:bx X.P S o=.val c x)(AA:(dt S o&&c)=true)
 (hw:∀A,fR all o (eF S o) A S->∀φ G a w,Rel φ G A a w->Region.wanted o (yielded all.toArray a.tmps)=true):fS X.P all S o ⟨eF S o,[],gb,x⟩:=by
 intro A V φ G a w E next R A4
 rw[W2 (hw A V φ G a w E)];have J:∀x∈o.op.operands.toList,A.ag x=S.ag x:=λx J=>lW V J;have Al:bx X.P A o=.val c x:=by rw[xl J V.mem];exact A6
 obtain⟨_,_,_,AK⟩:=sP (gb:=gb) Al (by rw[zQ J];grind) (λt AI=>by rw[V.n];grind);exact AK φ G a w E next R (λ_ φ' A3 w' AC AG=>A4 φ' A3 w' AC AG) (λt x he=>by cases he)
theorem Ez{all:List Oper}{c:Bool}{x:AV}{A_:bn}(H:∀t,o.dst=some t->t<S.n)(A6:bx X.P S o=.bo c x A_)(AA:(dt S o&&c)=true)
 (hw:∀A,fR all o (eF S o) A S->∀φ G a w,Rel φ G A a w->Region.wanted o (yielded all.toArray a.tmps)=true):fS X.P all S o ⟨eF S o,[A_],true,x⟩:=by
 intro A V φ G a w E next R A4
 rw[W2 (hw A V φ G a w E)];have J:∀x∈o.op.operands.toList,A.ag x=S.ag x:=λx J=>lW V J;have Al:bx X.P A o=.bo c x A_:=by rw[xl J V.mem];exact A6
 obtain⟨_,_,_,AK⟩:=BE Al (by rw[zQ J];grind) (λt AI=>by rw[V.n];grind);exact AK φ G a w E next R (λ_ φ' A3 w' AC AG=>A4 φ' A3 w' AC AG) (λt x he=>by cases he)
theorem mB{all:List Oper}{ks:List Nat}{gb:Bool}{x:AV}(H:∀t,o.dst=some t->t<S.n)(J:gb=true->x=.aC\/x=.bk [])
 (hw:∀A,fR all o ks A S->∀φ G a w,Rel φ G A a w->Region.wanted o (yielded all.toArray a.tmps)=false):fS X.P all S o ⟨ks,[],gb,x⟩:=by
 intro A V φ G a w E next R A4
 rw[WO (by grind)];exact A4 φ _ w (E.put o.dst (λt AI=>by rw[V.n];grind) gb x undef (λM=>r6 (J M))) (by simp[aD.app,cM];exact aB.refl ..)
theorem CI{all:List Oper}(A5:eZ X A0)(A1:S.gl=X.gl)(H:∀t,o.dst=some t->t<S.n){A9:Operand}{args:Array Operand}{AR:Array TypeId}(W:o.op=.call {callee:=.value A9,args,argTypes:=AR})
 {x:AV} {es:List bn} {ks:List Nat} (h:bf X A0 S o args.toList (S.ag A9)=some ⟨.ret x,es,ks⟩)
 (hw:∀A,fR all o ks A S->∀φ G a w,Rel φ G A a w->Region.wanted o (yielded all.toArray a.tmps)=true):fS X.P all S o ⟨ks,es,true,x⟩:=by
 intro A V φ G a w E next R A4
 rw[W2 (hw A V φ G a w E)];have J:∀x∈o.op.operands.toList,A.ag x=S.ag x:=λx J=>lW V J;have An:∀x∈args.toList,A.ag x=S.ag x:=λx BT=>J x (by simp[Op.operands,Call.operands];grind);obtain⟨g,AL,AQ,At,AA,Af,_,AW⟩:=iy h;have AW:=AW A.mem (λk Z=>V.mem k Z);have B0:A.ag A9=(true,.fn g AL):=by rw[J A9 (by simp[W,Op.operands,Call.operands])];grind
 have B1:cm A0 A.mem (keyOf o) (iV g) (eg g (bz A args.toList) AL) (X.fp (iV g)).oF=some ⟨.ret x,AQ,ks⟩:=by
  rw[oN An];exact vB V.keys Af (λk Z=>V.mem k Z)
 refine oc A5 W B0 rfl (by rw[og An];grind) B1 (V.gl.trans A1) E (λAd Aw φ' w' v AC AG AH=>?_) (λt Ad Aw=>by grind);cases Aw;rw[AW]at AC AG AH;exact A4 φ' _ w' (AC.put o.dst (λt AI=>by rw[V.n];grind) true x v (λ_=>AH)) (by simp[aD.app,cM];grind)
theorem zS{all:List Oper}{S1:St}{p:aD}(A5:eZ X A0)(A1:S.gl=X.gl)(H:∀t,o.dst=some t->t<S.n){r:br}(A6:bx X.P S o=r)(h:cO X A0 S o r=some (S1,p))
 (hw:∀(ks:List Nat) A,fR all o ks A S->∀φ G a w,Rel φ G A a w->Region.wanted o (yielded all.toArray a.tmps)=true):S1=p.app o S/\(∀e∈p.es,e.key∈p.ks)/\fS X.P all S o p:=by
 cases r with
 |val c x=>
  simp only[cO]at h;split at h
  .rename_i AA;cases h;exact⟨rfl,by simp,xx H A6 AA (hw _)⟩
  grind
 |bo c x A_=>
  simp only[cO]at h;split at h
  .cases h;exact⟨rfl,by grind,Ez H A6 (by grind) (hw _)⟩
  grind
 |no=>
  simp[cO,jA]at h;split at h
  .rename_i A9 args AR W;cases AS:bf X A0 S o args.toList (S.ag A9)with
   |none=>rw[AS]at h;cases h
   |some res=>
    rw[AS]at h;obtain⟨out,es,ks⟩:=res;cases out with
    |panic=>cases h
    |ret x=>
     cases h;refine⟨rfl,?_,CI A5 A1 H W AS (hw _)⟩;obtain⟨_,_,_,_,_,_,Z,_⟩:=iy AS;exact Z
  grind
theorem dE.refl(S:St):dE S S:=⟨rfl,rfl,rfl,λ_=>rfl⟩
theorem dE.symm{S A:St}(h:dE S A):dE A S:=⟨h.n.symm,h.gl.symm,h.mem.symm,λt=>(h.env t).symm⟩
theorem dE.trans{S A As:St}(h:dE S A)(k:dE A As):dE S As:=⟨h.n.trans k.n,h.gl.trans k.gl,h.mem.trans k.mem,λt=>(h.env t).trans (k.env t)⟩
theorem dE.app{S A:St}(h:dE S A)(p:aD)(o:Oper):dE (p.app o S) (p.app o A):=
 ⟨by rw[n9,n9,h.n],by rw[lQ,lQ,h.gl],by simp[aD.app,cM,h.mem],λt=>by rw[nt,nt,h.env]⟩
theorem fR.eqv{all:List Oper}{ks:List Nat}{A S S0:St}(h:fR all o ks A S)(he:dE S S0):fR all o ks A S0:=
 ⟨h.n.trans he.n,h.gl.trans he.gl,by rw[h.keys,he.mem],λt AI=>(h.env t AI).trans (he.env t),λk Z=>by rw[h.mem k Z,he.mem]⟩
theorem fS.eqv{P:Program}{all:List Oper}{S S0:St}{p:aD}(h:fS P all S o p)(he:dE S S0):fS P all S0 o p:=λA V=>h A (V.eqv he.symm)
theorem mA.eqv{P:Program}{Aa:Mem->Prop}{all:List Oper}{S S0:St}{p:aD}(h:mA P Aa all S o p)(he:dE S S0):mA P Aa all S0 o p:=λA V=>h A (V.eqv he.symm)
theorem uo{P:Program}{Aa:Mem->Prop}{all ops:List Oper}{S S1:St}{ps:List aD}(h:Cert P Aa all ops S ps S1):∀{S0:St},dE S S0->∃AF,Cert P Aa all ops S0 ps AF/\dE S1 AF:=by
 induction h with
 |nil S=>exact λhe=>⟨_,.nil _,he⟩
 |cons o rest S p ps S1 Z Ah h E ih=>
  intro S0 he;obtain⟨AF,O,AE⟩:=ih (he.app p o);exact⟨AF,.cons o rest S0 p ps AF Z Ah (h.eqv he) O,AE⟩
theorem EB{all:List Oper}{S:St}{j:Nat}{t b:Bool}(A8:kc all S j=some (true,.d (.bool t)))(AM:t=b):dE (S.cz (gD all j) b) S:=
 ⟨um ..,sS ..,vD ..,λu=>HU A8 AM u⟩
theorem r8{md:Bool}{all:List Oper}{S1:St}{p:aD}(A5:eZ X A0)(A1:S.gl=X.gl)(H:∀t,o.dst=some t->t<S.n)(h:cv X A0 md all S o=some (S1,p)):dE S1 (p.app o S)/\(∀e∈p.es,e.key∈p.ks)/\fS X.P all S o p:=by
 have yes:∀{r:br},bx X.P S o=r->cO X A0 S o r=some (S1,p)->(∀(ks:List Nat) A,fR all o ks A S->∀φ G a w,Rel φ G A a w->Region.wanted o (yielded all.toArray a.tmps)=true)->dE S1 (p.app o S)/\(∀e∈p.es,e.key∈p.ks)/\fS X.P all S o p:=by
  intro r A6 h hw;obtain⟨I,O,AE⟩:=zS A5 A1 H A6 h hw;exact⟨by rw[I];exact dE.refl _,O,AE⟩
 unfold cv at h;split at h
 .rename_i M;exact yes rfl h (λ_ _ _ _ _ _ _ _=>by simp[Region.wanted,M])
 .rename_i j AD M;split at h
  .rename_i t A8;replace A8:=zB A8;have hw:∀(ks:List Nat) A,fR all o ks A S->∀φ G a w,Rel φ G A a w->Region.wanted o (yielded all.toArray a.tmps)=(t == AD):=
    λks A V φ G a w E=>xu M (by rw[xw V M];grind) E
   have other:∀{r:br},bx X.P S o=r->(if (t == AD)=true then cO X A0 S o r else some (S.put o.dst true .aC,⟨[],[],true,.aC⟩))=some (S1,p)->dE S1 (p.app o S)/\(∀e∈p.es,e.key∈p.ks)/\fS X.P all S o p:=by
    intro r A6 h;split at h
    .grind
    .cases h;exact⟨dE.refl _,by simp,mB H (λ_=>.inl rfl) (λA V φ G a w E=>by grind)⟩
   cases md with
   |true=>
    simp only at h;split at h
    .rename_i AM;have Ae:t=AD:=by grind
     have he:=EB A8 Ae;obtain⟨I,O,AE⟩:=zS (S:=S.cz (gD all j) AD) A5 (by rw[sS];grind) (λt AI=>by rw[um];grind) rfl h
      (λks A V φ G a w E=>by rw[hw ks A (V.eqv he) φ G a w E];exact AM)
     exact⟨by rw[I];exact he.app p o,O,AE.eqv he⟩
    .have Ae:t=!AD:=by cases t<;>cases AD<;>simp_all
     cases h;have he:=EB A8 Ae;exact⟨he.app ⟨[],[],true,.bk []⟩ o,by simp,mB H (λ_=>.inr rfl) (λA V φ G a w E=>by grind)⟩
   |false=>
   simp only at h;unfold lV at h;split at h
   .rename_i c x A6;split at h
    .rename_i A7;cases h;refine⟨dE.refl _,by simp,?_⟩;cases AM:(t == AD)
     .exact mB H (by simp) (λA V φ G a w E=>by grind)
     .exact xx H A6 (A7 AM) (λA V φ G a w E=>by grind)
    grind
   grind
  .rename_i A8;replace A8:=xq A8;cases h;exact⟨dE.refl _,by simp,mB H (λ_=>.inr rfl) (λA V φ G a w E=>by
    have:=vC E (by rw[xw V M];grind);simp[Region.wanted];grind)⟩
  grind
inductive fH(T:Nat->St->Oper->aD->Prop):Nat->List Oper->St->List aD->Prop
 |nil (i S):fH T i [] S []
 |cons (i o rest S p ps) (h:T i S o p) (E:fH T (i+1) rest (p.app o S) ps):fH T i (o::rest) S (p::ps)
theorem fH.eqv{T:Nat->St->Oper->aD->Prop}(Ao:∀i S S0 o p,dE S S0->T i S o p->T i S0 o p){i:Nat}{ops:List Oper}{S:St}{ps:List aD}(h:fH T i ops S ps):∀{S0:St},dE S S0->fH T i ops S0 ps:=by
 induction h with
 |nil i S=>exact λ_=>.nil _ _
 |cons i o rest S p ps h E ih=>exact λhe=>.cons _ _ _ _ _ _ (Ao _ _ _ _ _ he h) (ih (he.app p o))
theorem fH.mono{T B7:Nat->St->Oper->aD->Prop}{i:Nat}{ops:List Oper}{S:St}{ps:List aD}(h:fH T i ops S ps):(∀k S o p,i<=k->T k S o p->B7 k S o p)->fH B7 i ops S ps:=by
 induction h with
 |nil i S=>exact λ_=>.nil _ _
 |cons i o rest S p ps h E ih=>exact λZ=>.cons _ _ _ _ _ _ (Z _ _ _ _ (Ds _) h) (ih λk S o p hi=>Z k S o p (by omega))
theorem fH.len{T:Nat->St->Oper->aD->Prop}{i:Nat}{ops:List Oper}{S:St}{ps:List aD}(h:fH T i ops S ps):ps.length=ops.length:=by
 induction h with
 |nil i S=>rfl
 |cons i o rest S p ps h E ih=>grind
theorem fH.at{T:Nat->St->Oper->aD->Prop}{all:List Oper}{ps:List aD}{i:Nat}{rest:List Oper}{S0 S:St}{AN:List aD}(h:fH T i rest S AN):∀(pre:List Oper)(pp:List aD),pre.length=i->pre.length=pp.length->all=pre++rest->ps=pp++AN->aw all ps S0 (List.range pre.length)=S->
 ∀j o p,pre.length<=j->all[j]?=some o->ps[j]?=some p->T j (aw all ps S0 (List.range j)) o p:=by
 induction h with
 |nil i S=>
  grind
 |cons i o rest S p AN Ao E ih=>
  intro pre pp hi AX V Bm BU j B8 BV AJ BW BX;have Ai:all[pre.length]?=some o:=by grind
  have B9:ps[pre.length]?=some p:=by simp_all
  rcases Nat.eq_or_lt_of_le AJ with rfl|AJ
  .grind
  .exact ih (pre++[o]) (pp++[p]) (by simp[hi]) (by simp[AX]) (by grind) (by grind) (by
    rw[WY,Xo,List.range_succ,l8,BU];simp[aw,Ai,B9]) j B8 BV (by grind) BW BX
theorem sH.eqv{P:Program}{all:List Oper}{S S0:St}{p:aD}{t:TypeId}{x:D}(h:sH P all S o p t x)(he:dE S S0):sH P all S0 o p t x:=λA V=>h A (V.eqv he.symm)
def TT(P:Program)(all:List Oper)(j:Nat)(Ab:List Nat)(t:TypeId)(x:D)(N:Nat)(S1:St)(i:Nat)(S:St)(o:Oper)(p:aD):Prop:=
 (∀e∈p.es,e.key∈p.ks)/\(i≠j->(i<j\/Ab.contains i=true)->fS P all S o p)/\(i=j->sH P all S o p t x/\S1.n=S.n/\S1.gl=S.gl/\S1.mem=fG N (aL S.mem p.es))
theorem TT.eqv{P:Program}{all:List Oper}{j:Nat}{Ab:List Nat}{t:TypeId}{x:D}{N:Nat}{S1:St}(i:Nat)(S S0:St)(o:Oper)(p:aD)(he:dE S S0)(h:TT P all j Ab t x N S1 i S o p):TT P all j Ab t x N S1 i S0 o p:=
 ⟨h.1,λa b=>(h.2.1 a b).eqv he,λa=>⟨(h.2.2 a).1.eqv he,(h.2.2 a).2.1.trans he.n,(h.2.2 a).2.2.1.trans he.gl,by rw[<-he.mem];exact (h.2.2 a).2.2.2⟩⟩
theorem KD{X:Ctx}:eZ X (λ_ _ _=>none):=λg args cs out l h=>by cases h
theorem r9{md:Bool}{all:List Oper}{Ab:List Nat}:∀(ops:List Oper)(i:Nat)(S:St)(A' AN:List aD),l9 X md all Ab i ops S A'=some AN->S.gl=X.gl->fB S.n ops=true->
 ∃ps,AN=A'.reverse++ps/\fH (λi S o p=>(∀e∈p.es,e.key∈p.ks)/\(Ab.contains i=true->fS X.P all S o p)) i ops S ps
 |[],i,S,A',AN,h,A1,H=>by
  simp[l9]at h;exact⟨[],by simp[h],.nil _ _⟩
 |o::rest,i,S,A',AN,h,A1,H=>by
  simp only[fB,X8,WJ]at H;obtain⟨Az,H⟩:=H;have AP:∀t,o.dst=some t->t<S.n:=λt AI=>by grind
  simp only[l9]at h;cases AJ:Ab.contains i with
  |true=>
   rw[AJ]at h;cases M:cv X (λ_ _ _=>none) md all S o with
   |none=>grind
   |some q=>
    obtain⟨AF,p⟩:=q;rw[M]at h;obtain⟨heq,Aj,AY⟩:=r8 KD A1 AP M;obtain⟨ps,I,O⟩:=r9 rest (i+1) AF (p::A') AN h (by rw[heq.gl,lQ];grind) (by rw[heq.n,n9];exact H);exact⟨p::ps,by grind,.cons _ _ _ _ _ _ ⟨Aj,λ_=>AY⟩ (O.eqv (λ_ _ _ _ _ he h=>⟨h.1,λa=>(h.2 a).eqv he⟩) heq)⟩
  |false=>
   rw[AJ]at h;obtain⟨ps,I,O⟩:=r9 rest (i+1) (S.put o.dst false .aC) _ AN h (by rw[gK];grind) (by rw[hE];exact H);exact⟨⟨[],[],false,.aC⟩::ps,by grind,.cons _ _ _ _ _ _ ⟨by simp,λhh=>by grind⟩ O⟩
theorem xy{q:zC}(h:gm X A0 S o=some q):o.guard=none/\bx X.P S o=.no/\∃A9 args AR,o.op=.call {callee:=.value A9,args,argTypes:=AR}/\bf X A0 S o args.toList (S.ag A9)=some ⟨.panic q.t q.x,q.es,q.ks⟩/\q.S={S with mem:=aL S.mem q.es}:=by
 unfold gm at h;split at h
 .unfold ud at h;split at h
  .unfold zD at h;split at h
   .unfold oH at h;grind
   grind
  grind
 grind
theorem zT{args:List Operand}{A9:Bool×AV}{out:Out}{es:List bn}{ks:List Nat}(AS:bf X A0 S o args A9=some ⟨out,es,ks⟩):∀e∈es,e.key∈ks:=by
 obtain⟨_,_,_,_,_,_,Z,_⟩:=iy AS;exact Z
theorem CJ{all:List Oper}(A5:eZ X A0)(A1:S.gl=X.gl){A9:Operand}{args:Array Operand}{AR:Array TypeId}(M:o.guard=none)(W:o.op=.call {callee:=.value A9,args,argTypes:=AR})
 {t:TypeId} {x:D} {es:List bn} {ks:List Nat} (h:bf X A0 S o args.toList (S.ag A9)=some ⟨.panic t x,es,ks⟩):sH X.P all S o ⟨ks,es,true,.aC⟩ t x:=by
 intro A V φ G a w E next R A4
 rw[W2 (by simp[Region.wanted,M])];have J:∀x∈o.op.operands.toList,A.ag x=S.ag x:=λx J=>lW V J;have An:∀x∈args.toList,A.ag x=S.ag x:=λx BT=>J x (by simp[Op.operands,Call.operands];grind);obtain⟨g,AL,AQ,At,AA,Af,_,AW⟩:=iy h;have AW:=AW A.mem (λk Z=>V.mem k Z);have B0:A.ag A9=(true,.fn g AL):=by rw[J A9 (by simp[W,Op.operands,Call.operands])];grind
 have B1:cm A0 A.mem (keyOf o) (iV g) (eg g (bz A args.toList) AL) (X.fp (iV g)).oF=some ⟨.panic t x,AQ,ks⟩:=by
  rw[oN An];exact vB V.keys Af (λk Z=>V.mem k Z)
 refine oc A5 W B0 rfl (by rw[og An];grind) B1 (V.gl.trans A1) E (λAd Aw=>by grind) (λBL Ad Aw φ' w' v AC AG AH=>?_);grind
theorem tC{md:Bool}{AB:Nat×List (List Nat)}{all:List Oper}(A5:eZ X A0):∀(ops:List Oper)(S:St)(A':List aD)(e:XE)(S1:St),dS X A0 md AB all ops S A'=some (e,S1)->S.gl=X.gl->fB S.n ops=true->
 (e=.normal/\∃ps AF,Cert X.P (λ_=>True) all ops S ps AF/\dE S1 AF/\jI AB.2 (A'.reverse++ps)=true)\/
 (∃t x j ps,e=.panic t x/\A'.length<=j/\j<A'.length+ops.length/\fH (TT X.P all j (AB.2.getD j []) t x (AB.1+c7 (A'.reverse++ps)+1) S1) A'.length ops S ps/\jI AB.2 (A'.reverse++ps)=true/\rM (A'.reverse++ps) (AB.2.getD j [])=true/\S1.env=[])
 |[],S,A',e,S1,h,A1,H=>by
  simp only[dS]at h;split at h
  .cases h;exact .inl ⟨rfl,[],S,.nil S,dE.refl _,by grind⟩
  grind
 |o::rest,S,A',e,S1,h,A1,H=>by
  simp only[fB,X8,WJ]at H;obtain⟨Az,H⟩:=H;have AP:∀t,o.dst=some t->t<S.n:=λt AI=>by grind
  simp[dS]at h;cases AO:gm X A0 S o with
  |some q=>
   right;rw[AO]at h;simp only[iW,CF]at h;obtain⟨M,A6,A9,args,AR,W,A7,BA⟩:=xy AO;obtain⟨Bn,t,x,es,ks⟩:=q;simp only at A7 BA h;subst BA;cases B2:l9 X md all (AB.2.getD A'.length []) (A'.length+1) rest (({S with mem:=aL S.mem es}:St).put o.dst true .aC) (⟨ks,es,true,.aC⟩::A')with
   |none=>rw[B2]at h;cases h
   |some AN=>
    rw[B2]at h;simp only[CE]at h;split at h
    .rename_i Ax;simp at Ax;obtain⟨rfl,rfl⟩:XE.panic t x=e/\St.kill {S with mem:=aL S.mem es} (AB.1+c7 AN+1)=S1:=by grind
     obtain⟨ps,rfl,BY⟩:=r9 rest (A'.length+1) _ _ _ B2 (by rw[gK];grind) (by rw[hE];exact H);have Ai:(⟨ks,es,true,.aC⟩::A':List aD).reverse++ps=A'.reverse++(⟨ks,es,true,.aC⟩::ps):=by simp
     rw[Ai]at Ax⊢;refine⟨t,x,A'.length,⟨ks,es,true,.aC⟩::ps,rfl,Ds _,by simp,.cons _ _ _ _ _ _ ⟨zT A7,λhh=>absurd rfl hh,λ_=>⟨CJ A5 A1 M W A7,rfl,rfl,rfl⟩⟩ (BY.mono λk S o p Z Ao=>?_),Ax.1,Ax.2,rfl⟩;exact⟨Ao.1,λ_ hh=>Ao.2 (hh.resolve_left (by omega)),λhh=>by omega⟩
    grind
  |none=>
   rw[AO]at h;simp[iW]at h;cases M:cv X A0 md all S o with
   |none=>rw[M]at h;cases h
   |some q=>
    obtain⟨AF,p⟩:=q;rw[M]at h;obtain⟨heq,Aj,AY⟩:=r8 A5 A1 AP M;rcases tC A5 rest AF (p::A') e S1 h (by rw[heq.gl,lQ];grind) (by rw[heq.n,n9];exact H)with ⟨he,ps,B3,A7,B4,Ap⟩|⟨t,x,j,ps,he,BZ,B_,A7,Ap,BB,Ba⟩
    .left;obtain⟨Ac,Aq,Ar⟩:=uo A7 heq;exact⟨he,p::ps,Ac,.cons o rest S p ps Ac Aj (λ_ _=>trivial) AY.toI Aq,B4.trans Ar,by grind⟩
    .right;have Ai:(p::A').reverse++ps=A'.reverse++(p::ps):=by simp
     rw[Ai]at Ap BB A7;simp at BZ B_ A7;exact⟨t,x,j,p::ps,he,by omega,by grind,.cons _ _ _ _ _ _ ⟨Aj,λ_ _=>AY,λhh=>by omega⟩ (A7.eqv TT.eqv heq),Ap,BB,Ba⟩
def cellOf:Bool->ax->Nat->Option AV
 |false,.box cs,j=>cs[j]?
 |true,.vv rows (some x),j=>if rows.length=j then some x else none
 |_,_,_=>none
def mc(Y:List Cl)(m:Mem):Prop:=∀q∈Y,∃c,Mem.get m q.k=some ⟨q.k,q.v,c⟩/\cellOf q.vv c q.j=some q.x
theorem CK{c:ax}{j:Nat}{x:AV}(h:cellOf false c j=some x):∃cs,c=.box cs/\cs[j]?=some x:=by
 cases c with
 |box cs=>exact⟨cs,rfl,h⟩
 |dead=>cases h
 |vec _ _=>cases h
 |vv _ _=>cases h
 |buf _ _=>cases h
 |eP _ _=>cases h
theorem EE{c:ax}{j:Nat}{x:AV}(h:cellOf true c j=some x):∃rows,c=.vv rows (some x)/\rows.length=j:=by
 cases c with
 |box cs=>cases h
 |dead=>cases h
 |vec _ _=>cases h
 |buf _ _=>cases h
 |eP _ _=>cases h
 |vv rows y=>
  cases y with
  |none=>cases h
  |some y=>
   simp[cellOf]at h;grind
theorem EF:∀{x y:AV},HO x y=true->x=y:=by
 intro x y h;unfold HO at h;grind
theorem qf{m:Mem}:∀{fl:List (Nat×Nat)}{Y:List Cl},dk m fl=some Y->mc Y m
 |[],Y,h=>by simp[dk]at h;exact λq A2=>by grind
 |(k,j)::r,Y,h=>by
  unfold dk at h;split at h
  .rename_i key v cs l M AX;split at h
   .rename_i x J;cases h;have Z:key=k:=(Mem.get_mem M).2;subst Z;intro q A2;rcases WK.1 A2 with rfl|A2
    .exact⟨.box cs,M,J⟩
    .exact qf AX q A2
   grind
  .rename_i key v rows x l M AX;cases h;have Z:key=k:=(Mem.get_mem M).2;subst Z;intro q A2;rcases WK.1 A2 with rfl|A2
   .exact⟨.vv rows (some x),M,by simp[cellOf]⟩
   .exact qf AX q A2
  grind
theorem Gt{q:Cl}{v:Nat}{c:ax}(h:Kw q v c=true):v=q.v/\cellOf q.vv c q.j=some q.x:=by
 unfold Kw at h;split at h
 .simp at h;obtain⟨⟨I,O⟩,AE⟩:=h;refine⟨O,?_⟩;rw[I];simp[cellOf];unfold Ok at AE;split at AE
  .rename_i x J;rw[J,EF AE]
  grind
 .simp at h;obtain⟨⟨⟨I,O⟩,AE⟩,AK⟩:=h;refine⟨O,?_⟩;rw[I];simp[cellOf,AE,EF AK]
 grind
theorem zV{e:bn}:∀{Y:List Cl},CG e Y=true->∀q∈Y,e.key=q.k->∃c,e=⟨q.k,q.v,c⟩/\cellOf q.vv c q.j=some q.x
 |[],_,q,A2,_=>by grind
 |p::r,h,q,A2,Z=>by
  simp[CG]at h;rcases WK.1 A2 with rfl|A2
  .have I:=h.1;simp[Z]at I;obtain⟨key,U,cont⟩:=e;obtain⟨rfl,O⟩:=Gt I;grind
  .exact zV h.2 q A2 Z
theorem xz{Y:List Cl}:∀{es:List bn},vr Y es=true->∀m,mc Y m->mc Y (aL m es)
 |[],_,m,hm=>hm
 |e::r,h,m,hm=>by
  simp[vr]at h;refine xz h.2 _ (λq A2=>?_);obtain⟨cs,I,O⟩:=hm q A2;by_cases Z:e.key=q.k
  .obtain⟨Bb,he,J⟩:=zV h.1 q A2 Z;refine⟨Bb,?_,J⟩;have Bc:e.key∈m.map (·.key):=by
    obtain⟨AE,AK⟩:=Mem.get_mem I;grind
   rw[<-Z,Mem.get_set_same Bc,he]
  .exact⟨cs,by rw[Mem.j2 Z];exact I,O⟩
theorem sa{b:Bool}{k v j:Nat}{x:AV}:∀{Y:List Cl},sK b k v j Y=some x->∃q∈Y,q.vv=b/\q.k=k/\q.v=v/\q.j=j/\q.x=x
 |[],h=>by simp[sK]at h
 |q::r,h=>by
  unfold sK at h;split at h
  .grind
  .obtain⟨Bd,I,O⟩:=sa h;grind
theorem qg{b:Bool}{k v:Nat}:∀{Y:List Cl},ue b k v Y=true->∃q∈Y,q.vv=b/\q.k=k/\q.v=v
 |[],h=>by simp[ue]at h
 |q::r,h=>by
  unfold ue at h;split at h
  .grind
  .obtain⟨Bd,I,O⟩:=qg h;grind
theorem wz{Y:List Cl}{m:Mem}(hm:mc Y m){q:Cl}(A2:q∈Y)(AH:q.vv=false):∃cs,Mem.get m q.k=some ⟨q.k,q.v,.box cs⟩/\cs[q.j]?=some q.x:=by
 obtain⟨c,I,O⟩:=hm q A2;rw[AH]at O;obtain⟨cs,rfl,AE⟩:=CK O;grind
theorem EG{Y:List Cl}{m:Mem}(hm:mc Y m){q:Cl}(A2:q∈Y)(AH:q.vv=true):∃rows,Mem.get m q.k=some ⟨q.k,q.v,.vv rows (some q.x)⟩/\rows.length=q.j:=by
 obtain⟨c,I,O⟩:=hm q A2;rw[AH]at O;obtain⟨cs,rfl,AE⟩:=EE O;grind
theorem Gu{P:Program}{Y:List Cl}{S:St}{x:AV}(h:sL P Y S o.op=some x)(hm:mc Y S.mem):∃c,bx P S o=.val c x/\(dt S o&&c)=true:=by
 unfold sL at h;split at h
 .rename_i t y W;unfold HP at h;split at h
  .rename_i k v off heq;split at h
   .obtain⟨q,A2,AZ,rfl,rfl,rfl,rfl⟩:=sa h;obtain⟨cs,I,O⟩:=wz hm A2 AZ;refine⟨true,?_,by simp[dt,W,eo,Op.operands,heq]⟩;unfold bx;simp[gV];grind
   grind
  .rename_i k v i j heq;split at h
   .rename_i Bo Bp AJ;obtain⟨q,A2,AZ,rfl,rfl,rfl,rfl⟩:=sa h;obtain⟨rows,I,O⟩:=EG hm A2 AZ;refine⟨true,?_,by simp[dt,W,eo,Op.operands,heq]⟩;unfold bx;simp[gV];grind
   grind
  grind
 .rename_i s y f W;unfold HQ at h;split at h
  .rename_i n k v off A4 heq;split at h
   .rename_i A7;cases h;obtain⟨q,A2,AZ,rfl,rfl⟩:=qg A7;obtain⟨cs,I,O⟩:=wz hm A2 AZ;refine⟨true,?_,by simp[dt,W,eo,Op.operands,heq]⟩;unfold bx;rw[W];simp[heq,jO,A4,I]
   grind
  grind
 .rename_i y W;unfold HR at h;split at h
  .rename_i k v off heq;split at h
   .rename_i A7;cases h;obtain⟨q,A2,AZ,rfl,rfl⟩:=qg A7;obtain⟨cs,I,O⟩:=wz hm A2 AZ;refine⟨true,?_,by simp[dt,W,eo,Op.operands,heq]⟩;unfold bx;rw[W];simp[heq,eL,I]
   grind
  grind
 .rename_i t y z W;unfold HS at h;split at h
  .rename_i e k v off len Bq n Be heq BC;split at h
   .rename_i BF A7 BG BH;cases h;simp at BF BG BH;obtain⟨q,A2,AZ,rfl,rfl⟩:=qg A7;obtain⟨rows,I,O⟩:=EG hm A2 AZ;refine⟨true,?_,by simp[dt,W,eo,Op.operands,heq,BC]⟩;unfold bx;rw[W];simp[heq,BC,il,Be,BF,I,BG,BH]
   grind
  grind
 grind
theorem EH{P:Program}{Y:List Cl}{A S:St}(h:∀x∈o.op.operands.toList,A.ag x=S.ag x):sL P Y A o.op=sL P Y S o.op:=by
 unfold sL;split
 .rename_i t y W;rw[h y (by simp[W,Op.operands])]
 .rename_i s y f W;rw[h y (by simp[W,Op.operands])]
 .rename_i y W;rw[h y (by simp[W,Op.operands])]
 .rename_i t y z W;rw[h y (by simp[W,Op.operands]),h z (by simp[W,Op.operands])]
 .rfl
theorem CL{all:List Oper}{Y:List Cl}{x:AV}(H:∀t,o.dst=some t->t<S.n)(h:sM X.P Y S o=some x):mA X.P (mc Y) all S o ⟨[],[],true,x⟩:=by
 intro A V Ah φ G a w E next R A4
 unfold sM at h;split at h
 .rename_i M;rw[W2 (by simp[Region.wanted,M])];have J:∀x∈o.op.operands.toList,A.ag x=S.ag x:=λx J=>lW V J;obtain⟨c,Al,AA⟩:=Gu (by rw[EH J];exact h) Ah;obtain⟨_,_,_,AK⟩:=sP (gb:=true) Al AA (λt AI=>by rw[V.n];grind);exact AK φ G a w E next R (λ_ φ' A3 w' AC AG=>A4 φ' A3 w' AC AG) (λt x he=>by cases he)
 grind
theorem AU{l:List Nat}{r:List Oper}(h:pk l r=true):l=[]/\r=[]:=by
 cases l<;>cases r<;>simp_all [pk]
theorem Gv{all:List Oper}{AB:List (List Nat)}{ps:List aD}(A6:tZ all AB=true)(AX:ps.length+1=all.length)(A4:AB.getD (all.length-1) []=[])(H:jI AB ps=true):kj all (ps++[xo])=true:=by
 refine W7.2 λj AJ=>?_;have I:=W7.1 A6 j AJ;have Br:j<all.length:=W5.1 AJ;unfold rJ at I;unfold yd;have Bf:(ps++[xo])[j]?=some ((ps++[xo])[j]'(by grind)):=by grind
 rw[Bf];cases W:all[j]? with
 |none=>grind
 |some o=>
  rw[W]at I;simp at I⊢;refine⟨I.1,λi hi=>?_⟩;by_cases Bs:j+1=all.length
  .grind
  .rcases I.2 i hi with O|O
   .grind
   .have BI:j<ps.length:=by omega
    cases Bg:all[i]? with
    |none=>grind
    |some B8=>
     rw[Bg]at O;simp at O;simp[rG];have Ai:=pZ (kY H i _ (Xh (show i<ps.length by omega))) j (by grind) _ (Xh BI);have B9:=pZ (kY H j _ (Xh BI)) i (by grind) _ (Xh (show i<ps.length by omega));have Bh:=O.1;simp[tY]at Bh;grind
def EI(P:Program)(Aa:Mem->Prop)(AB:List (List Nat))(all ops:List Oper)(S:St)(A':List aD)(e:XE)(S1:St):Prop:=
 (e=.normal/\∃ps AF,Cert P Aa all ops S ps AF/\dE S1 AF/\jI AB (A'.reverse++ps)=true)\/
  (∃init ol ps AF,ops=init++[ol]/\Cert P Aa all init S ps AF/\AB.getD (all.length-1) []=[]/\jI AB (A'.reverse++ps)=true/\r5 P all AF ol e S1)
theorem r5.eqv{P:Program}{all:List Oper}{S S0 S1:St}{e:XE}(h:r5 P all S o e S1)(he:dE S S0):r5 P all S0 o e S1:=by
 obtain⟨I,O,AE,AK⟩:=h;refine⟨I.trans he.n,O.trans he.gl,AE,λφ G a w E next R A4 AO=>?_⟩;have:=AK φ G a w (E.eqv he.symm) next R
 rw[he.mem]at this;grind
theorem xA{md:Bool}{AB:List (List Nat)}{Y:List Cl}{all:List Oper}(A5:eZ X A0):∀(ops:List Oper)(S:St)(A':List aD)(e:XE)(S1:St),A'.length+ops.length=all.length->k5 X A0 md AB Y all ops S A'=some (e,S1)->S.gl=X.gl->fB S.n ops=true->
 EI X.P (mc Y) AB all ops S A' e S1
 |[],S,A',e,S1,_,h,A1,H=>by
  simp only[k5]at h;split at h
  .cases h;exact .inl ⟨rfl,[],S,.nil S,dE.refl _,by grind⟩
  grind
 |o::rest,S,A',e,S1,Bt,h,A1,H=>by
  simp only[fB,X8,WJ]at H;obtain⟨Az,H⟩:=H;have AP:∀t,o.dst=some t->t<S.n:=λt AI=>by grind
  simp only[k5]at h;cases B5:pk (AB.getD A'.length []) rest with
  |true=>
   rw[B5]at h;simp only[CH]at h;obtain⟨Bu,rfl⟩:=AU B5;split at h
   .right;refine⟨[],o,[],S,rfl,.nil S,?_,by grind,?_⟩
    .grind
    .rcases dG h with ⟨B3,I,O⟩|⟨I,O⟩
     .cases O;exact nD A5 A1 AP I
     .exact nD A5 A1 AP I
   grind
  |false=>
  rw[B5]at h;have glue:∀(p:aD)(A:St),(∀e∈p.es,e.key∈p.ks)->(∀m,mc Y m->mc Y (aL m p.es))->mA X.P (mc Y) all S o p->dE A (p.app o S)->k5 X A0 md AB Y all rest A (p::A')=some (e,S1)->EI X.P (mc Y) AB all (o::rest) S A' e S1:=by
   intro p A Z Ah AY heq Ay;rcases xA A5 rest A (p::A') e S1 (by grind) Ay (by rw[heq.gl,lQ];grind) (by rw[heq.n,n9];exact H)with ⟨he,ps,B3,A7,B4,Ap⟩|⟨init,ol,ps,B3,E,A7,A4,Ap,Bi⟩
   .obtain⟨Ac,Aq,Ar⟩:=uo A7 heq;exact .inl ⟨he,p::ps,Ac,.cons o rest S p ps Ac Z Ah AY Aq,B4.trans Ar,by grind⟩
   .obtain⟨Ac,Aq,Ar⟩:=uo A7 heq;exact .inr ⟨o::init,ol,p::ps,Ac,by grind,.cons o init S p ps Ac Z Ah AY Aq,A4,by grind,Bi.eqv Ar⟩
  cases AX:sM X.P Y S o with
  |some x=>
   rw[AX]at h;exact glue ⟨[],[],true,x⟩ _ (by simp) (λ_ h=>h) (CL (X:=X) (all:=all) AP AX) (dE.refl _) h
  |none=>
   rw[AX]at h;simp[yg]at h;cases M:cv X A0 md all S o with
   |none=>rw[M]at h;cases h
   |some q=>
    obtain⟨AF,p⟩:=q;rw[M]at h;simp[Gn]at h;split at h
    .rename_i hinv;obtain⟨heq,Aj,AY⟩:=r8 A5 A1 AP M;exact glue p AF Aj (xz hinv) AY.toI heq h
    .cases h
end
def aI.Gw{φ:aR}{G:Fr}{m:Mem}{w:World}(h:aI φ G m w){E H e1' e2':bn}(A2:E∈m)(A3:H∈m)(AJ:E.key≠H.key){Y Z L1' L2':Loc}(A4:φ E.key=some Y)(A5:φ H.key=some Z)
 (q:e1'.key=E.key) (A':e2'.key=H.key) (AK:Y.U<=L1'.U) (AL:Z.U<=L2'.U) (AM:L1'.U=Y.U->L1'={Y with bL:=L1'.bL}) (AN:L2'.U=Z.U->L2'={Z with bL:=L2'.bL})
 (AO:L1'.U=e1'.U) (AP:L2'.U=e2'.U) (A6:∀b,e1'.cont.bg L1' b->E.cont.bg Y b\/H.cont.bg Z b) (A7:∀b,e2'.cont.bg L2' b->E.cont.bg Y b\/H.cont.bg Z b)
 (AE:∀b,e1'.cont.bg L1' b->e2'.cont.bg L2' b->False)
 (AQ:∀(φ':aR)(F':Nat->Prop),φ.le φ'->φ' E.key=some L1'->φ' H.key=some L2'->(∀b,F' b->Fo G φ m b)->bw φ' w F' L1' e1'.cont/\bw φ' w F' L2' e2'.cont):
 ∃φ',aI φ' G (Mem.set (Mem.set m e1') e2') w/\aB φ m w φ' (Mem.set (Mem.set m e1') e2') w:=by
 obtain⟨m',A8⟩:∃m',m'=Mem.set (Mem.set m e1') e2':=⟨_,rfl⟩;rw[<-A8];have AR:((Mem.set m e1').map (·.key)).Nodup:=by rw[Mem.dy];exact h.nodup
 have AF:m'.map (·.key)=m.map (·.key):=by rw[A8,Mem.dy,Mem.dy]
 have A0:∀y,y∈m'->y=e2'\/y=e1'\/(y∈m/\y.key≠E.key/\y.key≠H.key):=by
  intro y V;rw[A8]at V;rcases (Mem.mem_set AR).1 V with ⟨A,_⟩|⟨A,I⟩
  .exact .inl A
  .rcases (Mem.mem_set h.nodup).1 A with ⟨A,_⟩|⟨A,W⟩
   .exact .inr (.inl A)
   .exact .inr (.inr ⟨A,by rw[<-q];exact W,by rw[<-A'];exact I⟩)
 obtain⟨φ',A9⟩:∃φ':aR,φ'=λj=>if j=E.key then some L1' else if j=H.key then some L2' else φ j:=⟨_,rfl⟩
 have f1:φ' E.key=some L1':=by simp[A9]
 have f2:φ' H.key=some L2':=by simp[A9,show ¬H.key=E.key from λh=>AJ h.symm]
 have f3:∀j,j≠E.key->j≠H.key->φ' j=φ j:=λj A I=>by simp[A9,A,I]
 have hle:φ.le φ':=by
  intro j AA a;by_cases A:j=E.key
  .subst A;rw[A4]at a;cases a;exact⟨_,f1,AK,AM⟩
  .by_cases I:j=H.key
   .subst I;rw[A5]at a;cases a;exact⟨_,f2,AL,AN⟩
   .exact⟨AA,by rw[f3 j A I];exact a,Ds _,λ_=>rfl⟩
 have AG:∀b,E.cont.bg Y b\/H.cont.bg Z b->ei φ m b:=λb J=>J.elim (λJ=>⟨E,A2,Y,A4,J⟩) (λJ=>⟨H,A3,Z,A5,J⟩);have AB:∀b,ei φ' m' b->ei φ m b:=by
  rintro b ⟨y,V,T,D,M⟩;rcases A0 y V with rfl|rfl|⟨A,I,W⟩
  .rw[A',f2]at D;cases D;exact AG b (A7 b M)
  .rw[q,f1]at D;cases D;exact AG b (A6 b M)
  .rw[f3 _ I W]at D;exact⟨y,A,T,D,M⟩
 have AH:∀b,Fo G φ' m' b->Fo G φ m b:=λb=>Or.imp id (AB b);have AI:=AQ φ' (Fo G φ' m') hle f1 f2 AH;have A1:∀y∈m,y.key≠E.key->y.key≠H.key->∀T,φ y.key=some T->∀b,y.cont.bg T b->E.cont.bg Y b\/H.cont.bg Z b->False:=by
  intro y V I W T D b M J;rcases J with J|J
  .exact I (h.apart y V E A2 T Y D A4 ⟨b,M,J⟩)
  .exact W (h.apart y V H A3 T Z D A5 ⟨b,M,J⟩)
 refine⟨φ',⟨by rw[AF];exact h.nodup,?_,?_,?_,λb J=>h.fW b (AB b J),h.bound⟩,⟨hle,λ_ _ _=>rfl,λb _ J=>AB b J,Ds _,rfl,rfl,rfl⟩⟩
 .intro j AA a;rw[AF];by_cases A:j=E.key
  .subst A;exact WW A2
  .by_cases I:j=H.key
   .subst I;exact WW A3
   .rw[f3 j A I]at a;exact h.kG j AA a
 .intro y V;rcases A0 y V with rfl|rfl|⟨A,I,W⟩
  .exact⟨L2',by rw[A'];exact f2,AP,AI.2⟩
  .exact⟨L1',by rw[q];exact f1,AO,AI.1⟩
  .obtain⟨T,D,AS,AT⟩:=h.dk y A;exact⟨T,by rw[f3 _ I W];exact D,AS,AT.mono hle (λ_ _ _=>rfl) (Ds _) (λb _=>AH b) (λ_ _=>rfl)⟩
 .rintro y V z AC T AD D O ⟨b,M,c⟩;rcases A0 y V with rfl|rfl|⟨A,I,W⟩
  .rw[A',f2]at D;cases D;rcases A0 z AC with rfl|rfl|⟨g1,g2,g3⟩
   .rfl
   .rw[q,f1]at O;cases O;exact (AE b c M).elim
   .rw[f3 _ g2 g3]at O;exact (A1 z g1 g2 g3 AD O b c (A7 b M)).elim
  .rw[q,f1]at D;cases D;rcases A0 z AC with rfl|rfl|⟨g1,g2,g3⟩
   .rw[A',f2]at O;cases O;exact (AE b M c).elim
   .rfl
   .rw[f3 _ g2 g3]at O;exact (A1 z g1 g2 g3 AD O b c (A6 b M)).elim
  .rw[f3 _ I W]at D;rcases A0 z AC with rfl|rfl|⟨g1,g2,g3⟩
   .rw[A',f2]at O;cases O;exact (A1 y A I W T D b M (A7 b c)).elim
   .rw[q,f1]at O;cases O;exact (A1 y A I W T D b M (A6 b c)).elim
   .rw[f3 _ g2 g3]at O;exact h.apart y A z g1 T AD D O ⟨b,M,c⟩
def Gx(sz:Nat):∃s,(∀φ w F v,bw φ w F ⟨v,0,s,0,0,[],none⟩ (p7 sz))/\∀v b,¬(p7 sz).bg ⟨v,0,s,0,0,[],none⟩ b:=by
 unfold p7;split
 .exact⟨sz,λ_ _ _ _=>⟨rfl,by simp,by simp,λh=>by simp at h⟩,λ_ _ h=>by simp[ax.bg]at h⟩
 .exact⟨1,λ_ _ _ _=>⟨⟨rfl,λh=>by simp at h⟩,rfl,by simp[iS],by simp[iS],λh=>by simp at h⟩,λ_ _ h=>by simp[ax.bg]at h⟩
def CM(S:St)(Ai j k sz:Nat):bX S (S.lu Ai j k sz):=by
 unfold St.lu;split
 .rename_i key B0 cs O v cont Bw Z;split
  .rename_i A9;split
   .exact bX.refl S
   .obtain⟨By,BP,BQ⟩:=Gx sz;refine⟨rfl,rfl,λφ G a w A=>?_⟩;obtain⟨hm,A6,L,A4,AK,A_⟩:=A.mem.get Z;subst A6;obtain⟨BR,Aa,CS,D9,DA⟩:=A.mem.bo (e':=⟨O,v+1,p7 sz⟩) hm A4 rfl (L':=⟨v+1,0,By,0,0,[],none⟩) (by grind) (λhh=>by grind) rfl
     (w':=w) (λ_ _ _=>rfl) (Ds _) (λ_ A7=>(BQ _ _ A7).elim) rfl rfl rfl (λ_ _ _=>BP _ _ _ _)
    have CT:Mem.get (Mem.set S.mem ⟨O,v+1,p7 sz⟩) Ai=some ⟨key,B0,.box cs⟩:=by
     rw[Mem.j2 (by grind)];grind
    obtain⟨BD,BS,B1,BE,BT,BU⟩:=Aa.get CT;subst BS;obtain⟨AG,Ao,AD,DB,DC⟩:=Aa.bo (e':=⟨key,B0,.box (cs.set j (.vec O (v+1) 0 0))⟩) BD BE rfl (L':=B1) (Ds _) (λ_=>rfl) BT
     (w':=w) (λ_ _ _=>rfl) (Ds _) (λ_ A7=>.inl A7) rfl rfl rfl (λφ' Au Bz=>by
      obtain⟨g0,arr,elem,g1,g2,g3,g4⟩:=BU;have CU:∀b,Fo G φ' (Mem.set (Mem.set S.mem ⟨O,v+1,p7 sz⟩) ⟨key,B0,.box (cs.set j (.vec O (v+1) 0 0))⟩) b->Fo G BR (Mem.set S.mem ⟨O,v+1,p7 sz⟩) b:=by
       rintro b (h|⟨x,AL,BV,Ab,B2⟩)
       .exact .inl h
       .right;rcases (Mem.mem_set Aa.nodup).1 AL with ⟨rfl,_⟩|⟨BW,BX⟩
        .simp[Au]at Ab;cases Ab;exact⟨_,BD,B1,BE,B2⟩
        .simp[Au,BX]at Ab;exact⟨x,BW,BV,Ab,B2⟩
      refine⟨by grind,arr,elem,g1,by grind,g3,λi c u M hu=>?_⟩;rw[List.getElem?_set]at M;split at M
      .rename_i Ap;subst Ap;split at M
       .cases M;have:=g4 j _ u A9 hu;cases this;refine .vec O (v+1) 0 0 _ ⟨v+1,0,By,0,0,[],none⟩ ?_ (Ds _) (λ_=>⟨_,_,rfl,by simp,λh=>by omega⟩) rfl;grind
       grind
      .exact (g4 i c u M hu).mono Bz (λ_ _ _=>rfl) (Ds _) (λb _=>CU b))
    have C':=CS.trans AD;exact⟨AG,A.qU Ao C',C'⟩
  .exact bX.refl S
 .exact bX.refl S
def sb(AH:AV->AV):∀m:Mem,(nA AH m).map (·.key)=m.map (·.key)
 |[]=>rfl
 |e::r=>by simp[nA,sb AH r]
def zW{AH:AV->AV}:∀{m:Mem}{x:bn},x∈nA AH m↔∃e∈m,x=⟨e.key,e.U,jG AH e.cont⟩
 |[],x=>by simp[nA]
 |e::r,x=>by simp[nA,zW (m:=r)]
def CO(S:St)(k AN:Nat):bX S (S.p2 k AN):=by
 unfold St.p2;split
 .rename_i key v sz rows O v2 cont Z Ac;split
  .exact bX.refl S
  .refine⟨rfl,rfl,λφ G a w A=>?_⟩;obtain⟨hm,A6,L,A4,AK,A_⟩:=A.mem.get Z;obtain⟨Ao,AD,AT,Av,BY,_⟩:=A.mem.get Ac;subst A6;subst AD;obtain⟨AH,C0⟩:∃AH,AH=wx key v O (v2+1):=⟨_,rfl⟩;rw[<-C0];obtain⟨m1,Aa⟩:∃m1,m1=Mem.set (nA AH S.mem) ⟨key,v+1,.dead⟩:=⟨_,rfl⟩;have CV:((nA AH S.mem).map (·.key)).Nodup:=by rw[sb];exact A.mem.nodup
   have AB:(m1.map (·.key)).Nodup:=by rw[Aa,Mem.dy];grind
   obtain⟨m',AO⟩:∃m',m'=Mem.set m1 ⟨O,v2+1,.vec sz rows⟩:=⟨_,rfl⟩;rw[<-Aa,<-AO];have BF:m'.map (·.key)=S.mem.map (·.key):=by rw[AO,Mem.dy,Aa,Mem.dy,sb]
   have B3:∀y,y∈m'->y=⟨O,v2+1,.vec sz rows⟩\/y=⟨key,v+1,.dead⟩\/(∃z∈S.mem,y=⟨z.key,z.U,jG AH z.cont⟩/\z.key≠key/\z.key≠O):=by
    intro y AE;rw[AO]at AE;rcases (Mem.mem_set AB).1 AE with ⟨h,_⟩|⟨h,J⟩
    .grind
    .rw[Aa]at h;rcases (Mem.mem_set CV).1 h with ⟨h,_⟩|⟨h,T⟩
     .grind
     .obtain⟨z,BZ,rfl⟩:=zW.1 h;grind
   obtain⟨φ',Au⟩:∃φ':aR,φ'=λj=>if j=key then some {L with U:=v+1} else if j=O then some {L with U:=v2+1} else φ j:=⟨_,rfl⟩
   have f1:φ' key=some {L with U:=v+1}:=by grind
   have f2:φ' O=some {L with U:=v2+1}:=by grind
   have f3:∀j,j≠key->j≠O->φ' j=φ j:=λj H J=>by grind
   have hle:φ.le φ':=by
    intro j C1 AF;grind
   have B_:∀b,ei φ' m' b->ei φ S.mem b:=by
    rintro b ⟨y,AE,Aw,AI,Aj⟩;rcases B3 y AE with rfl|rfl|⟨Aq,H,rfl,J,T⟩
    .rw[f2]at AI;cases AI;exact⟨_,hm,L,A4,Aj⟩
    .exact Aj.elim
    .rw[f3 _ J T]at AI;exact⟨Aq,H,Aw,AI,gx.1 Aj⟩
   have A':∀b,Fo G φ' m' b->Fo G φ S.mem b:=λb=>Or.imp id (B_ b);have B4:∀x u,ai φ w (Fo G φ S.mem) x u->ai φ' w (Fo G φ' m') (AH x) u:=by
    intro y u AF;have DD:=AF.mono (φ':=φ') (F':=Fo G φ' m') hle (λ_ _ _=>rfl) (Ds _) (λb _=>A' b);rw[C0];unfold wx;split
    .rename_i DE v0 o l;split
     .rename_i hh;obtain⟨rfl,rfl⟩:=hh;cases AF with
      |vec _ _ _ _ _ L' Ak _ h H=>
       rw[A4]at Ak;cases Ak;exact .vec O (v2+1) o l _ _ f2 (Ds _) (λ_=>h AK.symm) H
     grind
    grind
   refine⟨φ',⟨A.size,A.defers,?_,⟨?_,?_,?_,?_,?_,?_⟩,A.fX.mono (λ_ _ _=>rfl) (Ds _) (λb _=>A' b)⟩,zn B_ hle⟩
   .intro t x AL;obtain⟨y,AE,rfl⟩:=rA _ S.env t true x AL;exact B4 _ _ (A.env t y AE)
   .rw[BF];exact A.mem.nodup
   .intro j C1 AF;rw[BF];by_cases H:j=key
    .grind
    .by_cases J:j=O
     .grind
     .rw[f3 j H J]at AF;exact A.mem.kG j C1 AF
   .intro y AE;rcases B3 y AE with rfl|rfl|⟨Aq,H,rfl,J,T⟩
    .refine⟨_,f2,rfl,?_⟩;have:=A_.mono (φ':=φ') (F':=Fo G φ' m') hle (λ_ _ _=>rfl) (Ds _) (λb _=>A' b) (λ_ _=>rfl);exact this
    .exact⟨_,f1,rfl,trivial⟩
    .obtain⟨Aw,AI,CW,AS⟩:=A.mem.dk Aq H;refine⟨Aw,by grind,CW,?_⟩;cases B5:Aq.cont with
     |dead=>trivial
     |box cs=>
      rw[B5]at AS;obtain⟨g0,arr,elem,g1,g2,g3,g4⟩:=AS;refine⟨by grind,arr,elem,g1,by grind,g3,λi c u DF hu=>?_⟩;grind
     |vec DG CX=>
      rw[B5]at AS;exact AS.mono hle (λ_ _ _=>rfl) (Ds _) (λb _=>A' b) (λ_ _=>rfl)
     |eP s p=>rw[B5]at AS;exact AS
     |buf t1 DH=>
      rw[B5]at AS;exact⟨AS.1,eQ.mono AS.2 (λ_ _ h=>h.mono (λ_ _ _=>rfl) (Ds _) (λb _=>A' b)) (λ_ _=>rfl)⟩
     |vv CX DI=>
      rw[B5]at AS;exact fV.mono AH AS (λ_ _ _ _ u hu=>hu.mono (λ_ _ _=>rfl) (Ds _) (λb _=>A' b)) (λx _ v AL=>B4 x v AL) (λ_ _=>rfl)
   .rintro y AE z BZ Aw C2 AI Ax ⟨b,Aj,B6⟩;rcases B3 y AE with rfl|rfl|⟨Aq,H,rfl,J,T⟩
    .rcases B3 z BZ with rfl|rfl|⟨z0,g1,rfl,g2,g3⟩
     .rfl
     .exact B6.elim
     .rw[f2]at AI;cases AI;rw[f3 _ g2 g3]at Ax;exact absurd (A.mem.apart _ hm z0 g1 L C2 A4 Ax ⟨b,Aj,gx.1 B6⟩).symm g2
    .exact Aj.elim
    .rcases B3 z BZ with rfl|rfl|⟨z0,g1,rfl,g2,g3⟩
     .rw[f2]at Ax;cases Ax;rw[f3 _ J T]at AI;exact absurd (A.mem.apart Aq H _ hm Aw L AI A4 ⟨b,gx.1 Aj,B6⟩) J
     .exact B6.elim
     .rw[f3 _ J T]at AI;rw[f3 _ g2 g3]at Ax;exact A.mem.apart Aq H z0 g1 Aw C2 AI Ax ⟨b,gx.1 Aj,gx.1 B6⟩
   .intro b E;exact A.mem.fW b (B_ b E)
   .exact A.mem.bound
 .exact bX.refl S
def EK{α:Type}{l:List α}{n:Nat}(h:l.length=n+1):∃(r:List α)(o:α),l=r++[o]/\r.length=n:=by
 refine⟨l.dropLast,l.getLast (by grind),(List.dropLast_concat_getLast _).symm,by simp[h]⟩
def Gz(S:St)(k AN:Nat):bX S (S.zA k AN):=by
 unfold St.zA;split
 .rename_i key v rows O v2 cont Z Ac;split
  .rename_i xs C3;split
   .exact bX.refl S
   .rename_i Ay;refine⟨rfl,rfl,λφ G a w A=>?_⟩;obtain⟨hm,A6,L,A4,AK,A_⟩:=A.mem.get Z;obtain⟨Ao,AD,AT,Av,BY,_⟩:=A.mem.get Ac;subst A6;subst AD;have C4:rows=rows.dropLast++[xs]:=by
     rcases List.eq_nil_or_concat rows with rfl|⟨r,x,rfl⟩
     .grind
     grind
    obtain⟨r,CY⟩:∃r,r=rows.dropLast:=⟨_,rfl⟩;rw[<-CY]at C4⊢;subst C4;obtain⟨⟨AF,H,J⟩,T,AJ,Ad⟩:fV φ w (Fo G φ S.mem) L (r++[xs]) none:=A_;simp at H J;obtain⟨arr,elem,g1,g2,g3,g4,_⟩:=Ad (by omega);obtain⟨bL,o,CZ,C_⟩:=EK J;have C5:=g4 r.length xs o (by simp) (by grind);have B7:∀b,some b∈bL->some b∈L.bL:=λb E=>by grind
    have Ba:∀(i:Nat)(x:Option Nat),bL[i]?=some x->L.bL[i]?=some x:=λi x AL=>by
     grind
    have DJ:∀b,o=some b->some b∉bL:=λb E hm=>by
     obtain⟨i,hi⟩:=Ya hm;grind
    have base:∀(L2':Loc)(x:Value),(L2'.U=v2+1/\L2'.sz=1)->arr[L.base+r.length]?=some x->(∀(φ':aR)(F':Nat->Prop),φ' O=some L2'->ai φ' w F' (.vec O (v2+1) 0 xs.length) x)->
     (∀b,0<L2'.cap->L2'.ba=b->o=some b)->
     (∀(φ':aR)(F':Nat->Prop),φ.le φ'->(∀b,F' b->Fo G φ S.mem b)->bw φ' w F' L2' (.vec 1 xs))->
     ∃φ',Rel φ' G {S with mem:=Mem.set (Mem.set S.mem ⟨key,v,.vv r (some (.vec O (v2+1) 0 xs.length))⟩) ⟨O,v2+1,.vec 1 xs⟩} a w/\aB φ S.mem w φ' (Mem.set (Mem.set S.mem ⟨key,v,.vv r (some (.vec O (v2+1) 0 xs.length))⟩) ⟨O,v2+1,.vec 1 xs⟩) w:=by
     intro L2' x Ca AL B4 C6 Cb;have Az:∀(φ':aR)(F':Nat->Prop),φ.le φ'->φ' O=some L2'->(∀b,F' b->Fo G φ S.mem b)->bw φ' w F' {L with bL:=bL} (.vv r (some (.vec O (v2+1) 0 xs.length))):=by
      intro φ' F' hle f2 A';refine⟨⟨AF,by grind,C_⟩,λi j b hi A9=>T i j b (Ba _ _ hi) (Ba _ _ A9),λb E=>AJ b (B7 b E),λ_=>⟨arr,elem,g1,g2,g3,λi Bb Bc hi A7=>?_,λy AE=>?_⟩⟩
      .exact (g4 i Bb Bc (by grind) (Ba _ _ A7)).mono (λd u _ hu=>hu.mono (λ_ _ _=>rfl) (Ds _) (λb _=>A' b)) (λ_ _=>rfl)
      grind
     obtain⟨φ',AO,Y⟩:=A.mem.Gw (e1':=⟨key,v,.vv r (some (.vec O (v2+1) 0 xs.length))⟩) (e2':=⟨O,v2+1,.vec 1 xs⟩) hm Ao Ay A4 Av (L1':={L with bL:=bL}) (L2':=L2') rfl rfl (Ds _) (by grind)
      (λ_=>rfl) (λhh=>by grind) AK Ca.1 (λb E=>.inl (by
       rcases E with E|E
       .exact .inl E
       .exact .inr (B7 b E))) (λb E=>.inl (.inr (by rw[CZ,C6 b E.1 E.2];simp))) (λb Bd BG=>by
       have DK:=C6 b BG.1 BG.2;rcases Bd with ⟨_,Bd⟩|Bd
       .grind
       grind) (λφ' F' hle f1 f2 A'=>⟨Az φ' F' hle f2 A',Cb φ' F' hle A'⟩)
     exact⟨φ',A.qU AO Y,Y⟩
    cases o with
    |none=>
     obtain⟨rfl,b,AC⟩:=C5;exact base ⟨v2+1,0,1,0,0,[],none⟩ _ ⟨rfl,rfl⟩ AC (λφ' F' AU=>.vec O _ 0 0 _ _ AU (Ds _) (λ_=>⟨_,_,rfl,by simp,λh=>by omega⟩) rfl) (λb E=>by simp at E) (λφ' F' hle A'=>⟨rfl,by simp,by simp,λM=>by simp at M⟩)
    |some b=>
     obtain⟨row,Cc,off,cap,q1,q2,q3,DL,Cd,Ce,Cf⟩:=C5;refine base ⟨v2+1,b,1,row.size-off,off,[],none⟩ _ ⟨rfl,rfl⟩ q1 (λφ' F' AU=>.vec O _ 0 _ _ _ AU (Ds _) (λ_=>⟨_,cap,rfl,q3,λh=>⟨by simp,by grind⟩⟩) rfl) (λDM _ E=>by grind) (λφ' F' hle A'=>?_);refine⟨rfl,by simp only;omega,λd V=>?_,λM=>⟨row,Cc,Cd,by simp only;omega,Ce,λi d hi=>?_⟩⟩
     .obtain⟨i,hi⟩:=Ya V;grind
     .obtain⟨_,u,hu,A9⟩:=Cf i d hi;exact⟨u,hu.mono (λ_ _ _=>rfl) (Ds _) (λb _=>A' b),A9⟩
  .exact bX.refl S
 .exact bX.refl S
def GA(S:St)(k AN:Nat):bX S (S.cls k AN):=by
 unfold St.cls;split
 .rename_i key v rows DN v3 len O v2 xs Z Ac;split
  .grind
  .rename_i Ay;split
   .rename_i Cg;obtain⟨rfl,rfl,rfl⟩:=Cg;refine⟨rfl,rfl,λφ G a w A=>?_⟩;obtain⟨hm,A6,L,A4,AK,A_⟩:=A.mem.get Z;obtain⟨Ao,AD,AT,Av,BY,Ch⟩:=A.mem.get Ac;subst A6;subst AD;obtain⟨⟨AF,H,J⟩,T,AJ,Ad⟩:fV φ w (Fo G φ S.mem) L rows (some (.vec O v3 0 xs.length)):=A_;simp at H;obtain⟨arr,elem,g1,g2,g3,g4,g5⟩:=Ad (by omega);obtain⟨y,DO,Ci⟩:=g5 _ rfl;obtain⟨z0,DP,z2,z3⟩:=Ch;have DQ:∀b,0<AT.cap->AT.ba=b->(L.ba=b\/some b∈L.bL)->False:=by
     intro b M E hh;refine Ay (A.mem.apart _ hm _ Ao L AT A4 Av ⟨b,?_,⟨M,E⟩⟩);rcases hh with hh|hh
     .exact .inl ⟨by omega,hh⟩
     .exact .inr hh
    have base:∀(o:Option Nat),(∀b,o=some b->0<AT.cap/\AT.ba=b)->(∀F':Nat->Prop,(∀b,F' b->Fo G φ S.mem b)->qR w F' (some y) xs o)->
     ∃φ',Rel φ' G {S with mem:=Mem.set (Mem.set S.mem ⟨key,v,.vv (rows++[xs]) none⟩) ⟨O,v3+1,.dead⟩} a w/\aB φ S.mem w φ' (Mem.set (Mem.set S.mem ⟨key,v,.vv (rows++[xs]) none⟩) ⟨O,v3+1,.dead⟩) w:=by
     intro o A7 DR;have Az:∀(φ':aR)(F':Nat->Prop),(∀b,F' b->Fo G φ S.mem b)->bw φ' w F' {L with bL:=L.bL++[o]} (.vv (rows++[xs]) none):=by
      intro φ' F' A';refine⟨⟨AF,by grind,by grind⟩,λi j b hi A9=>?_,λb E=>?_,λ_=>⟨arr,elem,g1,g2,g3,λi Bb Bc hi C7=>?_,λy AE=>by cases AE⟩⟩
      .grind
      .grind
      .rcases Nat.lt_or_ge i rows.length with Be|DS
       .rw[WN Be]at hi;rw[WN (by omega)]at C7;exact (g4 i Bb Bc hi C7).mono (λd u _ hu=>hu.mono (λ_ _ _=>rfl) (Ds _) (λb _=>A' b)) (λ_ _=>rfl)
       grind
     obtain⟨φ',AO,Y⟩:=A.mem.Gw (e1':=⟨key,v,.vv (rows++[xs]) none⟩) (e2':=⟨O,v3+1,.dead⟩) hm Ao Ay A4 Av (L1':={L with bL:=L.bL++[o]}) (L2':={AT with U:=v3+1}) rfl rfl (Ds _) (by grind)
      (λ_=>rfl) (λhh=>by grind) AK rfl (λb E=>by
       rcases E with E|E
       .exact .inl (.inl E)
       .simp at E;rcases E with E|E
        .exact .inl (.inr E)
        .exact .inr (A7 b E.symm)) (λb E=>E.elim) (λb _ BG=>BG) (λφ' F' hle f1 f2 A'=>⟨Az φ' F' A',trivial⟩)
     exact⟨φ',A.qU AO Y,Y⟩
    cases Ci with
    |vec _ _ _ _ _ L' Ak DT AY Az=>
     rw[Av]at Ak;cases Ak;obtain⟨Cj,cap,rfl,Ck,Cl⟩:=AY BY.symm;by_cases C8:0<cap
     .obtain⟨rfl,B'⟩:=Cl C8;obtain⟨Cn,DU,t1,t2,t3,t4⟩:=z3 (by omega);refine base (some AT.ba) (λb E=>by grind) (λF' A'=>⟨Cn,_,AT.base,cap,by simp,C8,Ck,by grind,t1,t3,λi d V=>?_⟩);obtain⟨u,hu,A9⟩:=t4 i d V;rw[z0]at A9;exact⟨by grind,u,hu.mono (λ_ _ _=>rfl) (Ds _) (λb _=>A' b),A9⟩
     .have Co:xs=[]:=List.length_eq_zero_iff.1 (by omega);refine base none (λb E=>by cases E) (λF' A'=>⟨Co,Cj,by grind⟩)
   .exact bX.refl S
 .exact bX.refl S
def EL(S:St)(k:Nat):bX S (S.shut k):=by
 unfold St.shut;split
 .rename_i key v rows y Z;refine⟨rfl,rfl,λφ G a w A=>?_⟩;obtain⟨hm,A6,L,A4,AK,A_⟩:=A.mem.get Z;subst A6;obtain⟨φ',AO,Y,_,_⟩:=A.mem.bo (e':=⟨key,v,.vv rows none⟩) hm A4 rfl (L':=L) (Ds _) (λ_=>rfl) AK
   (w':=w) (λ_ _ _=>rfl) (Ds _) (λ_ A7=>.inl A7) rfl rfl rfl (λφ' Au Bz=>by
    obtain⟨⟨AF,H,J⟩,T,AJ,Ad⟩:fV φ w (Fo G φ S.mem) L rows (some y):=A_;refine⟨⟨AF,by grind,J⟩,T,AJ,λM=>?_⟩;obtain⟨arr,elem,g1,g2,g3,g4,g5⟩:=Ad M;refine⟨arr,elem,g1,g2,g3,λi xs o hi A7=>(g4 i xs o hi A7).mono (λd u _ hu=>hu.mono (λ_ _ _=>rfl) (Ds _) (λb _ E=>?_)) (λ_ _=>rfl),λy AE=>by cases AE⟩;rcases E with E|⟨x,AL,BV,Ab,B2⟩
    .exact .inl E
    .right;rcases (Mem.mem_set A.mem.nodup).1 AL with ⟨rfl,_⟩|⟨BW,BX⟩
     .simp[Au]at Ab;cases Ab;exact⟨_,hm,L,A4,B2⟩
     .simp[Au,BX]at Ab;exact⟨x,BW,BV,Ab,B2⟩)
  exact⟨φ',A.qU AO Y,Y⟩
 .exact bX.refl S
def AW(S:St)(Ai j k:Nat):bX S (S.nw Ai j k):=by
 unfold St.nw;split
 .rename_i key B0 cs O v cont Bw Z;split
  .rename_i A9;split
   .exact bX.refl S
   .rename_i Ay;refine⟨rfl,rfl,λφ G a w A=>?_⟩;obtain⟨BD,BS,B1,BE,BT,BU⟩:=A.mem.get Bw;obtain⟨hm,A6,L,A4,AK,A_⟩:=A.mem.get Z;subst BS;subst A6;have Az:∀(φ':aR)(F':Nat->Prop),φ.le φ'->φ' O=some ⟨v+1,0,1,0,0,[],none⟩->(∀b,F' b->Fo G φ S.mem b)->bw φ' w F' B1 (.box (cs.set j (.vec O (v+1) 0 0))):=by
     intro φ' F' hle f2 A';obtain⟨g0,arr,elem,g1,g2,g3,g4⟩:=BU;refine⟨by grind,arr,elem,g1,by grind,g3,λi c u M hu=>?_⟩;rw[List.getElem?_set]at M;split at M
     .rename_i Ap;subst Ap;split at M
      .cases M;have:=g4 j _ u A9 hu;cases this;exact .vec O (v+1) 0 0 _ _ f2 (Ds _) (λ_=>⟨_,_,rfl,by simp,λh=>by omega⟩) rfl
      grind
     .exact (g4 i c u M hu).mono hle (λ_ _ _=>rfl) (Ds _) (λb _=>A' b)
    obtain⟨φ',AO,Y⟩:=A.mem.Gw (e1':=⟨key,B0,.box (cs.set j (.vec O (v+1) 0 0))⟩) (e2':=⟨O,v+1,.vv [] none⟩) BD hm Ay BE A4 (L1':=B1) (L2':=⟨v+1,0,1,0,0,[],none⟩) rfl rfl (Ds _) (by grind)
     (λ_=>rfl) (λhh=>by grind) BT rfl (λb E=>.inl E) (λb E=>by
      rcases E with ⟨E,_⟩|E
      .grind
      grind) (λb _ E=>by
      rcases E with ⟨E,_⟩|E
      .grind
      grind) (λφ' F' hle f1 f2 A'=>⟨Az φ' F' hle f2 A',⟨⟨rfl,by simp,rfl⟩,λi j b hi=>by grind,λb E=>by grind,λM=>by grind⟩⟩)
    exact⟨φ',A.qU AO Y,Y⟩
  .exact bX.refl S
 .exact bX.refl S
def IB(S:St)(g:Gh):bX S (g.go S):=by
 cases g with
 |trim k=>exact u7 S k
 |freeze k=>exact AM S k
 |lu Ai j k sz=>exact CM S Ai j k sz
 |p2 k AN=>exact CO S k AN
 |zA k AN=>exact Gz S k AN
 |cls k AN=>exact GA S k AN
 |shut k=>exact EL S k
 |nw Ai j k=>exact AW S Ai j k
def qh:∀(l:List Gh)(S:St),bX S (vt S l)
 |[],S=>bX.refl S
 |g::r,S=>(IB S g).trans (qh r _)
def mC(X:Ctx)(f:FuncId)(id:Nat)(S:St):bX S (S.leave X f id):=(Cm S _).trans (qh _ _)
def cw(X:Ctx)(f:FuncId)(n:Nat):Code->Bool
 | .region id ops draw=>fB n ops.toList&&(!draw||tZ ops.toList (X.od f id))
 | .seq a b=>cw X f n a&&cw X f n b
 | .cond _ a b=>cw X f n a&&cw X f n b
 | .block _ c=>cw X f n c
 | .loop c=>cw X f n c
 |_=>true
structure fI(X:Ctx):Prop where
 ov:X.ov=none
 names:∀(g:FuncId)(fn:Func),X.P.funcs[g]?=some fn->fn.name≠ "runtime.NumGoroutine"
 GB:∀(g:FuncId)(fn:Func)(c:Code),X.P.funcs[g]?=some fn->fn.body=some c->(∀k∈(X.fp g).sites,100<=k)->cw X g fn.ntmps c=true
 mixed:X.P.follows .mixedOrders=true
 qK:∀(g:FuncId)(h:List AV->Option AV),X.qK g=some h->dF X.P g=true/\∀(Bf:List AV)(a:AV),h Bf=some a->∀(φ:aR)(F:Nat->Prop)(w:World)(vs:Array Value),bY w F X.gl->(∀b,F b->b<w.heap.size)->Bf.length=vs.size->
  (∀(i:Nat) x v,Bf[i]?=some x->vs[i]?=some v->ai φ w F x v)->Calls X.P g vs w λe w'=>∃v,e=.returned v/\Go.RowKit.Below w.heap.size w w'/\ai φ w' F a v
def iU.is{n:Nat}{φ:aR}{G:Fr}{m:Mem}{w:World}{e:XE}{I:St}{e':Exit}{W:Act}{w':World}(h:iU n φ G m w (Is e I) e' W w'):
 ∃φ',I.n=n/\Rel φ' G I W w'/\aB φ m w φ' I.mem w'/\(match e' with
  | .normal=>e=.normal
  | .exit id=>e=.exit id
  | .ret=>e=.ret
  | .panic chain=>∃t x v,e=.panic t x/\chain=[{v:=.iface t v,recovered:=false}]/\ar w' (Fo G φ' I.mem) x v
  |_=>False):=by
 cases e' with
 |normal=>obtain⟨φ',A5,A1,⟨H,rfl⟩,J,T⟩:=h;grind
 |exit id=>obtain⟨φ',A5,A1,⟨H,rfl⟩,J,T⟩:=h;grind
 |ret=>obtain⟨φ',A5,A1,⟨H,rfl⟩,J,T⟩:=h;grind
 |panic chain=>obtain⟨φ',A5,t,x,v,M,V,A1,⟨H,rfl⟩,J,T⟩:=h;grind
 |_=>exact h.elim
section
variable {X:Ctx} {Al:aN} {f:FuncId} {n:Nat}
theorem IC{P:Program}{c:Code}{S S1:St}{Q:XE->St->Prop}(t:bX S S1)(h:ir P c S1 Q):ir P c S Q:=λφ G a w A=>by
 obtain⟨BR,Cp,A6⟩:=t.2.2 φ G a w A;exact wp_mono (h BR G a w Cp) λe a2 B8 A8=>by rw[t.1]at A8;exact A8.weaken A6
theorem zX{P:Program}{S:St}{e:XE}{c:Code}{k:St->St}(A6:∀S,bX S (k S)){r:Option (XE×St)}{I:St}(h:p8 k r=some (e,I))
 (A:∀A2 S1,r=some (A2,S1)->S1.n=S.n/\S1.gl=S.gl/\ir P c S (Is A2 S1)):I.n=S.n/\I.gl=S.gl/\ir P c S (Is e I):=by
 unfold p8 at h;split at h
 .rename_i S1;cases h;obtain⟨H,J,T⟩:=A _ _ rfl;obtain⟨t1,t2,t3⟩:=A6 S1;refine⟨t1.trans H,t2.trans J,λφ G a w Bg=>wp_mono (T φ G a w Bg) λe' W w' A8=>?_⟩;obtain⟨φ',A1,A0,Y,he⟩:=A8.is;cases e' with
  |normal=>
   obtain⟨AG,Ar,AD⟩:=t3 φ' G W w' A0;exact⟨AG,k S1,t1.trans A1,⟨rfl,rfl⟩,Ar,Y.trans AD⟩
  |exit id=>cases he
  |ret=>cases he
  |panic chain=>grind
  |_=>grind
 grind
theorem ID{P:Program}{As:Mem->Prop}{all:List Oper}{ops:List Oper}{S:St}{ps:List aD}{S1:St}(h:Cert P As all ops S ps S1):S1.n=S.n/\S1.gl=S.gl:=by
 induction h with
 |nil S=>grind
 |cons o rest S p ps S1 _ _ _ _ ih=>exact⟨ih.1.trans (n9 ..),ih.2.trans (lQ ..)⟩
theorem zY{P:Program}{As:Mem->Prop}{all:List Oper}:∀{ops:List Oper}{S:St}{ps:List aD}{S1:St},Cert P As all ops S ps S1->ps.length=ops.length:=by
 intro ops S ps S1 h;induction h with
 |nil S=>rfl
 |cons o rest S p ps S1 _ _ _ _ ih=>grind
theorem xB:∀{es:List bn},wq es=true->∀e∈es,100<=e.key
 |_::r,h,e,he=>by
  simp[wq]at h;rcases WK.1 he with rfl|he
  .grind
  .exact xB h.2 e he
theorem xC{ps:List aD}:∀{C9:List Nat},rM ps C9=true->∀i∈C9,∀p,ps[i]?=some p->∀e∈p.es,100<=e.key
 |k::r,h,i,hi,p,A8,e,he=>by
  simp[rM]at h;rcases WK.1 hi with rfl|hi
  .have:=h.1;rw[A8]at this;exact xB this e he
  .exact xC h.2 i hi p A8 e he
theorem sc{all:List Oper}{Ae:List (List Nat)}(h:tZ all Ae=true){i j:Nat}(Ap:i<j)(A9:j<all.length)(A1:i∉(dM all []).getD j []):(Ae.getD i []).contains j=true/\(Ae.getD j []).contains i=true:=by
 have H:=W7.1 h j (W5.2 A9);unfold rJ at H;simp at H;grind
theorem CQ{P:Program}{S S1:St}{id:Nat}{ops:List Oper}{Ae:List (List Nat)}{ps:List aD}{j N:Nat}{t:TypeId}{x:D}(hm:P.follows .mixedOrders=true)(Af:tZ ops Ae=true)
 (M:fH (TT P ops j (Ae.getD j []) t x N S1) 0 ops S ps) (Cq:jI Ae ps=true) (CA:rM ps (Ae.getD j [])=true) (Bh:S1.env=[]) (CB:j<ops.length) (DV:N=de S.mem+c7 ps+1):
 S1.n=S.n/\S1.gl=S.gl/\∀{φ:aR}{G:Fr}{a:Act}{w:World},Rel φ G S a w->∀{Q:Exit->Act->World->Prop},
 (∀φ' W w' v,Rel φ' G S1 W w'->aB φ S.mem w φ' S1.mem w'->ar w' (Fo G φ' S1.mem) x v->Q (.panic [{v:=.iface t v,recovered:=false}]) W w')->(Code.region id ops.toArray true).wp P Q a w:=by
 have BH:=M.len;have Bi:=fH.at (ps:=ps) (S0:=S) M [] [] rfl rfl rfl rfl rfl;have Ag:=En Af Cq BH;obtain⟨Bj,CC⟩:∃Bj,ops[j]?=some Bj:=⟨ops[j],by grind⟩;obtain⟨Bk,CD⟩:∃Bk,ps[j]?=some Bk:=⟨ps[j]'(by omega),by grind⟩
 obtain⟨Cr,AB,AA,Aa⟩:=(Bi j Bj Bk (by simp) CC CD).2.2 rfl;rw[jH]at AB;rw[iw]at AA;refine⟨AB,AA,λ{φ G a w} A {Q} Bl=>wp_region_any hm ?_⟩;have Cs:∀(i:Nat)(p:aD),ps[i]?=some p->∀e∈p.es,e.key∈p.ks:=λi p A8=>by
  have BI:i<ps.length:=(D1.1 A8).1;exact (Bi i (ops[i]'(by omega)) p (by simp) (by grind) A8).1
 have Ct:Rel φ G S a {w with drawn:=w.drawn+1}:=A.grow (λ_ _=>rfl) (Ds _);have CE:(dZ ops.length λi=>(Array.replicate ops.length false).getD i false)=[]:=by
  rw[dZ,Xv];simp_all
 refine Eo (S0:=S) (S1:=S1) (φ0:=φ) (w0:=w) (G:=G) (j:=j) BH Ag A.mem.nodup Cs ?_ CC CD Cr ?_ AB AA Bh (by grind) (λφ' W w' v A0 Y AC=>Bl φ' W w' v A0 Y AC) _ _ φ a _ (by simp) ?_ ?_ ?_ ?_ ?_
 .intro i o p A7 A8 Ap Bm;have BI:i<ops.length:=(D1.1 A7).1;refine (Bi i o p (by simp) A7 A8).2.1 Ap ?_;rcases Nat.lt_or_ge i j with h|h
  .grind
  .exact .inr (sc Af (by omega) BI Bm).1
 .intro i p A8 Ap hi Bm e he;have BI:i<ops.length:=by grind
  have B7:(Ae.getD j []).contains i=true:=by
   rcases Nat.lt_or_ge i j with h|h
   .exact (sc Af h CB hi).2
   .exact (sc Af (by omega) BI Bm).1
  exact xC CA i (by grind) p A8 e he
 .intro j o _ A9;simp at A9;grind
 .simp_all
 .simp only[Xg];rw[CE];exact Ct
 .simp only[Xg];rw[CE];exact aB.grow (λ_ _=>rfl) (Ds _) rfl rfl rfl
 grind
theorem zZ(An:fI X)(B':eZ X Al):∀(c:Code)(S:St)(e:XE)(I:St),den X f Al n c S=some (e,I)->S.gl=X.gl->cw X f S.n c=true->
 I.n=S.n/\I.gl=S.gl/\ir X.P c S (Is e I):=by
 intro c;induction c with
 |skip=>
  intro S e I h A3 V;obtain⟨rfl,rfl⟩:=h;exact⟨rfl,rfl,F6 ⟨rfl,rfl⟩⟩
 |region id ops draw=>
  intro S e I h A3 V;simp[cw]at V;cases draw with
  |false=>
   refine zX (mC X f id) h (λA2 S1 H=>?_);obtain⟨J,T,AJ⟩:=r7 B' ops.toList S A2 S1 H A3 V.1;exact⟨J,T,λφ G a w A=>wp_region_lit (AJ φ G a w A _ (λ_ _ _ h=>h))⟩
  |true=>
   refine zX (mC X f id) h (λA2 S1 H=>?_);have Af:tZ ops.toList (X.od f id)=true:=by grind
   have key:(∃As:Mem->Prop,As S.mem/\A2=.normal/\∃ps A5,Cert X.P As ops.toList ops.toList S ps A5/\dE S1 A5/\jI (X.od f id) ps=true)\/
    (S1.n=S.n/\S1.gl=S.gl/\∀φ G a w,Rel φ G S a w->∀Q:Exit->Act->World->Prop,(A2=.normal->∀φ' W w',Rel φ' G S1 W w'->aB φ S.mem w φ' S1.mem w'->Q .normal W w')->
     (∀t x,A2=.panic t x->∀φ' W w' v,Rel φ' G S1 W w'->aB φ S.mem w φ' S1.mem w'->ar w' (Fo G φ' S1.mem) x v->Q (.panic [{v:=.iface t v,recovered:=false}]) W w')->(Code.region id ops true).wp X.P Q a w)/\(A2=.normal\/∃t x,A2=.panic t x):=by
    cases CF:X.fl f id with
    |nil=>
     rw[CF]at H;rcases tC B' ops.toList S [] A2 S1 H A3 V.1 with ⟨he,ps,A5,M,heq,Ag⟩|⟨t,x,j,ps,he,DW,DX,M,Ag,CA,Bh⟩
     .grind
     .right;obtain⟨J,T,AJ⟩:=CQ (id:=id) An.mixed Af M (by grind) (by grind) Bh (by grind) rfl;exact⟨⟨J,T,λφ G a w A Q _ Bl=>AJ A (λφ' W w' v Ad Cu Cv=>Bl t x he φ' W w' v Ad Cu Cv)⟩,.inr ⟨t,x,he⟩⟩
    |cons q r=>
     rw[CF]at H;simp[oI]at H;cases BJ:dk S.mem (q::r)with
     |none=>rw[BJ]at H;cases H
     |some DY=>
      rw[BJ]at H;rcases xA B' ops.toList S [] A2 S1 (by simp) H A3 V.1 with ⟨he,ps,A5,M,heq,Ag⟩|⟨init,ol,ps,A5,Cw,M,A1,Ag,J,T,AJ,Ad⟩
      .exact .inl ⟨_,qf BJ,he,ps,A5,M,heq,by grind⟩
      .obtain⟨Bn,Ac⟩:=ID M;refine .inr ⟨⟨J.trans Bn,T.trans Ac,λφ G a w A Q Cx Cy=>?_⟩,AJ⟩;have BH:ps.length+1=ops.toList.length:=by
        have:=zY M;grind
       refine AR (ops:=ops.toList) Cw (AQ Af A1) (qf BJ) An.mixed M (Gv Af BH A1 (by grind)) A (λφ' W w' A0 Y next Cz=>?_);exact Ad φ' G W w' A0 next Q (λhe AG a2 B8 Ar AD=>Cz a2 B8 (Cx he AG a2 B8 Ar (Y.trans AD))) (λt x he AG a2 B8 v Ar AD AC=>Cy t x he AG a2 B8 v Ar (Y.trans AD) AC)
   rcases key with ⟨As,D',rfl,ps,A5,M,heq,Ag⟩|⟨⟨AB,AA,D0⟩,_⟩;rotate_left
   .exact⟨AB,AA,λφ G a w A=>D0 φ G a w A _ (λhe φ' W w' A0 Y=>⟨φ',S1,AB,⟨he.symm,rfl⟩,A0,Y⟩) (λt x he φ' W w' v A0 Y AC=>⟨φ',S1,t,x,v,rfl,AC,AB,⟨he.symm,rfl⟩,A0,Y⟩)⟩
   obtain⟨AB,AA⟩:=Kp M;have Ag:=En Af Ag (zY M);refine⟨heq.n.trans AB,heq.gl.trans AA,λφ G a w A=>?_⟩;exact AP (ops:=ops.toList) D' An.mixed M Ag A (λφ' W w' A0 Y=>⟨φ',S1,heq.n.trans AB,⟨rfl,rfl⟩,A0.eqv heq.symm,by rw[heq.mem];grind⟩)
 |seq a b BK Bo=>
  intro S e I h A3 V;simp[cw]at V;rcases dG h with ⟨S1,H,J⟩|⟨H,J⟩
  .obtain⟨AB,AA,Bp⟩:=BK S _ S1 H A3 V.1;obtain⟨Bn,Ac,DZ⟩:=Bo S1 e I J (AA.trans A3) (by grind);refine⟨Bn.trans AB,Ac.trans AA,Bx (Bp.mono λA2 A5 AY=>?_)⟩;grind
  .obtain⟨AB,AA,Bp⟩:=BK S _ I H A3 V.1;refine⟨AB,AA,Bx (Bp.mono λA2 A5 AY=>?_)⟩;grind
 |cond c a b BK Bo=>
  intro S e I h A3 V;simp[cw]at V;simp[den]at h;cases M:S.ag c with
  |mk g y=>
   rw[M]at h;unfold vy at h;split at h
   .rename_i t heq;cases heq;cases t with
    |true=>
     obtain⟨H,J,T⟩:=BK S e I (by grind) A3 V.1;exact⟨H,J,ze M (λ_=>T) (λAU=>by cases AU)⟩
    |false=>
     obtain⟨H,J,T⟩:=Bo S e I (by grind) A3 V.2;exact⟨H,J,ze M (λAU=>by cases AU) (λ_=>T)⟩
   grind
 |block id c ih=>
  intro S e I h A3 V;simp[den]at h;have B9:=qh (X.gh f (id+2000000)) S;have ih:∀e I,den X f Al n c (S.enter X f id)=some (e,I)->I.n=S.n/\I.gl=S.gl/\ir X.P c S (Is e I):=λe I h=>by
   obtain⟨Bq,a2,a3⟩:=ih (S.enter X f id) e I h (B9.2.1.trans A3) (by simp[St.enter];rw[B9.1];exact V);exact⟨Bq.trans B9.1,a2.trans B9.2.1,IC B9 a3⟩
  unfold vu at h;split at h
  .rename_i CG S1 H;obtain⟨A1,Z,AZ⟩:=ih _ S1 H;split at h
   .cases h;refine⟨A1,Z,ru (AZ.mono λA2 A5 AY=>?_)⟩;grind
   .cases h;refine⟨A1,Z,ru (AZ.mono λA2 A5 AY=>?_)⟩;grind
  .obtain⟨A1,Z,AZ⟩:=ih _ I h;refine⟨A1,Z,ru (AZ.mono λA2 A5 AY=>?_)⟩;obtain⟨rfl,rfl⟩:=AY;cases A2 with
   |exit CG=>grind
   |_=>grind
 |loop c ih=>
  intro S e I h A3 V;have B7:∀(k:Nat)(S1:St),iter (den X f Al n c) k S1=some (e,I)->S1.gl=X.gl->cw X f S1.n c=true->I.n=S1.n/\I.gl=S1.gl:=by
   intro k;induction k with
   |zero=>intro S1 H;cases H
   |succ k D_=>
    intro S1 H AA Br;rcases dG H with ⟨A5,J,T⟩|⟨J,T⟩
    .grind
    grind
  obtain⟨A1,Z⟩:=B7 n S h A3 V;refine⟨A1,Z,?_⟩;refine F8 (α:=Nat×St) (λx=>x.2) (λx=>iter (den X f Al n c) x.1 x.2=some (e,I)/\x.2.gl=X.gl/\cw X f x.2.n c=true) (λx=>x.1) (n,S) rfl ⟨h,A3,V⟩ ?_;rintro ⟨k,S1⟩ ⟨H,AA,Br⟩;cases k with
  |zero=>cases H
  |succ k=>
   rcases dG H with ⟨A5,J,T⟩|⟨J,T⟩
   .obtain⟨Bq,a2,AZ⟩:=ih S1 _ A5 J AA Br;refine AZ.mono λA2 CH AY=>?_;obtain⟨rfl,rfl⟩:=AY;exact⟨(k,CH),rfl,⟨T,a2.trans AA,by grind⟩,Nat.lt_succ_self k⟩
   .obtain⟨Bq,a2,AZ⟩:=ih S1 _ I J AA Br;refine AZ.mono λA2 CH AY=>?_;grind
 |exit id=>
  intro S e I h A3 V;obtain⟨rfl,rfl⟩:=h;obtain⟨t1,t2,t3⟩:=qh (X.gh f (id+1000000)) S;refine⟨t1,t2,λφ G a w Bg=>wp_mono ((F7 (Q:=Is (.exit id) S) ⟨rfl,rfl⟩:ir X.P (.exit id) S (Is (.exit id) S)) φ G a w Bg) λe' W w' A8=>?_⟩;obtain⟨φ',A1,A0,Y,he⟩:=A8.is;cases e' with
  |exit CG=>
   cases he;obtain⟨AG,Ar,AD⟩:=t3 φ' G W w' A0;exact⟨AG,_,t1.trans A1,⟨rfl,rfl⟩,Ar,Y.trans AD⟩
  |normal=>cases he
  |ret=>cases he
  |panic chain=>grind
  |_=>grind
 |ret=>
  intro S e I h A3 V;obtain⟨rfl,rfl⟩:=h;exact⟨rfl,rfl,It ⟨rfl,rfl⟩⟩
 |rangeFunc _ _ _ _=>intro S e I h;simp[den]at h
 |scope _ _=>intro S e I h;simp[den]at h
 |label _=>intro S e I h;simp[den]at h
 |goto _=>intro S e I h;simp[den]at h
 |refuse _=>intro S e I h;simp[den]at h
theorem uq:∀(cs:List ax)(i:Nat),(bS i cs).map (·.key)=List.range' i cs.length
 |[],i=>rfl
 |c::r,i=>by simp[bS,uq r,XG]
theorem wA:∀(cs:List ax)(i:Nat)(e:bn),e∈bS i cs->e.U=0
 |[],i,e,he=>by simp[bS]at he
 |c::r,i,e,he=>by
  simp[bS]at he;rcases he with rfl|he
  .rfl
  .exact wA r (i+1) e he
theorem aI.dv{φ:aR}{G:Fr}{m:Mem}{w:World}(h:aI φ G m w)(dv:List Deferred):aI φ ⟨G.g,dv⟩ m w:=
 ⟨h.nodup,h.kG,h.dk,h.apart,h.fW,h.bound⟩
theorem Ev.dv{P:Program}{gl f args m K}(h:∀φ G w (vs:Array Value),G.dv=[]->aI φ G m w->bY w (Fo G φ m) gl->args.length=vs.size->(∀(i:Nat) x v,args[i]?=some x->vs[i]?=some v->ai φ w (Fo G φ m) x v)->
 Calls P f vs w λe w'=>∃φ' m' out,K out m'/\aI φ' G m' w'/\aB φ m w φ' m' w'/\jf φ' w' (Fo G φ' m') out e):Ev P gl f args m K:=by
 intro φ G w vs hm Z BL BA;refine (h φ ⟨G.g,[]⟩ w vs rfl (hm.dv []) Z BL BA).mono ?_;rintro e w' ⟨φ',m',out,H,J,T,AJ⟩;exact⟨φ',m',out,H,J.dv G.dv,T,AJ⟩
theorem qi(An:fI X)(B':eZ X Al){fn:Func}{c:Code}{args:List AV}{cs:List ax}{out:Out}{l:List (Nat×ax)}(AU:X.P.funcs[f]?=some fn)(E:fn.body=some c)
 (h:lv X f Al n fn c args cs=some (out,l)):Ev X.P X.gl f args (bS 0 cs) λo m=>o=out/\m=bI 0 l:=by
 unfold lv at h;split at h
 .rename_i M;simp at M;obtain⟨⟨⟨Da,Db⟩,BP⟩,BQ⟩:=M;refine Ev.dv ?_;intro φ G w vs BB hm D2 Dc B4;have BF:∀k,k∈(bS 0 cs).map (·.key)↔k<cs.length:=λk=>by rw[uq];simp
  have Bs:∀k∈(X.fp f).sites,k∉(bS 0 cs).map (·.key):=by
   grind
  have CI:∀k L,φ k=some L->k<cs.length/\L.U=0:=λk L A4=>by
   have A6:=hm.kG k L A4;obtain⟨e,he,rfl⟩:=WS.1 A6;obtain⟨L',Ak,AK,_⟩:=hm.dk e he;rw[A4]at Ak;cases Ak;exact⟨(BF _).1 A6,by rw[AK];exact wA cs 0 e he⟩
  have D3:=hm.add BQ Bs;have Bt:aB φ (bS 0 cs) w (φ.add (X.fp f).sites) (bS 0 cs++(X.fp f).sites.map dead) w:=⟨zq hm Bs,λ_ _ _=>rfl,λb _ A7=>(sE Bs b).1 A7,Ds _,rfl,rfl,rfl⟩;refine calls_of_wp AU E ?_;obtain⟨S0,BC⟩:∃S0,S0=entry fn.ntmps X.gl args cs (X.fp f).sites:=⟨_,rfl⟩;have A:Rel (φ.add (X.fp f).sites) G S0 {tmps:=vs++Array.replicate (fn.ntmps-vs.size) undef,defers:=[]} w:=by
   rw[BC];refine⟨by simp[entry];omega,BB.symm,λt x AL=>?_,D3,?_⟩
   .obtain⟨j,rfl,A9⟩:=pV 0 args t _ AL;have CB:j<vs.size:=by grind
    have e:(vs++Array.replicate (fn.ntmps-vs.size) undef).getD (0+j) undef=vs[j]:=by
     simp;grind
    exact Bt.av (B4 j x _ A9 (by grind))
   .exact Bt.fX D2
  rw[<-BC]at h;cases Bu:den X f Al n c S0 with
  |none=>rw[Bu]at h;cases h
  |some q=>
   obtain⟨e,I⟩:=q;rw[Bu]at h;obtain⟨Dd,De,AZ⟩:=zZ An B' c S0 e I Bu (by rw[BC];rfl) (by rw[BC];exact An.GB f fn c AU E BP);refine wp_mono (AZ _ G _ w A) λe' W w' A8=>?_;obtain⟨φ',_,A0,Y,he⟩:=A8.is;have CJ:aB φ (bS 0 cs) w φ' I.mem w':=by
    have:S0.mem=bS 0 cs++(X.fp f).sites.map dead:=by rw[BC];rfl
    rw[this]at Y;exact Bt.trans Y
   have CK:finish X.P (X.fp f) cs.length fn.results.toList I=some (out,l)->
    W.defers=[]/\∃v,(results fn W.tmps).run X.P w'=.ok v w'/\∃BM m' CL,(CL=out/\m'=bI 0 l)/\aI BM G m' w'/\aB φ (bS 0 cs) w BM m' w'/\jf BM w' (Fo G BM m') CL (.returned v):=by
    intro BN;unfold finish at BN;split at BN
    .rename_i D4 xs C3;split at BN
     .rename_i D5;obtain⟨At,H,J,T⟩:=pS A0 fn.results.toList D4 xs C3 D5;obtain⟨AG,Ah,rfl,g1,g2,g3,g4,_⟩:=mz BN A0.mem A0.fX J T CJ CI;have D6:(results fn W.tmps).run X.P w'=.ok (if h:At.toArray.size=1 then At.toArray[0]else .tuple At.toArray) w':=by
       have e:results fn W.tmps=(do let vs <-fn.results.mapM (rF W.tmps);pure (if h:vs.size=1 then vs[0]else .tuple vs)):=by
        congr 1
       rw[e,Array.mapM_eq_mapM_toList];simp_all
      refine⟨A0.defers.trans BB,_,D6,AG,_,_,⟨rfl,rfl⟩,g1,g2,?_⟩;show ai AG w' _ (oneOf Ah) _;by_cases Df:At.length=1
      .obtain⟨v,rfl⟩:∃v,At=[v]:=by
        cases At with
        |nil=>grind
        |cons v r=>grind
       obtain⟨y,rfl⟩:∃y,Ah=[y]:=by
        cases Ah with
        |nil=>grind
        |cons v r=>grind
       simpa [oneOf]using g4 0 y v (by simp) (by simp)
      .have e:oneOf Ah=.bk Ah:=by
        cases Ah with
        |nil=>rfl
        |cons y r=>cases r with|nil=>grind|cons _ _=>rfl
       rw[e,dif_neg (by grind)];exact .bk Ah At.toArray (by grind) (λi y v h CN=>g4 i y v h (by grind))
     grind
    grind
   cases e' with
   |normal=>cases he;exact CK h
   |ret=>cases he;exact CK h
   |exit id=>cases he;cases h
   |panic chain=>
    obtain⟨t,x,v,rfl,rfl,V⟩:=he;have CN:kT (X.fp f) cs.length I [] (λ_=>.panic t x)=some (out,l):=h;obtain⟨AG,Ah,rfl,g1,g2,_,_,g5⟩:=mz (vs:=[]) CN A0.mem A0.fX rfl (by simp) CJ CI;exact⟨A0.defers.trans BB,AG,_,_,⟨rfl,rfl⟩,g1,g2,v,rfl,V.mono (λ_ _ _=>rfl) (Ds _) (λb _=>g5 b)⟩
   |_=>grind
 grind
theorem Ev.split{P:Program}{gl f r m K}(H:Ev P gl f (.lit (.slice none 0 0)::r) m K)(J:Ev P gl f (.nn::r) m K):Ev P gl f (.d (.list [])::r) m K:=by
 intro φ G w vs hm Z BL BA;have go:∀y,(∀v,vs[0]?=some v->ai φ w (Fo G φ m) y v)->∀(i:Nat) x v,(y::r)[i]?=some x->vs[i]?=some v->ai φ w (Fo G φ m) x v:=by
  grind
 have Dg:0<vs.size:=by grind
 have AF:=BA 0 (.d (.list [])) vs[0] (by simp) (by grind);generalize Dh:vs[0]=v0 at AF;have Bv:vs[0]?=some v0:=by grind
 cases AF with
 |d _ _ V=>
  cases V with
  |nil a cap A1=>
   cases a with
   |none=>
    have:=A1 rfl;subst this;exact H φ G w vs hm Z (by grind) (go _ (λv AC=>by rw[Bv]at AC;cases AC;exact .lit _ rfl))
   |some a=>exact J φ G w vs hm Z (by grind) (go _ (λv AC=>by rw[Bv]at AC;cases AC;exact .nn a cap))
  |list _ b off cap sz Di=>exact J φ G w vs hm Z (by grind) (go _ (λv AC=>by rw[Bv]at AC;cases AC;exact .nn _ cap))
theorem cS{r:Option (Out×List (Nat×ax))}{sz:Nat}(h:k6 r=some sz):r=some (.ret (.vec 0 0 0 0),[(0,.vec sz [])]):=by
 unfold k6 at h;grind
theorem AX{h:List AV->Option AV}{args:List AV}{cs:List ax}{r:Out×List (Nat×ax)}(A:gn h args cs=some r):cs=[]/\∃d,h args=some d/\r=(.ret d,[]):=by
 unfold gn at A;grind
theorem toDs_eq:∀{args:List AV}{BO:List D},toDs args=some BO->args=BO.map .d
 |[],BO,h=>by
  simp[toDs]at h;grind
 |y::r,BO,h=>by
  cases A:toDs r with
  |none=>unfold toDs at h;grind
  |some Ah=>
   unfold toDs at h;rw[A]at h;cases y<;>cases h;rw[toDs_eq A];rfl
theorem KK(An:fI X){g:FuncId}{h:List AV->Option AV}(Z:X.qK g=some h){args:List AV}{cs:List ax}{out:Out}{l:List (Nat×ax)}(A:gn h args cs=some (out,l)):
 dF X.P g=true/\Ev X.P X.gl g args (bS 0 cs) λo m=>o=out/\m=bI 0 l:=by
 obtain⟨M,D7⟩:=An.qK g h Z;refine⟨M,?_⟩;obtain⟨rfl,d,V,he⟩:=AX A;cases he;intro φ G w vs hm A3 BL BA;have CP:∀b,ei φ (bS 0 []) b->False:=by
  rintro b ⟨e,he,_⟩;simp[bS]at he
 refine (D7 args d V φ (Fo G φ (bS 0 [])) w vs A3 (λb E=>E.elim (hm.bound b) λh=>(CP b h).elim) BL BA).mono ?_;rintro e w' ⟨v,rfl,E,BB⟩;refine⟨φ,bS 0 [],.ret d,⟨rfl,rfl⟩,⟨hm.nodup,hm.kG,λe he=>by simp[bS]at he,λe he=>by simp[bS]at he,λb E=>(CP b E).elim,λb D8=>XA (hm.bound b D8) E.size⟩,⟨aR.le_refl _,λb Be _=>E.block b Be,λb _ A7=>A7,E.size,E.os,E.tape,E.output⟩,?_⟩;exact BB
end
def MX(φ:aR)(w:World)(F:Nat->Prop)(x:DF)(d:Deferred):Prop:=
 ∃Z:Array Value,d.target=.fn (.func x.1) Z/\x.2.length=(d.args++Z).size/\∀(i:Nat) y v,x.2[i]?=some y->(d.args++Z)[i]?=some v->ai φ w F y v
def jk(φ:aR)(w:World)(F:Nat->Prop):List DF->List Deferred->Prop
 |[],[]=>True
 |x::xs,d::D=>MX φ w F x d/\jk φ w F xs D
 |_,_=>False
def jk.keeps{φ m w φ' m' w'}{G:Fr}(h:aB φ m w φ' m' w'):∀{xs:List DF}{D:List Deferred},jk φ w (Fo G φ m) xs D->jk φ' w' (Fo G φ' m') xs D
 |[],[],_=>trivial
 |x::xs,d::D,⟨⟨Z,A5,A2,A3⟩,A7⟩=>⟨⟨Z,A5,A2,λi y v A8 A'=>h.av (A3 i y v A8 A')⟩,jk.keeps h A7⟩
 |[],_::_,AM=>AM.elim
 |_::_,[],AM=>AM.elim
def qj(n:Nat)(φ:aR)(g:Nat->Prop)(m:Mem)(w:World)(e:XE)(A:St)(E:List DF)(e':Exit)(J:Act)(w':World):Prop:=
 ∃φ' q,A.n=n/\Rel φ' ⟨g,q⟩ A J w'/\aB φ m w φ' A.mem w'/\jk φ' w' (Fo ⟨g,q⟩ φ' A.mem) E q/\(match e' with
  | .normal=>e=.normal
  | .exit id=>e=.exit id
  | .ret=>e=.ret
  | .panic chain=>∃t x v,e=.panic t x/\chain=[{v:=.iface t v,recovered:=false}]/\ar w' (Fo ⟨g,q⟩ φ' A.mem) x v
  |_=>False)
def qj.weaken{n:Nat}{φ AV:aR}{g:Nat->Prop}{m m1:Mem}{w AW:World}{e A E e' J w'}(h:qj n AV g m1 AW e A E e' J w')(Ai:aB φ m w AV m1 AW):qj n φ g m w e A E e' J w':=by
 obtain⟨φ',q,A5,A2,A3,A7,U⟩:=h;exact⟨φ',q,A5,A2,Ai.trans A3,A7,U⟩
def Aa{S:St}{o:Oper}{d:DF}(h:jT S o=some d):o.guard=none/\∃c A9 args AH g AC,o.op=.defer c/\c={callee:=.value A9,args,argTypes:=AH}/\S.ag A9=(true,.fn g AC)/\g<mg/\eo S args.toList=true/\d=(g,bz S args.toList++AC):=by
 unfold jT at h;split at h
 .rename_i A9 args AH AN AO;unfold Ol at h;split at h
  .rename_i g AC AI;split at h
   .rename_i AD;cases h;simp only[WJ,WV]at AD;exact⟨AN,_,A9,args,AH,g,AC,AO,rfl,AI,AD.2,AD.1,rfl⟩
   .cases h
  .cases h
 .cases h
section
variable {X:Ctx} {A0:aN} {f:FuncId} {n:Nat}
theorem qk{md:Bool}{all:List Oper}(A4:eZ X A0):∀(ops:List Oper)(S:St)(D:List DF)(e:XE)(A:St)(E:List DF),cW X A0 md all ops S D=some (e,A,E)->S.gl=X.gl->fB S.n ops=true->
 A.n=S.n/\A.gl=S.gl/\∀φ g dv a w,Rel φ ⟨g,dv⟩ S a w->jk φ w (Fo ⟨g,dv⟩ φ S.mem) D dv->∀Q:Exit->Act->World->Prop,(∀e' J w',qj S.n φ g S.mem w e A E e' J w'->Q e' J w')->wpList X.P all.toArray Q ops a w
 |[],S,D,e,A,E,h,O,I=>by
  simp only[cW,WR,W0]at h;obtain⟨rfl,rfl,rfl⟩:=h;exact⟨rfl,rfl,λφ g dv a w H M Q AA=>AA .normal _ _ ⟨φ,dv,rfl,H,aB.refl ..,M,rfl⟩⟩
 |o::rest,S,D,e,A,E,h,O,I=>by
  simp only[fB,X8,WJ]at I;obtain⟨AX,I⟩:=I;have AY:∀t,o.dst=some t->t<S.n:=λt Aj=>by rw[Aj]at AX;simpa using AX
  simp only[cW]at h;cases AP:jT S o with
  |some d=>
   rw[AP]at h;simp only at h;obtain⟨AN,c,A9,args,AH,g0,AC,AO,Ak,AI,Al,AD,rfl⟩:=Aa AP;obtain⟨AE,AF,AQ⟩:=qk A4 rest (S.put o.dst true .aC) _ e A E h ((gK ..).trans O) (by rw[hE];exact I);refine⟨AE.trans (hE ..),AF.trans (gK ..),λφ g dv a w H M Q AA=>?_⟩;have AR:=H.ag A9 (by rw[AI]);rw[AI]at AR;generalize An:a.eval A9=Ax at AR;cases AR with
   |lA _ _ Z AZ A_=>exact absurd Al (Nat.not_lt.2 (XM _ _))
   |fn _ _ Z Ay AZ A_=>
    have Ao:(execOp a.eval o).run X.P w=.ok (.defer {target:=.fn (.func g0) Z,args:=args.map a.eval}) w:=by
     simp[execOp,AO,Ak,resolve,An,Deferred.ofValue]
    have hw:Region.wanted o (yielded all.toArray a.tmps)=true:=by simp[Region.wanted,AN]
    unfold wpList;rw[W2 hw];left;unfold Oper.wp;rw[Ao,Oper.upon_defer];have Ap:Rel φ ⟨g,{target:=.fn (.func g0) Z,args:=args.map a.eval}::dv⟩ S {a with defers:={target:=.fn (.func g0) Z,args:=args.map a.eval}::a.defers} w:=
     ⟨H.size,by rw[H.defers],H.env,H.mem.dv _,H.fX⟩
    have AS:=Ap.put o.dst AY true .aC undef (λ_=>.aC _);refine AQ φ g _ _ w AS ⟨⟨Z,rfl,?_,?_⟩,?_⟩ Q (λe' a2 AJ V=>AA e' a2 AJ ?_)
    .rw[WY,eO];simp[AZ]
    .intro i y v A8 A';rw[cM];by_cases hi:i<args.size
     .rw[WN (by rw[eO];simpa using hi),oM]at A8;rw[Xm (by simpa using hi)]at A';simp only[Array.getElem?_map,WH]at A';obtain⟨z,Ab,rfl⟩:=A';obtain⟨Az,Ac,rfl⟩:=WH.1 A8;rw[Xp,Ab]at Ac;cases Ac;exact H.ag z (nY AD z (by simpa using Array.mem_of_getElem? Ab))
     .rw[WT (by rw[eO];simpa using hi),eO]at A8;rw[Array.getElem?_append_right (by simpa using hi)]at A';simp only[Array.size_map,WQ]at A8 A';exact A_ _ _ v A8 A'
    .rw[cM];exact M
    .rw[hE,cM]at V;exact V
  |none=>
   rw[AP]at h;simp only at h;cases AT:iL X A0 md all S o with
   |none=>rw[AT]at h;cases h
   |some p=>
    obtain⟨T,S1⟩:=p;rw[AT]at h;obtain⟨W,A1,Aq,Ad⟩:=nD A4 O AY AT;rcases Aq with rfl|⟨t0,B',rfl⟩
    .simp only[yh]at h;obtain⟨AE,AF,AQ⟩:=qk A4 rest S1 D e A E h (A1.trans O) (by rw[W];exact I);refine⟨AE.trans W,AF.trans A1,λφ g dv a w H M Q AA=>?_⟩;have:=Ad φ ⟨g,dv⟩ a w H (wpList X.P all.toArray Q rest) Q
      (λ_ φ' J w' AG A6=>AQ φ' g dv J w' AG (M.keeps A6) Q (λe' a2 AJ V=>AA e' a2 AJ (by rw[<-W];exact V.weaken A6))) (λt x he=>by cases he)
     unfold wpList;split
     .rename_i hw;rw[W2 hw]at this;exact .inl this
     .rename_i hw;rw[WO hw]at this;exact this
    .simp only[yh,WR,W0]at h;obtain⟨rfl,rfl,rfl⟩:=h;refine⟨W,A1,λφ g dv a w H M Q AA=>?_⟩;have:=Ad φ ⟨g,dv⟩ a w H (wpList X.P all.toArray Q rest) Q
      (λhe=>by cases he) (λt x he φ' J w' v AG A6 A'=>AA (.panic _) J w' ⟨φ',dv,W,AG,A6,M.keeps A6,t,x,v,he,rfl,A'⟩)
     unfold wpList;split
     .rename_i hw;rw[W2 hw]at this;exact .inl this
     .rename_i hw;rw[WO hw]at this;exact this
theorem BG(AK:fI X)(A4:eZ X A0){c:Code}{S:St}{D:List DF}{e:XE}{A:St}{E:List DF}(h:p9 D (den X f A0 n c S)=some (e,A,E))(O:S.gl=X.gl)(I:cw X f S.n c=true):
 A.n=S.n/\A.gl=S.gl/\∀φ g dv a w,Rel φ ⟨g,dv⟩ S a w->jk φ w (Fo ⟨g,dv⟩ φ S.mem) D dv->c.wp X.P (qj S.n φ g S.mem w e A E) a w:=by
 cases Y:den X f A0 n c S with
 |none=>rw[Y]at h;cases h
 |some p=>
  obtain⟨T,S1⟩:=p;rw[Y]at h;simp only[p9,WR,W0]at h;obtain⟨rfl,rfl,rfl⟩:=h;obtain⟨A5,A2,A3⟩:=zZ AK A4 c S T S1 Y O I;refine⟨A5,A2,λφ g dv a w H M=>wp_mono (A3 φ ⟨g,dv⟩ a w H) λe' J w' V=>?_⟩;obtain⟨φ',Ar,AG,A6,he⟩:=V.is;exact⟨φ',dv,Ar,AG,A6,M.keeps A6,by cases e'<;>exact he⟩
theorem IE(AK:fI X)(A4:eZ X A0)(c:Code):∀(S:St)(D:List DF)(e:XE)(A:St)(E:List DF),eG X f A0 n c S D=some (e,A,E)->S.gl=X.gl->cw X f S.n c=true->
 A.n=S.n/\A.gl=S.gl/\∀φ g dv a w,Rel φ ⟨g,dv⟩ S a w->jk φ w (Fo ⟨g,dv⟩ φ S.mem) D dv->c.wp X.P (qj S.n φ g S.mem w e A E) a w:=by
 induction c with
 |seq a b As At=>
  intro S D e A E h O I;simp only[cw,WJ]at I;simp only[eG]at h;cases Y:eG X f A0 n a S D with
  |none=>rw[Y]at h;cases h
  |some p=>
   obtain⟨T,S1,AB⟩:=p;obtain⟨W,A1,AL⟩:=As S D T S1 AB Y O I.1;have stop:T≠.normal->e=T/\A=S1/\E=AB:=λhe=>by
    rw[Y]at h;cases T with
    |normal=>exact absurd rfl he
    |_=>simp only[zE,WR,W0]at h;exact⟨h.1.symm,h.2.1.symm,h.2.2.symm⟩
   by_cases he:T=.normal
   .subst he;rw[Y]at h;simp only[zE]at h;obtain⟨AE,AF,Au⟩:=At S1 AB e A E h (A1.trans O) (by rw[W];exact I.2);refine⟨AE.trans W,AF.trans A1,λφ g dv ac w H M=>wp_seq (wp_mono (AL φ g dv ac w H M) λe' J w' V=>?_)⟩;obtain⟨φ',q,A5,A2,A3,A7,U⟩:=V;cases e' with
    |normal=>exact wp_mono (Au φ' g q J w' A2 A7) λB0 a2 AJ Ae=>by rw[W]at Ae;exact Ae.weaken A3
    |exit id=>cases U
    |ret=>cases U
    |panic chain=>obtain⟨t,x,v,AU,_⟩:=U;cases AU
    |_=>exact U.elim
   .obtain⟨rfl,rfl,rfl⟩:=stop he;refine⟨W,A1,λφ g dv ac w H M=>wp_seq (wp_mono (AL φ g dv ac w H M) λe' J w' V=>?_)⟩;cases e' with
    |normal=>obtain⟨_,_,_,_,_,_,U⟩:=V;exact absurd U he
    |_=>exact V
 |region id ops draw=>
  intro S D e A E h O I;simp only[eG]at h;split at h
  .rename_i Af;simp only[WJ,Bool.not_eq_true']at Af;obtain⟨rfl,_⟩:=Af;simp only[cw,WJ]at I;have Av:fB S.n ops.toList=true:=I.1;cases Y:cW X A0 (X.md f id) ops.toList ops.toList S D with
   |none=>rw[Y]at h;cases h
   |some p=>
    obtain⟨T,S1,AB⟩:=p;rw[Y]at h;obtain⟨W,A1,AL⟩:=qk A4 ops.toList S D T S1 AB Y O Av;have Ag:∀φ g dv a w,Rel φ ⟨g,dv⟩ S a w->jk φ w (Fo ⟨g,dv⟩ φ S.mem) D dv->(Code.region id ops false).wp X.P (qj S.n φ g S.mem w T S1 AB) a w:=
     λφ g dv a w H M=>wp_region_lit (AL φ g dv a w H M _ (λ_ _ _ h=>h))
    by_cases he:T=.normal
    .subst he;simp only[rU,WR,W0]at h;obtain⟨rfl,rfl,rfl⟩:=h;obtain⟨t1,t2,t3⟩:=mC X f id S1;refine⟨t1.trans W,t2.trans A1,λφ g dv a w H M=>wp_mono (Ag φ g dv a w H M) λe' J w' V=>?_⟩;obtain⟨φ',q,A5,A2,A3,A7,U⟩:=V;cases e' with
     |normal=>
      obtain⟨Aw,AS,Ah⟩:=t3 φ' ⟨g,q⟩ J w' A2;exact⟨Aw,q,t1.trans A5,AS,A3.trans Ah,A7.keeps Ah,rfl⟩
     |exit id=>cases U
     |ret=>cases U
     |panic chain=>obtain⟨t,x,v,AU,_⟩:=U;cases AU
     |_=>exact U.elim
    .have:e=T/\A=S1/\E=AB:=by
      cases T with
      |normal=>exact absurd rfl he
      |_=>simp only[rU,WR,W0]at h;exact⟨h.1.symm,h.2.1.symm,h.2.2.symm⟩
     obtain⟨rfl,rfl,rfl⟩:=this;exact⟨W,A1,Ag⟩
  .exact BG AK A4 h O I
 |_=>intro S D e A E h O I;exact BG AK A4 (by simpa only[eG]using h) O I
end
abbrev Ru:=FuncId->Array Value->World->(Ending->World->Prop)->Prop
def Ab(C:Ru):Prop:=∀f vs w R A',C f vs w R->(∀e w',R e w'->A' e w')->C f vs w A'
def Ac(C:Ru)(gl:List (Nat×D))(f:FuncId)(args:List AV)(m:Mem)(K:Out->Mem->Prop):Prop:=
 ∀φ G w (vs:Array Value),aI φ G m w->bY w (Fo G φ m) gl->args.length=vs.size->(∀(i:Nat) x v,args[i]?=some x->vs[i]?=some v->ai φ w (Fo G φ m) x v)->
  C f vs w λe w'=>∃φ' m' out,K out m'/\aI φ' G m' w'/\aB φ m w φ' m' w'/\jf φ' w' (Fo G φ' m') out e
def Ac.Kx{C:Ru}(U:Ab C){gl f args}{cs:List ax}{out:Out}{A:List (Nat×ax)}(h:Ac C gl f args (bS 0 cs) λo m=>o=out/\m=bI 0 A)(A0:cs.length<=A.length):
 Ac C gl f args (bS 0 cs) λo m=>o=wu cs.length A out/\m=bI 0 (b9 (bI 0 A) (List.range cs.length) (λ_=>true) (λ_ v=>v) 0 (List.range cs.length)):=by
 intro φ G w vs hm V AB AC;refine U _ _ _ _ _ (h φ G w vs hm V AB AC) ?_;rintro e w' ⟨φ',m',W,⟨rfl,rfl⟩,M,E,H⟩;obtain⟨s1,s2,AD⟩:=sD (G1:=G) (ρ:=List.range cs.length) (bor:=λ_=>true) (nv:=λ_ v=>v) M List.nodup_range (λk O=>pq A 0 k (Nat.zero_le _) (by simp at O;omega)) (λb h=>.inl h) (λb h=>M.fW b h.own)
  (λk e L b V _ _ Y a=>M.fW _ ⟨e,(Mem.get_mem V).1,L,by rw[(Mem.get_mem V).2];exact Y,a⟩)
 refine⟨_,_,_,⟨rfl,rfl⟩,s1,⟨?_,E.qT,?_,E.size,E.os,E.tape,E.output⟩,?_⟩
 .intro k L Y;have O:k<cs.length:=by
   have:=hm.kG k L Y;rw[zr,kQ]at this;simpa using this
  obtain⟨L',c,AE,AF⟩:=E.le k L Y;exact⟨L',by simp[aR.dY,O,c],AE,AF⟩
 .intro b AG a;exact E.own b AG ((pc (φ:=φ') (nv:=λ_ v=>v) (bor:=λ_=>true) (λk O=>pq A 0 k (Nat.zero_le _) (by simp at O;omega)) b).1 a).own
 .cases W with
  |ret x=>
   cases e with
   |returned v=>exact (s2 x v H).norm
   |_=>exact H.elim
  |panic t x=>
   cases e with
   |panicked chain=>
    obtain⟨v,Z,J⟩:=H;exact⟨v,Z,J.mono (λ_ _ _=>rfl) (Ds _) (λb _=>AD b)⟩
   |_=>exact H.elim
def AY{C:Ru}(U:Ab C){gl:List (Nat×D)}{A1:aN}(AH:∀g args cs out l,A1 g args cs=some (out,l)->Ac C gl g args (bS 0 cs) λo m=>o=out/\m=bI 0 l)
 {m:Mem} {A2:Nat} {g:FuncId} {I:List AV} {mt:List Nat} {res:cQ} (h:cm A1 m A2 g I mt=some res) {φ:aR} {G:Fr} {w:World} (hm:aI φ G m w) (AI:bY w (Fo G φ m) gl)
 {vs:Array Value} (A0:I.length=vs.size) (AJ:∀(i:Nat) x v,I[i]?=some x->vs[i]?=some v->ai φ w (Fo G φ m) x v):
 C g vs w λe w'=>∃φ',aI φ' G (aL m res.es) w'/\aB φ m w φ' (aL m res.es) w'/\jf φ' w' (Fo G φ' (aL m res.es)) res.out e:=by
 unfold cm iK iJ at h;obtain⟨ρ,A3⟩:∃ρ,ρ=collect m 64 (gO mt 0 I) []:=⟨_,rfl⟩;have A4:=ki m 64 (gO mt 0 I) [] List.nodup_nil (by simp);rw[<-A3]at h A4;generalize (nz mt 0 I).filter (λk=>!ρ.contains k)=B at h;clear A3;obtain⟨A5,A6⟩:=A4;unfold cR at h;split at h
 .rename_i out A AK;split at h
  .rename_i Z;cases h;have A7:Ac C gl g (dQ (mt.contains 1000) m ρ B I) (bS 0 (jz (b9 m ρ (λk=>B.contains k) dO 0 ρ))) λo m=>o=out/\m=bI 0 A:=by
    obtain⟨AW,AX,AL,c⟩:=rZ AK;have A8:=AH _ _ _ _ _ AL;rcases c with ⟨rfl,rfl⟩|⟨AZ,rfl,rfl⟩
    .exact A8
    .have A9:(jz (b9 m ρ (λk=>B.contains k) dO 0 ρ)).length=ρ.length:=by rw[nC,ll]
     have:=A8.Kx U (by rw[A9];omega);rw[A9]at this;exact this
   simp only[WJ,Bool.or_eq_true,WV]at Z;obtain⟨⟨A_,AM⟩,AN⟩:=Z;rw[rY]at A7;obtain⟨v1,v2,v3⟩:=xe (B:=B) hm A5 A6;have AO:∀(i:Nat) x v,(dQ (mt.contains 1000) m ρ B I)[i]?=some x->vs[i]?=some v->ai (φ.dY ρ dO) w (Fo (gC φ G m ρ B) (φ.dY ρ dO) (bI 0 (b9 m ρ (λk=>B.contains k) dO 0 ρ))) x v:=by
    intro i x v J AP;rw[qd]at J;obtain⟨y,AQ,rfl⟩:=WH.1 J;exact (v2 y v (AJ i y v AQ AP)).tp
   have AR:bY w (Fo (gC φ G m ρ B) (φ.dY ρ dO) (bI 0 (b9 m ρ (λk=>B.contains k) dO 0 ρ))) gl:=
    AI.mono (λ_ _ _=>rfl) (Ds _) (λb _=>v3 b)
   refine U _ _ _ _ _ (A7 (φ.dY ρ dO) (gC φ G m ρ B) w _ v1 AR (by rw[mb];exact A0) AO) ?_;rintro e w' ⟨Aa,m2,W,⟨rfl,rfl⟩,AS,AT,H⟩;have q:B=[]\/(plainO W=true/\jj A=true):=AN.imp (by simp) id;obtain⟨φ',M,E,AA⟩:=xf (B:=B) hm A5 A6 (fr:=List.range' (A2+1) (A.length-ρ.length)) List.nodup_range' (uj AM) AS AT (by simp;omega) (q.imp id λT=>qe T.2);refine⟨φ',M,E,?_⟩;cases W with
   |ret x=>
    cases e with
    |returned v=>exact AA x v (q.imp id λT=>T.1) H
    |_=>exact H.elim
   |panic t x=>
    cases e with
    |panicked chain=>
     obtain⟨v,rfl,J⟩:=H;have:=AA (.d x) v (q.imp id λT=>T.1) (.d _ _ J);cases this with
     |d _ _ AU=>exact⟨v,rfl,AU⟩
    |_=>exact H.elim
  .cases h
 .cases h
def xD{P:Program}{ops:Array Oper}{Q:Exit->Act->List Frame->World->Prop}{cs:List Frame}(AA:∀a w,¬Q .outgrown a cs w):∀(l:List Nat)(a:Act)(w:World),
 wpOps P ops (λe a w=>Q e a cs w) l a w->wpOpsS P ops Q l a cs w
 |[],a,w,h=>h
 |i::rest,a,w,h=>by
  have ih:=xD (P:=P) (ops:=ops) AA rest;unfold wpOps at h;unfold wpOpsS;split at h
  .rename_i W;simp only[W];exact ih a w h
  .rename_i o W;simp only[W];split at h
   .rename_i hw;rw[W2 hw];rcases h with h|⟨_,a0,w0,h⟩
    .have U:=Oper.wp_mono (K':=λE w'=>wpOpsS P ops Q rest E cs w') ih h;unfold Oper.wp at U;split
     .rename_i w' H;rw[H]at U;exact U.elim
     .exact U
    .exact absurd h (AA a0 w0)
   .rename_i hw;rw[WO hw];exact ih _ w h
def CS(c0:Frame)(A:List Frame)(v:Value)(D:FrameMode):Prop:=
 recoverD (c0::A)=some (v,{c0 with mode:=D}::A)\/(recoverD (c0::A)=none/\v=.nilIface/\D=c0.mode)
def wB{o:Oper}(h:rV o=true):o.guard=none/\∃A3,o.op=.call {callee:=.builtin .recover,args:=#[],argTypes:=A3}:=by
 unfold rV at h;split at h
 .rename_i args A3 A5 W;refine⟨A5,A3,?_⟩;rw[W];have:args=#[]:=by
   cases args with
   |mk l=>cases l with
    |nil=>rfl
    |cons a r=>simp at h
  rw[this]
 .cases h
abbrev yi(c0:Frame)(A:List Frame)(D:FrameMode)(n:Nat)(φ:aR)(G:Fr)(m:Mem)(w:World)(e:XE)(I:St):Exit->Act->List Frame->World->Prop:=
 λe' E A' w'=>A'={c0 with mode:=D}::A/\iU n φ G m w (Is e I) e' E w'
def ql{P:Program}{c:Code}{Q AB:Exit->Act->List Frame->World->Prop}{a:Act}{cs:List Frame}{w:World}(h:c.wpS P Q a cs w)(AK:∀e a cs w,Q e a cs w->AB e a cs w):c.wpS P AB a cs w:=
 λb k AL H=>let ⟨e,E,A',w',q,r⟩:=h b k AL H;⟨e,E,A',w',AK _ _ _ _ q,r⟩
section
variable {X:Ctx} {A6:aN} {f:FuncId} {n:Nat}
theorem IF(AM:fI X)(AC:eZ X A6)(A0:AV)(c:Code):∀(S:St)(e:XE)(I:St),ma X f A6 n A0 c S=some (e,I)->S.gl=X.gl->cw X f S.n c=true->
 I.n=S.n/\I.gl=S.gl/\∀φ G a w c0 A v D,CS c0 A v D->ai φ w (Fo G φ S.mem) A0 v->Rel φ G S a w->c.wpS X.P (yi c0 A D S.n φ G S.mem w e I) a (c0::A) w:=by
 induction c with
 |seq a b AD Ad=>
  intro S e I h A2 Y;simp only[cw,WJ]at Y;simp only[ma]at h;rcases dG h with ⟨S1,Z,U⟩|⟨Z,U⟩
  .obtain⟨M,O,T⟩:=AD S .normal S1 Z A2 Y.1;obtain⟨AN,AO,AP⟩:=zZ AM AC b S1 e I U (O.trans A2) (by rw[M];exact Y.2);refine⟨AN.trans M,AO.trans O,λφ G ac w c0 A v D J y H=>wpS_seq (ql (T φ G ac w c0 A v D J y H) ?_)⟩;rintro e' E A' w' ⟨rfl,V⟩;obtain⟨φ',AE,A7,A8,he⟩:=V.is;cases e' with
   |normal=>
    refine wpS_of_wp (wp_mono (AP φ' G E w' A7) λAe a2 Af AF=>⟨rfl,?_⟩);rw[M]at AF;exact AF.weaken A8
   |exit id=>cases he
   |ret=>cases he
   |panic chain=>obtain⟨t,x,v,AQ,_⟩:=he;cases AQ
   |_=>exact he.elim
  .obtain⟨M,O,T⟩:=AD S e I Z A2 Y.1;refine⟨M,O,λφ G ac w c0 A v D J y H=>wpS_seq (ql (T φ G ac w c0 A v D J y H) ?_)⟩;rintro e' E A' w' ⟨rfl,V⟩;cases e' with
   |normal=>obtain⟨φ',_,_,_,he⟩:=V.is;exact absurd he U
   |_=>exact⟨rfl,V⟩
 |region id ops draw=>
  intro S e I h A2 Y;simp only[ma]at h;split at h
  .rename_i o r AG;split at h
   .rename_i AR;obtain⟨A5,A3,W⟩:=wB AR;simp only[cw,WJ]at Y;have A9:fB S.n ops.toList=true:=Y.1;rw[AG]at A9;simp only[fB,X8,WJ]at A9;obtain⟨AH,AS⟩:=A9;have AT:∀t,o.dst=some t->t<S.n:=λt AU=>by rw[AU]at AH;simpa using AH
    have A4:(o::r).toArray=ops:=by rw[<-AG]
    have key:∀A1 S1,eh X A6 (X.md f id) (o::r) r (S.put o.dst true A0)=some (A1,S1)->S1.n=S.n/\S1.gl=S.gl/\∀φ G a w c0 A v D,CS c0 A v D->ai φ w (Fo G φ S.mem) A0 v->Rel φ G S a w->
     (Code.region id ops false).wpS X.P (yi c0 A D S.n φ G S.mem w A1 S1) a (c0::A) w:=by
     intro A1 S1 Z;obtain⟨M,O,T⟩:=r7 AC r (S.put o.dst true A0) A1 S1 Z ((gK ..).trans A2) (by rw[hE];exact AS);rw[hE]at M T;rw[gK]at O;rw[cM]at T;refine⟨M,O,λφ G a w c0 A v D J y H=>wpS_region ?_⟩;have AW:List.range ops.size=0::List.range' 1 r.length:=by
      rw[<-A4];simp[List.range_eq_range',XG]
     have AX:ops[0]?=some o:=by rw[<-A4];simp
     have AY:(execOp a.eval o).run X.P w=.ok .recover w:=by
      simp[execOp,W,resolve,Deferred.ofValue,invoke,builtin]
     have AZ:=H.put o.dst AT true A0 v (λ_=>y);have AI:=T φ G _ w AZ (λe a w'=>yi c0 A D S.n φ G S.mem w A1 S1 e a ({c0 with mode:=D}::A) w') (λe' E w' V=>⟨rfl,V⟩);rw[A4,<-wpOps_eq_wpList r 1 (λj=>by rw[<-A4];simp[Nat.add_comm])]at AI;have AJ:=xD (Q:=yi c0 A D S.n φ G S.mem w A1 S1) (cs:={c0 with mode:=D}::A) (λ_ _ hh=>hh.2) _ _ _ AI;rw[AW];unfold wpOpsS;simp only[AX];rw[W2 (by simp[Region.wanted,A5])];simp only[AY];rcases J with J|⟨J,rfl,rfl⟩
     .rw[J];exact AJ
     .rw[J];exact AJ
    unfold p8 at h;split at h
    .rename_i S1 Z;cases h;obtain⟨M,O,T⟩:=key _ _ Z;obtain⟨t1,t2,t3⟩:=mC X f id S1;refine⟨t1.trans M,t2.trans O,λφ G a w c0 A v D J y H=>ql (T φ G a w c0 A v D J y H) ?_⟩;rintro e' E A' w' ⟨rfl,V⟩;refine⟨rfl,?_⟩;obtain⟨φ',AE,A7,A8,he⟩:=V.is;cases e' with
     |normal=>
      obtain⟨A_,Aa,Ab⟩:=t3 φ' G E w' A7;exact⟨A_,_,t1.trans AE,⟨rfl,rfl⟩,Aa,A8.trans Ab⟩
     |exit id=>cases he
     |ret=>cases he
     |panic chain=>obtain⟨t,x,v,Ac,_⟩:=he;cases Ac
     |_=>exact he.elim
    .exact key _ _ h
   .cases h
  .cases h
 |_=>intro S e I h;simp[ma]at h
end
section
variable {X:Ctx} {A5:aN} {f:FuncId} {n:Nat}
theorem Ad{fn:Func}{args:List AV}{cs:List ax}(AJ:args.length<=fn.ntmps)(AK:cs.length<=100)(a:∀k∈(X.fp f).sites,100<=k)(A6:(X.fp f).sites.Nodup)
 {φ:aR} {G:Fr} {w:World} {vs:Array Value} (A7:G.dv=[]) (hm:aI φ G (bS 0 cs) w) (A8:bY w (Fo G φ (bS 0 cs)) X.gl) (A9:args.length=vs.size)
 (AA:∀(i:Nat) x v,args[i]?=some x->vs[i]?=some v->ai φ w (Fo G φ (bS 0 cs)) x v):
 Rel (φ.add (X.fp f).sites) G (entry fn.ntmps X.gl args cs (X.fp f).sites) {tmps:=vs++Array.replicate (fn.ntmps-vs.size) undef,defers:=[]} w/\
  aB φ (bS 0 cs) w (φ.add (X.fp f).sites) (entry fn.ntmps X.gl args cs (X.fp f).sites).mem w/\(∀k L,φ k=some L->k<cs.length/\L.U=0):=by
 have AL:∀k,k∈(bS 0 cs).map (·.key)↔k<cs.length:=λk=>by rw[uq];simp
 have AB:∀k∈(X.fp f).sites,k∉(bS 0 cs).map (·.key):=by
  intro k q AZ;have A':=a k q;have A0:=(AL k).1 AZ;omega
 have V:∀k L,φ k=some L->k<cs.length/\L.U=0:=λk L AM=>by
  have q:=hm.kG k L AM;obtain⟨e,he,rfl⟩:=WS.1 q;obtain⟨L',AN,A_,_⟩:=hm.dk e he;rw[AM]at AN;cases AN;exact⟨(AL _).1 q,by rw[A_];exact wA cs 0 e he⟩
 have AC:=hm.add A6 AB;have AD:aB φ (bS 0 cs) w (φ.add (X.fp f).sites) (bS 0 cs++(X.fp f).sites.map dead) w:=⟨zq hm AB,λ_ _ _=>rfl,λb _ Aa=>(sE AB b).1 Aa,Ds _,rfl,rfl,rfl⟩;refine⟨⟨by simp[entry];omega,A7.symm,λt x W=>?_,AC,AD.fX A8⟩,AD,V⟩;obtain⟨j,rfl,AO⟩:=pV 0 args t _ W;have AE:j<vs.size:=by rw[<-A9];exact (D1.1 AO).1
 have e:(vs++Array.replicate (fn.ntmps-vs.size) undef).getD (0+j) undef=vs[j]:=by
  simp only[Xt,W4];rw[Xm AE];simp[AE]
 rw[e];exact AD.av (AA j x _ AO (by simp[AE]))
theorem xE{fn:Func}{cs:List ax}{out:Out}{l:List (Nat×ax)}{φ φ':aR}{G:Fr}{O:St}{E:Act}{w w':World}(T:Rel φ' G O E w')(AF:aB φ (bS 0 cs) w φ' O.mem w')
 (V:∀k L,φ k=some L->k<cs.length/\L.U=0) (H:finish X.P (X.fp f) cs.length fn.results.toList O=some (out,l)):
 ∃v,(results fn E.tmps).run X.P w'=.ok v w'/\∃A m' Y,(Y=out/\m'=bI 0 l)/\aI A G m' w'/\aB φ (bS 0 cs) w A m' w'/\jf A w' (Fo G A m') Y (.returned v):=by
 unfold finish at H;split at H
 .rename_i Ae xs Af;split at H
  .rename_i Ag;obtain⟨J,A',A0,AG⟩:=pS T fn.results.toList Ae xs Af Ag;obtain⟨A1,M,rfl,g1,g2,g3,g4,_⟩:=mz H T.mem T.fX A0 AG AF V;have Ah:(results fn E.tmps).run X.P w'=.ok (if h:J.toArray.size=1 then J.toArray[0]else .tuple J.toArray) w':=by
    have e:results fn E.tmps=(do let vs <-fn.results.mapM (rF E.tmps);pure (if h:vs.size=1 then vs[0]else .tuple vs)):=by
     unfold results;congr 1
    rw[e,Array.mapM_eq_mapM_toList];simp only[Sem.run_bind,Sem.run_map,A',Result.andThen_ok,Sem.run_pure]
   refine⟨_,Ah,A1,_,_,⟨rfl,rfl⟩,g1,g2,?_⟩;show ai A1 w' _ (oneOf M) _;by_cases AH:J.length=1
   .obtain⟨v,rfl⟩:∃v,J=[v]:=by
     cases J with
     |nil=>simp at AH
     |cons v r=>exact⟨v,by cases r with|nil=>rfl|cons _ _=>simp at AH⟩
    obtain⟨y,rfl⟩:∃y,M=[y]:=by
     cases M with
     |nil=>simp at g3
     |cons v r=>exact⟨v,by cases r with|nil=>rfl|cons _ _=>simp at g3⟩
    simpa [oneOf]using g4 0 y v (by simp) (by simp)
   .have e:oneOf M=.bk M:=by
     cases M with
     |nil=>rfl
     |cons y r=>cases r with|nil=>simp at g3;omega|cons _ _=>rfl
    rw[e,dif_neg (by simpa using AH)];exact .bk M J.toArray (by simpa using g3) (λi y v h Ai=>g4 i y v h (by simpa using Ai))
  .cases H
 .cases H
def EP(u:FrameMode)(v:Value):Prop:=(v=.nilIface/\u=.returning)\/∃t x,v=.iface t x/\u=.panicking [{v:=.iface t x,recovered:=false}]
def KN(P:Program):Ru:=λf vs w R=>∀u v,vs.back?=some v->EP u v->CallsD P f vs.pop u w λe D w'=>settle D=.returning/\R e w'
theorem GD(P:Program):Ab (KN P):=λf vs w R B' h Aj u v I hm=>(h u v I hm).mono λe D w' hh=>⟨hh.1,Aj e w' hh.2⟩
theorem ER(AP:fI X)(Ak:eZ X A5){fn:Func}{c:Code}{args:List AV}{cs:List ax}{out:Out}{l:List (Nat×ax)}(AQ:X.P.funcs[f]?=some fn)(AR:fn.body=some c)
 (h:rW X f A5 n fn c args cs=some (out,l)):Ac (KN X.P) X.gl f args (bS 0 cs) λo m=>o=out/\m=bI 0 l:=by
 unfold rW at h;split at h
 .rename_i A2 AS;split at h
  .rename_i AT;simp only[WJ,WV,W7]at AT;obtain⟨⟨⟨AJ,AK⟩,a⟩,A6⟩:=AT;intro φ A3 w vs AC A8 A9 AA u v I Al;obtain⟨G,Z⟩:∃G:Fr,G=⟨A3.g,[]⟩:=⟨_,rfl⟩;have A7:G.dv=[]:=by rw[Z]
   have hm:aI φ G (bS 0 cs) w:=by rw[Z];exact AC.dv []
   have An:bY w (Fo G φ (bS 0 cs)) X.gl:=by rw[Z];exact A8
   have AU:∀(i:Nat) x v,args[i]?=some x->vs[i]?=some v->ai φ w (Fo G φ (bS 0 cs)) x v:=by rw[Z];exact AA
   have Ao:args≠[]:=by rintro rfl;cases AS
   have B0:0<args.length:=List.length_pos_iff.2 Ao;have Ap:args.dropLast.length=vs.pop.size:=by simp;omega
   obtain⟨Aq,AW,V⟩:=Ad (fn:=fn) AJ AK a A6 A7 hm An Ap (λi x v W I=>by
    have hi:i<args.length-1:=by have:=(D1.1 W).1;simpa using this
    refine AU i x v ?_ ?_
    .rw[List.dropLast_eq_take,List.getElem?_take_of_lt (by omega)]at W;exact W
    .rw[Array.getElem?_pop]at I;rw[W2 (by omega)]at I;exact I)
   have Ar:ai (φ.add (X.fp f).sites) w (Fo G (φ.add (X.fp f).sites) (entry fn.ntmps X.gl args.dropLast cs (X.fp f).sites).mem) A2 v:=by
    refine AW.av (AU (args.length-1) A2 v ?_ ?_)
    .rw[<-XK];exact AS
    .rw[Array.back?]at I;rw[A9];exact I
   cases AI:ma X f A5 n A2 c (entry fn.ntmps X.gl args.dropLast cs (X.fp f).sites)with
   |none=>rw[AI]at h;cases h
   |some p=>
    obtain⟨e,O⟩:=p;rw[AI]at h;obtain⟨B1,B2,As⟩:=IF AP Ak A2 c _ e O AI rfl (AP.GB f fn c AQ AR a);refine callsD_of_wpS AQ AR λc0 A4 hu=>?_;obtain⟨D,At,Au⟩:∃D,CS c0 A4 v D/\settle D=.returning:=by
     rcases Al with ⟨rfl,rfl⟩|⟨t,x,rfl,rfl⟩
     .exact⟨.returning,.inr ⟨by simp[recoverD,hu],rfl,hu.symm⟩,rfl⟩
     .exact⟨.panicking [{v:=.iface t x,recovered:=true}],.inl (by simp[recoverD,hu]),by simp[settle]⟩
    refine ql (As _ G _ w c0 A4 v D At Ar Aq) ?_;rintro e' E B3 w' ⟨rfl,Av⟩;obtain⟨φ',_,T,Aw,he⟩:=Av.is;have AF:=AW.trans Aw;have AX:finish X.P (X.fp f) cs.length fn.results.toList O=some (out,l)->E.defers=[]/\∃AY,({c0 with mode:=D}::A4)={c0 with mode:=AY}::A4/\∃v,(results fn E.tmps).run X.P w'=.ok v w'/\(settle AY=.returning/\
     ∃A m' Y,(Y=out/\m'=bI 0 l)/\aI A A3 m' w'/\aB φ (bS 0 cs) w A m' w'/\jf A w' (Fo A3 A m') Y (.returned v)):=by
     intro H;obtain⟨v,A',A1,m2,Ax,A0,AG,Ay,Az⟩:=xE T AF V H;subst Z;exact⟨T.defers,D,rfl,v,A',Au,A1,m2,Ax,A0,AG.dv A3.dv,Ay,Az⟩
    cases e' with
    |normal=>cases he;exact AX h
    |ret=>cases he;exact AX h
    |exit id=>cases he;cases h
    |panic chain=>obtain⟨t,x,v,rfl,_⟩:=he;cases h
    |_=>exact he.elim
  .cases h
 .cases h
end
def H0(X:Ctx)(Y:aN):Prop:=∀g args cs out l,Y g args cs=some (out,l)->dF X.P g=true/\Ac (KN X.P) X.gl g args (bS 0 cs) λo m=>o=out/\m=bI 0 l
def x6{M:aN}{m:Mem}{AO:Nat}{g:FuncId}{AD:List AV}{mt:List Nat}{res:cQ}(h:cm M m AO g AD mt=some res):∃args cs out l,M g args cs=some (out,l):=by
 unfold cm iK iJ cR at h;split at h
 .rename_i out B4 O;obtain⟨B5,B6,AE,_⟩:=rZ O;exact⟨_,_,_,_,AE⟩
 .cases h
section
variable {X:Ctx} {M Y:aN} {f:FuncId} {n:Nat}
theorem ES(A:fI X)(A8:eZ X M)(AF:H0 X Y){fn:Func}{c:Code}{args:List AV}{cs:List ax}{out:Out}{l:List (Nat×ax)}(D:X.P.funcs[f]?=some fn)(E:fn.body=some c)
 (h:rX X f M Y n fn c args cs=some (out,l)):Ev X.P X.gl f args (bS 0 cs) λo m=>o=out/\m=bI 0 l:=by
 unfold rX at h;split at h
 .rename_i AG;simp only[WJ,WV,W7]at AG;obtain⟨⟨⟨AP,AQ⟩,AH⟩,AR⟩:=AG;refine Ev.dv ?_;intro φ G w vs A9 hm AS AT AU;obtain⟨A0,Z,AI⟩:=Ad (fn:=fn) AP AQ AH AR A9 hm AS AT AU;obtain⟨g,B7⟩:=G;simp only at A9;subst A9;cases AA:eG X f M n c (entry fn.ntmps X.gl args cs (X.fp f).sites) []with
  |none=>rw[AA]at h;cases h
  |some p=>
   obtain⟨e,q,AJ⟩:=p;rw[AA]at h;obtain⟨B8,AW,AX⟩:=IE A A8 c _ _ e q AJ AA rfl (A.GB f fn c D E AH);refine calls_of_wp_defers D E (wp_mono (AX _ g [] _ w A0 trivial) λe' H w' AZ=>?_);obtain⟨φ',AK,_,J,A_,A1,he⟩:=AZ;have A2:=Z.trans A_;have Aa:q.gl=X.gl:=AW;have back:∀{U:aR}{A3:St}{I:World},Rel U ⟨g,AK⟩ A3 H I->aB φ (bS 0 cs) w U A3.mem I->finish X.P (X.fp f) cs.length fn.results.toList A3=some (out,l)->
    ∃v,(results fn H.tmps).run X.P I=.ok v I/\∃A4 m' y,(y=out/\m'=bI 0 l)/\aI A4 ⟨g,[]⟩ m' I/\aB φ (bS 0 cs) w A4 m' I/\jf A4 I (Fo ⟨g,[]⟩ A4 m') y (.returned v):=by
    intro U A3 I Ab A5 Af;obtain⟨v,Ag,Ah,m3,Ai,Aj,Ak,Al,An⟩:=xE Ab A5 AI Af;exact⟨v,Ag,Ah,m3,Ai,Aj,Ak.dv [],Al,An⟩
   match AJ,AK,A1 with
   |[],[],_=>
    have T:H.defers=[]:=J.defers;simp only[uh]at h;cases e' with
    |normal=>cases he;show Leaves _ _ _ _ H.defers _ _;rw[T];exact back J A2 h
    |ret=>cases he;show Leaves _ _ _ _ H.defers _ _;rw[T];exact back J A2 h
    |exit id=>cases he;cases h
    |panic chain=>
     obtain⟨t,x,v,rfl,rfl,AB⟩:=he;have Ao:kT (X.fp f) cs.length q [] (λ_=>.panic t x)=some (out,l):=h;obtain⟨U,AD,rfl,g1,g2,_,_,g5⟩:=mz (vs:=[]) Ao J.mem J.fX rfl (by simp) A2 AI;show Leaves _ _ _ _ H.defers _ _;rw[T];exact⟨U,_,_,⟨rfl,rfl⟩,g1,g2,v,rfl,AB.mono (λ_ _ _=>rfl) (Ds _) (λb _=>g5 b)⟩
    |_=>exact he.elim
   |[d],[V],⟨Ap,_⟩=>
    have T:H.defers=[V]:=J.defers;simp only[uh]at h;have one:∀u A6 A',u≠FrameMode.run->EP u A'->ai φ' w' (Fo ⟨g,[V]⟩ φ' q.mem) A6 A'->uf e=some A6->
     Leaves X.P fn H.tmps (λe w'=>∃φ' m' y,(y=out/\m'=bI 0 l)/\aI φ' ⟨g,[]⟩ m' w'/\aB φ (bS 0 cs) w φ' m' w'/\jf φ' w' (Fo ⟨g,[]⟩ φ' m') y e) [V] u w':=by
     intro u A6 A' hu Aq Ar As;rw[As]at h;simp only[sN]at h;cases O:cm Y q.mem 0 d.1 (d.2++[A6]) (X.fp d.1).oF with
     |none=>rw[O]at h;cases h
     |some res=>
      rw[O]at h;obtain⟨AC,AL,AM,At⟩:=Ap;obtain⟨_,_,_,_,Au⟩:=x6 O;have Av:=(AF _ _ _ _ _ Au).1;have Aw:=AY (GD X.P) (gl:=X.gl) (λg args cs out l hh=>(AF g args cs out l hh).2) O (φ:=φ') (G:=⟨g,[V]⟩) (w:=w') (vs:=(V.args++AC).push A') J.mem (by rw[<-Aa];exact J.fX)
       (by simp[AM];omega) (λi x v W A7=>by
        by_cases hi:i<d.2.length
        .rw[WN hi]at W;rw[Array.getElem?_push,WO (by omega)]at A7;exact At i x v W A7
        .have:i=d.2.length:=by
          have:=(D1.1 W).1;simp at this;omega
         subst this;rw[WT (Ds _)]at W;simp at W;subst W;rw[Array.getElem?_push,W2 AM]at A7;cases A7;exact Ar)
      have AN:=Aw u A' (by simp) Aq;rw[Array.pop_push]at AN;refine⟨hu,.func d.1,AC,d.1,V.args++AC,AL,by rw[AL];simp[invoke,nB Av],AN.mono ?_⟩;rintro Z Ax I ⟨Ay,U,Az,A5,B'⟩;unfold qa at h;split at h
      .rename_i x es ks heq;cases heq;cases Z with
       |returned v2=>
        show Leaves _ _ _ _ [] (settle Ax) I;rw[Ay];exact back (J.qU Az A5) (A2.trans A5) h
       |_=>exact B'.elim
      .cases h
    cases e' with
    |normal=>cases he;show Leaves _ _ _ _ H.defers _ _;rw[T];exact one .returning _ .nilIface (by simp) (.inl ⟨rfl,rfl⟩) (.lit _ rfl) rfl
    |ret=>cases he;show Leaves _ _ _ _ H.defers _ _;rw[T];exact one .returning _ .nilIface (by simp) (.inl ⟨rfl,rfl⟩) (.lit _ rfl) rfl
    |exit id=>cases he;cases h
    |panic chain=>
     obtain⟨t,x,v,rfl,rfl,AB⟩:=he;show Leaves _ _ _ _ H.defers _ _;rw[T];exact one (.panicking [{v:=.iface t v,recovered:=false}]) _ (.iface t v) (by simp) (.inr ⟨t,v,rfl,rfl⟩) (.dJ _ _ _ AB) rfl
    |_=>exact he.elim
   |_::_::_,_,_=>cases h
 .cases h
theorem GF(A:fI X)(A8:eZ X M):H0 X (qc X n M):=by
 intro g args cs out l h;unfold qc at h;split at h
 .rename_i fn D;split at h
  .rename_i c E;refine⟨?_,ER A A8 D E h⟩;unfold dF;rw[D];simp[E,A.names g fn D]
  .cases h
 .cases h
theorem Ae(A:fI X):∀n,eZ X (aH X n)
 |0=>λg args cs out l h=>by cases h
 |n+1=>λg args cs out l h=>by
  have ih:=Ae A n;simp only[aH,A.ov]at h;split at h
  .rename_i AE B0;exact KK A B0 h
  split at h
  .rename_i fn D;split at h
   .rename_i c E;have O:dF X.P g=true:=by
     unfold dF;rw[D];simp[E,A.names g fn D]
    refine⟨O,?_⟩;cases A1:qb c with
    |true=>
     rw[A1]at h;exact ES A ih (GF A ih) D E h
    |false=>
    rw[A1]at h;simp only[sO]at h;unfold eY at h;split at h
    .split at h
     .rename_i r;unfold gE at h;split at h
      .rename_i a b B1 B2;split at h
       .rename_i B3;subst B3;have A0:=cS B1;have Z:=cS B2;rw[A0]at h;cases h;exact Ev.split (qi A ih D E A0) (qi A ih D E Z)
       .cases h
      .cases h
     .exact qi A ih D E h
    .exact qi A ih D E h
   .cases h
  .cases h
end
def ay{α:Type}(f:Nat->Option α):Prop:=∀n r,f n=some r->f (n+1)=some r
def ay.le{α:Type}{f:Nat->Option α}(h:ay f){n m:Nat}(Ab:n<=m){r:α}(V:f n=some r):f m=some r:=by
 induction Ab with
 |refl=>exact V
 |step _ ih=>exact h _ _ ih
def ay.const{α:Type}(x:Option α):ay λ_=>x:=λ_ _ h=>h
def ay.bind{α β:Type}{f:Nat->Option α}{g:α->Nat->Option β}(T:ay f)(W:∀x,ay (g x)):ay λn=>(f n).bind λx=>g x n:=by
 intro n r h;obtain⟨x,AG,V⟩:=Xr.1 h;simp[T n x AG];exact W x n r V
open Classical in
noncomputable def dU{α:Type}(f:Nat->Option α):Option α:=if h:∃n,(f n).isSome=true then f (Classical.choose h)else none
def bO{α:Type}{f:Nat->Option α}(T:ay f){r:α}:dU f=some r↔∃n,f n=some r:=by
 unfold dU;constructor
 .intro h;split at h
  .grind
  grind
 .rintro ⟨n,Y⟩;have hex:∃n,(f n).isSome=true:=⟨n,by grind⟩;rw[dif_pos hex];have AO:=Classical.choose_spec hex;obtain⟨Aw,AP⟩:=XN.1 AO;rw[AP];rcases Nat.le_total n (Classical.choose hex)with I|I
  .rw[<-AP];exact T.le I Y
  .have:=T.le I AP;grind
def aF{α:Type}(x:Option α):dU (λ_=>x)=x:=by
 cases x with
 |some r=>exact (bO (ay.const _)).2 ⟨0,rfl⟩
 |none=>unfold dU;grind
def cZ{α β:Type}{f:Nat->Option α}{g:α->Nat->Option β}(T:ay f)(W:∀x,ay (g x)):dU (λn=>(f n).bind λx=>g x n)=(dU f).bind λx=>dU (g x):=by
 apply Option.ext;intro r;rw[bO (T.bind W),Xr];constructor
 .rintro ⟨n,Y⟩;obtain⟨x,AG,V⟩:=Xr.1 Y;exact⟨x,(bO T).2 ⟨n,AG⟩,(bO (W x)).2 ⟨n,V⟩⟩
 .rintro ⟨x,AG,V⟩;obtain⟨n,Y⟩:=(bO T).1 AG;obtain⟨m,hm⟩:=(bO (W x)).1 V;exact⟨max n m,by rw[T.le (Nat.le_max_left n m) Y];exact (W x).le (Nat.le_max_right n m) hm⟩
def sd{α:Type}{f:Nat->Option α}(T:ay f):dU (λn=>f (n+1))=dU f:=by
 have Ac:ay λn=>f (n+1):=λn r h=>T (n+1) r h;apply Option.ext;intro r;rw[bO Ac,bO T];exact⟨λ⟨n,h⟩=>⟨n+1,h⟩,λ⟨n,h⟩=>⟨n,T n r h⟩⟩
def aT(k:St->Option (XE×St)):XE×St->Option (XE×St)
 |(.normal,S)=>k S
 |r=>some r
def qm(r:Option (XE×St))(k:St->Option (XE×St)):andThen r k=r.bind (aT k):=by
 rcases r with _|⟨e,S⟩
 .rfl
 .cases e<;>rfl
def mT(k:St->St):XE×St->Option (XE×St)
 |(.normal,S)=>some (.normal,k S)
 |r=>some r
def pv(k:St->St)(r:Option (XE×St)):p8 k r=r.bind (mT k):=by
 rcases r with _|⟨e,S⟩
 .rfl
 .cases e<;>rfl
def bT(id:Nat):XE×St->Option (XE×St)
 |(.exit AU,S)=>if AU=id then some (.normal,S)else some (.exit AU,S)
 |r=>some r
def Af(id:Nat)(r:Option (XE×St)):vu id r=r.bind (bT id):=by
 rcases r with _|⟨e,S⟩
 .rfl
 .cases e<;>rfl
def cT(m:Mem)(A':Nat)(ρ B:List Nat)(O:Nat)(b:Bool)(p:Out×List (Nat×ax)):Option cQ:=cR m A' ρ B (kZ O b (some p))
def tE(m:Mem)(A':Nat)(ρ B:List Nat)(O:Nat)(b:Bool)(r:Option (Out×List (Nat×ax))):cR m A' ρ B (kZ O b r)=r.bind (cT m A' ρ B O b):=by cases r<;>rfl
def wC(S:St)(d:Option Nat)(r:Option cQ):rR S d r=r.bind λc=>rR S d (some c):=by cases r<;>rfl
def Ag(b:Bool)(m:Mem)(r:Option cQ):p5 b m r=r.bind λc=>p5 b m (some c):=by cases r<;>cases b<;>rfl
def uu(S:St)(o:Oper)(r:Option cQ):p6 S o r=r.bind λc=>p6 S o (some c):=by cases r<;>rfl
def jJ(D:List aD)(r:Option (St×aD))(k:St->List aD->Option (XE×St)):yf D r k=r.bind λp=>k p.1 (p.2::D):=by cases r<;>rfl
def Ah(P:Program)(p:dc)(O:Nat)(rs:List ResultVar)(r:Option (XE×St)):fin P p O rs r=r.bind λq=>fin P p O rs (some q):=by cases r<;>rfl
def cE(C:Nat->aN):Prop:=∀g a c,ay λk=>C k g a c
section
variable {X:Ctx} {C:Nat->aN} {S:St} {o:Oper} {md:Bool}
theorem oO(A:cE C)(m:Mem)(A':Nat)(g:FuncId)(AK:List AV)(mt:List Nat):ay (λk=>cm (C k) m A' g AK mt):=by
 unfold cm iK iJ;simp[tE];exact (A _ _ _).bind λ_=>ay.const _
theorem gp(A:cE C)(args:List Operand)(J:Bool×AV):ay (λk=>bf X (C k) S o args J):=by
 unfold bf;split
 .split
  .simp[Ag _ _ (cm _ _ _ _ _ _)];exact (oO A _ _ _ _ _).bind λ_=>ay.const _
  .exact ay.const _
 .exact ay.const _
theorem AZ(A:cE C):ay (λk=>lU X (C k) S o):=by
 unfold lU;split
 .rename_i J args AD AA;have I:(λk=>rR S o.dst (bf X (C k) S o args.toList (S.ag J)))=λk=>(bf X (C k) S o args.toList (S.ag J)).bind λc=>rR S o.dst (some c):=by
   funext k;exact wC ..
  rw[I];exact (gp A args.toList (S.ag J)).bind (λ_=>ay.const _)
 .exact ay.const _
 .exact ay.const _
theorem oP(A:cE C)(r:br):ay (λk=>dR X (C k) S o r):=by
 cases r with
 |no=>exact AZ A
 |val c x=>exact ay.const _
 |bo c x e=>exact ay.const _
theorem Ai(A:cE C)(b:Bool)(r:br):ay (λk=>jS X (C k) S o b r):=by
 have other:∀r,ay (λk=>if b=true then dR X (C k) S o r else some (.normal,S.put o.dst true .aC)):=by
  intro r;split
  .exact oP A r
  .exact ay.const _
 cases r with
 |no=>exact other .no
 |val c x=>exact ay.const _
 |bo c x e=>exact other (.bo c x e)
theorem mE(A:cE C)(all:List Oper):ay (λk=>iL X (C k) md all S o):=by
 unfold iL;split
 .exact oP A _
 .split
  .split
   .exact Ai A _ _
   .split
    .exact oP A _
    .exact ay.const _
  .exact ay.const _
  .exact ay.const _
theorem ku{F:Nat->Option (XE×St)}{K:St->Nat->Option (XE×St)}(A5:ay F)(AH:∀S,ay (K S)):ay (λn=>andThen (F n) (λS=>K S n)):=by
 simp[qm];refine A5.bind (g:=λx n=>aT (λS=>K S n) x) λx=>?_;obtain⟨e,S⟩:=x;cases e with
 |normal=>exact AH S
 |_=>exact ay.const _
theorem gP(A:cE C)(all:List Oper):∀(ops:List Oper)(S:St),ay (λk=>eh X (C k) md all ops S)
 |[],S=>ay.const _
 |o::r,S=>ku (mE A all) (λZ=>gP A all r Z)
theorem CU(A:cE C):ay (λk=>jA X (C k) S o):=by
 unfold jA;split
 .rename_i J args AD AA;have I:(λk=>p6 S o (bf X (C k) S o args.toList (S.ag J)))=λk=>(bf X (C k) S o args.toList (S.ag J)).bind λc=>p6 S o (some c):=by
   funext k;exact uu ..
  rw[I];exact (gp A args.toList (S.ag J)).bind (λ_=>ay.const _)
 .exact ay.const _
theorem qn(A:cE C)(r:br):ay (λk=>cO X (C k) S o r):=by
 cases r with
 |no=>exact CU A
 |val c x=>exact ay.const _
 |bo c x e=>exact ay.const _
theorem A0(A:cE C)(b:Bool)(r:br):ay (λk=>lV X (C k) S o b r):=by
 have other:∀r,ay (λk=>if b=true then cO X (C k) S o r else some (S.put o.dst true .aC,⟨[],[],true,.aC⟩)):=by
  intro r;split
  .exact qn A r
  .exact ay.const _
 cases r with
 |no=>exact other .no
 |val c x=>exact ay.const _
 |bo c x e=>exact other (.bo c x e)
theorem gQ(A:cE C)(all:List Oper):ay (λk=>cv X (C k) md all S o):=by
 unfold cv;split
 .exact qn A _
 .split
  .split
   .exact A0 A _ _
   .split
    .exact qn A _
    .exact ay.const _
  .exact ay.const _
  .exact ay.const _
theorem wD(S:St)(r:Option cQ):oH S r=r.bind λc=>oH S (some c):=by cases r<;>rfl
theorem xF(A:cE C):ay (λk=>gm X (C k) S o):=by
 unfold gm;split
 .unfold ud;split
  .unfold zD;split
   .rename_i J args AD AA;have I:(λk=>oH S (bf X (C k) S o args.toList (S.ag J)))=λk=>(bf X (C k) S o args.toList (S.ag J)).bind λc=>oH S (some c):=by
     funext k;exact wD ..
    rw[I];exact (gp A args.toList (S.ag J)).bind (λ_=>ay.const _)
   .exact ay.const _
  .exact ay.const _
 .exact ay.const _
theorem Aj{AQ:aN}{all:List Oper}{q:St×aD}(h:cv X AQ md all S o=some q):gm X AQ S o=none:=by
 cases A6:gm X AQ S o with
 |none=>rfl
 |some p=>
  obtain⟨W,Ad,J,args,AD,AA,AO,_⟩:=xy A6;unfold cv at h;rw[W]at h;simp[cO,jA,Ad,AA,AO]at h;cases h
theorem EU(A:cE C)(E:Nat×List (List Nat))(all r:List Oper)(D:List aD){K:Nat->St->List aD->Option (XE×St)}(AH:∀S D,ay λk=>K k S D):ay (λk=>iW X (C k) md E all r S o D (K k) (gm X (C k) S o)):=by
 intro n y h;simp only at h⊢;cases A6:gm X (C n) S o with
 |some q=>
  rw[A6]at h;have Ak:gm X (C (n+1)) S o=some q:=xF A n q A6;rw[Ak];exact h
 |none=>
  rw[A6]at h;simp[iW,jJ]at h;cases W:cv X (C n) md all S o with
  |none=>grind
  |some p=>
   have AW:cv X (C (n+1)) md all S o=some p:=gQ A all n p W;rw[Aj AW];simp[iW];rw[W]at h;rw[AW];exact AH _ _ n y h
theorem jl(A:cE C)(E:Nat×List (List Nat))(all:List Oper):∀(ops:List Oper)(S:St)(D:List aD),ay (λk=>dS X (C k) md E all ops S D)
 |[],S,D=>ay.const _
 |o::r,S,D=>EU A E all r D λS D=>jl A E all r S D
def CV(M:List Cl)(p:St×aD):Option (St×aD):=if vr M p.2.es=true then some p else none
theorem BH(M:List Cl)(r:Option (St×aD)):Gn M r=r.bind (CV M):=by
 rcases r with _|⟨S,p⟩<;>rfl
theorem oo(A:cE C)(E:List (List Nat))(M:List Cl)(all:List Oper):∀(ops:List Oper)(S:St)(D:List aD),ay (λk=>k5 X (C k) md E M all ops S D)
 |[],S,D=>ay.const _
 |o::r,S,D=>by
  simp only[k5,jJ];cases pk (E.getD D.length []) r with
  |true=>
   simp[CH];split
   .exact gP A all [o] S
   .exact ay.const _
  |false=>
  cases sM X.P M S o with
  |some x=>
   exact oo A E M all r _ _
  |none=>
   simp[yg,BH];exact ((gQ A all).bind (g:=λp _=>CV M p) λp=>ay.const _).bind (g:=λp n=>k5 X (C n) md E M all r p.1 (p.2::D)) λp=>oo A E M all r p.1 (p.2::D)
theorem xG(A:cE C)(E:List (List Nat))(all:List Oper)(S:St)(fl:List (Nat×Nat)):ay (λk=>oI X (C k) md E all S fl):=by
 cases fl with
 |nil=>exact jl A _ all all S []
 |cons q r=>
  simp[oI];cases dk S.mem (q::r)with
  |none=>exact ay.const _
  |some M=>exact oo A E M all all S []
theorem xH(f:St->Option (XE×St)):∀(j:Nat)(S:St)(r:XE×St),iter f j S=some r->iter f (j+1) S=some r
 |0,S,r,h=>by cases h
 |j+1,S,r,h=>by
  rw[iter];rcases dG h with ⟨S1,I,A7⟩|⟨I,A7⟩
  .rw[I];exact xH f j S1 r A7
  .rw[I];obtain⟨e,S1⟩:=r;cases e with
   |normal=>grind
   |_=>rfl
theorem nG(f:St->Option (XE×St)){j k:Nat}(h:j<=k){S:St}{r:XE×St}(V:iter f j S=some r):iter f k S=some r:=by
 induction h with
 |refl=>exact V
 |step _ ih=>exact xH f _ S r ih
theorem oq{F:Nat->St->Option (XE×St)}(A5:∀S,ay (λk=>F k S)):∀(j:Nat)(S:St),ay (λk=>iter (F k) j S)
 |0,S=>ay.const _
 |j+1,S=>ku (A5 S) (λZ=>oq A5 j Z)
theorem qo(A:cE C)(f:FuncId){m:Nat->Nat}(hm:∀k,m k<=m (k+1)):∀(c:Code)(S:St),ay (λk=>den X f (C k) (m k) c S):=by
 intro c;induction c with
 |region id ops draw=>
  intro S;cases draw with
  |false=>
   simp[den,pv];exact (gP A _ _ _).bind λ_=>ay.const _
  |true=>
   simp[den,pv];exact (xG A _ _ _ _).bind λ_=>ay.const _
 |seq a b AB AI=>intro S;exact ku (AB S) (λZ=>AI Z)
 |cond c a b AB AI=>
  intro S;simp[den];unfold vy;split
  .split
   .exact AB S
   simp_all
  .exact ay.const _
 |block id c ih=>
  intro S;simp[den,Af];exact (ih _).bind λ_=>ay.const _
 |loop c ih=>
  intro S n r h;have I:=oq (F:=λk=>den X f (C k) (m k) c) ih (m n) S n r h;exact nG _ (hm n) I
 |skip=>intro S;exact ay.const _
 |exit id=>intro S;exact ay.const _
 |ret=>intro S;exact ay.const _
 |rangeFunc _ _ _ _=>intro S;exact ay.const _
 |scope _ _=>intro S;exact ay.const _
 |label _=>intro S;exact ay.const _
 |goto _=>intro S;exact ay.const _
 |refuse _=>intro S;exact ay.const _
theorem vH(A:cE C)(f:FuncId){m:Nat->Nat}(hm:∀k,m k<=m (k+1))(fn:Func)(c:Code)(args:List AV)(cs:List ax):ay (λk=>lv X f (C k) (m k) fn c args cs):=by
 unfold lv;split
 .simp[Ah X.P (X.fp f) cs.length fn.results.toList (den _ _ _ _ _ _)];exact (qo A f hm c _).bind λ_=>ay.const _
 .exact ay.const _
theorem qN{F G:Nat->Option (Out×List (Nat×ax))}(A5:ay F)(Al:ay G):ay (λn=>gE (F n) (G n)):=by
 intro n r h;replace h:gE (F n) (G n)=some r:=h;show gE (F (n+1)) (G (n+1))=some r;unfold gE at h;split at h
 .rename_i a b AC AE;have AF:=cS AC;have An:=cS AE;have f1:=A5 n _ AF;have f2:=Al n _ An;rw[AF]at h;rw[f1,f2];exact h
 grind
theorem x7{R:Nat->List AV->Option (Out×List (Nat×ax))}(AL:∀a,ay (λn=>R n a))(args:List AV)(b:Bool):ay (λn=>eY (R n) args b):=by
 unfold eY;split
 .split
  .exact qN (AL _) (AL _)
  simp_all
 simp_all
def nT(k:St->XD)(H:List DF):XE×St->XD
 |(.normal,S)=>k S
 |(e,S)=>some (e,S,H)
theorem uv(k:St->XD)(H:List DF)(r:Option (XE×St)):yh k H r=r.bind (nT k H):=by
 rcases r with _|⟨e,S⟩
 .rfl
 .cases e<;>rfl
def lT(k:St->St):XE×St×List DF->XD
 |(.normal,S,H)=>some (.normal,k S,H)
 |r=>some r
theorem se(k:St->St)(r:XD):rU k r=r.bind (lT k):=by
 rcases r with _|⟨e,S,H⟩
 .rfl
 .cases e<;>rfl
def dT(H:List DF)(p:XE×St):XD:=some (p.1,p.2,H)
theorem wE(H:List DF)(r:Option (XE×St)):p9 H r=r.bind (dT H):=by
 rcases r with _|⟨e,S⟩<;>rfl
def sT(k:St->List DF->XD):XE×St×List DF->XD
 |(.normal,S,H)=>k S H
 |r=>some r
theorem BI(k:St->List DF->XD)(r:XD):zE k r=r.bind (sT k):=by
 rcases r with _|⟨e,S,H⟩
 .rfl
 .cases e<;>rfl
theorem iz(A:cE C)(all:List Oper):∀(ops:List Oper)(S:St)(H:List DF),ay (λk=>cW X (C k) md all ops S H)
 |[],S,H=>ay.const _
 |o::r,S,H=>by
  simp[cW];cases jT S o with
  |some d=>exact iz A all r _ _
  |none=>
   simp[uv];refine (mE A all).bind (g:=λx n=>nT (λS1=>cW X (C n) md all r S1 H) H x) λx=>?_;obtain⟨e,S1⟩:=x;cases e with
   |normal=>exact iz A all r S1 H
   |_=>exact ay.const _
theorem xI(A:cE C)(f:FuncId){m:Nat->Nat}(hm:∀k,m k<=m (k+1)):∀(c:Code)(S:St)(H:List DF),ay (λk=>eG X f (C k) (m k) c S H):=by
 have add:∀(c:Code)(S:St)(H:List DF),ay (λk=>p9 H (den X f (C k) (m k) c S)):=λc S H=>by
  simp[wE];exact (qo A f hm c S).bind λ_=>ay.const _
 intro c;induction c with
 |seq a b AB AI=>
  intro S H;simp[eG,BI];refine (AB S H).bind (g:=λx n=>sT (eG X f (C n) (m n) b) x) λx=>?_;obtain⟨e,S1,Ao⟩:=x;cases e with
  |normal=>exact AI S1 Ao
  |_=>exact ay.const _
 |region id ops draw=>
  intro S H;simp[eG];split
  .simp[se];exact (iz A _ _ _ _).bind λ_=>ay.const _
  simp_all
 |_=>simp[eG];simp_all
theorem xJ(A:cE C)(f:FuncId){m:Nat->Nat}(hm:∀k,m k<=m (k+1))(AJ:AV):∀(c:Code)(S:St),ay (λk=>ma X f (C k) (m k) AJ c S):=by
 intro c;induction c with
 |seq a b AB AI=>intro S;exact ku (AB S) (λZ=>qo A f hm b Z)
 |region id ops draw=>
  intro S;simp[ma];split
  .split
   .simp[pv];exact (gP A _ _ _).bind λ_=>ay.const _
   .exact ay.const _
  .exact ay.const _
 |_=>intro S;exact ay.const _
theorem IG(P:Program)(p:dc)(O:Nat)(rs:List ResultVar)(r:Option (XE×St)):Gq P p O rs r=r.bind λq=>Gq P p O rs (some q):=by cases r<;>rfl
theorem A1(A:cE C)(f:FuncId){m:Nat->Nat}(hm:∀k,m k<=m (k+1))(fn:Func)(c:Code)(args:List AV)(cs:List ax):ay (λk=>rW X f (C k) (m k) fn c args cs):=by
 unfold rW;split
 .split
  .simp[IG X.P (X.fp f) cs.length fn.results.toList (ma _ _ _ _ _ _ _)];exact (xJ A f hm _ c _).bind λ_=>ay.const _
  .exact ay.const _
 .exact ay.const _
theorem CW(A:cE C){m:Nat->Nat}(hm:∀k,m k<=m (k+1)):cE (λk=>qc X (m k) (C k)):=by
 intro g args cs;simp[qc];split
 .split
  .exact A1 A g hm _ _ _ _
  .exact ay.const _
 .exact ay.const _
theorem IH(S:St)(r:Option cQ):qa S r=r.bind λc=>qa S (some c):=by cases r<;>rfl
theorem II(X:Ctx)(p:dc)(O:Nat)(rs:List ResultVar)(r:Option St):ug X p O rs r=r.bind λS=>finish X.P p O rs S:=by cases r<;>rfl
theorem IJ(X:Ctx)(p:dc)(O:Nat)(rs:List ResultVar)(AX:aN)(r:XD):uh X p O rs AX r=r.bind λq=>uh X p O rs AX (some q):=by cases r<;>rfl
theorem CX{CR:Nat->aN}(A:cE CR)(p:dc)(O:Nat)(rs:List ResultVar)(S:St)(d:DF)(AJ:Option AV):ay (λk=>sN X p O rs (CR k) S d AJ):=by
 cases AJ with
 |none=>exact ay.const _
 |some AJ=>
  simp[sN,II,IH S (cm _ _ _ _ _ _)];exact ((oO A _ _ _ _ _).bind (g:=λc _=>qa S (some c)) λ_=>ay.const _).bind (g:=λS _=>finish X.P p O rs S) λ_=>ay.const _
theorem CY{CR:Nat->aN}(A:cE CR)(p:dc)(O:Nat)(rs:List ResultVar)(q:XE×St×List DF):ay (λk=>uh X p O rs (CR k) (some q)):=by
 obtain⟨e,S,H⟩:=q;match H with
 |[]=>exact ay.const _
 |[d]=>exact CX A p O rs S d (uf e)
 |_::_::_=>exact ay.const _
theorem A2(A:cE C){CR:Nat->aN}(AL:cE CR)(f:FuncId){m:Nat->Nat}(hm:∀k,m k<=m (k+1))(fn:Func)(c:Code)(args:List AV)(cs:List ax):ay (λk=>rX X f (C k) (CR k) (m k) fn c args cs):=by
 unfold rX;split
 .simp[IJ X (X.fp f) cs.length fn.results.toList _ (eG _ _ _ _ _ _ _)];exact (xI A f hm c _ _).bind (g:=λq n=>uh X (X.fp f) cs.length fn.results.toList (CR n) (some q)) λq=>CY AL _ _ _ q
 .exact ay.const _
theorem vI(X:Ctx):∀n g a c r,aH X n g a c=some r->aH X (n+1) g a c=some r
 |0,g,a,c,r,h=>by cases h
 |n+1,g,a,c,r,h=>by
  have ih:=vI X n;have A:cE λk=>if k=0 then aH X n else aH X (n+1):=by
   intro g a c k r h;grind
  have hm:∀k,(if k=0 then n else n+1)<=(if k+1=0 then n else n+1):=by
   grind
  cases A8:X.ov with
  |some c0=>simp[aH,A8]at h⊢;exact h
  |none=>
  cases A9:X.qK g with
  |some Ax=>simp[aH,A9]at h⊢;exact h
  |none=>
  cases T:X.P.funcs[g]? with
  |none=>simp only[aH,A8,A9,T]at h;cases h
  |some fn=>
   cases AE:fn.body with
   |none=>simp only[aH,A8,A9,T,AE]at h;cases h
   |some code=>
    have AF:∀k,aH X (k+1) g a c=sO X g (aH X k) k fn code a c (qb code):=by
     simp[aH,A8,A9,T,AE]
    rw[AF]at h⊢;cases AM:qb code with
    |true=>
     rw[AM]at h;exact A2 (X:=X) (C:=λk=>if k=0 then aH X n else aH X (n+1)) (CR:=λk=>qc X (if k=0 then n else n+1) (if k=0 then aH X n else aH X (n+1))) A (CW A hm) g hm fn code a c 0 r h
    |false=>
    rw[AM]at h;exact x7 (R:=λk args=>lv X g ((λk=>if k=0 then aH X n else aH X (n+1)) k) ((λk=>if k=0 then n else n+1) k) fn code args c) (λargs=>vH A g hm fn code args c) a _ 0 r h
theorem aQ(X:Ctx):cE (aH X):=λg a c n r h=>vI X n g a c r h
end
noncomputable def au(X:Ctx):aN:=λg a c=>dU λk=>aH X k g a c
noncomputable def df(X:Ctx)(f:FuncId)(c:Code)(S:St):Option (XE×St):=dU λk=>den X f (aH X k) k c S
def ez{X:Ctx}{g a c r}(n:Nat)(h:aH X n g a c=some r):au X g a c=some r:=(bO (aQ X g a c)).2 ⟨n,h⟩
def GG{X:Ctx}(Ap:fI X):eZ X (au X):=λg args cs out l h=>by
 obtain⟨n,Y⟩:=(bO (aQ X g args cs)).1 h;exact Ae Ap n g args cs out l Y
section
variable {X:Ctx} {S:St} {o:Oper} {f:FuncId} {md:Bool}
theorem dm(c:Code)(S:St):ay (λk=>den X f (aH X k) k c S):=qo (aQ X) f (m:=λk=>k) (λk=>X3 k) c S
theorem CZ(m:Mem)(A':Nat)(g:FuncId)(AK:List AV)(mt:List Nat):dU (λk=>cm (aH X k) m A' g AK mt)=cm (au X) m A' g AK mt:=by
 unfold cm iK iJ;simp[tE];rw[cZ (aQ X _ _ _) (λ_=>ay.const _)];simp[aF];rfl
theorem oQ(args:List Operand)(J:Bool×AV):dU (λk=>bf X (aH X k) S o args J)=bf X (au X) S o args J:=by
 unfold bf;split
 .split
  .simp[Ag _ _ (cm _ _ _ _ _ _)];rw[cZ (oO (aQ X) _ _ _ _ _) (λ_=>ay.const _),CZ];simp[aF]
  .exact aF _
 .exact aF _
theorem C0:dU (λk=>lU X (aH X k) S o)=lU X (au X) S o:=by
 unfold lU;split
 .rename_i J args AD AA;have I:(λk=>rR S o.dst (bf X (aH X k) S o args.toList (S.ag J)))=λk=>(bf X (aH X k) S o args.toList (S.ag J)).bind λc=>rR S o.dst (some c):=by
   funext k;exact wC ..
  rw[I,cZ (gp (aQ X) _ _) (λ_=>ay.const _),oQ,wC];simp[aF]
 .exact aF _
 .exact aF _
theorem qp(r:br):dU (λk=>dR X (aH X k) S o r)=dR X (au X) S o r:=by
 cases r with
 |no=>exact C0
 |val c x=>exact aF _
 |bo c x e=>exact aF _
theorem A3(b:Bool)(r:br):dU (λk=>jS X (aH X k) S o b r)=jS X (au X) S o b r:=by
 have other:∀r,dU (λk=>if b=true then dR X (aH X k) S o r else some (.normal,S.put o.dst true .aC))=if b=true then dR X (au X) S o r else some (.normal,S.put o.dst true .aC):=by
  intro r;split
  .exact qp r
  .exact aF _
 cases r with
 |no=>exact other .no
 |val c x=>exact aF _
 |bo c x e=>exact other (.bo c x e)
theorem xK(all:List Oper):dU (λk=>iL X (aH X k) md all S o)=iL X (au X) md all S o:=by
 unfold iL;split
 .exact qp _
 .split
  .split
   .exact A3 _ _
   .split
    .exact qp _
    .exact aF _
  .exact aF _
  .exact aF _
theorem oR{F:Nat->Option (XE×St)}{K:St->Nat->Option (XE×St)}(A5:ay F)(AH:∀S,ay (K S)):dU (λn=>andThen (F n) (λS=>K S n))=andThen (dU F) (λS=>dU (K S)):=by
 simp[qm];rw[cZ (g:=λx n=>aT (λS=>K S n) x) A5 (λx=>by
  obtain⟨e,S⟩:=x;cases e with
  |normal=>exact AH S
  |_=>exact ay.const _)]
 congr 1;funext x;obtain⟨e,S⟩:=x;cases e<;>first|rfl|exact aF _
theorem qq(all:List Oper):∀(ops:List Oper)(S:St),dU (λk=>eh X (aH X k) md all ops S)=eh X (au X) md all ops S
 |[],S=>aF _
 |o::r,S=>by
  simp[eh];have:=oR (F:=λk=>iL X (aH X k) md all S o) (K:=λZ k=>eh X (aH X k) md all r Z) (mE (aQ X) all) (λZ=>gP (aQ X) all r Z);rw[xK]at this;simp[qq all r]at this;grind
theorem EV:dU (λk=>jA X (aH X k) S o)=jA X (au X) S o:=by
 unfold jA;split
 .rename_i J args AD AA;have I:(λk=>p6 S o (bf X (aH X k) S o args.toList (S.ag J)))=λk=>(bf X (aH X k) S o args.toList (S.ag J)).bind λc=>p6 S o (some c):=by
   funext k;exact uu ..
  rw[I,cZ (gp (aQ X) _ _) (λ_=>ay.const _),oQ,uu];simp[aF]
 .exact aF _
theorem sf(r:br):dU (λk=>cO X (aH X k) S o r)=cO X (au X) S o r:=by
 cases r with
 |no=>exact EV
 |val c x=>exact aF _
 |bo c x e=>exact aF _
theorem C1(b:Bool)(r:br):dU (λk=>lV X (aH X k) S o b r)=lV X (au X) S o b r:=by
 have other:∀r,dU (λk=>if b=true then cO X (aH X k) S o r else some (S.put o.dst true .aC,(⟨[],[],true,.aC⟩:aD)))=if b=true then cO X (au X) S o r else some (S.put o.dst true .aC,⟨[],[],true,.aC⟩):=by
  intro r;split
  .exact sf r
  .exact aF _
 cases r with
 |no=>exact other .no
 |val c x=>exact aF _
 |bo c x e=>exact other (.bo c x e)
theorem vJ(all:List Oper):dU (λk=>cv X (aH X k) md all S o)=cv X (au X) md all S o:=by
 unfold cv;split
 .exact sf _
 .split
  .split
   .exact C1 _ _
   .split
    .exact sf _
    .exact aF _
  .exact aF _
  .exact aF _
theorem GH:dU (λk=>gm X (aH X k) S o)=gm X (au X) S o:=by
 unfold gm;split
 .unfold ud;split
  .unfold zD;split
   .rename_i J args AD AA;have I:(λk=>oH S (bf X (aH X k) S o args.toList (S.ag J)))=λk=>(bf X (aH X k) S o args.toList (S.ag J)).bind λc=>oH S (some c):=by
     funext k;exact wD ..
    rw[I,cZ (gp (aQ X) _ _) (λ_=>ay.const _),oQ,wD];simp[aF]
   .exact aF _
  .exact aF _
 .exact aF _
theorem vK(E:Nat×List (List Nat))(all:List Oper):∀(ops:List Oper)(S:St)(D:List aD),dU (λk=>dS X (aH X k) md E all ops S D)=dS X (au X) md E all ops S D
 |[],S,D=>aF _
 |o::r,S,D=>by
  have A6:∀q,gm X (au X) S o=some q↔∃k,gm X (aH X k) S o=some q:=λq=>by rw[<-GH];exact bO (xF (aQ X))
  have W:∀q,cv X (au X) md all S o=some q↔∃k,cv X (aH X k) md all S o=some q:=λq=>by rw[<-vJ];exact bO (gQ (aQ X) all)
  have V:∀S D y,dS X (au X) md E all r S D=some y↔∃k,dS X (aH X k) md E all r S D=some y:=λS D y=>by rw[<-vK E all r S D];exact bO (jl (aQ X) E all r S D)
  apply Option.ext;intro y;rw[bO (jl (aQ X) E all (o::r) S D)];simp[dS];constructor
  .rintro ⟨k,U⟩;cases AY:gm X (aH X k) S o with
   |some q=>
    rw[AY]at U;rw[(A6 q).2 ⟨k,AY⟩];exact U
   |none=>
    simp[iW,jJ]at U;cases Aq:cv X (aH X k) md all S o with
    |none=>grind
    |some p=>
     have AN:=(W p).2 ⟨k,Aq⟩;rw[Aj AN];simp[iW,jJ]at U⊢;grind
  .intro h;cases AR:gm X (au X) S o with
   |some q=>
    rw[AR]at h;obtain⟨k,U⟩:=(A6 q).1 AR;exact⟨k,by rw[U];exact h⟩
   |none=>
    rw[AR]at h;simp[iW,jJ]at h;cases AN:cv X (au X) md all S o with
    |none=>grind
    |some p=>
     rw[AN]at h;obtain⟨A_,Ar⟩:=(W p).1 AN;obtain⟨Aa,As⟩:=(V _ _ y).1 h;have Ay:=(gQ (X:=X) (S:=S) (o:=o) (md:=md) (aQ X) all).le (Nat.le_max_left A_ Aa) Ar;have Az:=(jl (X:=X) (md:=md) (aQ X) E all r p.1 (p.2::D)).le (Nat.le_max_right A_ Aa) As;simp[iW,jJ];grind
theorem uw(E:List (List Nat))(M:List Cl)(all:List Oper):∀(ops:List Oper)(S:St)(D:List aD),dU (λk=>k5 X (aH X k) md E M all ops S D)=k5 X (au X) md E M all ops S D
 |[],S,D=>aF _
 |o::r,S,D=>by
  simp only[k5,jJ];cases pk (E.getD D.length []) r with
  |true=>
   simp[CH];split
   .exact qq all [o] S
   .exact aF _
  |false=>
  cases sM X.P M S o with
  |some x=>
   exact uw E M all r _ _
  |none=>
   simp[yg,BH];rw[cZ (g:=λp n=>k5 X (aH X n) md E M all r p.1 (p.2::D)) ((gQ (aQ X) all).bind (g:=λp _=>CV M p) λp=>ay.const _) (λp=>oo (aQ X) E M all r p.1 (p.2::D)),
    cZ (g:=λp _=>CV M p) (gQ (aQ X) all) (λp=>ay.const _),vJ]
   simp[uw E M all r,aF]
theorem GI(E:List (List Nat))(all:List Oper)(S:St)(fl:List (Nat×Nat)):dU (λk=>oI X (aH X k) md E all S fl)=oI X (au X) md E all S fl:=by
 cases fl with
 |nil=>exact vK _ all all S []
 |cons q r=>
  simp[oI];cases dk S.mem (q::r)with
  |none=>exact aF _
  |some M=>exact uw E M all all S []
theorem EW:df X f .skip S=some (.normal,S):=aF _
theorem EX{id:Nat}:df X f (.exit id) S=some (.exit id,vt S (X.gh f (id+1000000))):=aF _
theorem GJ:df X f .ret S=some (.ret,S):=aF _
theorem GK{a b:Code}:df X f (.seq a b) S=andThen (df X f a S) (df X f b):=oR (dm a S) (λZ=>dm b Z)
theorem EY{c:Operand}{a b:Code}:df X f (.cond c a b) S=vy (df X f a S) (df X f b S) (S.ag c):=by
 unfold df;simp[den];unfold vy;split
 .grind
 .exact aF _
theorem C2{id:Nat}{c:Code}:df X f (.block id c) S=vu id (df X f c (S.enter X f id)):=by
 unfold df;simp[den,Af];rw[cZ (dm c _) (λ_=>ay.const _)];simp[aF]
theorem A4{id:Nat}{ops:Array Oper}:df X f (.region id ops false) S=p8 (St.leave X f id) (eh X (au X) (X.md f id) ops.toList ops.toList S):=by
 unfold df;simp[den,pv];rw[cZ (gP (aQ X) _ _ _) (λ_=>ay.const _),qq];simp[aF]
theorem EZ{id:Nat}{ops:Array Oper}:df X f (.region id ops true) S=p8 (St.leave X f id) (oI X (au X) (X.md f id) (X.od f id) ops.toList S (X.fl f id)):=by
 unfold df;simp[den,pv];rw[cZ (xG (aQ X) _ _ _ _) (λ_=>ay.const _),GI];simp[aF]
theorem E0{c:Code}:df X f (.loop c) S=andThen (df X f c S) (df X f (.loop c)):=by
 apply Option.ext;intro r;have AS:∀S r,df X f (.loop c) S=some r↔∃k,iter (den X f (aH X k) k c) k S=some r:=λS r=>bO (dm (.loop c) S);have hi:∀{k j i:Nat}{S r},k<=j->i<=j->iter (den X f (aH X k) k c) i S=some r->iter (den X f (aH X j) j c) j S=some r:=by
  intro k j i S r U At h;exact nG _ At ((oq (F:=λk=>den X f (aH X k) k c) (λS=>dm c S) i S).le U h)
 rw[AS];constructor
 .rintro ⟨k,U⟩;cases k with
  |zero=>cases U
  |succ k=>
   rcases dG U with ⟨S1,I,A7⟩|⟨I,A7⟩
   .have:df X f c S=some (.normal,S1):=(bO (dm c S)).2 ⟨k+1,I⟩;rw[this];exact (AS S1 r).2 ⟨k+1,hi (Ds _) (X3 k) A7⟩
   .have:df X f c S=some r:=(bO (dm c S)).2 ⟨k+1,I⟩;rw[this];obtain⟨e,S1⟩:=r;cases e with
    |normal=>grind
    |_=>rfl
 .intro h;rcases dG h with ⟨S1,I,A7⟩|⟨I,A7⟩
  .obtain⟨k,U⟩:=(bO (dm c S)).1 I;obtain⟨j,Au⟩:=(AS S1 r).1 A7;refine⟨max k j+1,?_⟩;rw[iter,(dm c S).le (show k<=max k j+1 by omega) U];have:=(oq (F:=λk=>den X f (aH X k) k c) (λS=>dm c S) j S1).le (show j<=max k j+1 by omega) Au;exact nG _ (show j<=max k j by omega) this
  .obtain⟨k,U⟩:=(bO (dm c S)).1 I;refine⟨k+1,?_⟩;rw[iter,(dm c S).le (X3 k) U];obtain⟨e,S1⟩:=r;cases e with
   |normal=>grind
   |_=>rfl
noncomputable def vL(X:Ctx)(f:FuncId)(fn:Func)(c:Code)(cs:List ax)(args:List AV):Option (Out×List (Nat×ax)):=
 if (decide (args.length<=fn.ntmps)&&decide (cs.length<=100)&&(X.fp f).sites.all (λk=>decide (100<=k))&&decide (X.fp f).sites.Nodup)=true then
  fin X.P (X.fp f) cs.length fn.results.toList (df X f c (entry fn.ntmps X.gl args cs (X.fp f).sites))
 else none
theorem lY{h:List AV->Option AV}{args:List AV}{cs:List ax}(A8:X.ov=none)(A9:X.qK f=some h):au X f args cs=gn h args cs:=by
 unfold au;rw[<-sd (aQ X f args cs)];have:(λn=>aH X (n+1) f args cs)=λ_=>gn h args cs:=by simp[aH,A8,A9]
 rw[this,aF]
theorem GL{fn:Func}{c:Code}{args:List AV}{cs:List ax}(A8:X.ov=none)(A9:X.qK f=none)(T:X.P.funcs[f]?=some fn)(AE:fn.body=some c)(AM:qb c=false):
 au X f args cs=eY (vL X f fn c cs) args (X.fp f).split:=by
 have hm:∀args,ay (λk=>lv X f (aH X k) k fn c args cs):=λargs=>vH (aQ X) f (m:=λk=>k) (λk=>X3 k) fn c args cs;have V:∀args,dU (λk=>lv X f (aH X k) k fn c args cs)=vL X f fn c cs args:=by
  intro args;unfold lv vL;split
  .have I:(λk=>fin X.P (X.fp f) cs.length fn.results.toList (den X f (aH X k) k c (entry fn.ntmps X.gl args cs (X.fp f).sites)))=λk=>(den X f (aH X k) k c (entry fn.ntmps X.gl args cs (X.fp f).sites)).bind λq=>fin X.P (X.fp f) cs.length fn.results.toList (some q):=by
    funext k;exact Ah ..
   rw[I,cZ (dm c _) (λ_=>ay.const _),Ah];simp[aF];rfl
  .exact aF _
 have AF:au X f args cs=dU (λk=>eY (λargs=>lv X f (aH X k) k fn c args cs) args (X.fp f).split):=by
  unfold au;rw[<-sd (aQ X f args cs)];congr 1;funext k;rw[aH,A8,A9,T];simp[AE,AM,sO]
 rw[AF];unfold eY;split
 .split
  .apply Option.ext;intro y;rw[bO (qN (hm _) (hm _)),<-V,<-V];constructor
   .rintro ⟨n,Y⟩;unfold gE at Y⊢;split at Y
    .rename_i a b AC AT;have f1:=(bO (hm _)).2 ⟨n,cS AC⟩;have f2:=(bO (hm _)).2 ⟨n,cS AT⟩;rw[f1,f2];rw[cS AC]at Y;exact Y
    grind
   .intro h;unfold gE at h;split at h
    .rename_i a b AC AT;obtain⟨n,Y⟩:=(bO (hm _)).1 (cS AC);obtain⟨m,Av⟩:=(bO (hm _)).1 (cS AT);refine⟨max n m,?_⟩;rw[(hm _).le (Nat.le_max_left n m) Y,(hm _).le (Nat.le_max_right n m) Av];rw[cS AC]at h;exact h
    grind
  grind
 grind
end
abbrev dh:=Option (Out×List (Nat×ax))
abbrev Kt:=XE->St->dh
noncomputable def bj(X:Ctx)(f:FuncId)(c:Code)(S:St)(k:Kt):dh:=(df X f c S).bind λp=>k p.1 p.2
noncomputable def runK(X:Ctx)(md:Bool)(all ops:List Oper)(S:St)(k:Kt):dh:=(eh X (au X) md all ops S).bind λp=>k p.1 p.2
noncomputable def fq(X:Ctx)(md:Bool)(A:Nat×List (List Nat))(all ops:List Oper)(S:St)(E:List aD)(k:Kt):dh:=(dS X (au X) md A all ops S E).bind λp=>k p.1 p.2
noncomputable def wF(X:Ctx)(f:FuncId)(b:Code)(k:Kt):Kt
 | .normal,S=>bj X f b S k
 |e,S=>k e S
def wG(id:Nat)(k:Kt):Kt
 | .exit O,S=>if O=id then k .normal S else k (.exit O) S
 |e,S=>k e S
noncomputable def vM(X:Ctx)(f:FuncId)(c:Code)(k:Kt):Kt
 | .normal,S=>bj X f (.loop c) S k
 |e,S=>k e S
def vN(X:Ctx)(f:FuncId)(id:Nat)(k:Kt):Kt
 | .normal,S=>k .normal (S.leave X f id)
 |e,S=>k e S
def wH(P:Program)(p:dc)(J:Nat)(rs:List ResultVar):Kt
 | .normal,S=>finish P p J rs S
 | .ret,S=>finish P p J rs S
 | .panic t x,S=>pW p J t x S
 | .exit _,_=>none
def E1:Bool×AV->Bool
 |(true,.d (.bool _))=>true
 |_=>false
def sg:Bool×AV->Bool
 |(_,.d (.bool b))=>b
 |_=>false
def Env.kn:Env->Nat->Bool->Env
 |[],_,_=>[]
 |(t,x)::r,c,b=>if t=c then (t,true,.d (.bool b))::r else (t,x)::Env.kn r c b
def St.kn(S:St)(c:Nat)(b:Bool):St:={S with env:=Env.kn S.env c b}
section
variable {X:Ctx} {f:FuncId} {S:St} {k:Kt}
theorem nH(r:Option (XE×St))(g:St->Option (XE×St)):(andThen r g).bind (λp=>k p.1 p.2)=r.bind λp=>match p with
 |(.normal,S)=>(g S).bind λp=>k p.1 p.2
 |(e,S)=>k e S:=by
 rcases r with _|⟨e,S⟩
 .rfl
 .cases e<;>rfl
theorem E2:bj X f .skip S k=k .normal S:=by simp only[bj,EW,Xz]
theorem E3{id:Nat}:bj X f (.exit id) S k=k (.exit id) (vt S (X.gh f (id+1000000))):=by simp only[bj,EX,Xz]
theorem GM:bj X f .ret S k=k .ret S:=by simp only[bj,GJ,Xz]
theorem GN{a b:Code}:bj X f (.seq a b) S k=bj X f a S (wF X f b k):=by
 simp only[bj,GK,nH];congr 1;funext p;obtain⟨e,S⟩:=p;cases e<;>rfl
theorem az{c:Code}:bj X f (.loop c) S k=bj X f c S (vM X f c k):=by
 rw[bj,E0,nH,bj];congr 1;funext p;obtain⟨e,S⟩:=p;cases e<;>rfl
theorem C3{id:Nat}{c:Code}:bj X f (.block id c) S k=bj X f c (S.enter X f id) (wG id k):=by
 simp only[bj,C2];rcases df X f c (S.enter X f id)with _|⟨e,S⟩
 .rfl
 .cases e with
  |exit O=>
   simp only[vu,Xz,wG];split<;>rfl
  |_=>rfl
theorem xL{c:Operand}{a b:Code}:bj X f (.cond c a b) S k=if E1 (S.ag c)=true then (if sg (S.ag c)=true then bj X f a S k else bj X f b S k)else none:=by
 simp only[bj,EY];generalize S.ag c=v;obtain⟨g,x⟩:=v;cases g with
 |false=>rfl
 |true=>
  cases x with
  |d x=>
   cases x with
   |bool t=>cases t<;>rfl
   |_=>rfl
  |_=>rfl
theorem H3{b:Bool}:∀{env:Env}{c:Nat},Env.lk env c=some (true,.d (.bool b))->Env.kn env c b=env
 |[],c,h=>by cases h
 |(t,x)::r,c,h=>by
  simp only[Env.lk]at h;simp only[Env.kn];split
  .rename_i Y;rw[W2 Y]at h;cases h;rfl
  .rename_i Y;rw[WO Y]at h;rw[H3 h]
theorem KR{c:Tmp}{b:Bool}(h:S.ag (.tmp c)=(true,.d (.bool b))):Env.lk S.env c=some (true,.d (.bool b)):=by
 simp only[St.ag]at h;cases A0:Env.lk S.env c with
 |none=>rw[A0]at h;simp at h
 |some x=>rw[A0]at h;simp only[Xy]at h;rw[h]
theorem C4{c:Tmp}{a b:Code}:bj X f (.cond (.tmp c) a b) S k=if E1 (S.ag (.tmp c))=true then (if sg (S.ag (.tmp c))=true then bj X f a (S.kn c true) k else bj X f b (S.kn c false) k)else none:=by
 rw[xL];generalize A3:S.ag (.tmp c)=v;obtain⟨g,x⟩:=v;cases g with
 |false=>rfl
 |true=>
  cases x with
  |d x=>
   cases x with
   |bool t=>
    have:S.kn c t=S:=by
     unfold St.kn;rw[H3 (KR A3)]
    cases t with
    |true=>rw[this];rfl
    |false=>rw[this];rfl
   |_=>rfl
  |_=>rfl
theorem C5{v:Value}{a b:Code}:bj X f (.cond (.const v) a b) S k=if E1 (S.ag (.const v))=true then (if sg (S.ag (.const v))=true then bj X f a S k else bj X f b S k)else none:=xL
theorem A5{id:Nat}{l:List Oper}:bj X f (.region id ⟨l⟩ false) S k=runK X (X.md f id) l l S (vN X f id k):=by
 simp only[bj,A4,runK];rcases eh X (au X) (X.md f id) l l S with _|⟨e,S⟩
 .rfl
 .cases e<;>rfl
noncomputable def yk(X:Ctx)(md:Bool)(A:List (List Nat))(l:List Oper)(S:St)(k:Kt):List (Nat×Nat)->dh
 |[]=>fq X md (de S.mem,A) l l S [] k
 |q::r=>(Gp X (au X) md A l S (dk S.mem (q::r))).bind λp=>k p.1 p.2
theorem E4{id:Nat}{l:List Oper}:bj X f (.region id ⟨l⟩ true) S k=yk X (X.md f id) (X.od f id) l S (vN X f id k) (X.fl f id):=by
 simp only[bj,EZ];cases X.fl f id with
 |nil=>
  simp only[oI,yk,fq];rcases dS X (au X) (X.md f id) (de S.mem,X.od f id) l l S []with _|⟨e,S⟩
  .rfl
  .cases e<;>rfl
 |cons q r=>
  simp only[oI,yk];rcases Gp X (au X) (X.md f id) (X.od f id) l S (dk S.mem (q::r))with _|⟨e,S⟩
  .rfl
  .cases e<;>rfl
theorem IK{md:Bool}{A:List (List Nat)}{l:List Oper}:yk X md A l S k []=fq X md (de S.mem,A) l l S [] k:=rfl
theorem KS{b:Code}:wF X f b k .normal S=bj X f b S k:=rfl
theorem KT{b:Code}{id:Nat}:wF X f b k (.exit id) S=k (.exit id) S:=rfl
theorem KU{b:Code}:wF X f b k .ret S=k .ret S:=rfl
theorem KV{b:Code}{t:TypeId}{x:D}:wF X f b k (.panic t x) S=k (.panic t x) S:=rfl
theorem KW{id:Nat}:wG id k .normal S=k .normal S:=rfl
theorem KX{id O:Nat}:wG id k (.exit O) S=if O=id then k .normal S else k (.exit O) S:=rfl
theorem KY{id:Nat}:wG id k .ret S=k .ret S:=rfl
theorem KZ{id:Nat}{t:TypeId}{x:D}:wG id k (.panic t x) S=k (.panic t x) S:=rfl
theorem IL{c:Code}:vM X f c k .normal S=bj X f (.loop c) S k:=rfl
theorem IM{c:Code}{id:Nat}:vM X f c k (.exit id) S=k (.exit id) S:=rfl
theorem IN{c:Code}:vM X f c k .ret S=k .ret S:=rfl
theorem IP{c:Code}{t:TypeId}{x:D}:vM X f c k (.panic t x) S=k (.panic t x) S:=rfl
theorem GO{id:Nat}:vN X f id k .normal S=k .normal (S.leave X f id):=rfl
theorem GP{id:Nat}{t:TypeId}{x:D}:vN X f id k (.panic t x) S=k (.panic t x) S:=rfl
theorem K0{P:Program}{p:dc}{J:Nat}{rs:List ResultVar}:wH P p J rs .normal S=finish P p J rs S:=rfl
theorem K1{P:Program}{p:dc}{J:Nat}{rs:List ResultVar}:wH P p J rs .ret S=finish P p J rs S:=rfl
theorem K2{P:Program}{p:dc}{J:Nat}{rs:List ResultVar}{t:TypeId}{x:D}:wH P p J rs (.panic t x) S=pW p J t x S:=rfl
end
def qt(all:List Oper)(o:Oper):Option Nat:=
 match o.guard with
 |some (j,_)=>gD all j
 |none=>none
noncomputable def ly(X:Ctx)(md:Bool)(S:St)(d:Option Nat)(all r:List Oper)(k:Kt):Option cQ->dh
 |some ⟨.ret x,es,_⟩=>runK X md all r (({S with mem:=aL S.mem es}:St).put d true x) k
 |some ⟨.panic t x,es,_⟩=>k (.panic t x) {S with mem:=aL S.mem es}
 |none=>none
def Ak(S:St)(k:Kt):Bool×AV->dh
 |(true,.dJ t d)=>k (.panic t d) S
 |_=>none
noncomputable def ot(X:Ctx)(md:Bool)(S:St)(o:Oper)(all r:List Oper)(k:Kt):Op->dh
 | .call {callee:=.value M,args,..}=>ly X md S o.dst all r k (bf X (au X) S o args.toList (S.ag M))
 | .panic x=>Ak S k (S.ag x)
 |_=>none
noncomputable def lz(X:Ctx)(md:Bool)(S:St)(o:Oper)(all r:List Oper)(k:Kt):br->dh
 | .val c x=>if (dt S o&&c)=true then runK X md all r (S.put o.dst true x) k else none
 | .bo c x e=>if (dt S o&&c)=true then runK X md all r (({S with mem:=Mem.set S.mem e}:St).put o.dst true x) k else none
 | .no=>ot X md S o all r k o.op
noncomputable def nI(X:Ctx)(md:Bool)(S:St)(o:Oper)(all r:List Oper)(k:Kt)(b:Bool):br->dh
 | .val c x=>if b=true->(dt S o&&c)=true then runK X md all r (S.put o.dst b x) k else none
 | .bo c x e=>if b=true then lz X md S o all r k (.bo c x e)else runK X md all r (S.put o.dst true .aC) k
 | .no=>if b=true then ot X md S o all r k o.op else runK X md all r (S.put o.dst true .aC) k
noncomputable def vO(X:Ctx)(S:St)(o:Oper)(all r:List Oper)(k:Kt)(H t:Bool):Bool->dh
 |false=>nI X false S o all r k (t == H) (bx X.P S o)
 |true=>if (t == H)=true then lz X true (S.cz (qt all o) H) o all r k (bx X.P (S.cz (qt all o) H) o)else runK X true all r ((S.cz (qt all o) (!H)).put o.dst true (.bk [])) k
noncomputable def Al(X:Ctx)(md:Bool)(S:St)(o:Oper)(all r:List Oper)(k:Kt)(H:Bool):GV->dh
 | .vq t=>vO X S o all r k H t md
 | .skip=>runK X md all r (S.put o.dst true (.bk [])) k
 | .bad=>none
section
variable {X:Ctx} {f:FuncId} {S:St} {k:Kt} {all r:List Oper} {md:Bool}
theorem qu(o:Oper)(res:br):(andThen (dR X (au X) S o res) (eh X (au X) md all r)).bind (λp=>k p.1 p.2)=lz X md S o all r k res:=by
 cases res with
 |val c x=>simp only[dR,lz];split<;>rfl
 |bo c x e=>simp only[dR,lz];split<;>rfl
 |no=>
  simp only[dR,lz,lU];split
  .rename_i M args A1 T;rw[T];simp only[ot];rcases bf X (au X) S o args.toList (S.ag M)with _|⟨out,es,ks⟩
   .rfl
   .cases out<;>rfl
  .rename_i x T;rw[T];simp only[ot];generalize S.ag x=v;obtain⟨g,y⟩:=v;cases g<;>cases y<;>rfl
  .rename_i V A6;unfold ot;split
   .rename_i heq;exact absurd heq (V _ _ _)
   .rename_i heq;exact absurd heq (A6 _)
   .rfl
theorem GQ:runK X md all [] S k=k .normal S:=rfl
theorem E5{d:Option Tmp}{op:Op}{ty:TypeId}{pos:String}{I:Array Edge}:runK X md all (⟨d,op,ty,pos,I,none⟩::r) S k=lz X md S ⟨d,op,ty,pos,I,none⟩ all r k (bx X.P S ⟨d,op,ty,pos,I,none⟩):=
 qu _ _
theorem C6{d:Option Tmp}{op:Op}{ty:TypeId}{pos:String}{I:Array Edge}{j:Nat}{w:Bool}:runK X md all (⟨d,op,ty,pos,I,some (j,w)⟩::r) S k=Al X md S ⟨d,op,ty,pos,I,some (j,w)⟩ all r k w (kq (kc all S j)):=by
 simp only[runK,eh,iL];generalize kq (kc all S j)=g;cases g with
 |skip=>rfl
 |bad=>rfl
 |vq t=>
  simp only[Al];cases md with
  |true=>
   simp only[vO,qt];split
   .exact qu _ _
   .rfl
  |false=>
  simp only[vO];generalize W:bx X.P S _=res;cases res with
  |val c x=>simp only[jS,nI];split<;>rfl
  |bo c x e=>
   simp only[jS,nI];split
   .exact qu _ (.bo c x e)
   .rfl
  |no=>
   simp only[jS,nI];split
   .exact qu _ .no
   .rfl
theorem E6{d:Option Nat}{c:Prop}[Decidable c]{a b:Option cQ}:ly X md S d all r k (if c then a else b)=if c then ly X md S d all r k a else ly X md S d all r k b:=by split<;>rfl
end
def An{m:Mem}{Z:Nat}{ρ B:List Nat}{c:Prop}[Decidable c]{a b:Option (Out×List (Nat×ax))}:cR m Z ρ B (if c then a else b)=if c then cR m Z ρ B a else cR m Z ρ B b:=by split<;>rfl
noncomputable def gL(X:Ctx)(md:Bool)(A:Nat×List (List Nat))(S:St)(d:Option Nat)(all r:List Oper)(E:List aD)(k:Kt):Option cQ->dh
 |some ⟨.ret x,es,ks⟩=>fq X md A all r (({S with mem:=aL S.mem es}:St).put d true x) (⟨ks,es,true,x⟩::E) k
 |some ⟨.panic t x,es,ks⟩=>(CF X md A all r d E ⟨{S with mem:=aL S.mem es},t,x,es,ks⟩).bind λp=>k p.1 p.2
 |none=>none
noncomputable def sh(X:Ctx)(md:Bool)(A:Nat×List (List Nat))(S:St)(o:Oper)(all r:List Oper)(E:List aD)(k:Kt):Op->dh
 | .call {callee:=.value M,args,..}=>gL X md A S o.dst all r E k (bf X (au X) S o args.toList (S.ag M))
 |_=>none
noncomputable def nJ(X:Ctx)(md:Bool)(A:Nat×List (List Nat))(S:St)(o:Oper)(all r:List Oper)(E:List aD)(k:Kt):br->dh
 | .val c x=>if (dt S o&&c)=true then fq X md A all r (S.put o.dst true x) (⟨eF S o,[],true,x⟩::E) k else none
 | .bo c x e=>if (dt S o&&c&&(eF S o).contains e.key)=true then fq X md A all r (({S with mem:=Mem.set S.mem e}:St).put o.dst true x) (⟨eF S o,[e],true,x⟩::E) k else none
 | .no=>sh X md A S o all r E k o.op
noncomputable def kv(X:Ctx)(md:Bool)(A:Nat×List (List Nat))(S:St)(d:Option Nat)(all r:List Oper)(E:List aD)(k:Kt):Option cQ->dh
 |some ⟨.ret x,es,ks⟩=>fq X md A all r (({S with mem:=aL S.mem es}:St).put d true x) (⟨ks,es,true,x⟩::E) k
 |_=>none
noncomputable def pw(X:Ctx)(md:Bool)(A:Nat×List (List Nat))(S:St)(o:Oper)(all r:List Oper)(E:List aD)(k:Kt):Op->dh
 | .call {callee:=.value M,args,..}=>kv X md A S o.dst all r E k (bf X (au X) S o args.toList (S.ag M))
 |_=>none
noncomputable def ky(X:Ctx)(md:Bool)(A:Nat×List (List Nat))(S:St)(o:Oper)(all r:List Oper)(E:List aD)(k:Kt):br->dh
 | .val c x=>if (dt S o&&c)=true then fq X md A all r (S.put o.dst true x) (⟨eF S o,[],true,x⟩::E) k else none
 | .bo c x e=>if (dt S o&&c&&(eF S o).contains e.key)=true then fq X md A all r (({S with mem:=Mem.set S.mem e}:St).put o.dst true x) (⟨eF S o,[e],true,x⟩::E) k else none
 | .no=>pw X md A S o all r E k o.op
noncomputable def k8(X:Ctx)(md:Bool)(A:Nat×List (List Nat))(S:St)(o:Oper)(all r:List Oper)(E:List aD)(k:Kt)(b:Bool):br->dh
 | .val c x=>if b=true->(dt S o&&c)=true then fq X md A all r (S.put o.dst b x) (⟨eF S o,[],b,x⟩::E) k else none
 | .bo c x e=>if b=true then ky X md A S o all r E k (.bo c x e)else fq X md A all r (S.put o.dst true .aC) (⟨[],[],true,.aC⟩::E) k
 | .no=>if b=true then pw X md A S o all r E k o.op else fq X md A all r (S.put o.dst true .aC) (⟨[],[],true,.aC⟩::E) k
noncomputable def si(X:Ctx)(A:Nat×List (List Nat))(S:St)(o:Oper)(all r:List Oper)(E:List aD)(k:Kt)(H t:Bool):Bool->dh
 |false=>k8 X false A S o all r E k (t == H) (bx X.P S o)
 |true=>if (t == H)=true then ky X true A (S.cz (qt all o) H) o all r E k (bx X.P (S.cz (qt all o) H) o)else fq X true A all r ((S.cz (qt all o) (!H)).put o.dst true (.bk [])) (⟨[],[],true,.bk []⟩::E) k
noncomputable def vP(X:Ctx)(md:Bool)(A:Nat×List (List Nat))(S:St)(o:Oper)(all r:List Oper)(E:List aD)(k:Kt)(H:Bool):GV->dh
 | .vq t=>si X A S o all r E k H t md
 | .skip=>fq X md A all r (S.put o.dst true (.bk [])) (⟨[],[],true,.bk []⟩::E) k
 | .bad=>none
section
variable {X:Ctx} {f:FuncId} {S:St} {k:Kt} {all r:List Oper} {md:Bool} {A:Nat×List (List Nat)} {E:List aD}
theorem lZ(o:Oper)(res:br):(yf E (cO X (au X) S o res) (dS X (au X) md A all r)).bind (λp=>k p.1 p.2)=ky X md A S o all r E k res:=by
 cases res with
 |val c x=>simp only[cO,ky];split<;>rfl
 |bo c x e=>simp only[cO,ky];split<;>rfl
 |no=>
  simp only[cO,ky,jA];split
  .rename_i M args A1 T;rw[T];simp only[pw];rcases bf X (au X) S o args.toList (S.ag M)with _|⟨out,es,ks⟩
   .rfl
   .cases out<;>rfl
  .rename_i V;unfold pw;split
   .rename_i heq;exact absurd heq (V _ _ _)
   .rfl
theorem k9(h:jI A.2 E.reverse=true):fq X md A all [] S E k=k .normal S:=by
 simp only[fq,dS,h,XO,Xz]
def ux:List aD->List aD->List aD
 |[],r=>r
 |x::l,r=>ux l (x::r)
theorem wI:∀(l r:List aD),ux l r=l.reverse++r
 |[],_=>rfl
 |x::l,r=>by rw[ux,wI l];simp
theorem bU:fq X md A all [] S E k=if jI A.2 (ux E [])=true then k .normal S else none:=by
 rw[wI,XF];simp only[fq,dS];split<;>rfl
theorem E7{d:Option Tmp}{op:Op}{ty:TypeId}{pos:String}{I:Array Edge}:fq X md A all (⟨d,op,ty,pos,I,none⟩::r) S E k=nJ X md A S ⟨d,op,ty,pos,I,none⟩ all r E k (bx X.P S ⟨d,op,ty,pos,I,none⟩):=by
 simp only[fq,dS,gm];generalize T:(⟨d,op,ty,pos,I,none⟩:Oper)=o;have A7:o.guard=none:=by subst T;rfl
 have U:cv X (au X) md all S o=cO X (au X) S o (bx X.P S o):=by unfold cv;rw[A7]
 generalize W:bx X.P S o=res;rw[W]at U;cases res with
 |val c x=>simp only[ud,iW,U,nJ];exact lZ _ (.val c x)
 |bo c x e=>simp only[ud,iW,U,nJ];exact lZ _ (.bo c x e)
 |no=>
  simp only[ud,zD,nJ];split
  .rename_i M args A1 A';rw[A'];simp only[sh];cases A2:bf X (au X) S o args.toList (S.ag M)with
   |none=>
    simp only[oH,iW,U,cO,jA,A',A2,gL];rfl
   |some res=>
    obtain⟨out,es,ks⟩:=res;cases out with
    |ret x=>
     simp only[oH,iW,U,cO,jA,A',A2,gL];rfl
    |panic t x=>rfl
  .rename_i V;simp only[iW,U,cO,jA];unfold sh;split
   .rename_i heq;exact absurd heq (V _ _ _)
   .rfl
theorem C7{d:Option Tmp}{op:Op}{ty:TypeId}{pos:String}{I:Array Edge}{j:Nat}{w:Bool}:fq X md A all (⟨d,op,ty,pos,I,some (j,w)⟩::r) S E k=vP X md A S ⟨d,op,ty,pos,I,some (j,w)⟩ all r E k w (kq (kc all S j)):=by
 simp only[fq,dS,gm,iW,cv];generalize kq (kc all S j)=g;cases g with
 |skip=>rfl
 |bad=>rfl
 |vq t=>
  simp only[vP];cases md with
  |true=>
   simp only[si,qt];split
   .exact lZ _ _
   .rfl
  |false=>
  simp only[si];generalize W:bx X.P S _=res;cases res with
  |val c x=>simp only[lV,k8];split<;>rfl
  |bo c x e=>
   simp only[lV,k8];split
   .exact lZ _ (.bo c x e)
   .rfl
  |no=>
   simp only[lV,k8];split
   .exact lZ _ .no
   .rfl
theorem C8{d:Option Nat}{c:Prop}[Decidable c]{a b:Option cQ}:gL X md A S d all r E k (if c then a else b)=if c then gL X md A S d all r E k a else gL X md A S d all r E k b:=by split<;>rfl
theorem C9{d:Option Nat}{c:Prop}[Decidable c]{a b:Option cQ}:kv X md A S d all r E k (if c then a else b)=if c then kv X md A S d all r E k a else kv X md A S d all r E k b:=by split<;>rfl
end
def vQ(n:Nat)(p:dc)(args:List AV)(cs:List ax):Bool:=
 decide (args.length<=n)&&decide (cs.length<=100)&&p.sites.all (λk=>decide (100<=k))&&decide p.sites.Nodup
def GR{X:Ctx}{f:FuncId}{fn:Func}{c:Code}{args:List AV}{cs:List ax}{n:Nat}{rs:List ResultVar}{p:dc}(A8:X.ov=none)(A9:X.qK f=none)(AA:X.P.funcs[f]?=some fn)(AB:fn.body=some c)(AC:qb c=false)(AD:fn.ntmps=n)(AE:fn.results.toList=rs)
 (AF:X.fp f=p) (W:p.split=false) (AG:vQ n p args cs=true):au X f args cs=bj X f c (entry n X.gl args cs p.sites) (wH X.P p cs.length rs):=by
 subst AF;rw[GL A8 A9 AA AB AC,W];simp only[eY,vL];subst AD;subst AE;rw[W2 (by simpa only[vQ]using AG)];simp only[bj];rcases df X f c _ with _|⟨e,S⟩
 .rfl
 .cases e<;>rfl
attribute [simp] bx.eq_1
attribute [simp] dt.eq_1
attribute [simp] eo.eq_1 eo.eq_2
attribute [simp] Go.Op.operands.eq_1 Go.Op.operands.eq_2 Go.Op.operands.eq_3 Go.Op.operands.eq_4 Go.Op.operands.eq_5 Go.Op.operands.eq_6 Go.Op.operands.eq_7 Go.Op.operands.eq_8 Go.Op.operands.eq_9 Go.Op.operands.eq_10 Go.Op.operands.eq_11 Go.Op.operands.eq_12 Go.Op.operands.eq_13 Go.Op.operands.eq_14 Go.Op.operands.eq_15 Go.Op.operands.eq_16 Go.Op.operands.eq_17 Go.Op.operands.eq_18 Go.Op.operands.eq_19 Go.Op.operands.eq_20 Go.Op.operands.eq_21 Go.Op.operands.eq_22 Go.Op.operands.eq_23 Go.Op.operands.eq_24 Go.Op.operands.eq_25 Go.Op.operands.eq_26 Go.Op.operands.eq_27 Go.Op.operands.eq_28 Go.Op.operands.eq_29 Go.Op.operands.eq_30 Go.Op.operands.eq_31 Go.Op.operands.eq_32 Go.Op.operands.eq_33 Go.Op.operands.eq_34 Go.Op.operands.eq_35 Go.Op.operands.eq_36 Go.Op.operands.eq_37 Go.Op.operands.eq_38 Go.Op.operands.eq_39 Go.Op.operands.eq_40 Go.Op.operands.eq_41 Go.Op.operands.eq_42 Go.Op.operands.eq_43
attribute [simp] St.ag.eq_1 St.ag.eq_2 St.ag.eq_3 St.ag.eq_4
attribute [simp] Env.lk.eq_1 Env.lk.eq_2
attribute [simp] St.put.eq_1 St.put.eq_2
attribute [simp] Mem.get.eq_1 Mem.get.eq_2
attribute [simp] Mem.set.eq_1 Mem.set.eq_2
attribute [simp] AV.gz.eq_1 AV.gz.eq_2 AV.gz.eq_3
attribute [simp] iE.eq_1 iE.eq_2 iE.eq_3 iE.eq_4 iE.eq_5 iE.eq_6
attribute [simp] AV.cells.eq_1 AV.cells.eq_2 AV.cells.eq_3
attribute [simp] gV.eq_1 gV.eq_2 gV.eq_3 gV.eq_4 gV.eq_5
attribute [simp] j4.eq_1 j4.eq_2 j4.eq_3
attribute [simp] jO.eq_1 eL.eq_1 eL.eq_2 eL.eq_3
attribute [simp] il.eq_1 il.eq_2
attribute [simp] lJ.eq_1 lJ.eq_2 lJ.eq_3 lJ.eq_4 J3 rq.eq_1
attribute [simp] rp.eq_1 rp.eq_2 rp.eq_3 rp.eq_4
attribute [simp] j8.eq_1 j8.eq_2 j8.eq_3 j8.eq_4 j8.eq_5 j8.eq_6 j8.eq_7 j8.eq_8 j8.eq_9
attribute [simp] dC.eq_1 dC.eq_2 dC.eq_3 dC.eq_4 dC.eq_5 dC.eq_6 dC.eq_7 dC.eq_8 dC.eq_9 dC.eq_10 dC.eq_11 dC.eq_12 dC.eq_13 dC.eq_14 dC.eq_15 dC.eq_16
attribute [simp] iq.eq_1 iq.eq_2 iq.eq_3 iq.eq_4 iq.eq_5 iq.eq_6 iq.eq_7 iq.eq_8
attribute [simp] yb.eq_1
attribute [simp] ng.eq_1 ng.eq_2
attribute [simp] uQ.eq_1 uQ.eq_2
attribute [simp] kc.eq_1
attribute [simp] sA.eq_1
def Da{α:Type}(y:α):Option (List α)->Option (List α)
 |some E=>some (y::E)
 |none=>none
@[simp] def M1{α:Type}(y:α)(E:List α):Da y (some E)=some (y::E):=rfl
@[simp] def M3{α:Type}(y:α):Da y none=none:=rfl
@[simp] def toDs_nil:toDs []=some []:=rfl
@[simp] def toDs_d(y r):toDs (.d y::r)=Da y (toDs r):=by
 cases h:toDs r with
 |none=>exact toDs.eq_3 _ _ (λ_ _ _ H=>by rw[h]at H;cases H)
 |some E=>exact toDs.eq_2 _ _ _ h
@[simp] def toDs_vec(a b c d r):toDs (.vec a b c d::r)=none:=by rw[toDs.eq_def]
@[simp] def toDs_ptr(a b c r):toDs (.ptr a b c::r)=none:=by rw[toDs.eq_def]
@[simp] def toDs_lit(a r):toDs (.lit a::r)=none:=by rw[toDs.eq_def]
@[simp] def toDs_fn(a b r):toDs (.fn a b::r)=none:=by rw[toDs.eq_def]
@[simp] def toDs_nn(r):toDs (.nn::r)=none:=by rw[toDs.eq_def]
@[simp] def toDs_junk(r):toDs (.aC::r)=none:=by rw[toDs.eq_def]
attribute [simp] mw.eq_1 mw.eq_2
attribute [simp] yR.eq_1 yR.eq_2 yR.eq_3 yR.eq_4
attribute [simp] eW.eq_1 eW.eq_2 eW.eq_3 eW.eq_4 eW.eq_5 eW.eq_6 eW.eq_7 eW.eq_8 Ch.eq_1 y5.eq_1 y6.eq_1 p7.eq_def yA.eq_def nk.eq_def pP.eq_def zb.eq_1 zb.eq_2
attribute [simp] ju.eq_1 ju.eq_2 ju.eq_3 ju.eq_4 ju.eq_5
attribute [simp] l6.eq_1
attribute [simp] mY.eq_1 B2.eq_1 B2.eq_2 B3.eq_1 B3.eq_2
attribute [simp] nZ.eq_1 nZ.eq_2
attribute [simp] dq.eq_1 dq.eq_2 dq.eq_3 dq.eq_4 dq.eq_5
attribute [simp] pM.eq_1
attribute [simp] pN.eq_1
attribute [simp] wj.eq_1 wj.eq_2
attribute [simp] iF.eq_1 iF.eq_2 iF.eq_3 iF.eq_4
attribute [simp] uS.eq_1
attribute [simp] lh.eq_1 lh.eq_2
attribute [simp] fL.eq_1
attribute [simp] lH.eq_1 lH.eq_2
attribute [simp] ka.eq_1 ka.eq_2 ka.eq_3 uX.eq_def
attribute [simp] gZ.eq_1 gZ.eq_2 gZ.eq_3 gZ.eq_4 gZ.eq_5 gZ.eq_6
attribute [simp] mv.eq_1
attribute [simp] jP.eq_1 jP.eq_2 jP.eq_3
attribute [simp] nh.eq_1 nh.eq_2 pa.eq_1 pa.eq_2 sB.eq_1
attribute [simp] kP.eq_1 kP.eq_2 kP.eq_3 kP.eq_4
attribute [simp] gf.eq_1 gf.eq_2 gf.eq_3 gf.eq_4 gf.eq_5
attribute [simp] bound.eq_1 bound.eq_2 bound.eq_3
attribute [simp] putCells.eq_1 putCells.eq_2
attribute [simp] fk.eq_1 fk.eq_2 fk.eq_3 fk.eq_4 fk.eq_5 fk.eq_6 fk.eq_7 fk.eq_8 fk.eq_9 fk.eq_10 fk.eq_11 fk.eq_12
attribute [simp] D.cells.eq_1 D.cells.eq_2
attribute [simp] D.size.eq_1 D.size.eq_2
attribute [simp] D.flat.eq_1 D.flat.eq_2
mutual
@[simp] def GS:∀x:D,rS x x=true
 | .int ..=>by simp[rS]
 | .bool _=>by simp[rS]
 | .str _=>by simp[rS]
 | .list xs=>by simp[rS,sj xs]
 | .agg xs=>by simp[rS,sj xs]
 | .jb=>by simp[rS]
@[simp] def sj:∀x:List D,p4 x x=true
 |[]=>by simp[p4]
 |x::r=>by simp[p4,GS x,sj r]
end
attribute [simp] wv.eq_1 wv.eq_2 wv.eq_3 sJ.eq_1 sJ.eq_2 rT.eq_1 rT.eq_2 ye.eq_1 ye.eq_2 k4.eq_1 k4.eq_2 CD.eq_1 CD.eq_2 p5.eq_1 p5.eq_2 p5.eq_3
attribute [simp] bf.eq_1 bf.eq_2
attribute [simp] bz.eq_1 bz.eq_2 iV.eq_1 eg.eq_1 sI.eq_1 mN.eq_1 mg.eq_1
attribute [simp] collect.eq_1 collect.eq_2 collect.eq_3
attribute [simp] gO.eq_1 gO.eq_2
attribute [simp] nz.eq_1 nz.eq_2
attribute [simp] dP.eq_1 dP.eq_2 dP.eq_3 dP.eq_4 dP.eq_5 dP.eq_6 dP.eq_7 dP.eq_8 dP.eq_9 dP.eq_10 dP.eq_11 dP.eq_12 dP.eq_13 dP.eq_14
attribute [simp] iI.eq_1 iI.eq_2 iI.eq_3 iI.eq_4 iI.eq_5 iI.eq_6 iI.eq_7
attribute [simp] mM.eq_1 mM.eq_2 mM.eq_3 mM.eq_4
attribute [simp] eX.eq_1 eX.eq_2
attribute [simp] dQ.eq_1 dQ.eq_2 tp.eq_1 tp.eq_2
attribute [simp] jz.eq_1 jz.eq_2
attribute [simp] l7.eq_1 l7.eq_2 l7.eq_3
attribute [simp] oE.eq_1 oE.eq_2
attribute [simp] fC.eq_1 fC.eq_2
attribute [simp] cR.eq_1 cR.eq_2
attribute [simp] p3.eq_1 p3.eq_2
attribute [simp] plainO.eq_1 plainO.eq_2
attribute [simp] jj.eq_1 jj.eq_2 jj.eq_1 jj.eq_2
attribute [simp] fD.eq_1 fD.eq_2 fD.eq_3
attribute [simp] bB.eq_1 bB.eq_2 bB.eq_3 bB.eq_4 bB.eq_5 bB.eq_6 bB.eq_7 bB.eq_8 bB.eq_9 bB.eq_10 bB.eq_11 bB.eq_12 bB.eq_13 bB.eq_14
attribute [simp] eA.eq_1 eA.eq_2 eA.eq_3 eA.eq_4 eA.eq_5 eA.eq_6
attribute [simp] Ks.eq_1 Ks.eq_2
attribute [simp] up.eq_1 up.eq_2 up.eq_3 up.eq_4 up.eq_5 up.eq_6 up.eq_7 up.eq_8 up.eq_9 up.eq_10 up.eq_11 up.eq_12 up.eq_13 up.eq_14
attribute [simp] rz.eq_1 rz.eq_2 rz.eq_3
attribute [simp] ep.eq_1 ep.eq_2
attribute [simp] base.eq_1 base.eq_2
attribute [simp] aL.eq_1 aL.eq_2
attribute [simp] vt.eq_1 vt.eq_2
attribute [simp] Gh.go.eq_1 Gh.go.eq_2 Gh.go.eq_3 Gh.go.eq_4
attribute [simp] St.p2.eq_1 wx.eq_1 wx.eq_2 nA.eq_1 nA.eq_2 F9.eq_1 F9.eq_2 n3.eq_1 n3.eq_2
attribute [simp] finish.eq_1
attribute [simp] nq.eq_1 nq.eq_2
attribute [simp] rE.eq_1 rE.eq_2
attribute [simp] kS.eq_1
attribute [simp] St.pT.eq_1
attribute [simp] pe.eq_1 pe.eq_2 pe.eq_3
attribute [simp] u6.eq_1 u6.eq_2
attribute [simp] fQ.eq_1 fQ.eq_2 fQ.eq_3 fQ.eq_4 fQ.eq_5 fQ.eq_6 fQ.eq_7 fQ.eq_8 fQ.eq_9 fQ.eq_10 fQ.eq_11 fQ.eq_12 fQ.eq_13 fQ.eq_14
attribute [simp] St.trim.eq_1
attribute [simp] jg.eq_1 jg.eq_2
attribute [simp] mapM.eq_1 mapM.eq_2
attribute [simp] jG.eq_1 jG.eq_2 jG.eq_3
attribute [simp] fm.eq_1 fm.eq_2 fm.eq_3 fm.eq_4 fm.eq_5 fm.eq_6 fm.eq_7 fm.eq_8 fm.eq_9 fm.eq_10 fm.eq_11 fm.eq_12 fm.eq_13 fm.eq_14
attribute [simp] gN.eq_1 gN.eq_2
attribute [simp] oneOf.eq_1 oneOf.eq_2
attribute [simp] AV.norm.eq_1 AV.norm.eq_2 AV.norm.eq_3 AV.norm.eq_4
attribute [simp] toD1.eq_1 toD1.eq_2 toD1.eq_3 toD1.eq_4
attribute [simp] toDsN.eq_1 toDsN.eq_2
attribute [simp] vw.eq_1 vw.eq_2 vw.eq_3 vw.eq_4 vw.eq_5 vw.eq_6 vw.eq_7 vw.eq_8 vw.eq_9 vw.eq_10 vw.eq_11 vw.eq_12 vw.eq_13 vw.eq_14
attribute [simp] b9.eq_1 b9.eq_2
attribute [simp] TK.agg.eq_1 TK.agg.eq_2 TK.agg.eq_3
attribute [simp] lz.eq_1 lz.eq_2 lz.eq_3
attribute [simp] nI.eq_1 nI.eq_2 nI.eq_3
attribute [simp] Al.eq_1 Al.eq_2 Al.eq_3
attribute [simp] ot.eq_1 ot.eq_2 ot.eq_3
attribute [simp] ly.eq_1 ly.eq_2 ly.eq_3
attribute [simp] Ak.eq_1 Ak.eq_2
attribute [simp] E1.eq_1 E1.eq_2
attribute [simp] sg.eq_1 sg.eq_2
attribute [simp] kM.eq_1
attribute [simp] nj.eq_1 y8.eq_1 D4.eq_1 D4.eq_2 zeroOf.eq_1 zeroOf.eq_2 zeroOf.eq_3
attribute [simp] St.pU.eq_1 St.pU.eq_2
attribute [simp] lL.eq_1 lL.eq_2
attribute [simp] fN.eq_1 fN.eq_2
attribute [simp] gM.eq_1 gM.eq_2
attribute [simp] n5.eq_1 n5.eq_2
attribute [simp] lP.eq_1 lP.eq_2
attribute [simp] iG.eq_1 iG.eq_2
attribute [simp] gk.eq_1 gk.eq_2
attribute [simp] nx.eq_1 nx.eq_2
attribute [simp] ny.eq_1 ny.eq_2
attribute [simp] dV.eq_1 dV.eq_2
attribute [simp] bS.eq_1 bS.eq_2
attribute [simp] eY.eq_1 eY.eq_2 eY.eq_3
attribute [simp] k6.eq_1 k6.eq_2
attribute [simp] gE.eq_1
attribute [simp] eF.eq_1 vg.eq_1 vg.eq_2 vg.eq_3
attribute [simp] mL.eq_1 mL.eq_2
attribute [simp] aO.eq_1 aO.eq_2 aO.eq_3 aO.eq_4
attribute [simp] nJ.eq_1 nJ.eq_2 nJ.eq_3
attribute [simp] k8.eq_1 k8.eq_2 k8.eq_3
attribute [simp] vP.eq_1 vP.eq_2 vP.eq_3
attribute [simp] sh.eq_1 sh.eq_2 ky.eq_1 ky.eq_2 ky.eq_3 pw.eq_1 pw.eq_2 kv.eq_1 kv.eq_2
attribute [simp] gL.eq_1 gL.eq_2 gL.eq_3
attribute [simp] fo.eq_1 fo.eq_2 fo.eq_3 fo.eq_4 fo.eq_5 fo.eq_6 fo.eq_7 fo.eq_8 fo.eq_9 fo.eq_10 fo.eq_11 fo.eq_12 fo.eq_13 fo.eq_14
attribute [simp] jw.eq_1 jw.eq_2
attribute [simp] St.freeze.eq_1
attribute [simp] St.lu.eq_1
attribute [simp] Go.Call.operands.eq_1
attribute [simp] D.isByte.eq_1 D.isByte.eq_2
attribute [simp] nc.eq_1 nc.eq_2 nc.eq_3 nc.eq_4
attribute [simp] bZ.eq_1 bZ.eq_2 bZ.eq_3
attribute [simp] uK.eq_1 uK.eq_2
attribute [simp] E2 E3 GM GN C3 C4 C5 A5 E4 IK KS KT KU KV KW KX KY KZ IL IM IN IP GO GP K0 K1 K2 GQ E5 C6 E6 An E7 C7 C8 C9
attribute [simp] wu.eq_1 wu.eq_2 kZ.eq_1 kZ.eq_2 bI.eq_1 bI.eq_2
attribute [simp] vO.eq_1 vO.eq_2
attribute [simp] si.eq_1 si.eq_2
attribute [simp] qt.eq_1
attribute [simp] Env.kn.eq_1 Env.kn.eq_2 St.kn.eq_1
attribute [simp] jI.eq_1 pY.eq_1 pY.eq_2 pY.eq_3 wo.eq_1 wo.eq_2 wm.eq_1 wm.eq_2 ux.eq_1 ux.eq_2 kV.eq_1
attribute [simp] gn.eq_1 gn.eq_2 jB.eq_1
@[simp] def RA(t:Bool):kq (some (true,.d (.bool t)))=.vq t:=rfl
@[simp] def RB:kq (some (true,.bk []))=.skip:=rfl
attribute [simp] gD.eq_1
attribute [simp] St.cz St.prune keyOf St.leave St.enter kT sF zu St.rC vd dO vQ entry dead cm iK iJ D.at D.cell D.setCells pW
@[simp] def M4(m ρ bor nv):∀A:List D,lL m ρ bor nv (A.map .d)=A.map .d
 |[]=>rfl
 |d::r=>by simp[M4 m ρ bor nv r]
@[simp] def M5(ρ bs):∀A:List D,n5 ρ bs (A.map .d)=A.map .d
 |[]=>rfl
 |d::r=>by simp[M5 ρ bs r]
@[simp] def E8:∀A:List D,gk (A.map .d)=[]
 |[]=>rfl
 |d::r=>by simp[E8 r]
@[simp] def GU(k v):∀A:List D,lP k v (A.map .d)=none
 |[]=>rfl
 |d::r=>by simp[GU k v r]
@[simp] def IQ(k v o l):∀A:List D,iG k v o l (A.map .d)=A.map .d
 |[]=>rfl
 |d::r=>by simp[IQ k v o l r]
@[simp] def Db:∀A:List D,fN (A.map .d)=gM A
 |[]=>rfl
 |d::r=>by simp[Db r]
attribute [simp] List.take_of_length_le
@[simp] def Code.at:Code->List Nat->Code
 |c,[]=>c
 | .seq a b,i::p=>if i=0 then Code.at a p else Code.at b p
 | .cond _ a b,i::p=>if i=0 then Code.at a p else Code.at b p
 | .block _ c,_::p=>Code.at c p
 | .loop c,_::p=>Code.at c p
 |c,_=>c
@[simp] def Qk:List.range 2=[0,1]:=rfl
@[simp] def Ql:List.range 3=[0,1,2]:=rfl
@[simp] def Qm:List.range 4=[0,1,2,3]:=rfl
@[simp] def Qn:List.range 5=[0,1,2,3,4]:=rfl
@[simp] def Qo:List.range 6=[0,1,2,3,4,5]:=rfl
@[simp] def Qp(a b:Int):(a == b)=decide (a=b):=by by_cases h:a=b<;>simp[h]
def dw(n:Int):Prop:= -9223372036854775808<=n/\n<=9223372036854775807
def jU{n:Int}(h:dw n):IntKind.i64.wrap n=n:=IntWalk.i64_in _ (by unfold dw at h;omega)
def cD(n:Int)(h:dw n:=by unfold dw;omega):IntKind.i64.wrap n=n:=jU h
abbrev hP:=List UInt8
def sp(n:Int):hP:=32::Go.Lib.itoa n
def jV:List hP:=[[78,69,71],[78,79,84],[65,68,68],[83,85,66],[77,85,76],[68,73,86],[77,79,68],[69,81],[78,69],[76,84],[71,84],[76,69],[71,69],[65,78,68],[88,79,82],[79,82]]
def cG(A:Int->hP)(x:Ins):hP:=
 if x.op=1 then [112,117,115,104]++sp x.n
 else if x.op=2 then [108,111,97,100]++sp x.a
 else if x.op=3 then [116,114,117,116,104]++sp x.a
 else if x.op=4 then [108,111,97,100,120]++(sp x.a++(sp x.n++sp x.m))
 else if x.op=5 then [116,114,117,116,104,120]++(sp x.a++(sp x.n++sp x.m))
 else if x.op=6 then [115,116,111,114,101]++sp x.a
 else if x.op=7 then [115,116,111,114,101,120]++(sp x.a++(sp x.n++sp x.m))
 else if x.op=8 then (if x.a=1 then [100,111,116]else [100,111])++(32::jV.getD (x.b-6).toNat [])
 else if x.op=9 then [106,117,109,112]++sp x.a
 else if x.op=10 then [110,111,116]++sp x.a
 else if x.op=11 then [116,105,99,107]
 else if x.op=12 then [98,108,111,99,107]++((32::A x.b)++sp x.a)
 else if x.op=13 then [117,112,116,111]++(sp x.a++sp x.b)
 else if x.op=14 then [119,105,116,104,105,110]++(sp x.a++(sp x.n++sp x.m))
 else [101,110,100]
def bC(x:Ins):Ins:=
 if x.op=1 then ⟨1,0,0,x.n,0⟩
 else if x.op=2\/x.op=3\/x.op=6\/x.op=9\/x.op=10 then ⟨x.op,x.a,0,0,0⟩
 else if x.op=4\/x.op=5\/x.op=7\/x.op=14 then ⟨x.op,x.a,0,x.n,x.m⟩
 else if x.op=8\/x.op=12\/x.op=13 then ⟨x.op,x.a,x.b,0,0⟩
 else ⟨x.op,0,0,0,0⟩
def yl(x:Ins):Bool:=decide ((bC x).a=x.a/\(bC x).b=x.b/\(bC x).n=x.n/\(bC x).m=x.m)
def fc(A:Int->hP):List Ins->Option hP
 |[]=>some []
 |x::r=>if yl x=true then (fc A r).map λt=>cG A x++(10::t)else none
structure mF(x:Ins):Prop where
 a:dw x.a
 b:dw x.b
 n:dw x.n
 m:dw x.m
def Pt:List D->Option D
 |[.str s,.str t]=>if s.length<4294967281 then some (.int .i64 (Go.Lib.index s t))else none
 |_=>none
def RC:List D->Option D
 |[.str s,.int .u8 c]=>some (.int .i64 (Go.Lib.indexByte s c.toNat.toUInt8))
 |_=>none
def RD:List D->Option D
 |[.str s,.str p]=>some (.bool (Go.Lib.hasPrefix s p))
 |_=>none
attribute [simp] Pt.eq_1 RC.eq_1 RD.eq_1
def sk:List D->Option D
 |[.str s,.str t]=>if s.length<4294967281/\1<=t.length then some (.list ((Go.Lib.split s t).map .str))else none
 |_=>none
def Dc(n:Int):Prop:= -9223372036854775808<=n/\n<=9223372036854775807
instance (n:Int):Decidable (Dc n):=inferInstanceAs (Decidable (_/\_))
def E9:List D->Option D
 |[.int .i64 n,.int .i64 b]=>if b=10/\Dc n then some (.str (Go.Lib.itoa n))else none
 |_=>none
def Fa:List D->Option D
 |[.int .i64 n]=>if Dc n then some (.str (Go.Lib.itoa n))else none
 |_=>none
def Oy(s:List UInt8):AV:=match Go.Lib.parseIntB 64 s with
 | .ok n=>.bk [.d (.int .i64 n),.lit .nilIface]
 | .syntax=>.bk [.d (.int .i64 0),.err]
 | .range=>.bk [.d (.int .i64 (Go.Lib.intSat 64 s)),.err]
def Fb:List AV->Option AV
 |[.d (.str s),.d (.int .i64 b),.d (.int .i64 z)]=>if b=10/\z=64/\s.length<=281474976710656 then some (Oy s)else none
 |_=>none
def Fc(g:Nat)(c:Int):List AV->Option AV
 |[.d (.str s),.fn f []]=>if f=g/\s.length<=4294967296 then some (.d (.list ((Go.Lib.goFieldsP (λr=>decide ((r:Int)=c)) ⟨s.toArray⟩).map λx=>.str x.data.toList)))else none
 |_=>none
attribute [simp] sk.eq_1 E9.eq_1 Fa.eq_1 Fb.eq_1 Fc.eq_1
noncomputable def kz(X:Ctx)(f:FuncId)(c:Code)(S:St)(A:List DF):XD:=dU λk=>eG X f (aH X k) k c S A
noncomputable def Dd(X:Ctx)(f:FuncId)(E:AV)(c:Code)(S:St):Option (XE×St):=dU λk=>ma X f (aH X k) k E c S
noncomputable def Pu(X:Ctx):aN:=λg args cs=>dU λk=>qc X k (aH X k) g args cs
abbrev sl:=XE->St->List DF->dh
noncomputable def hU(X:Ctx)(f:FuncId)(c:Code)(S:St)(A:List DF)(k:sl):dh:=(kz X f c S A).bind λp=>k p.1 p.2.1 p.2.2
noncomputable def qv(X:Ctx)(md:Bool)(all ops:List Oper)(S:St)(A:List DF)(k:sl):dh:=(cW X (au X) md all ops S A).bind λp=>k p.1 p.2.1 p.2.2
noncomputable def vR(X:Ctx)(f:FuncId)(b:Code)(k:sl):sl
 | .normal,S,A=>hU X f b S A k
 |e,S,A=>k e S A
def wJ(X:Ctx)(f:FuncId)(id:Nat)(k:sl):sl
 | .normal,S,A=>k .normal (S.leave X f id) A
 |e,S,A=>k e S A
noncomputable def Ao(X:Ctx)(md:Bool)(all r:List Oper)(A:List DF)(k:sl):Kt
 | .normal,S=>qv X md all r S A k
 |e,S=>k e S A
noncomputable def ym(X:Ctx)(md:Bool)(all r:List Oper)(o:Oper)(S:St)(A:List DF)(k:sl):Option DF->dh
 |some d=>qv X md all r (S.put o.dst true .aC) (d::A) k
 |none=>runK X md all [o] S (Ao X md all r A k)
section
variable {X:Ctx} {f:FuncId} {S:St} {A:List DF} {md:Bool}
theorem oS(all:List Oper):∀(ops:List Oper)(S:St)(A:List DF),dU (λk=>cW X (aH X k) md all ops S A)=cW X (au X) md all ops S A
 |[],S,A=>aF _
 |o::r,S,A=>by
  simp only[cW];cases jT S o with
  |some d=>exact oS all r _ _
  |none=>
   simp only[uv];rw[cZ (g:=λx n=>nT (λS1=>cW X (aH X n) md all r S1 A) A x) (mE (aQ X) all) (λx=>by
    obtain⟨e,S1⟩:=x;cases e with
    |normal=>exact iz (aQ X) all r S1 A
    |_=>exact ay.const _),xK]
   congr 1;funext x;obtain⟨e,S1⟩:=x;cases e with
   |normal=>exact oS all r S1 A
   |_=>exact aF _
theorem Oz(c:Code)(S:St)(A:List DF):ay (λk=>eG X f (aH X k) k c S A):=xI (aQ X) f (m:=λk=>k) (λk=>X3 k) c S A
theorem Fe{a b:Code}:kz X f (.seq a b) S A=zE (kz X f b) (kz X f a S A):=by
 unfold kz;simp only[eG,BI];rw[cZ (g:=λx n=>sT (eG X f (aH X n) n b) x) (Oz a S A) (λx=>by
  obtain⟨e,S1,D⟩:=x;cases e with
  |normal=>exact Oz b S1 D
  |_=>exact ay.const _)]
 congr 1;funext x;obtain⟨e,S1,D⟩:=x;cases e<;>first|rfl|exact aF _
theorem iA{c:Code}(h:∀k,eG X f (aH X k) k c S A=p9 A (den X f (aH X k) k c S)):kz X f c S A=p9 A (df X f c S):=by
 unfold kz df;have:(λk=>eG X f (aH X k) k c S A)=λk=>(den X f (aH X k) k c S).bind λq=>dT A q:=by
  funext k;rw[h,wE]
 rw[this,cZ (dm c S) (λ_=>ay.const _),wE];simp only[aF]
theorem Ff{id:Nat}{ops:Array Oper}(h:vz ops.toList=true):kz X f (.region id ops false) S A=rU (St.leave X f id) (cW X (au X) (X.md f id) ops.toList ops.toList S A):=by
 unfold kz;have:(λk=>eG X f (aH X k) k (.region id ops false) S A)=λk=>(cW X (aH X k) (X.md f id) ops.toList ops.toList S A).bind λq=>lT (St.leave X f id) q:=by
  funext k;simp only[eG,h,Bool.not_false,Bool.and_self,se]
 rw[this,cZ (iz (aQ X) _ _ _ _) (λ_=>ay.const _),oS,se];simp only[aF]
variable {k:sl}
theorem Fg{a b:Code}:hU X f (.seq a b) S A k=hU X f a S A (vR X f b k):=by
 simp only[hU,Fe];rcases kz X f a S A with _|⟨e,S1,D⟩
 .rfl
 .cases e<;>rfl
theorem iB{c:Code}(h:kz X f c S A=p9 A (df X f c S)):hU X f c S A k=bj X f c S λe S=>k e S A:=by
 simp only[hU,bj,h];rcases df X f c S with _|⟨e,S1⟩<;>rfl
theorem De{o:Operand}{a b:Code}:hU X f (.cond o a b) S A k=bj X f (.cond o a b) S λe S=>k e S A:=iB (iA λ_=>rfl)
theorem Fh:hU X f .ret S A k=bj X f .ret S λe S=>k e S A:=iB (iA λ_=>rfl)
theorem Df:hU X f .skip S A k=bj X f .skip S λe S=>k e S A:=iB (iA λ_=>rfl)
theorem Dg{c:Code}:hU X f (.loop c) S A k=bj X f (.loop c) S λe S=>k e S A:=iB (iA λ_=>rfl)
theorem A6{id:Nat}{c:Code}:hU X f (.block id c) S A k=bj X f (.block id c) S λe S=>k e S A:=iB (iA λ_=>rfl)
theorem Dh{id:Nat}{ops:Array Oper}:hU X f (.region id ops true) S A k=bj X f (.region id ops true) S λe S=>k e S A:=iB (iA λ_=>rfl)
theorem Fi{id:Nat}{l:List Oper}:hU X f (.region id ⟨l⟩ false) S A k=if vz l=true then qv X (X.md f id) l l S A (wJ X f id k)else bj X f (.region id ⟨l⟩ false) S λe S=>k e S A:=by
 split
 .rename_i h;simp only[hU,qv,Ff (ops:=⟨l⟩) h];rcases cW X (au X) (X.md f id) l l S A with _|⟨e,S1,D⟩
  .rfl
  .cases e<;>rfl
 .rename_i h;exact iB (iA λ_=>by simp[eG,h])
theorem Fj{all:List Oper}:qv X md all [] S A k=k .normal S A:=rfl
theorem Di{all r:List Oper}{o:Oper}:qv X md all (o::r) S A k=ym X md all r o S A k (jT S o):=by
 simp only[qv,cW];cases jT S o with
 |some d=>rfl
 |none=>
  simp only[ym,runK,eh,uv,qm];rcases iL X (au X) md all S o with _|⟨e,S1⟩
  .rfl
  .cases e<;>rfl
end
noncomputable def H4(X:Ctx)(p:dc)(D:Nat)(rs:List ResultVar):sl
 |e,S,[]=>wH X.P p D rs e S
 |e,S,[d]=>sN X p D rs (Pu X) S d (uf e)
 |_,_,_=>none
noncomputable def Dj(X:Ctx)(f:FuncId)(A:AV)(c:Code)(S:St)(k:Kt):dh:=(Dd X f A c S).bind λp=>k p.1 p.2
def H5(P:Program)(p:dc)(D:Nat)(rs:List ResultVar):Kt
 | .normal,S=>finish P p D rs S
 | .ret,S=>finish P p D rs S
 |_,_=>none
section
variable {X:Ctx} {f:FuncId} {S:St}
variable {k:Kt} {A:AV}
theorem Fk{a b:Code}:Dj X f A (.seq a b) S k=Dj X f A a S (wF X f b k):=by
 have h:Dd X f A (.seq a b) S=andThen (Dd X f A a S) (df X f b):=
  oR (F:=λn=>ma X f (aH X n) n A a S) (K:=λE n=>den X f (aH X n) n b E) (xJ (aQ X) f (m:=λk=>k) (λk=>X3 k) A a S) (λE=>dm b E)
 simp only[Dj,h,nH];congr 1;funext q;obtain⟨e,S1⟩:=q;cases e<;>rfl
end
def Ctx.over(X:Ctx)(E:aN):Ctx:={X with ov:=some E}
section
variable {X:Ctx} {E C:aN} {f:FuncId}
@[simp] theorem RE:(X.over E).P=X.P:=rfl
@[simp] theorem Qq:(X.over E).gl=X.gl:=rfl
@[simp] theorem OA:(X.over E).kf=X.kf:=rfl
@[simp] theorem Qr:(X.over E).gh=X.gh:=rfl
@[simp] theorem Qs:(X.over E).md=X.md:=rfl
@[simp] theorem Qt:(X.over E).fp=X.fp:=rfl
@[simp] theorem Qu:(X.over E).od=X.od:=rfl
@[simp] theorem Qv:(X.over E).fl=X.fl:=rfl
@[simp] theorem M6:au (X.over E)=E:=by
 funext g a c;unfold au;rw[<-sd (aQ (X.over E) g a c)];have:(λn=>aH (X.over E) (n+1) g a c)=λ_=>E g a c:=rfl;rw[this,aF]
end
inductive PR(D A α:Type) where
 |ok (a:α) (s:A)
 |bad (e:D) (s:A)
 |out
section
variable {D A α β H:Type}
def PR.el(r:PR D A α)(f:α->A->Option β)(g:D->A->Option β):Option β:=
 match r with
 | .ok a s=>f a s
 | .bad e s=>g e s
 | .out=>none
@[simp] theorem UO{a:α}{s:A}{f:α->A->Option β}{g:D->A->Option β}:(PR.ok a s).el f g=f a s:=rfl
@[simp] theorem RG{e:D}{s:A}{f:α->A->Option β}{g:D->A->Option β}:(PR.bad e s).el f g=g e s:=rfl
@[simp] theorem RH{f:α->A->Option β}{g:D->A->Option β}:(PR.out:PR D A α).el f g=none:=rfl
@[simp] theorem RI{c:Prop}[Decidable c]{a b:PR D A α}{f:α->A->Option β}{g:D->A->Option β}:(if c then a else b).el f g=if c then a.el f g else b.el f g:=by split<;>rfl
def PR.bind(r:PR D A α)(k:α->A->PR D A H):PR D A H:=
 match r with
 | .ok a s=>k a s
 | .bad e s=>.bad e s
 | .out=>.out
@[simp] theorem Qw{a:α}{s:A}{k:α->A->PR D A H}:(PR.ok a s).bind k=k a s:=rfl
@[simp] theorem Pv{e:D}{s:A}{k:α->A->PR D A H}:(PR.bad e s:PR D A α).bind k=.bad e s:=rfl
@[simp] theorem Pw{k:α->A->PR D A H}:(PR.out:PR D A α).bind k=.out:=rfl
@[simp] theorem Qx{r:PR D A α}{k:α->A->PR D A H}{f:H->A->Option β}{g:D->A->Option β}:(r.bind k).el f g=r.el (λa s=>(k a s).el f g) g:=by cases r<;>rfl
@[simp] theorem UP{r:PR D A α}{f:α->A->Option β}{g:D->A->Option β}:r.el (λa s=>f a s) (λe s=>g e s)=r.el f g:=rfl
theorem K3{I:Nat}{b:Bool}{r:PR D A α}{f:α->A->dh}{g:D->A->dh}:kZ I b (r.el f g)=r.el (λa s=>kZ I b (f a s)) (λe s=>kZ I b (g e s)):=by cases r<;>rfl
theorem IS{m:Mem}{J:Nat}{ρ B:List Nat}{r:PR D A α}{f:α->A->dh}{g:D->A->dh}:cR m J ρ B (r.el f g)=r.el (λa s=>cR m J ρ B (f a s)) (λe s=>cR m J ρ B (g e s)):=by cases r<;>rfl
theorem GW{X:Ctx}{md:Bool}{S:St}{d:Option Nat}{all q:List Oper}{k:Kt}{r:PR D A α}{f:α->A->Option cQ}{g:D->A->Option cQ}:ly X md S d all q k (r.el f g)=r.el (λa s=>ly X md S d all q k (f a s)) (λe s=>ly X md S d all q k (g e s)):=by cases r<;>rfl
theorem Fl{X:Ctx}{md:Bool}{M:Nat×List (List Nat)}{S:St}{d:Option Nat}{all q:List Oper}{O:List aD}{k:Kt}{r:PR D A α}{f:α->A->Option cQ}{g:D->A->Option cQ}:gL X md M S d all q O k (r.el f g)=r.el (λa s=>gL X md M S d all q O k (f a s)) (λe s=>gL X md M S d all q O k (g e s)):=by cases r<;>rfl
def Le(a b:Option β):Prop:=∀r,a=some r->b=some r
theorem Le.refl(a:Option β):Le a a:=λ_ h=>h
theorem Le.trans{a b c:Option β}(h:Le a b)(k:Le b c):Le a c:=λr V=>k r (h r V)
theorem Le.none{b:Option β}:Le none b:=λ_ h=>by cases h
theorem Le.el{r:PR D A α}{f T:α->A->Option β}{g U:D->A->Option β}(W:∀a s,Le (f a s) (T a s))(Y:∀e s,Le (g e s) (U e s)):Le (r.el f g) (r.el T U):=by
 cases r with
 |ok a s=>exact W a s
 |bad e s=>exact Y e s
 |out=>exact Le.none
end
section
variable {X:Ctx} {V:aN} {md:Bool} {all:List Oper} {S:St}
@[simp] theorem Mz{d:Option Tmp}{op:Op}{ty:TypeId}{pos:String}{M:Array Edge}:cv X V md all S ⟨d,op,ty,pos,M,none⟩=cO X V S ⟨d,op,ty,pos,M,none⟩ (bx X.P S ⟨d,op,ty,pos,M,none⟩):=rfl
@[simp] theorem Px{I:List Nat}{i:Nat}{A:List aD}:l9 X md all I i [] S A=some (ux A []):=by rw[wI,XF];rfl
theorem Fm{I:List Nat}{i:Nat}{o:Oper}{r:List Oper}{A:List aD}:l9 X md all I i (o::r) S A=if I.contains i=true then (match cv X (λ_ _ _=>none) md all S o with
 |some (S1,p)=>l9 X md all I (i+1) r S1 (p::A)
 |none=>none)else l9 X md all I (i+1) r (S.put o.dst false .aC) (⟨[],[],false,.aC⟩::A):=by
 simp only[l9];cases I.contains i<;>rfl
end
attribute [simp] Fm cO.eq_1 cO.eq_2 cO.eq_3 CF.eq_1 CE.eq_1 CE.eq_2 de.eq_1 de.eq_2 c7.eq_1 c7.eq_2 fG.eq_1 fG.eq_2 St.kill.eq_1 wq.eq_1 wq.eq_2 rM.eq_1 rM.eq_2
attribute [simp] K3 IS GW Fl
section
variable {O J α:Type} {X:Ctx} {md:Bool} {T:Nat×List (List Nat)} {S:St} {d:Option Nat} {all q:List Oper} {A:List aD} {k:Kt} {r:PR O J α} {f:α->J->Option cQ} {g:O->J->Option cQ}
@[simp] theorem OB:kv X md T S d all q A k (r.el f g)=r.el (λa s=>kv X md T S d all q A k (f a s)) (λe s=>kv X md T S d all q A k (g e s)):=by cases r<;>rfl
@[simp] theorem Qy:qa S (r.el f g)=r.el (λa s=>qa S (f a s)) (λe s=>qa S (g e s)):=by cases r<;>rfl
@[simp] theorem Qz{p:dc}{U:Nat}{rs:List ResultVar}{f:α->J->Option St}{g:O->J->Option St}:ug X p U rs (r.el f g)=r.el (λa s=>ug X p U rs (f a s)) (λe s=>ug X p U rs (g e s)):=by cases r<;>rfl
end
attribute [simp] Fg De Fh Df Dg A6 Dh Fi Fj Di
attribute [simp] vR.eq_1 wJ.eq_1 Ao.eq_1 ym.eq_1 ym.eq_2 H4.eq_1 H4.eq_2 ug.eq_1 ug.eq_2 qa.eq_1 uf.eq_1 uf.eq_2 uf.eq_3 sN.eq_1 Fk H5.eq_1 H5.eq_2
section
variable {X:Ctx} {f:FuncId} {S:St} {E:List DF} {H:sl} {b:Code}
@[simp] theorem QA:vR X f b H .ret S E=H .ret S E:=rfl
@[simp] theorem QB{t:TypeId}{x:D}:vR X f b H (.panic t x) S E=H (.panic t x) S E:=rfl
@[simp] theorem QC{i:Nat}:vR X f b H (.exit i) S E=H (.exit i) S E:=rfl
@[simp] theorem OC{id:Nat}{t:TypeId}{x:D}:wJ X f id H (.panic t x) S E=H (.panic t x) S E:=rfl
@[simp] theorem Py{md:Bool}{all r:List Oper}{t:TypeId}{x:D}:Ao X md all r E H (.panic t x) S=H (.panic t x) S E:=rfl
end
@[simp] def Ju:eX none=[]:=rfl
@[simp] def Jv(k v:Nat):eX (some ⟨k,v,.dead⟩)=[]:=rfl
@[simp] def K4(k v:Nat)(cs:List AV):eX (some ⟨k,v,.box cs⟩)=gk cs:=rfl
@[simp] def K5(k v sz:Nat)(rows:List D):eX (some ⟨k,v,.vec sz rows⟩)=[]:=rfl
@[simp] def K6(k v:Nat)(rows:List (List D)):eX (some ⟨k,v,.vv rows none⟩)=[]:=rfl
@[simp] def MA(k v:Nat)(rows:List (List D))(x:AV):eX (some ⟨k,v,.vv rows (some x)⟩)=dP x:=rfl
@[simp] def QD(m ρ bor nv rows y):l7 m ρ bor nv (.vv rows y)=.vv rows (y.map (vw m ρ bor nv)):=rfl
@[simp] def OD(rows y):fD (.vv rows y)=(rows.all gM&&(match y with|none=>true|some x=>bB x)):=rfl
@[simp] def RJ(ρ bs rows y):rz ρ bs (.vv rows y)=.vv rows (y.map (up ρ bs)):=rfl
@[simp] def Pz(m ρ bor nv t b):l7 m ρ bor nv (.buf t b)=.buf t b:=rfl
@[simp] def M7(t b):fD (.buf t b)=true:=rfl
@[simp] def QE(ρ bs t b):rz ρ bs (.buf t b)=.buf t b:=rfl
@[simp] def PA(E t b):jG E (.buf t b)=.buf t b:=rfl
@[simp] def K7(k v t b):eX (some ⟨k,v,.buf t b⟩)=[]:=rfl
@[simp] def PB(m ρ bor nv t b):l7 m ρ bor nv (.eP t b)=.eP t b:=rfl
@[simp] def M8(t b):fD (.eP t b)=true:=rfl
@[simp] def QF(ρ bs t b):rz ρ bs (.eP t b)=.eP t b:=rfl
@[simp] def PC(E t b):jG E (.eP t b)=.eP t b:=rfl
@[simp] def K8(k v t b):eX (some ⟨k,v,.eP t b⟩)=[]:=rfl
@[simp] def QG(E rows y):jG E (.vv rows y)=.vv rows (y.map E):=rfl
@[simp] def PD{H:Nat}{b:Bool}{c:Prop}[Decidable c]{x y:Option (Out×List (Nat×ax))}:kZ H b (if c then x else y)=if c then kZ H b x else kZ H b y:=by split<;>rfl
@[simp] def Jw(P t A len ps):dD P t A len ps none=none:=by
 unfold dD;split<;>simp_all
@[simp] def M9(P t A len n x o):dD P t A len [(n,.d x)] o=none:=by
 unfold dD;split<;>simp_all
@[simp] def K9(P t A len n x o):dD P t A len [(n,.agg x)] o=none:=by
 unfold dD;split<;>simp_all
@[simp] def La(P t A len o):dD P t A len [] o=none:=by
 unfold dD;split<;>simp_all
@[simp] def Lc(P t A len p q r o):dD P t A len (p::q::r) o=none:=by
 unfold dD;split<;>simp_all
@[simp] def Ld(P t A len k v c):dD P t A len [(0,.lit (.slice none 0 0))] (some ⟨k,v,c⟩)=(match tk P t with
 | .slice e=>match b5 P e,gG P e with
  |some sz,some _=>some (.bo (sz=1/\len=1) (.vec A (v+1) 0 1) ⟨A,v+1,.box [.lit (.slice none 0 0)]⟩)
  |_,_=>none
 |_=>none):=rfl
attribute [simp] lj.eq_1
attribute [simp] uL.eq_1 pL.eq_1
attribute [simp] Gh.go St.zA.eq_1 St.cls.eq_1 St.shut.eq_1 St.nw.eq_1
def q1(m:Nat):Nat:=m/4294967296%4294967296
def q2(m:Nat):Nat:=m/18446744073709551616%4294967296
def q3(m:Nat):Nat:=m/79228162514264337593543950336%4294967296
def Dk(z:Int):Int×Bool:=if-9223372036854775808<=z/\z<=9223372036854775807 then (z,true)else (0,false)
def PE(a b:Int):Int×Int:=if b=0 then (0,3)else if a= -9223372036854775808/\b= -1 then (0,2)else (a.tdiv b,0)
def PF(a b:Int):Int×Int:=if b=0 then (0,3)else (a.tmod b,0)
def dp(b:Bool):Int:=if b=true then 1 else 0
@[simp] def WB(p:Int×Bool×Int):AV:=.bk [.d (.int .i64 p.1),.d (.bool p.2.1),.d (.int .i64 p.2.2)]
def wK:Int×Bool×Int:=(0,false, -1)
def Dl(p:Int×Bool):Int×Bool×Int:=if p.2=true then (p.1,false,0)else (0,false,2)
def Lf(p:Int×Int):Int×Bool×Int:=if p.2=3 then (0,false,1)else if p.2=0 then (p.1,false,0)else (0,false,2)
def Lg(op a:Int)(t:Bool):Int×Bool×Int:=
 if t=true then (if a≠0/\a≠1 then wK else if op=7 then (dp (decide (a=0)),true,0)else wK)
 else if op=6 then Dl (Dk (0-a))else wK
def PG(op a b:Int):Int×Bool×Int:=
 if op=13 then (dp (decide (a=b)),true,0)else if op=14\/op=20 then (dp (decide (a≠b)),true,0)
 else if op=19 then (dp (decide (a=1/\b=1)),true,0)else if op=21 then (dp (decide (a=1\/b=1)),true,0)else wK
def RL(op a b:Int):Int×Bool×Int:=
 if op=8 then Dl (Dk (a+b))else if op=9 then Dl (Dk (a-b))else if op=10 then Dl (Dk (a*b))else if op=11 then Lf (PE a b)else if op=12 then Lf (PF a b)
 else if op=13 then (dp (decide (a=b)),true,0)else if op=14 then (dp (decide (a≠b)),true,0)else if op=15 then (dp (decide (a<b)),true,0)
 else if op=16 then (dp (decide (b<a)),true,0)else if op=17 then (dp (decide (a<=b)),true,0)else if op=18 then (dp (decide (b<=a)),true,0)else wK
def Lh(op a b:Int)(t:Bool):Int×Bool×Int:=
 if t=true then (if (a≠0/\a≠1)\/(b≠0/\b≠1)then wK else PG op a b)else RL op a b
def Fp(e b:Int):Int:=if e<b then e+1 else e
def Na(k a b q e:Int):List Int:=
 if k=10 then (if a=0 then [a,b,0,0]else [a,b,dp (decide (b<=Fp e b)),Fp e b])
 else if k=11 then (if a=0 then (if q=0 then [a,b,q,e]else [a,b,dp (decide (Fp e b<b)),Fp e b])else [a,b,1,0])
 else [a,b,q,e]
def RM(a b q e p r:Int):List Int:=
 let E:=if a≠0/\p=0/\r=0 then 1 else r
 let D:=if a≠0/\p=0/\r=0 then 0 else e
 if E=0 then [a,b,q,D,dp (decide (a≠0)),E]else [a,b,dp (decide (D<b)),Fp D b,dp (decide (a≠0)),dp (decide (D<b))]
def RN(a s v q c p:Int):List Int:=
 let A:=if s≠0 then 0 else if a≠0/\p=0/\c<9223372036854775807 then c+1 else c
 [a,s,v,dp (decide (v<=A)),A,dp (decide (a≠0))]
def RO(a s v q c p:Int):List Int:=
 let A:=if s≠0 then v else if a≠0/\p=0/\ -9223372036854775808<c then c-1 else c
 [a,s,v,dp (decide (A<=0)),A,dp (decide (a≠0))]
def Nb(k a b q e p r:Int):List Int:=
 if k=12 then RM a b q e p r else if k=13 then RN a b q e p r else if k=14 then RO a b q e p r else [a,b,q,e,p,r]
def Nc(k a b q:Int):List Int:=
 if k=15 then [a,dp (decide (a≠0/\q=0)),dp (decide (a≠0))]else if k=16 then [a,dp (decide (a=0/\q≠0)),dp (decide (a≠0))]
 else if k=17 then [a,b,dp (decide (a≠0\/(q≠0/\b=0)))]else if k=18 then [a,b,dp (decide (b=0/\(q≠0\/a≠0)))]else [a,b,q]
def Nd(k:Int):List Int->List Int
 |[a,b,q]=>Nc k a b q
 |[a,b,q,e]=>Na k a b q e
 |[a,b,q,e,p,r]=>Nb k a b q e p r
 |c=>c
abbrev Tx:=List UInt8
structure Fq where
 kind:Int
 text:Tx
 n:Int
 wL:Int
 OE:Int
 deriving DecidableEq
inductive Ex where
 |mk (op n:Int) (name field:Tx) (sub:List Ex) (wL:Int)
inductive Sm where
 |mk (op:Int) (name:Tx) (to val:Ex) (A:List Ex) (D:List (List Int)) (fields:List Tx) (E:List (List Sm)) (wL:Int)
instance:Inhabited Ex:=⟨.mk 0 0 [] [] [] 0⟩
instance:Inhabited Sm:=⟨.mk 0 [] default default [] [] [] [] 0⟩
structure Vr where
 name:Tx
 ty:Int
 sec:Int
 arr:Bool
 lo:Int
 hi:Int
 init:Int
 wL:Int
 deriving DecidableEq
structure Pg where
 name:Tx
 vars:List Vr
 body:List Sm
structure PS where
 at_:Nat
 deep:Int
 vars:List Vr
structure Er where
 e:Int
 wL:Int
 OE:Int
 deriving DecidableEq
abbrev PM(α:Type):=PR Er PS α
section
variable (L:List Fq)
def PH(s:PS):PM Fq:=match L[s.at_]? with
 |some t=>.ok t s
 |none=>.out
def RR(t:Fq)(w:Tx):Bool:=(decide (t.kind=2)||decide (t.kind=4))&&decide (t.text=w)
def isS(w:Tx)(s:PS):PM Bool:=(PH L s).bind λt s=>.ok (RR t w) s
structure Kd where
 at_:Fq
 kind:Int
 arr:Bool
 lo:Int
 hi:Int
end
def RT:Ex->Int| .mk a _ _ _ _ _=>a
def RU:Ex->Int| .mk _ a _ _ _ _=>a
def RV:Ex->Tx| .mk _ _ a _ _ _=>a
def RW:Ex->Tx| .mk _ _ _ a _ _=>a
def RX:Ex->List Ex| .mk _ _ _ _ a _=>a
def RY:Ex->Int| .mk _ _ _ _ _ a=>a
@[simp] def RZ{a b c d e f}:RT (.mk a b c d e f)=a:=rfl
@[simp] def R0{a b c d e f}:RU (.mk a b c d e f)=b:=rfl
@[simp] def R3{a b c d e f}:RV (.mk a b c d e f)=c:=rfl
@[simp] def R4{a b c d e f}:RW (.mk a b c d e f)=d:=rfl
@[simp] def R5{a b c d e f}:RX (.mk a b c d e f)=e:=rfl
@[simp] def R6{a b c d e f}:RY (.mk a b c d e f)=f:=rfl
def R7:Sm->Int| .mk a _ _ _ _ _ _ _ _=>a
def R8:Sm->Tx| .mk _ a _ _ _ _ _ _ _=>a
def R9:Sm->Ex| .mk _ _ a _ _ _ _ _ _=>a
def Sa:Sm->Ex| .mk _ _ _ a _ _ _ _ _=>a
def Sb:Sm->List Ex| .mk _ _ _ _ a _ _ _ _=>a
def PI:Sm->List (List Int)| .mk _ _ _ _ _ a _ _ _=>a
def Sc:Sm->List Tx| .mk _ _ _ _ _ _ a _ _=>a
def Sd:Sm->List (List Sm)| .mk _ _ _ _ _ _ _ a _=>a
def Se:Sm->Int| .mk _ _ _ _ _ _ _ _ a=>a
@[simp] def Sf{a b c d e f g h i}:R7 (.mk a b c d e f g h i)=a:=rfl
@[simp] def Sg{a b c d e f g h i}:R8 (.mk a b c d e f g h i)=b:=rfl
@[simp] def Sh{a b c d e f g h i}:R9 (.mk a b c d e f g h i)=c:=rfl
@[simp] def Si{a b c d e f g h i}:Sa (.mk a b c d e f g h i)=d:=rfl
@[simp] def Sj{a b c d e f g h i}:Sb (.mk a b c d e f g h i)=e:=rfl
@[simp] def QH{a b c d e f g h i}:PI (.mk a b c d e f g h i)=f:=rfl
@[simp] def Sk{a b c d e f g h i}:Sc (.mk a b c d e f g h i)=g:=rfl
@[simp] def Sl{a b c d e f g h i}:Sd (.mk a b c d e f g h i)=h:=rfl
@[simp] def Sn{a b c d e f g h i}:Se (.mk a b c d e f g h i)=i:=rfl
structure Pn where
 name:Tx
 ty:Int
 Sp:Bool
 deriving DecidableEq
def Li(p:Pn):D:=.agg [.str p.name,.int .i64 p.ty,.bool p.Sp]
def fP(ins outs:List (Tx×Bool))(n:Nat):List Pn:=ins.map (λx=>⟨x.1,if x.2 then 1 else 2,true⟩)++outs.map (λx=>⟨x.1,if x.2 then 1 else 2,false⟩)++List.replicate n ⟨[],1,false⟩
def sU:List (Tx×Bool):=[([68,111,110,101],false),([66,117,115,121],false),([65,99,116,105,118,101],false),([67,111,109,109,97,110,100,65,98,111,114,116,101,100],false),([69,114,114,111,114],false)]
def OF:List (Int×List Pn):=[
 (10,fP [([73,78],false),([80,84],true)] [([81],false),([69,84],true)] 0),
 (11,fP [([73,78],false),([80,84],true)] [([81],false),([69,84],true)] 0),
 (12,fP [([73,78],false),([80,84],true)] [([81],false),([69,84],true)] 2),
 (13,fP [([67,85],false),([82],false),([80,86],true)] [([81],false),([67,86],true)] 1),
 (14,fP [([67,68],false),([76,68],false),([80,86],true)] [([81],false),([67,86],true)] 1),
 (15,fP [([67,76,75],false)] [([81],false)] 1),
 (16,fP [([67,76,75],false)] [([81],false)] 1),
 (17,fP [([83,49],false),([82],false)] [([81,49],false)] 0),
 (18,fP [([83],false),([82,49],false)] [([81,49],false)] 0),
 (20,fP [([65,120,105,115],true),([69,110,97,98,108,101],false)] [([83,116,97,116,117,115],false),([69,114,114,111,114],false)] 0),
 (21,fP [([65,120,105,115],true),([69,120,101,99,117,116,101],false)] sU 2),
 (22,fP [([65,120,105,115],true),([69,120,101,99,117,116,101],false)] sU 2),
 (23,fP [([65,120,105,115],true),([69,120,101,99,117,116,101],false)] sU 2),
 (24,fP [([65,120,105,115],true),([69,120,101,99,117,116,101],false),([80,111,115,105,116,105,111,110],true),([86,101,108,111,99,105,116,121],true),([66,117,102,102,101,114,77,111,100,101],true)] sU 2),
 (25,fP [([65,120,105,115],true),([69,120,101,99,117,116,101],false),([68,105,115,116,97,110,99,101],true),([86,101,108,111,99,105,116,121],true),([66,117,102,102,101,114,77,111,100,101],true)] sU 2),
 (26,fP [([65,120,105,115],true),([69,120,101,99,117,116,101],false),([68,105,115,116,97,110,99,101],true),([86,101,108,111,99,105,116,121],true),([66,117,102,102,101,114,77,111,100,101],true)] sU 2),
 (27,fP [([65,120,105,115],true),([69,120,101,99,117,116,101],false),([86,101,108,111,99,105,116,121],true)] [([73,110,86,101,108,111,99,105,116,121],false),([66,117,115,121],false),([65,99,116,105,118,101],false),([67,111,109,109,97,110,100,65,98,111,114,116,101,100],false),([69,114,114,111,114],false)] 2),
 (28,fP [([65,120,105,115],true),([69,120,101,99,117,116,101],false),([77,97,115,116,101,114],true),([78,117,109,101,114,97,116,111,114],true),([68,101,110,111,109,105,110,97,116,111,114],true)] [([73,110,71,101,97,114],false),([66,117,115,121],false),([65,99,116,105,118,101],false),([67,111,109,109,97,110,100,65,98,111,114,116,101,100],false),([69,114,114,111,114],false)] 2),
 (29,fP [([65,120,105,115],true),([69,120,101,99,117,116,101],false)] [([68,111,110,101],false),([69,114,114,111,114],false)] 1),
 (30,fP [([65,120,105,115],true),([69,120,101,99,117,116,101],false),([80,111,115,105,116,105,111,110],true)] [([68,111,110,101],false),([69,114,114,111,114],false)] 1),
 (31,fP [([65,120,105,115],true),([69,110,97,98,108,101],false),([80,101,114,99,101,110,116],true)] [([69,110,97,98,108,101,100],false)] 0)]
def Dn:List (Int×List Pn)->Int->List Pn
 |[],_=>[]
 |(a,l)::r,k=>if a=k then l else Dn r k
def qw(k:Int):List Pn:=Dn OF k
structure Te where
 t:Int
 e:Int
 wL:Int
 deriving DecidableEq
def fJ(b:Int):Nat:=(qw b).length
def dr:List Int:=[10,11,12,13,14,15,16,17,18,20,21,22,23,24,25,26,27,28,29,30,31]
def mG{b:Int}(A:b∉dr):qw b=[]:=by
 simp only[dr,WK,XH,or_false,not_or]at A;obtain⟨D,E,H,I,J,M,O,T,U,V,W,Y,Z,c,q,y,A',A0,A1,A2,A3⟩:=A;unfold qw OF;simp only[Dn,WO (Xs D),WO (Xs E),WO (Xs H),WO (Xs I),WO (Xs J),WO (Xs M),WO (Xs O),WO (Xs T),WO (Xs U),WO (Xs V),WO (Xs W),WO (Xs Y),WO (Xs Z),WO (Xs c),WO (Xs q),WO (Xs y),WO (Xs A'),WO (Xs A0),WO (Xs A1),WO (Xs A2),WO (Xs A3)]
def xM(b:Int):(qw b).length<=20:=by
 by_cases A:b∈dr
 .simp only[dr,WK,XH,or_false]at A;rcases A with rfl|rfl|rfl|rfl|rfl|rfl|rfl|rfl|rfl|rfl|rfl|rfl|rfl|rfl|rfl|rfl|rfl|rfl|rfl|rfl|rfl<;>decide
 .rw[mG A];decide
def H6(x:Ins)(n:Int):Bool:=decide (x.n<=n)&&decide (n<=x.m)
def qO(C:List Int)(k:Int):Int:=C[k.toNat]?.getD 0
def Nf(C:List Int)(x:Ins):Bool:=decide (0<=qO C (x.b+1)/\qO C x.a<=qO C x.b)||decide (qO C (x.b+1)<0/\qO C x.b<=qO C x.a)
structure Ms where
 cells:List Int
 Fs:List Int
 at_:Int
 fuel:Int
 fault:Int
def Ms.pop(s:Ms):Ms:={s with Fs:=s.Fs.dropLast}
def Ms.push(s:Ms)(n:Int):Ms:={s with Fs:=s.Fs++[n]}
def Ms.top(s:Ms):Int:=s.Fs.getLast?.getD 0
def Lk(C:List Int)(k n:Int):List Int:=C.set k.toNat n
def Ng(x:Ins)(s:Ms):Option Ms:=
 if x.op=1 then some (s.push x.n)
 else if x.op=2 then some (s.push (qO s.cells x.a))
 else if x.op=3 then some (s.push (dp (decide (qO s.cells x.a≠0))))
 else if x.op=4\/x.op=5 then
  (if H6 x s.top=true then some (s.pop.push (if x.op=4 then qO s.cells (x.a+(s.top-x.n))else dp (decide (qO s.cells (x.a+(s.top-x.n))≠0))))else some {s.pop with fault:=3})
 else if x.op=6 then some {s.pop with cells:=Lk s.cells x.a s.top}
 else if x.op=7 then
  (if H6 x s.pop.top=true then some {s.pop.pop with cells:=Lk s.cells (x.a+(s.pop.top-x.n)) s.top} else some {s.pop.pop with fault:=3})
 else none
def SA(x:Ins)(s:Ms):Ms:=
 if x.b=6\/x.b=7 then
  (if (Lg x.b s.top (decide (x.a=1))).2.2=0 then s.pop.push (Lg x.b s.top (decide (x.a=1))).1 else {s.pop with fault:=(Lg x.b s.top (decide (x.a=1))).2.2})
 else
  (if (Lh x.b s.pop.top s.top (decide (x.a=1))).2.2=0 then s.pop.pop.push (Lh x.b s.pop.top s.top (decide (x.a=1))).1 else {s.pop.pop with fault:=(Lh x.b s.pop.top s.top (decide (x.a=1))).2.2})
def Ll(x:Ins)(C:List Int):List Int:=C.take x.a.toNat++Nd x.b ((C.drop x.a.toNat).take (fJ x.b))++C.drop (x.a.toNat+fJ x.b)
def PJ(x:Ins)(s:Ms):Ms:=
 if x.op=8 then SA x s
 else if x.op=9 then {s with at_:=x.a}
 else if x.op=10 then (if s.top=0 then {s.pop with at_:=x.a} else s.pop)
 else if x.op=11 then (if s.fuel=0 then {s with fault:=4} else {s with fuel:=s.fuel-1})
 else if x.op=12 then {s with cells:=Ll x s.cells}
 else if x.op=13 then s.push (dp (Nf s.cells x))
 else if x.op=14 then s.push (dp (decide (x.n<=qO s.cells x.a/\qO s.cells x.a<=x.m)))
 else s
def Nh(x:Ins)(s:Ms):Ms:=
 match Ng x {s with at_:=s.at_+1} with
 |some t=>t
 |none=>PJ x {s with at_:=s.at_+1}
inductive yn(l:List Ins):Ms->Ms->Prop
 |fault (s:Ms) (h:s.fault≠0):yn l s s
 |fin (s:Ms) (x:Ins) (A4:s.fault=0) (A5:l[s.at_.toNat]?=some x) (h:x.op=15):yn l s s
 |step (s:Ms) (x:Ins) (t:Ms) (A4:s.fault=0) (A5:l[s.at_.toNat]?=some x) (h:x.op≠15) (A6:yn l (Nh x s) t):yn l s t
@[simp] def V4(t:Fq):D:=.agg [.int .i64 t.kind,.str t.text,.int .i64 t.n,.int .i64 t.wL,.int .i64 t.OE]
end Go.Am
end
