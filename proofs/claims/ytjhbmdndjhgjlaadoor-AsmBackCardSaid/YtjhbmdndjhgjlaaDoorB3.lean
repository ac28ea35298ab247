/-
  Texts of one proof, one behind the other.
-/
import Derived.Test.YtjhbmdndjhgjlaaDoorB1
import Derived.Test.YtjhbmdndjhgjlaaDoorB2
import Derived.Below
import Derived.Recover
import Derived.Orders
import Derived.Lib.ItoaNum
import Derived.Lib.Bytealg
import Derived.Lib.Index
import Derived.Lib.Strings
import Derived.Lib.Split
import Derived.Lib.FieldsP
import Derived.Lib.ParseIntB
import Derived.Laws.BitsLemmas
import Derived.Laws.Bits64
import Derived.Lib.Mul64
set_option linter.all false
section
namespace Go.Am
open Go
set_option maxRecDepth 20000
set_option maxHeartbeats 4000000
def fb(X:Ctx)(A1:aJ):Prop:=∀g args cs out l,A1 g args cs=some (out,l)->
 dC X.P g=true/\Ev X.P X.gl g args (bS 0 cs) λo m=>o=out/\m=bH 0 l
def nP{P:Program}{g:FuncId}{vs:Array Value}{w:World}(h:dC P g=true):(callFunc g vs).run P w=.ok (.enter g vs) w:=by
 unfold dC at h;split at h
 .rename_i fn Ar;simp only[Xl,Bool.not_eq_true']at h;have J:fn.body.isNone=false:=by
   have:=h.1;cases AD:fn.body<;>simp_all
  have V:fn.name≠ "runtime.NumGoroutine" :=by simpa using h.2
  have A6:fn.body≠none:=by intro AD;simp[AD]at J
  simp[callFunc,Ar,V,A6]
 .cases h
def get_none{m:Mem}{k:Nat}:Mem.get m k=none↔k∉m.map (·.key):=by
 induction m with
 |nil=>simp[Mem.get]
 |cons e r ih=>
  simp only[Mem.get,XU,Xm,not_or];split
  .rename_i h;simp[h]
  .rename_i h;rw[ih];constructor
   .exact λhh=>⟨λhe=>h he.symm,hh⟩
   .exact λhh=>hh.2
def oV{m m':Mem}(A:m'.map (·.key)=m.map (·.key))(k:Nat):(Mem.get m' k).isNone=(Mem.get m k).isNone:=by
 have:=get_none (m:=m) (k:=k);have V:=get_none (m:=m') (k:=k);rw[A,<-this]at V;cases h:Mem.get m k<;>cases As:Mem.get m' k<;>simp_all
def oW(m:Mem):∀(n:Nat)(todo I:List Nat),∀k∈I,k∈collect m n todo I
 |0,todo,I,k,h=>h
 |n+1,[],I,k,h=>h
 |n+1,t::todo,I,k,h=>by
  simp only[collect];split
  .exact oW m n todo I k h
  .exact oW m n _ _ k (YM _ h)
def oX{m m':Mem}(A:m'.map (·.key)=m.map (·.key)):∀(n:Nat)(todo I:List Nat),(∀k∈collect m n todo I,Mem.get m' k=Mem.get m k)->collect m' n todo I=collect m n todo I
 |0,todo,I,_=>rfl
 |n+1,[],I,_=>rfl
 |n+1,t::todo,I,h=>by
  simp only[collect,oV A t]at h⊢;split
  .rename_i H;rw[H]at h;exact oX A n todo I h
  .rename_i H;rw[H]at h;have e:Mem.get m' t=Mem.get m t:=h t (oW m n _ _ t (by simp));rw[e];exact oX A n _ _ h
mutual
def AH{m m':Mem}{ρ:List Nat}{bor:Nat->Bool}{nv:Nat->Nat->Nat}(A:m'.map (·.key)=m.map (·.key))(h:∀k,(k∈ρ\/bor k=true)->Mem.get m' k=Mem.get m k):∀y:AV,vw m' ρ bor nv y=vw m ρ bor nv y
 | .ptr k U off=>by
  by_cases M:k∈ρ
  .simp only[vw,h k (.inl M)]
  .have N:∀m0:Mem,vw m0 ρ bor nv (.ptr k U off)=.aA:=by
    intro m0;simp only[vw,eG (ρ:=ρ) (k:=k) (j:=0) |>.2 M];cases Mem.get m0 k<;>rfl
   rw[N,N]
 | .tn k U t=>by
  by_cases M:k∈ρ
  .simp only[vw,h k (.inl M)]
  .have N:∀m0:Mem,vw m0 ρ bor nv (.tn k U t)=.aA:=by
    intro m0;simp only[vw,eG (ρ:=ρ) (k:=k) (j:=0) |>.2 M];cases Mem.get m0 k<;>rfl
   rw[N,N]
 | .vec k U off len=>by
  by_cases M:k∈ρ\/bor k=true
  .simp only[vw,h k M]
  .simp only[not_or]at M;have N:∀m0:Mem,vw m0 ρ bor nv (.vec k U off len)=.aA:=by
    intro m0;simp only[vw,eG (ρ:=ρ) (k:=k) (j:=0) |>.2 M.1,M.2];cases Mem.get m0 k with
    |none=>rfl
    |some e=>
     obtain⟨_,_,c⟩:=e;cases c<;>simp
   rw[N,N]
 | .bb k U i j=>by
  by_cases M:k∈ρ
  .simp only[vw,h k (.inl M)]
  .have N:∀m0:Mem,vw m0 ρ bor nv (.bb k U i j)=.aA:=by
    intro m0;simp only[vw,eG (ρ:=ρ) (k:=k) (j:=0) |>.2 M];cases Mem.get m0 k<;>rfl
   rw[N,N]
 | .agg cs=>by simp only[vw,pI A h cs]
 | .fn f cap=>by simp only[vw,pI A h cap]
 | .bc vs=>by simp only[vw,pI A h vs]
 | .aA=>rfl
 | .d x=>rfl
 | .bR x j=>rfl
 | .dF t x=>rfl
 | .lit v=>rfl
 | .nn=>rfl
 | .err=>rfl
def pI{m m':Mem}{ρ:List Nat}{bor:Nat->Bool}{nv:Nat->Nat->Nat}(A:m'.map (·.key)=m.map (·.key))(h:∀k,(k∈ρ\/bor k=true)->Mem.get m' k=Mem.get m k):∀l:List AV,lU m' ρ bor nv l=lU m ρ bor nv l
 |[]=>rfl
 |x::r=>by simp only[lU,AH A h x,pI A h r]
end
def AI{m m':Mem}{ρ:List Nat}{bor:Nat->Bool}{nv:Nat->Nat->Nat}(A:m'.map (·.key)=m.map (·.key))(h:∀k,(k∈ρ\/bor k=true)->Mem.get m' k=Mem.get m k):
 ∀(l:List Nat)(i:Nat),(∀k∈l,k∈ρ)->cd m' ρ bor nv i l=cd m ρ bor nv i l
 |[],i,_=>rfl
 |k::r,i,AT=>by
  simp only[cd,h k (.inl (AT k (by simp))),AI A h r (i+1) (λx W=>AT x (by simp[W]))];congr 1;cases Mem.get m k with
  |none=>rfl
  |some e=>
   simp only[oQ,XB,true_and];cases e.cont with
   |box cs=>simp only[mn,pI A h cs]
   |vv rows y=>
    cases y with
    |none=>rfl
    |some x=>simp only[mn,Yc,AH A h x]
   |_=>rfl
def wB{b:Bool}{m m':Mem}{ρ B:List Nat}(A:m'.map (·.key)=m.map (·.key))(h:∀k,(k∈ρ\/B.contains k=true)->Mem.get m' k=Mem.get m k):∀l:List AV,dN b m' ρ B l=dN b m ρ B l
 |[]=>rfl
 |x::r=>by simp only[dN,AH (nv:=dL) A h x,wB A h r]
def u5{m m':Mem}(d:Nat):∀(l:List Nat),(∀k∈l,Mem.get m' k=Mem.get m k)->base m' d l=base m d l
 |[],_=>rfl
 |k::r,h=>by simp only[base,h k (by simp),u5 d r (λx W=>h x (by simp[W]))]
def AJ{m m':Mem}(ρ:List Nat)(A:m'.map (·.key)=m.map (·.key)):∀(l:List Nat),qo m' ρ l=qo m ρ l
 |[]=>rfl
 |k::r=>by
  have:(Mem.get m' k).isSome=(Mem.get m k).isSome:=by
   have:=oV A k;cases h:Mem.get m k<;>cases As:Mem.get m' k<;>simp_all
  simp only[qo,this,AJ ρ A r]
def wC{A1:aJ}{m m':Mem}{A2:Nat}{g:FuncId}{E:List AV}{mt:List Nat}{res:cK}(A:m'.map (·.key)=m.map (·.key))(h:cm A1 m A2 g E mt=some res)(AZ:∀k∈res.ks,Mem.get m' k=Mem.get m k):
 cm A1 m' A2 g E mt=some res:=by
 unfold cm iR iQ at h⊢;obtain⟨ρ,A3⟩:∃ρ,ρ=collect m 64 (gN mt 0 E) []:=⟨_,rfl⟩;rw[<-A3]at h;obtain⟨B,A_⟩:∃B,B=(nN mt 0 E).filter λk=>!ρ.contains k:=⟨_,rfl⟩;rw[<-A_]at h;have AE:∀k,k∈ρ\/B.contains k=true->Mem.get m' k=Mem.get m k:=by
  intro k Y;refine AZ k ?_;unfold cL at h;split at h
  .split at h
   .cases h;simp only[XL];rcases Y with J|J
    .exact .inl (.inl J)
    .exact .inl (.inr (by simpa using J))
   .cases h
  .cases h
 have At:collect m' 64 (gN mt 0 E) []=ρ:=by
  rw[A3];exact oX A 64 _ _ (λk Y=>AE k (.inl (A3▸Y)))
 rw[At,<-A_,wB A AE,AI A AE ρ 0 (λ_ h=>h),oV A];unfold cL at h⊢;split
 .rename_i out O A7;rw[A7]at h;simp only at h;rw[AJ ρ A];split
  .rename_i H;rw[Xz H]at h;cases h;have A8:∀d,base m' d ρ=base m d ρ:=λd=>u5 d ρ (λk Y=>AE k (.inl Y));have Av:∀d,base m' d (List.range' (A2+1) (O.length-ρ.length))=base m d (List.range' (A2+1) (O.length-ρ.length)):=λd=>u5 d _ (λk Y=>AZ k (by simp only[XL];exact .inr Y));rw[A8,Av]
  .rename_i H;rw[Xq H]at h;cases h
 .rename_i A7;rw[A7]at h;cases h
def oY(S:St):∀(l:List Operand)(i:Nat),(bw S l)[i]?=(l[i]?).map λx=>(S.ag x).2
 |[],i=>by simp[bw]
 |x::r,i=>by cases i with|zero=>simp[bw]|succ i=>simp[bw,oY S r i]
def eO(S:St):∀(l:List Operand),(bw S l).length=l.length
 |[]=>rfl
 |x::r=>by simp[bw,eO S r]
def qA(b m ρ B):∀(l:List AV)(i:Nat),(dN b m ρ B l)[i]?=(l[i]?).map λy=>uu b (vw m ρ (λk=>B.contains k) dL y)
 |[],i=>by simp[dN]
 |x::r,i=>by cases i with|zero=>simp[dN]|succ i=>simp[dN,qA b m ρ B r i]
def mu(b m ρ B):∀(l:List AV),(dN b m ρ B l).length=l.length
 |[]=>rfl
 |x::r=>by simp[dN,mu b m ρ B r]
def sI(m ρ bor):∀(l:List Nat)(i j:Nat),bS i (jy (cd m ρ bor dL j l))=bH i (cd m ρ bor dL j l)
 |[],i,j=>rfl
 |k::r,i,j=>by
  have:oQ m ρ bor dL j (Mem.get m k)=(0,(oQ m ρ bor dL j (Mem.get m k)).2):=by
   cases Mem.get m k<;>rfl
  simp only[cd];rw[this];simp only[jy,bS,bH,sI m ρ bor r (i+1) (j+1)]
def u6{m:Mem}{ρ:List Nat}:∀{l:List Nat},qo m ρ l=true->∀k∈l,(Mem.get m k).isSome=true/\k∉ρ
 |[],_,k,A=>by simp at A
 |x::r,h,k,A=>by
  simp only[qo,Xl,Bool.not_eq_true',List.contains_eq_mem,YE]at h;rcases Xm.1 A with rfl|A
  .exact h.1
  .exact u6 h.2 k A
def qB:∀{l:List (Nat×ay)},jl l=true->∀e∈l,fE e.2=true
 |[],_,e,he=>by simp at he
 |(v,c)::r,h,e,he=>by
  simp only[jl,Xl]at h;rcases Xm.1 he with rfl|he
  .exact h.1
  .exact qB h.2 e he
def pJ:∀(l:List (Nat×ay))(i k:Nat),i<=k->k<i+l.length->(Mem.get (bH i l) k).isSome=true
 |[],i,k,J,V=>by simp at V;omega
 |(v,c)::r,i,k,J,V=>by
  simp only[bH,Mem.get];split
  .rfl
  .rename_i Aw;exact pJ r (i+1) k (by have BK:i≠k:=Aw;omega) (by simp at V;omega)
def Ev.LF{P:Program}{gl f args}{cs:List ay}{out:Out}{O:List (Nat×ay)}(h:Ev P gl f args (bS 0 cs) λo m=>o=out/\m=bH 0 O)(AT:cs.length<=O.length):
 Ev P gl f args (bS 0 cs) λo m=>o=xA cs.length O out/\m=bH 0 (cd (bH 0 O) (List.range cs.length) (λ_=>true) (λ_ v=>v) 0 (List.range cs.length)):=by
 intro φ G w vs hm AF Ax Ay;refine (h φ G w vs hm AF Ax Ay).mono ?_;rintro e w' ⟨φ',m',AG,⟨rfl,rfl⟩,A9,T,Z⟩;obtain⟨s1,s2,Az⟩:=tD (G1:=G) (ρ:=List.range cs.length) (bor:=λ_=>true) (nv:=λ_ v=>v) A9 List.nodup_range (λk A=>pJ O 0 k (Nat.zero_le _) (by simp at A;omega)) (λb h=>.inl h) (λb h=>A9.fX b h.own)
  (λk e L b AF _ _ AM A4=>A9.fX _ ⟨e,(Mem.get_mem AF).1,L,by rw[(Mem.get_mem AF).2];exact AM,A4⟩)
 refine⟨_,_,_,⟨rfl,rfl⟩,s1,⟨?_,T.rN,?_,T.size,T.os,T.tape,T.output⟩,?_⟩
 .intro k L AM;have A:k<cs.length:=by
   have:=hm.kI k L AM;rw[Au,kT]at this;simpa using this
  obtain⟨L',J,V,A6⟩:=T.le k L AM;exact⟨L',by simp[aQ.dX,A,J],V,A6⟩
 .intro b AD A4;exact T.own b AD ((py (φ:=φ') (nv:=λ_ v=>v) (bor:=λ_=>true) (λk A=>pJ O 0 k (Nat.zero_le _) (by simp at A;omega)) b).1 A4).own
 .cases AG with
  |ret x=>
   cases e with
   |returned v=>exact (s2 x v Z).norm
   |_=>exact Z.elim
  |panic t x=>
   cases e with
   |panicked chain=>
    obtain⟨v,H,W⟩:=Z;exact⟨v,H,W.mono (λ_ _ _=>rfl) (Ds _) (λb _=>Az b)⟩
   |_=>exact Z.elim
def nQ:∀(l:List (Nat×ay)),(jy l).length=l.length
 |[]=>rfl
 |(_,_)::r=>by simp[jy,nQ r]
def sJ{AA:Nat}{b:Bool}{r:Option (Out×List (Nat×ay))}{out:Out}{l:List (Nat×ay)}(h:k7 AA b r=some (out,l)):∃AN A0,r=some (AN,A0)/\
 ((out=AN/\l=A0)\/(AA<A0.length/\out=xA AA A0 AN/\l=cd (bH 0 A0) (List.range AA) (λ_=>true) (λ_ v=>v) 0 (List.range AA))):=by
 cases r with
 |none=>cases h
 |some p=>
  obtain⟨B',A0⟩:=p;refine⟨B',A0,rfl,?_⟩;simp only[k7]at h;split at h
  .rename_i H;simp only[Xl,XK]at H;simp only[Xn,XB]at h;exact .inr ⟨H.2,h.1.symm,h.2.symm⟩
  .simp only[Xn,XB]at h;exact .inl ⟨h.1.symm,h.2.symm⟩
def JR{n g:Nat}(h:g<n):tI n g=g:=by
 unfold tI;rw[decide_eq_false (Nat.not_le.2 h)]
def Fv{n g:Nat}(h:g<n)(E D:List AV):mZ n g E D=E++D:=by
 unfold mZ;rw[decide_eq_false (Nat.not_le.2 h)]
def JS(n g:Nat):tI n (g+n)=g:=by
 unfold tI;rw[decide_eq_true (Yq n g)];exact Nat.add_sub_cancel g n
def Fw(n g:Nat)(E D:List AV):mZ n (g+n) E D=D++E:=by
 unfold mZ;rw[decide_eq_true (Yq n g)]
def LG{g:FuncId}(h:g<my):iZ g=g:=JR h
def AK{g:FuncId}(h:g<my)(E D:List AV):ed g E D=E++D:=Fv h E D
def LH(g:FuncId):iZ (g+my)=g:=JS my g
def AL(g:FuncId)(E D:List AV):ed (g+my) E D=D++E:=Fw my g E D
def oz{X:Ctx}{A1:aJ}(A7:fb X A1){S:St}{o:Oper}{AO:Operand}{args:Array Operand}{B0:Array TypeId}{g g0:FuncId}{D:List AV}{A2:Nat}{mt:List Nat}{res:cK}
 (A4:o.op=.call {callee:=.value AO,args,argTypes:=B0}) (Aa:S.ag AO=(true,.fn g0 D)) (Ab:iZ g0=g) (B1:er S args.toList=true)
 (h:cm A1 S.mem A2 g (ed g0 (bw S args.toList) D) mt=some res) (B2:S.gl=X.gl) {φ G a w} (A5:Rel φ G S a w) {next:Act->World->Prop} {R:Exit->Act->World->Prop}
 (B3:∀x,res.out=.ret x->∀φ' w' v,Rel φ' G {S with mem:=aI S.mem res.es} a w'->az φ S.mem w φ' (aI S.mem res.es) w'->ai φ' w' (Fo G φ' (aI S.mem res.es)) x v->next (a.put o.dst v) w')
 (B4:∀t x,res.out=.panic t x->∀φ' w' v,Rel φ' G {S with mem:=aI S.mem res.es} a w'->az φ S.mem w φ' (aI S.mem res.es) w'->aq w' (Fo G φ' (aI S.mem res.es)) x v->R (.panic [{v:=.iface t v,recovered:=false}]) a w'):o.wp X.P a w next R:=by
 unfold cm iR iQ at h;obtain⟨ρ,A3⟩:∃ρ,ρ=collect S.mem 64 (gN mt 0 (ed g0 (bw S args.toList) D)) []:=⟨_,rfl⟩;have Ac:=ki S.mem 64 (gN mt 0 (ed g0 (bw S args.toList) D)) [] List.nodup_nil (by simp);rw[<-A3]at h Ac;generalize (nN mt 0 (ed g0 (bw S args.toList) D)).filter (λk=>!ρ.contains k)=B at h;clear A3;obtain⟨Ad,Ae⟩:=Ac;unfold cL at h;split at h
 .rename_i out O B5;split at h
  .rename_i H;cases h;have B6:dC X.P g=true/\Ev X.P X.gl g (dN (mt.contains 1000) S.mem ρ B (ed g0 (bw S args.toList) D)) (bS 0 (jy (cd S.mem ρ (λk=>B.contains k) dL 0 ρ))) λo m=>o=out/\m=bH 0 O:=by
    obtain⟨AN,A0,N,J⟩:=sJ B5;obtain⟨B7,Af⟩:=A7 _ _ _ _ _ N;refine⟨B7,?_⟩;rcases J with ⟨rfl,rfl⟩|⟨AP,rfl,rfl⟩
    .exact Af
    .have Ag:(jy (cd S.mem ρ (λk=>B.contains k) dL 0 ρ)).length=ρ.length:=by rw[nQ,lv]
     have:=Af.LF (by rw[Ag];omega);rw[Ag]at this;exact this
   obtain⟨Ah,Ai⟩:=B6;simp only[Xl,Bool.or_eq_true,XK]at H;obtain⟨⟨BL,B8⟩,B9⟩:=H;rw[sI]at Ai;obtain⟨v1,v2,v3⟩:=yg (B:=B) A5.mem Ad Ae;have AU:=A5.ag AO (by rw[Aa]);rw[Aa]at AU;generalize Aj:a.eval AO=BM at AU;have BA:∃vs:Array Value,(execOp a.eval o).run X.P w=.ok (.enter g vs) w/\(ed g0 (bw S args.toList) D).length=vs.size/\∀(i:Nat) y v,(ed g0 (bw S args.toList) D)[i]?=some y->vs[i]?=some v->ai φ w (Fo G φ S.mem) y v:=by
    have Ak:∀(i:Nat) y v,(bw S args.toList)[i]?=some y->(args.map a.eval)[i]?=some v->ai φ w (Fo G φ S.mem) y v:=by
     intro i y v q A';rw[oY]at q;simp only[Array.getElem?_map,Xj]at A';obtain⟨z,Al,rfl⟩:=A';obtain⟨BN,An,rfl⟩:=Xj.1 q;rw[X1,Al]at An;cases An;exact A5.ag z (og B1 z (by simpa using Array.mem_of_getElem? Al))
    have AQ:(bw S args.toList).length=(args.map a.eval).size:=by rw[eO];simp
    have Ao:∀(l r:List AV)(AR AS:Array Value),l.length=AR.size->r.length=AS.size->(∀(i:Nat) y v,l[i]?=some y->AR[i]?=some v->ai φ w (Fo G φ S.mem) y v)->(∀(i:Nat) y v,r[i]?=some y->AS[i]?=some v->ai φ w (Fo G φ S.mem) y v)->
     ∀(i:Nat) y v,(l++r)[i]?=some y->(AR++AS)[i]?=some v->ai φ w (Fo G φ S.mem) y v:=by
     intro l r AR AS J V A6 BB i y v q A';by_cases hi:i<l.length
     .rw[Xr hi]at q;rw[XY (by omega)]at A';exact A6 i y v q A'
     .rw[Xu (by omega)]at q;rw[Array.getElem?_append_right (by omega),<-J]at A';exact BB _ y v q A'
    cases AU with
    |fn _ _ AW AP AB AX=>
     have A8:g0=g:=by rw[<-Ab,LG AP]
     subst A8;refine⟨args.map a.eval++AW,by simp[execOp,A4,resolve,Aj,Deferred.ofValue,invoke,nP Ah],?_,?_⟩
     .rw[AK AP,Xx,AQ,AB,Array.size_append]
     .rw[AK AP];exact Ao _ _ _ _ AQ AB Ak AX
    |lJ f _ AW AB AX=>
     have A8:f=g:=by rw[<-Ab,LH]
     subst A8;refine⟨AW++args.map a.eval,by simp[execOp,A4,resolve,Aj,Deferred.ofValue,invoke,nP Ah],?_,?_⟩
     .rw[AL,Xx,AQ,AB,Array.size_append]
     .rw[AL];exact Ao _ _ _ _ AB AQ AX Ak
   obtain⟨vs,BC,BD,BE⟩:=BA
   .unfold Oper.wp;rw[BC];have BF:(dN (mt.contains 1000) S.mem ρ B (ed g0 (bw S args.toList) D)).length=vs.size:=by
     rw[mu];exact BD
    have BG:∀(i:Nat) x v,(dN (mt.contains 1000) S.mem ρ B (ed g0 (bw S args.toList) D))[i]?=some x->vs[i]?=some v->ai (φ.dX ρ dL) w (Fo (gx φ G S.mem ρ B) (φ.dX ρ dL) (bH 0 (cd S.mem ρ (λk=>B.contains k) dL 0 ρ))) x v:=by
     intro i x v W A';rw[qA]at W;obtain⟨y,q,rfl⟩:=Xj.1 W;exact (v2 y v (BE i y v q A')).uu
    have BH:b5 w (Fo (gx φ G S.mem ρ B) (φ.dX ρ dL) (bH 0 (cd S.mem ρ (λk=>B.contains k) dL 0 ρ))) X.gl:=by
     rw[<-B2];exact A5.fY.mono (λ_ _ _=>rfl) (Ds _) (λb _=>v3 b)
    refine (Ai (φ.dX ρ dL) (gx φ G S.mem ρ B) w _ v1 BH BF BG).mono ?_;rintro e w' ⟨BO,m2,AG,⟨rfl,rfl⟩,BI,Y,Z⟩;have AY:B=[]\/(plainO AG=true/\jl O=true):=B9.imp (by simp) id;obtain⟨φ',A9,T,Ap⟩:=yh (B:=B) A5.mem Ad Ae (fr:=List.range' (A2+1) (O.length-ρ.length)) List.nodup_range' (u6 B8) BI Y (by simp;omega) (AY.imp id λAC=>qB AC.2);have Aq:=A5.rO A9 T;cases AG with
    |ret x=>
     cases e with
     |returned v=>exact B3 _ rfl φ' w' v Aq T (Ap x v (AY.imp id λAC=>AC.1) Z)
     |_=>exact Z.elim
    |panic t x=>
     cases e with
     |panicked chain=>
      obtain⟨v,rfl,W⟩:=Z;have:=Ap (.d x) v (AY.imp id λAC=>AC.1) (.d _ _ W);cases this with
      |d _ _ BJ=>exact B4 t x rfl φ' w' v Aq T BJ
     |_=>exact Z.elim
  .cases h
 .cases h
abbrev Is(e:XE)(A:St):XE->St->Prop:=λe' B2=>e'=e/\B2=A
def CC(P:Program)(S:St)(o:Oper)(e:XE)(A:St):Prop:=
 A.n=S.n/\A.gl=S.gl/\(e=.normal\/∃t x,e=.panic t x)/\∀φ G a w,Rel φ G S a w->∀(next:Act->World->Prop)(R:Exit->Act->World->Prop),
  (e=.normal->∀φ' A3 w',Rel φ' G A A3 w'->az φ S.mem w φ' A.mem w'->next A3 w')->
  (∀t x,e=.panic t x->∀φ' A3 w' v,Rel φ' G A A3 w'->az φ S.mem w φ' A.mem w'->aq w' (Fo G φ' A.mem) x v->R (.panic [{v:=.iface t v,recovered:=false}]) A3 w')->o.wp P a w next R
def gI(S:St)(d g x):(S.put d g x).gl=S.gl:=by cases d<;>rfl
section
variable {X:Ctx} {A0:aJ} {S A:St} {o:Oper} {e:XE}
theorem tP{c:Bool}{x:AV}{gb:Bool}(A6:bu X.P S o=.val c x)(AA:(dj S o&&c)=true)(H:∀t,o.dst=some t->t<S.n):CC X.P S o .normal (S.put o.dst gb x):=by
 simp at AA;have:=Al X.P S o AA.1;rw[A6]at this;refine⟨hH ..,gI ..,.inl rfl,λφ G a w E next R A4 _=>?_⟩;exact Hk this AA.2 E H (λA3 w' AC AJ=>A4 rfl φ A3 w' AC (by rw[cH];grind))
theorem CD{c:Bool}{x:AV}{Ah:bk}(A6:bu X.P S o=.bl c x Ah)(AA:(dj S o&&c)=true)(H:∀t,o.dst=some t->t<S.n):CC X.P S o .normal (({S with mem:=Mem.set S.mem Ah}:St).put o.dst true x):=by
 simp at AA;have:=Al X.P S o AA.1;rw[A6]at this;refine⟨hH ..,gI ..,.inl rfl,λφ G a w E next R A4 _=>?_⟩;exact Hl this AA.2 E H (λφ' A3 w' AC AJ=>A4 rfl φ' A3 w' AC (by rw[cH];grind))
theorem B0{m:Mem}{BS:Nat}{g:FuncId}{BT:List AV}{mt:List Nat}{out:Out}{es:List bk}{ks:List Nat}(h:cm A0 m BS g BT mt=some ⟨out,es,ks⟩):∀e∈es,e.key∈ks:=by
 unfold cm iR iQ cL at h;split at h
 .split at h
  .obtain⟨_,rfl,rfl⟩:=h;intro e he;obtain⟨j,v,c,AM,rfl⟩:=ot.1 he;grind
  grind
 grind
mutual
theorem Fx:∀{x y:D},sC x y=true->x=y
 |x,y,h=>by
  unfold sC at h;split at h
  .simp only[Xl,XK]at h;obtain⟨rfl,rfl⟩:=h;rfl
  .rw[XW h]
  .rw[XW h]
  .rw[tQ h]
  .rw[tQ h]
  .rfl
  .cases h
theorem tQ:∀{x y:List D},qp x y=true->x=y
 |x,y,h=>by
  unfold qp at h;split at h
  .rfl
  .simp only[Xl]at h;rw[Fx h.1,tQ h.2]
  .cases h
end
theorem JT{x y:AV}(h:xB x y=true):x=y:=by
 unfold xB at h;split at h
 .rw[Fx h]
 .grind
 .grind
 grind
theorem AP:∀{x y:List AV},tJ x y=true->x=y
 |[],[],_=>rfl
 |[],_::_,h=>by cases h
 |_::_,[],h=>by cases h
 |a::r,b::s,h=>by
  simp[tJ]at h;rw[JT h.1,AP h.2]
theorem Fy{x y:ay}(h:sD x y=true):x=y:=by
 unfold sD at h;split at h
 .rw[AP h]
 .simp at h;rw[h.1,tQ h.2]
 grind
theorem AQ:∀{m:Mem}{e:bk},Mem.get m e.key=some e->Mem.set m e=m
 |[],_,_=>rfl
 |x::r,e,h=>by
  simp[Mem.get]at h;simp[Mem.set];split at h
  .grind
  .rename_i Z;rw[Xq Z,AQ h]
theorem uB:∀{es:List bk}{m m':Mem}{ks:List Nat},k8 m es=true->(∀e∈es,e.key∈ks)->(∀k∈ks,Mem.get m' k=Mem.get m k)->aI m' es=m'
 |[],_,_,_,_,_,_=>rfl
 |e::r,m,m',ks,h,Z,hm=>by
  simp[k8]at h;have I:Mem.get m' e.key=some e:=by
   rw[hm _ (Z e (by simp))];obtain⟨h,_⟩:=h;cases M:Mem.get m e.key with
   |none=>rw[M]at h;cases h
   |some x=>
    rw[M]at h;simp[zn,Xl]at h;have J:=(Mem.get_mem M).2;obtain⟨k,v,c⟩:=x;simp only at h J;rw[h.1,Fy h.2,J]
  rw[aI,AQ I];exact uB h.2 (λe he=>Z e (XT _ he)) hm
theorem iA{args:List Operand}{A9:Bool×AV}{out:Out}{es:List bk}{ks:List Nat}(h:bf X A0 S o args A9=some ⟨out,es,ks⟩):∃g AO Aa,A9=(true,.fn g AO)/\er S args=true/\
 cm A0 S.mem (keyOf o) (iZ g) (ed g (bw S args) AO) (X.fp (iZ g)).oR=some ⟨out,Aa,ks⟩/\(∀e∈es,e.key∈ks)/\∀m',(∀k∈ks,Mem.get m' k=Mem.get S.mem k)->aI m' Aa=aI m' es:=by
 unfold bf at h;split at h
 .rename_i g AO;split at h
  .rename_i AA;generalize (X.fp (iZ g)).oR.contains 2000=b at h;cases A7:cm A0 S.mem (keyOf o) (iZ g) (ed g (bw S args) AO) (X.fp (iZ g)).oR with
   |none=>rw[A7]at h;cases b<;>cases h
   |some res=>
    obtain⟨Bs,Aa,Bt⟩:=res;have Z:=B0 A7;rw[A7]at h;cases b with
    |false=>cases h;grind
    |true=>
     simp[qq]at h;cases A6:k8 S.mem Aa with
     |false=>rw[A6]at h;cases h;grind
     |true=>rw[A6]at h;cases h;exact⟨g,AO,Aa,rfl,AA,A7,by simp,λm' hm=>uB A6 Z hm⟩
  grind
 grind
theorem HF(A5:fb X A0){A9:Operand}{args:Array Operand}{Ab:Array TypeId}(W:o.op=.call {callee:=.value A9,args,argTypes:=Ab})(A1:S.gl=X.gl)(H:∀t,o.dst=some t->t<S.n)
 (h:sB S o.dst (bf X A0 S o args.toList (S.ag A9))=some (e,A)):CC X.P S o e A:=by
 cases Ac:bf X A0 S o args.toList (S.ag A9)with
 |none=>rw[Ac]at h;cases h
 |some res=>
  rw[Ac]at h;obtain⟨out,es,ks⟩:=res;obtain⟨g,AO,Aa,B3,AA,Ap,_,Ad⟩:=iA Ac;have Ad:=Ad S.mem (λ_ _=>rfl);cases out with
  |ret x=>
   obtain⟨rfl,rfl⟩:=h;refine⟨hH ..,gI ..,.inl rfl,λφ G a w E next R A4 _=>?_⟩;refine oz A5 W B3 rfl AA Ap A1 E (λAn J φ' w' v AC AJ AK=>?_) (λt An J=>by cases J);cases J;rw[Ad]at AC AJ AK;exact A4 rfl φ' _ w' (AC.put o.dst H true x v (λ_=>AK)) (by rw[cH];grind)
  |panic t x=>
   obtain⟨rfl,rfl⟩:=h;refine⟨rfl,rfl,.inr ⟨t,x,rfl⟩,λφ G a w E next R _ AZ=>?_⟩;refine oz A5 W B3 rfl AA Ap A1 E (λAn J=>by cases J) (λBU An J φ' w' v AC AJ AK=>?_);grind
theorem Fz{x:Operand}(W:o.op=.panic x)(h:uY S (S.ag x)=some (e,A)):CC X.P S o e A:=by
 cases J:S.ag x with
 |mk g y=>
  rw[J]at h;unfold uY at h;split at h
  .rename_i t d heq;cases heq;obtain⟨rfl,rfl⟩:=h;refine⟨rfl,rfl,.inr ⟨t,d,rfl⟩,λφ G a w E next R _ AZ=>?_⟩;have AK:=E.ag x (by rw[J]);rw[J]at AK;generalize BV:a.eval x=u at AK;cases AK with
   |dF _ _ v H=>
    have B8:(execOp a.eval o).run X.P w=.halt (.panic (.iface t v)) w:=by
     simp[execOp,W,BV,Instr.panic]
    unfold Oper.wp;rw[B8];exact AZ t d rfl φ a w v E (az.refl ..) H
  grind
theorem sK(A5:fb X A0)(A1:S.gl=X.gl)(H:∀t,o.dst=some t->t<S.n)(h:dO X A0 S o (bu X.P S o)=some (e,A)):CC X.P S o e A:=by
 generalize A6:bu X.P S o=r at h;cases r with
 |val c x=>
  simp only[dO]at h;split at h
  .rename_i AA;cases h;exact tP A6 AA H
  grind
 |bl c x Ah=>
  simp only[dO]at h;split at h
  .rename_i AA;cases h;exact CD A6 AA H
  grind
 |no=>
  simp[dO,mc]at h;split at h
  .rename_i A9 args Ab W;exact HF A5 W A1 H h
  .rename_i x W;exact Fz W h
  grind
def sL(P:Program)(all:List Oper)(S:St)(o:Oper)(e:XE)(A:St):Prop:=
 A.n=S.n/\A.gl=S.gl/\(e=.normal\/∃t x,e=.panic t x)/\∀φ G a w,Rel φ G S a w->∀(next:Act->World->Prop)(R:Exit->Act->World->Prop),
  (e=.normal->∀φ' A3 w',Rel φ' G A A3 w'->az φ S.mem w φ' A.mem w'->next A3 w')->
  (∀t x,e=.panic t x->∀φ' A3 w' v,Rel φ' G A A3 w'->az φ S.mem w φ' A.mem w'->aq w' (Fo G φ' A.mem) x v->R (.panic [{v:=.iface t v,recovered:=false}]) A3 w')->
  if Region.wanted o (yielded all.toArray a.tmps)then o.wp P a w next R else next (a.put o.dst undef) w
theorem tR{all:List Oper}(h:CC X.P S o e A)(hw:∀φ G a w,Rel φ G S a w->Region.wanted o (yielded all.toArray a.tmps)=true):sL X.P all S o e A:=by
 obtain⟨I,O,AH,AN⟩:=h;refine⟨I,O,AH,λφ G a w E next R A4 AZ=>?_⟩;grind
theorem sM{φ:aQ}{w:World}{F:Nat->Prop}{x:AV}(J:x=.aA\/x=.bc []):ai φ w F x undef:=by
 rcases J with rfl|rfl
 .exact .aA _
 .exact .bc [] #[] rfl (λi c v h=>by grind)
theorem wD{all:List Oper}{j:Nat}{φ G a w}(h:Rel φ G S a w)(M:ke all S j=some (true,.bc [])):yielded all.toArray a.tmps j=none:=by
 unfold ke at M;split at M
 .rename_i o W;split at M
  .rename_i t AL;have I:=h.env t _ M;unfold yielded;simp[W,AL];rw[XG]at I;cases A2:a.tmps[t]? with
   |none=>rfl
   |some v=>
    rw[A2]at I;cases I;rfl
  grind
 grind
theorem AR{all:List Oper}{gb:Bool}{x:AV}(J:gb=true->x=.aA\/x=.bc [])(H:∀t,o.dst=some t->t<S.n)(hw:∀φ G a w,Rel φ G S a w->Region.wanted o (yielded all.toArray a.tmps)=false):sL X.P all S o .normal (S.put o.dst gb x):=by
 refine⟨hH ..,gI ..,.inl rfl,λφ G a w E next R A4 _=>?_⟩;rw[Xq (by grind)];exact A4 rfl φ _ w (E.put o.dst H gb x undef (λM=>sM (J M))) (by rw[cH];exact az.refl ..)
theorem yw{all:List Oper}{j:Nat}{AG t:Bool}(M:o.guard=some (j,AG))(A8:ke all S j=some (true,.d (.bool t))){φ G a w}(E:Rel φ G S a w):Region.wanted o (yielded all.toArray a.tmps)=(t == AG):=by
 have B4:=E8 E A8;simp[Region.wanted];grind
theorem u9(S:St)(d b):(S.cz d b).n=S.n:=hH ..
theorem tS(S:St)(d b):(S.cz d b).gl=S.gl:=gI ..
theorem wE(S:St)(d b):(S.cz d b).mem=S.mem:=cH ..
theorem Je{all:List Oper}{S:St}{j:Nat}{t b:Bool}(A8:ke all S j=some (true,.d (.bool t)))(AT:t=b)(u:Nat):Env.lk (S.cz (gA all j) b).env u=Env.lk S.env u:=by
 unfold ke at A8;unfold St.cz gA;split at A8
 .rename_i BW AM;split at A8
  .rename_i d H;simp[AM,H,St.put,Env.lk];grind
  grind
 grind
theorem LL{all:List Oper}{S:St}{j:Nat}{t b:Bool}(A8:ke all S j=some (true,.d (.bool t)))(AT:t=b){φ G a w}(E:Rel φ G S a w):Rel φ G (S.cz (gA all j) b) a w:=
 Rel.eqv E ⟨(u9 ..).symm,(tS ..).symm,(wE ..).symm,λu=>(Je A8 AT u).symm⟩
theorem nR{all:List Oper}(A5:fb X A0)(A1:S.gl=X.gl)(H:∀t,o.dst=some t->t<S.n){md:Bool}(h:iS X A0 md all S o=some (e,A)):sL X.P all S o e A:=by
 unfold iS at h;split at h
 .rename_i M;exact tR (sK A5 A1 H h) (λ_ _ _ _ _=>by simp[Region.wanted,M])
 .rename_i j AG M;split at h
  .rename_i t A8;replace A8:=AD A8;have hw:∀φ G a w,Rel φ G S a w->Region.wanted o (yielded all.toArray a.tmps)=(t == AG):=λφ G a w E=>yw M A8 E;have other:∀{r:bp},bu X.P S o=r->(if (t == AG)=true then dO X A0 S o r else some (.normal,S.put o.dst true .aA))=some (e,A)->sL X.P all S o e A:=by
    intro r A6 h;split at h
    .exact tR (sK A5 A1 H (by grind)) (λφ G a w E=>by grind)
    .cases h;exact AR (λ_=>.inl rfl) H (λφ G a w E=>by grind)
   cases md with
   |true=>
    simp only at h;have BH:∀b,t=b->∀φ G a w,Rel φ G S a w->Rel φ G (S.cz (gA all j) b) a w:=λb AT φ G a w E=>LL A8 AT E;split at h
    .have Ao:t=AG:=by grind
     have:=sK (S:=S.cz (gA all j) AG) A5 (by rw[tS];grind) (λt AL=>by rw[u9];grind) h;obtain⟨I,O,AH,AN⟩:=this;refine tR ⟨by rw[I,u9],by rw[O,tS],AH,λφ G a w E next R A4 AZ=>?_⟩ (λφ G a w E=>by grind);have BX:=AN φ G a w (BH AG Ao φ G a w E) next R
     rw[wE]at BX;grind
    .have Ao:t=!AG:=by cases t<;>cases AG<;>simp_all
     cases h;refine⟨by rw[hH,u9],by rw[gI,tS],.inl rfl,λφ G a w E next R A4 _=>?_⟩;rw[Xq (by grind)];exact A4 rfl φ _ w ((BH _ Ao φ G a w E).put o.dst (λt AL=>by rw[u9];grind) true (.bc []) undef (λ_=>sM (.inr rfl))) (by rw[cH,wE];exact az.refl ..)
   |false=>
   simp only at h;unfold jS at h;split at h
   .rename_i c x A6;split at h
    .rename_i A7;cases h;cases AT:(t == AG)
     .exact AR (by simp) H (λφ G a w E=>by grind)
     .exact tR (tP A6 (A7 AT) H) (λφ G a w E=>by grind)
    grind
   grind
  .rename_i A8;replace A8:=yt A8;cases h;exact AR (λ_=>.inr rfl) H (λφ G a w E=>by
    simp only[Region.wanted,M,wD E A8];grind)
  grind
theorem dD{r:Option (XE×St)}{k:St->Option (XE×St)}{y:XE×St}(h:andThen r k=some y):(∃S1,r=some (.normal,S1)/\k S1=some y)\/(r=some y/\y.1≠.normal):=by
 unfold andThen at h;grind
theorem az.post{n:Nat}{φ φ':aQ}{G:Fr}{m:Mem}{w w':World}{e:XE}{A:St}{A3:Act}(A4:A.n=n)(E:Rel φ' G A A3 w')(Z:az φ m w φ' A.mem w')(he:e=.normal):iY n φ G m w (Is e A) .normal A3 w':=
 ⟨φ',A,A4,⟨he.symm,rfl⟩,E,Z⟩
theorem sN{md:Bool}{all:List Oper}(A5:fb X A0):∀(ops:List Oper)(S:St)(e:XE)(A:St),ee X A0 md all ops S=some (e,A)->S.gl=X.gl->fC S.n ops=true->
 A.n=S.n/\A.gl=S.gl/\∀φ G a w,Rel φ G S a w->∀Q:Exit->Act->World->Prop,(∀e' A3 w',iY S.n φ G S.mem w (Is e A) e' A3 w'->Q e' A3 w')->wpList X.P all.toArray Q ops a w
 |[],S,e,A,h,A1,H=>by
  obtain⟨rfl,rfl⟩:=h;exact⟨rfl,rfl,λφ G a w E Q Au=>Au _ _ _ (az.post rfl E (az.refl ..) rfl)⟩
 |o::rest,S,e,A,h,A1,H=>by
  simp only[fC,YL,Xl]at H;obtain⟨B9,H⟩:=H;have A_:∀t,o.dst=some t->t<S.n:=λt AL=>by grind
  rcases dD h with ⟨S1,I,O⟩|⟨I,O⟩
  .obtain⟨Aq,B5,_,BA⟩:=nR A5 A1 A_ I;obtain⟨BY,BZ,B_⟩:=sN A5 rest S1 e A O (B5.trans A1) (by rw[Aq];exact H);refine⟨BY.trans Aq,BZ.trans B5,λφ G a w E Q Au=>?_⟩;have:=BA φ G a w E (wpList X.P all.toArray Q rest) Q
    (λ_ φ' A3 w' AC AJ=>B_ φ' G A3 w' AC Q (λe' a2 Ba AZ=>Au e' a2 Ba (by rw[<-Aq];exact AZ.weaken AJ))) (λt x he=>by cases he)
   unfold wpList;grind
  .obtain⟨Aq,B5,Bu,BA⟩:=nR A5 A1 A_ I;refine⟨Aq,B5,λφ G a w E Q Au=>?_⟩;have:=BA φ G a w E (wpList X.P all.toArray Q rest) Q
    (λhe=>absurd he O) (λt x he φ' A3 w' v AC AJ AK=>Au _ _ _ ⟨φ',A,t,x,v,rfl,AK,Aq,⟨he.symm,rfl⟩,AC,AJ⟩)
   unfold wpList;grind
theorem mf{all:List Oper}{ks:List Nat}{A S:St}(h:fT all o ks A S){x:Operand}(J:x∈o.op.operands.toList):A.ag x=S.ag x:=by
 cases x with
 |tmp t=>
  simp[St.ag];rw[h.env t (by simp[looks];grind)]
 |global g=>simp[St.ag,h.gl]
 |_=>rfl
theorem yx{all:List Oper}{ks:List Nat}{A S:St}(h:fT all o ks A S){j AG}(M:o.guard=some (j,AG)):Am.ke all A j=Am.ke all S j:=by
 unfold Am.ke;split
 .rename_i BW AM;split
  .rename_i t AL;exact h.env t (by simp[looks,I4];grind)
  .rfl
 .rfl
theorem oB{A S:St}:∀{l:List Operand},(∀x∈l,A.ag x=S.ag x)->er A l=er S l
 |[],_=>rfl
 |x::r,h=>by simp[er,h x (by simp),oB (l:=r) (λy B4=>h y (XT _ B4))]
theorem oZ{A S:St}:∀{l:List Operand},(∀x∈l,A.ag x=S.ag x)->bw A l=bw S l
 |[],_=>rfl
 |x::r,h=>by simp[bw,h x (by simp),oZ (l:=r) (λy B4=>h y (XT _ B4))]
theorem AS{A S:St}(h:∀x∈o.op.operands.toList,A.ag x=S.ag x):dj A o=dj S o:=by
 unfold dj;split
 .rfl
 .exact oB h
theorem yy{all:List Oper}{c:Bool}{x:AV}{gb:Bool}(H:∀t,o.dst=some t->t<S.n)(A6:bu X.P S o=.val c x)(AA:(dj S o&&c)=true)
 (hw:∀A,fT all o (eH S o) A S->∀φ G a w,Rel φ G A a w->Region.wanted o (yielded all.toArray a.tmps)=true):fU X.P all S o ⟨eH S o,[],gb,x⟩:=by
 intro A V φ G a w E next R A4
 rw[Xz (hw A V φ G a w E)];have J:∀x∈o.op.operands.toList,A.ag x=S.ag x:=λx J=>mf V J;have Av:bu X.P A o=.val c x:=by rw[yn J V.mem];exact A6
 obtain⟨_,_,_,AN⟩:=tP (gb:=gb) Av (by rw[AS J];grind) (λt AL=>by rw[V.n];grind);exact AN φ G a w E next R (λ_ φ' A3 w' AC AJ=>A4 φ' A3 w' AC AJ) (λt x he=>by cases he)
theorem FA{all:List Oper}{c:Bool}{x:AV}{Ah:bk}(H:∀t,o.dst=some t->t<S.n)(A6:bu X.P S o=.bl c x Ah)(AA:(dj S o&&c)=true)
 (hw:∀A,fT all o (eH S o) A S->∀φ G a w,Rel φ G A a w->Region.wanted o (yielded all.toArray a.tmps)=true):fU X.P all S o ⟨eH S o,[Ah],true,x⟩:=by
 intro A V φ G a w E next R A4
 rw[Xz (hw A V φ G a w E)];have J:∀x∈o.op.operands.toList,A.ag x=S.ag x:=λx J=>mf V J;have Av:bu X.P A o=.bl c x Ah:=by rw[yn J V.mem];exact A6
 obtain⟨_,_,_,AN⟩:=CD Av (by rw[AS J];grind) (λt AL=>by rw[V.n];grind);exact AN φ G a w E next R (λ_ φ' A3 w' AC AJ=>A4 φ' A3 w' AC AJ) (λt x he=>by cases he)
theorem mN{all:List Oper}{ks:List Nat}{gb:Bool}{x:AV}(H:∀t,o.dst=some t->t<S.n)(J:gb=true->x=.aA\/x=.bc [])
 (hw:∀A,fT all o ks A S->∀φ G a w,Rel φ G A a w->Region.wanted o (yielded all.toArray a.tmps)=false):fU X.P all S o ⟨ks,[],gb,x⟩:=by
 intro A V φ G a w E next R A4
 rw[Xq (by grind)];exact A4 φ _ w (E.put o.dst (λt AL=>by rw[V.n];grind) gb x undef (λM=>sM (J M))) (by simp[aB.app,cH];exact az.refl ..)
theorem DL{all:List Oper}(A5:fb X A0)(A1:S.gl=X.gl)(H:∀t,o.dst=some t->t<S.n){A9:Operand}{args:Array Operand}{Ab:Array TypeId}(W:o.op=.call {callee:=.value A9,args,argTypes:=Ab})
 {x:AV} {es:List bk} {ks:List Nat} (h:bf X A0 S o args.toList (S.ag A9)=some ⟨.ret x,es,ks⟩)
 (hw:∀A,fT all o ks A S->∀φ G a w,Rel φ G A a w->Region.wanted o (yielded all.toArray a.tmps)=true):fU X.P all S o ⟨ks,es,true,x⟩:=by
 intro A V φ G a w E next R A4
 rw[Xz (hw A V φ G a w E)];have J:∀x∈o.op.operands.toList,A.ag x=S.ag x:=λx J=>mf V J;have Aw:∀x∈args.toList,A.ag x=S.ag x:=λx Bb=>J x (by simp[Op.operands,Call.operands];grind);obtain⟨g,AO,Aa,B3,AA,Ap,_,Ad⟩:=iA h;have Ad:=Ad A.mem (λk Z=>V.mem k Z);have BB:A.ag A9=(true,.fn g AO):=by rw[J A9 (by simp[W,Op.operands,Call.operands])];grind
 have BC:cm A0 A.mem (keyOf o) (iZ g) (ed g (bw A args.toList) AO) (X.fp (iZ g)).oR=some ⟨.ret x,Aa,ks⟩:=by
  rw[oZ Aw];exact wC V.keys Ap (λk Z=>V.mem k Z)
 refine oz A5 W BB rfl (by rw[oB Aw];grind) BC (V.gl.trans A1) E (λAn B6 φ' w' v AC AJ AK=>?_) (λt An B6=>by grind);cases B6;rw[Ad]at AC AJ AK;exact A4 φ' _ w' (AC.put o.dst (λt AL=>by rw[V.n];grind) true x v (λ_=>AK)) (by simp[aB.app,cH];grind)
theorem AU{all:List Oper}{S1:St}{p:aB}(A5:fb X A0)(A1:S.gl=X.gl)(H:∀t,o.dst=some t->t<S.n){r:bp}(A6:bu X.P S o=r)(h:cI X A0 S o r=some (S1,p))
 (hw:∀(ks:List Nat) A,fT all o ks A S->∀φ G a w,Rel φ G A a w->Region.wanted o (yielded all.toArray a.tmps)=true):S1=p.app o S/\(∀e∈p.es,e.key∈p.ks)/\fU X.P all S o p:=by
 cases r with
 |val c x=>
  simp only[cI]at h;split at h
  .rename_i AA;cases h;exact⟨rfl,by simp,yy H A6 AA (hw _)⟩
  grind
 |bl c x Ah=>
  simp only[cI]at h;split at h
  .cases h;exact⟨rfl,by grind,FA H A6 (by grind) (hw _)⟩
  grind
 |no=>
  simp[cI,jz]at h;split at h
  .rename_i A9 args Ab W;cases Ac:bf X A0 S o args.toList (S.ag A9)with
   |none=>rw[Ac]at h;cases h
   |some res=>
    rw[Ac]at h;obtain⟨out,es,ks⟩:=res;cases out with
    |panic=>cases h
    |ret x=>
     cases h;refine⟨rfl,?_,DL A5 A1 H W Ac (hw _)⟩;obtain⟨_,_,_,_,_,_,Z,_⟩:=iA Ac;exact Z
  grind
theorem dB.refl(S:St):dB S S:=⟨rfl,rfl,rfl,λ_=>rfl⟩
theorem dB.symm{S A:St}(h:dB S A):dB A S:=⟨h.n.symm,h.gl.symm,h.mem.symm,λt=>(h.env t).symm⟩
theorem dB.trans{S A B2:St}(h:dB S A)(k:dB A B2):dB S B2:=⟨h.n.trans k.n,h.gl.trans k.gl,h.mem.trans k.mem,λt=>(h.env t).trans (k.env t)⟩
theorem dB.app{S A:St}(h:dB S A)(p:aB)(o:Oper):dB (p.app o S) (p.app o A):=
 ⟨by rw[ou,ou,h.n],by rw[lZ,lZ,h.gl],by simp[aB.app,cH,h.mem],λt=>by rw[nH,nH,h.env]⟩
theorem fT.eqv{all:List Oper}{ks:List Nat}{A S S0:St}(h:fT all o ks A S)(he:dB S S0):fT all o ks A S0:=
 ⟨h.n.trans he.n,h.gl.trans he.gl,by rw[h.keys,he.mem],λt AL=>(h.env t AL).trans (he.env t),λk Z=>by rw[h.mem k Z,he.mem]⟩
theorem fU.eqv{P:Program}{all:List Oper}{S S0:St}{p:aB}(h:fU P all S o p)(he:dB S S0):fU P all S0 o p:=λA V=>h A (V.eqv he.symm)
theorem mM.eqv{P:Program}{Ai:Mem->Prop}{all:List Oper}{S S0:St}{p:aB}(h:mM P Ai all S o p)(he:dB S S0):mM P Ai all S0 o p:=λA V=>h A (V.eqv he.symm)
theorem vd{P:Program}{Ai:Mem->Prop}{all ops:List Oper}{S S1:St}{ps:List aB}(h:Cert P Ai all ops S ps S1):∀{S0:St},dB S S0->∃AI,Cert P Ai all ops S0 ps AI/\dB S1 AI:=by
 induction h with
 |nil S=>exact λhe=>⟨_,.nil _,he⟩
 |cons o rest S p ps S1 Z Ar h E ih=>
  intro S0 he;obtain⟨AI,O,AH⟩:=ih (he.app p o);exact⟨AI,.cons o rest S0 p ps AI Z Ar (h.eqv he) O,AH⟩
theorem FC{all:List Oper}{S:St}{j:Nat}{t b:Bool}(A8:ke all S j=some (true,.d (.bool t)))(AT:t=b):dB (S.cz (gA all j) b) S:=
 ⟨u9 ..,tS ..,wE ..,λu=>Je A8 AT u⟩
theorem sO{md:Bool}{all:List Oper}{S1:St}{p:aB}(A5:fb X A0)(A1:S.gl=X.gl)(H:∀t,o.dst=some t->t<S.n)(h:cu X A0 md all S o=some (S1,p)):dB S1 (p.app o S)/\(∀e∈p.es,e.key∈p.ks)/\fU X.P all S o p:=by
 have yes:∀{r:bp},bu X.P S o=r->cI X A0 S o r=some (S1,p)->(∀(ks:List Nat) A,fT all o ks A S->∀φ G a w,Rel φ G A a w->Region.wanted o (yielded all.toArray a.tmps)=true)->dB S1 (p.app o S)/\(∀e∈p.es,e.key∈p.ks)/\fU X.P all S o p:=by
  intro r A6 h hw;obtain⟨I,O,AH⟩:=AU A5 A1 H A6 h hw;exact⟨by rw[I];exact dB.refl _,O,AH⟩
 unfold cu at h;split at h
 .rename_i M;exact yes rfl h (λ_ _ _ _ _ _ _ _=>by simp[Region.wanted,M])
 .rename_i j AG M;split at h
  .rename_i t A8;replace A8:=AD A8;have hw:∀(ks:List Nat) A,fT all o ks A S->∀φ G a w,Rel φ G A a w->Region.wanted o (yielded all.toArray a.tmps)=(t == AG):=
    λks A V φ G a w E=>yw M (by rw[yx V M];grind) E
   have other:∀{r:bp},bu X.P S o=r->(if (t == AG)=true then cI X A0 S o r else some (S.put o.dst true .aA,⟨[],[],true,.aA⟩))=some (S1,p)->dB S1 (p.app o S)/\(∀e∈p.es,e.key∈p.ks)/\fU X.P all S o p:=by
    intro r A6 h;split at h
    .grind
    .cases h;exact⟨dB.refl _,by simp,mN H (λ_=>.inl rfl) (λA V φ G a w E=>by grind)⟩
   cases md with
   |true=>
    simp only at h;split at h
    .rename_i AT;have Ao:t=AG:=by grind
     have he:=FC A8 Ao;obtain⟨I,O,AH⟩:=AU (S:=S.cz (gA all j) AG) A5 (by rw[tS];grind) (λt AL=>by rw[u9];grind) rfl h
      (λks A V φ G a w E=>by rw[hw ks A (V.eqv he) φ G a w E];exact AT)
     exact⟨by rw[I];exact he.app p o,O,AH.eqv he⟩
    .have Ao:t=!AG:=by cases t<;>cases AG<;>simp_all
     cases h;have he:=FC A8 Ao;exact⟨he.app ⟨[],[],true,.bc []⟩ o,by simp,mN H (λ_=>.inr rfl) (λA V φ G a w E=>by grind)⟩
   |false=>
   simp only at h;unfold me at h;split at h
   .rename_i c x A6;split at h
    .rename_i A7;cases h;refine⟨dB.refl _,by simp,?_⟩;cases AT:(t == AG)
     .exact mN H (by simp) (λA V φ G a w E=>by grind)
     .exact yy H A6 (A7 AT) (λA V φ G a w E=>by grind)
    grind
   grind
  .rename_i A8;replace A8:=yt A8;cases h;exact⟨dB.refl _,by simp,mN H (λ_=>.inr rfl) (λA V φ G a w E=>by
    have:=wD E (by rw[yx V M];grind);simp[Region.wanted];grind)⟩
  grind
inductive fI(T:Nat->St->Oper->aB->Prop):Nat->List Oper->St->List aB->Prop
 |nil (i S):fI T i [] S []
 |cons (i o rest S p ps) (h:T i S o p) (E:fI T (i+1) rest (p.app o S) ps):fI T i (o::rest) S (p::ps)
theorem fI.eqv{T:Nat->St->Oper->aB->Prop}(Ax:∀i S S0 o p,dB S S0->T i S o p->T i S0 o p){i:Nat}{ops:List Oper}{S:St}{ps:List aB}(h:fI T i ops S ps):∀{S0:St},dB S S0->fI T i ops S0 ps:=by
 induction h with
 |nil i S=>exact λ_=>.nil _ _
 |cons i o rest S p ps h E ih=>exact λhe=>.cons _ _ _ _ _ _ (Ax _ _ _ _ _ he h) (ih (he.app p o))
theorem fI.mono{T BI:Nat->St->Oper->aB->Prop}{i:Nat}{ops:List Oper}{S:St}{ps:List aB}(h:fI T i ops S ps):(∀k S o p,i<=k->T k S o p->BI k S o p)->fI BI i ops S ps:=by
 induction h with
 |nil i S=>exact λ_=>.nil _ _
 |cons i o rest S p ps h E ih=>exact λZ=>.cons _ _ _ _ _ _ (Z _ _ _ _ (Ds _) h) (ih λk S o p hi=>Z k S o p (by omega))
theorem fI.len{T:Nat->St->Oper->aB->Prop}{i:Nat}{ops:List Oper}{S:St}{ps:List aB}(h:fI T i ops S ps):ps.length=ops.length:=by
 induction h with
 |nil i S=>rfl
 |cons i o rest S p ps h E ih=>grind
theorem fI.at{T:Nat->St->Oper->aB->Prop}{all:List Oper}{ps:List aB}{i:Nat}{rest:List Oper}{S0 S:St}{AX:List aB}(h:fI T i rest S AX):∀(pre:List Oper)(pp:List aB),pre.length=i->pre.length=pp.length->all=pre++rest->ps=pp++AX->au all ps S0 (List.range pre.length)=S->
 ∀j o p,pre.length<=j->all[j]?=some o->ps[j]?=some p->T j (au all ps S0 (List.range j)) o p:=by
 induction h with
 |nil i S=>
  grind
 |cons i o rest S p AX Ax E ih=>
  intro pre pp hi Ae V Bv Bc j BJ Bd AM Be Bf;have As:all[pre.length]?=some o:=by grind
  have BK:ps[pre.length]?=some p:=by simp_all
  rcases Nat.eq_or_lt_of_le AM with rfl|AM
  .grind
  .exact ih (pre++[o]) (pp++[p]) (by simp[hi]) (by simp[Ae]) (by grind) (by grind) (by
    rw[Xx,X0,List.range_succ,mo,Bc];simp[au,As,BK]) j BJ Bd (by grind) Be Bf
theorem tH.eqv{P:Program}{all:List Oper}{S S0:St}{p:aB}{t:TypeId}{x:D}(h:tH P all S o p t x)(he:dB S S0):tH P all S0 o p t x:=λA V=>h A (V.eqv he.symm)
def TT(P:Program)(all:List Oper)(j:Nat)(Aj:List Nat)(t:TypeId)(x:D)(N:Nat)(S1:St)(i:Nat)(S:St)(o:Oper)(p:aB):Prop:=
 (∀e∈p.es,e.key∈p.ks)/\(i≠j->(i<j\/Aj.contains i=true)->fU P all S o p)/\(i=j->tH P all S o p t x/\S1.n=S.n/\S1.gl=S.gl/\S1.mem=fH N (aI S.mem p.es))
theorem TT.eqv{P:Program}{all:List Oper}{j:Nat}{Aj:List Nat}{t:TypeId}{x:D}{N:Nat}{S1:St}(i:Nat)(S S0:St)(o:Oper)(p:aB)(he:dB S S0)(h:TT P all j Aj t x N S1 i S o p):TT P all j Aj t x N S1 i S0 o p:=
 ⟨h.1,λa b=>(h.2.1 a b).eqv he,λa=>⟨(h.2.2 a).1.eqv he,(h.2.2 a).2.1.trans he.n,(h.2.2 a).2.2.1.trans he.gl,by rw[<-he.mem];exact (h.2.2 a).2.2.2⟩⟩
theorem LM{X:Ctx}:fb X (λ_ _ _=>none):=λg args cs out l h=>by cases h
theorem sP{md:Bool}{all:List Oper}{Aj:List Nat}:∀(ops:List Oper)(i:Nat)(S:St)(A' AX:List aB),mq X md all Aj i ops S A'=some AX->S.gl=X.gl->fC S.n ops=true->
 ∃ps,AX=A'.reverse++ps/\fI (λi S o p=>(∀e∈p.es,e.key∈p.ks)/\(Aj.contains i=true->fU X.P all S o p)) i ops S ps
 |[],i,S,A',AX,h,A1,H=>by
  simp[mq]at h;exact⟨[],by simp[h],.nil _ _⟩
 |o::rest,i,S,A',AX,h,A1,H=>by
  simp only[fC,YL,Xl]at H;obtain⟨B9,H⟩:=H;have A_:∀t,o.dst=some t->t<S.n:=λt AL=>by grind
  simp only[mq]at h;cases AM:Aj.contains i with
  |true=>
   rw[AM]at h;cases M:cu X (λ_ _ _=>none) md all S o with
   |none=>grind
   |some q=>
    obtain⟨AI,p⟩:=q;rw[M]at h;obtain⟨heq,At,Af⟩:=sO LM A1 A_ M;obtain⟨ps,I,O⟩:=sP rest (i+1) AI (p::A') AX h (by rw[heq.gl,lZ];grind) (by rw[heq.n,ou];exact H);exact⟨p::ps,by grind,.cons _ _ _ _ _ _ ⟨At,λ_=>Af⟩ (O.eqv (λ_ _ _ _ _ he h=>⟨h.1,λa=>(h.2 a).eqv he⟩) heq)⟩
  |false=>
   rw[AM]at h;obtain⟨ps,I,O⟩:=sP rest (i+1) (S.put o.dst false .aA) _ AX h (by rw[gI];grind) (by rw[hH];exact H);exact⟨⟨[],[],false,.aA⟩::ps,by grind,.cons _ _ _ _ _ _ ⟨by simp,λhh=>by grind⟩ O⟩
theorem yz{q:AE}(h:gm X A0 S o=some q):o.guard=none/\bu X.P S o=.no/\∃A9 args Ab,o.op=.call {callee:=.value A9,args,argTypes:=Ab}/\bf X A0 S o args.toList (S.ag A9)=some ⟨.panic q.t q.x,q.es,q.ks⟩/\q.S={S with mem:=aI S.mem q.es}:=by
 unfold gm at h;split at h
 .unfold uZ at h;split at h
  .unfold AF at h;split at h
   .unfold oT at h;grind
   grind
  grind
 grind
theorem AW{args:List Operand}{A9:Bool×AV}{out:Out}{es:List bk}{ks:List Nat}(Ac:bf X A0 S o args A9=some ⟨out,es,ks⟩):∀e∈es,e.key∈ks:=by
 obtain⟨_,_,_,_,_,_,Z,_⟩:=iA Ac;exact Z
theorem DM{all:List Oper}(A5:fb X A0)(A1:S.gl=X.gl){A9:Operand}{args:Array Operand}{Ab:Array TypeId}(M:o.guard=none)(W:o.op=.call {callee:=.value A9,args,argTypes:=Ab})
 {t:TypeId} {x:D} {es:List bk} {ks:List Nat} (h:bf X A0 S o args.toList (S.ag A9)=some ⟨.panic t x,es,ks⟩):tH X.P all S o ⟨ks,es,true,.aA⟩ t x:=by
 intro A V φ G a w E next R A4
 rw[Xz (by simp[Region.wanted,M])];have J:∀x∈o.op.operands.toList,A.ag x=S.ag x:=λx J=>mf V J;have Aw:∀x∈args.toList,A.ag x=S.ag x:=λx Bb=>J x (by simp[Op.operands,Call.operands];grind);obtain⟨g,AO,Aa,B3,AA,Ap,_,Ad⟩:=iA h;have Ad:=Ad A.mem (λk Z=>V.mem k Z);have BB:A.ag A9=(true,.fn g AO):=by rw[J A9 (by simp[W,Op.operands,Call.operands])];grind
 have BC:cm A0 A.mem (keyOf o) (iZ g) (ed g (bw A args.toList) AO) (X.fp (iZ g)).oR=some ⟨.panic t x,Aa,ks⟩:=by
  rw[oZ Aw];exact wC V.keys Ap (λk Z=>V.mem k Z)
 refine oz A5 W BB rfl (by rw[oB Aw];grind) BC (V.gl.trans A1) E (λAn B6=>by grind) (λBU An B6 φ' w' v AC AJ AK=>?_);grind
theorem uD{md:Bool}{AB:Nat×List (List Nat)}{all:List Oper}(A5:fb X A0):∀(ops:List Oper)(S:St)(A':List aB)(e:XE)(S1:St),dP X A0 md AB all ops S A'=some (e,S1)->S.gl=X.gl->fC S.n ops=true->
 (e=.normal/\∃ps AI,Cert X.P (λ_=>True) all ops S ps AI/\dB S1 AI/\jH AB.2 (A'.reverse++ps)=true)\/
 (∃t x j ps,e=.panic t x/\A'.length<=j/\j<A'.length+ops.length/\fI (TT X.P all j (AB.2.getD j []) t x (AB.1+cX (A'.reverse++ps)+1) S1) A'.length ops S ps/\jH AB.2 (A'.reverse++ps)=true/\su (A'.reverse++ps) (AB.2.getD j [])=true/\S1.env=[])
 |[],S,A',e,S1,h,A1,H=>by
  simp only[dP]at h;split at h
  .cases h;exact .inl ⟨rfl,[],S,.nil S,dB.refl _,by grind⟩
  grind
 |o::rest,S,A',e,S1,h,A1,H=>by
  simp only[fC,YL,Xl]at H;obtain⟨B9,H⟩:=H;have A_:∀t,o.dst=some t->t<S.n:=λt AL=>by grind
  simp[dP]at h;cases AZ:gm X A0 S o with
  |some q=>
   right;rw[AZ]at h;simp only[ja,DI]at h;obtain⟨M,A6,A9,args,Ab,W,A7,BL⟩:=yz AZ;obtain⟨Bw,t,x,es,ks⟩:=q;simp only at A7 BL h;subst BL;cases BD:mq X md all (AB.2.getD A'.length []) (A'.length+1) rest (({S with mem:=aI S.mem es}:St).put o.dst true .aA) (⟨ks,es,true,.aA⟩::A')with
   |none=>rw[BD]at h;cases h
   |some AX=>
    rw[BD]at h;simp only[DH]at h;split at h
    .rename_i B7;simp at B7;obtain⟨rfl,rfl⟩:XE.panic t x=e/\St.kill {S with mem:=aI S.mem es} (AB.1+cX AX+1)=S1:=by grind
     obtain⟨ps,rfl,Bg⟩:=sP rest (A'.length+1) _ _ _ BD (by rw[gI];grind) (by rw[hH];exact H);have As:(⟨ks,es,true,.aA⟩::A':List aB).reverse++ps=A'.reverse++(⟨ks,es,true,.aA⟩::ps):=by simp
     rw[As]at B7⊢;refine⟨t,x,A'.length,⟨ks,es,true,.aA⟩::ps,rfl,Ds _,by simp,.cons _ _ _ _ _ _ ⟨AW A7,λhh=>absurd rfl hh,λ_=>⟨DM A5 A1 M W A7,rfl,rfl,rfl⟩⟩ (Bg.mono λk S o p Z Ax=>?_),B7.1,B7.2,rfl⟩;exact⟨Ax.1,λ_ hh=>Ax.2 (hh.resolve_left (by omega)),λhh=>by omega⟩
    grind
  |none=>
   rw[AZ]at h;simp[ja]at h;cases M:cu X A0 md all S o with
   |none=>rw[M]at h;cases h
   |some q=>
    obtain⟨AI,p⟩:=q;rw[M]at h;obtain⟨heq,At,Af⟩:=sO A5 A1 A_ M;rcases uD A5 rest AI (p::A') e S1 h (by rw[heq.gl,lZ];grind) (by rw[heq.n,ou];exact H)with ⟨he,ps,BE,A7,BF,Ay⟩|⟨t,x,j,ps,he,Bh,Bi,A7,Ay,BM,Bj⟩
    .left;obtain⟨Ak,Az,B'⟩:=vd A7 heq;exact⟨he,p::ps,Ak,.cons o rest S p ps Ak At (λ_ _=>trivial) Af.toI Az,BF.trans B',by grind⟩
    .right;have As:(p::A').reverse++ps=A'.reverse++(p::ps):=by simp
     rw[As]at Ay BM A7;simp at Bh Bi A7;exact⟨t,x,j,p::ps,he,by omega,by grind,.cons _ _ _ _ _ _ ⟨At,λ_ _=>Af,λhh=>by omega⟩ (A7.eqv TT.eqv heq),Ay,BM,Bj⟩
def cellOf:Bool->ay->Nat->Option AV
 |false,.box cs,j=>cs[j]?
 |true,.vv rows (some x),j=>if rows.length=j then some x else none
 |_,_,_=>none
def mv(Y:List Cl)(m:Mem):Prop:=∀q∈Y,∃c,Mem.get m q.k=some ⟨q.k,q.v,c⟩/\cellOf q.vv c q.j=some q.x
theorem DN{c:ay}{j:Nat}{x:AV}(h:cellOf false c j=some x):∃cs,c=.box cs/\cs[j]?=some x:=by
 cases c with
 |box cs=>exact⟨cs,rfl,h⟩
 |dead=>cases h
 |vec _ _=>cases h
 |vv _ _=>cases h
 |buf _ _=>cases h
 |ej _ _=>cases h
theorem FG{c:ay}{j:Nat}{x:AV}(h:cellOf true c j=some x):∃rows,c=.vv rows (some x)/\rows.length=j:=by
 cases c with
 |box cs=>cases h
 |dead=>cases h
 |vec _ _=>cases h
 |buf _ _=>cases h
 |ej _ _=>cases h
 |vv rows y=>
  cases y with
  |none=>cases h
  |some y=>
   simp[cellOf]at h;grind
theorem FH:∀{x y:AV},I8 x y=true->x=y:=by
 intro x y h;unfold I8 at h;grind
theorem qC{m:Mem}:∀{fl:List (Nat×Nat)}{Y:List Cl},de m fl=some Y->mv Y m
 |[],Y,h=>by simp[de]at h;exact λq A2=>by grind
 |(k,j)::r,Y,h=>by
  unfold de at h;split at h
  .rename_i key v cs l M Ae;split at h
   .rename_i x J;cases h;have Z:key=k:=(Mem.get_mem M).2;subst Z;intro q A2;rcases Xm.1 A2 with rfl|A2
    .exact⟨.box cs,M,J⟩
    .exact qC Ae q A2
   grind
  .rename_i key v rows x l M Ae;cases h;have Z:key=k:=(Mem.get_mem M).2;subst Z;intro q A2;rcases Xm.1 A2 with rfl|A2
   .exact⟨.vv rows (some x),M,by simp[cellOf]⟩
   .exact qC Ae q A2
  grind
theorem HH{q:Cl}{v:Nat}{c:ay}(h:LD q v c=true):v=q.v/\cellOf q.vv c q.j=some q.x:=by
 unfold LD at h;split at h
 .simp at h;obtain⟨⟨I,O⟩,AH⟩:=h;refine⟨O,?_⟩;rw[I];simp[cellOf];unfold Py at AH;split at AH
  .rename_i x J;rw[J,FH AH]
  grind
 .simp at h;obtain⟨⟨⟨I,O⟩,AH⟩,AN⟩:=h;refine⟨O,?_⟩;rw[I];simp[cellOf,AH,FH AN]
 grind
theorem AY{e:bk}:∀{Y:List Cl},DJ e Y=true->∀q∈Y,e.key=q.k->∃c,e=⟨q.k,q.v,c⟩/\cellOf q.vv c q.j=some q.x
 |[],_,q,A2,_=>by grind
 |p::r,h,q,A2,Z=>by
  simp[DJ]at h;rcases Xm.1 A2 with rfl|A2
  .have I:=h.1;simp[Z]at I;obtain⟨key,U,cont⟩:=e;obtain⟨rfl,O⟩:=HH I;grind
  .exact AY h.2 q A2 Z
theorem yA{Y:List Cl}:∀{es:List bk},wv Y es=true->∀m,mv Y m->mv Y (aI m es)
 |[],_,m,hm=>hm
 |e::r,h,m,hm=>by
  simp[wv]at h;refine yA h.2 _ (λq A2=>?_);obtain⟨cs,I,O⟩:=hm q A2;by_cases Z:e.key=q.k
  .obtain⟨Bk,he,J⟩:=AY h.1 q A2 Z;refine⟨Bk,?_,J⟩;have Bl:e.key∈m.map (·.key):=by
    obtain⟨AH,AN⟩:=Mem.get_mem I;grind
   rw[<-Z,Mem.get_set_same Bl,he]
  .exact⟨cs,by rw[Mem.j3 Z];exact I,O⟩
theorem sQ{b:Bool}{k v j:Nat}{x:AV}:∀{Y:List Cl},tK b k v j Y=some x->∃q∈Y,q.vv=b/\q.k=k/\q.v=v/\q.j=j/\q.x=x
 |[],h=>by simp[tK]at h
 |q::r,h=>by
  unfold tK at h;split at h
  .grind
  .obtain⟨Bm,I,O⟩:=sQ h;grind
theorem qD{b:Bool}{k v:Nat}:∀{Y:List Cl},u0 b k v Y=true->∃q∈Y,q.vv=b/\q.k=k/\q.v=v
 |[],h=>by simp[u0]at h
 |q::r,h=>by
  unfold u0 at h;split at h
  .grind
  .obtain⟨Bm,I,O⟩:=qD h;grind
theorem xE{Y:List Cl}{m:Mem}(hm:mv Y m){q:Cl}(A2:q∈Y)(AK:q.vv=false):∃cs,Mem.get m q.k=some ⟨q.k,q.v,.box cs⟩/\cs[q.j]?=some q.x:=by
 obtain⟨c,I,O⟩:=hm q A2;rw[AK]at O;obtain⟨cs,rfl,AH⟩:=DN O;grind
theorem FI{Y:List Cl}{m:Mem}(hm:mv Y m){q:Cl}(A2:q∈Y)(AK:q.vv=true):∃rows,Mem.get m q.k=some ⟨q.k,q.v,.vv rows (some q.x)⟩/\rows.length=q.j:=by
 obtain⟨c,I,O⟩:=hm q A2;rw[AK]at O;obtain⟨cs,rfl,AH⟩:=FG O;grind
theorem HI{P:Program}{Y:List Cl}{S:St}{x:AV}(h:tL P Y S o.op=some x)(hm:mv Y S.mem):∃c,bu P S o=.val c x/\(dj S o&&c)=true:=by
 unfold tL at h;split at h
 .rename_i t y W;unfold I9 at h;split at h
  .rename_i k v off heq;split at h
   .obtain⟨q,A2,Ag,rfl,rfl,rfl,rfl⟩:=sQ h;obtain⟨cs,I,O⟩:=xE hm A2 Ag;refine⟨true,?_,by simp[dj,W,er,Op.operands,heq]⟩;unfold bu;simp[gW];grind
   grind
  .rename_i k v i j heq;split at h
   .rename_i Bx By AM;obtain⟨q,A2,Ag,rfl,rfl,rfl,rfl⟩:=sQ h;obtain⟨rows,I,O⟩:=FI hm A2 Ag;refine⟨true,?_,by simp[dj,W,er,Op.operands,heq]⟩;unfold bu;simp[gW];grind
   grind
  grind
 .rename_i s y f W;unfold Ja at h;split at h
  .rename_i n k v off A4 heq;split at h
   .rename_i A7;cases h;obtain⟨q,A2,Ag,rfl,rfl⟩:=qD A7;obtain⟨cs,I,O⟩:=xE hm A2 Ag;refine⟨true,?_,by simp[dj,W,er,Op.operands,heq]⟩;unfold bu;rw[W];simp[heq,jM,A4,I]
   grind
  grind
 .rename_i y W;unfold Jb at h;split at h
  .rename_i k v off heq;split at h
   .rename_i A7;cases h;obtain⟨q,A2,Ag,rfl,rfl⟩:=qD A7;obtain⟨cs,I,O⟩:=xE hm A2 Ag;refine⟨true,?_,by simp[dj,W,er,Op.operands,heq]⟩;unfold bu;rw[W];simp[heq,eN,I]
   grind
  grind
 .rename_i t y z W;unfold Jc at h;split at h
  .rename_i e k v off len Bz n Bn heq BN;split at h
   .rename_i BO A7 BP BQ;cases h;simp at BO BP BQ;obtain⟨q,A2,Ag,rfl,rfl⟩:=qD A7;obtain⟨rows,I,O⟩:=FI hm A2 Ag;refine⟨true,?_,by simp[dj,W,er,Op.operands,heq,BN]⟩;unfold bu;rw[W];simp[heq,BN,iq,Bn,BO,I,BP,BQ]
   grind
  grind
 grind
theorem FJ{P:Program}{Y:List Cl}{A S:St}(h:∀x∈o.op.operands.toList,A.ag x=S.ag x):tL P Y A o.op=tL P Y S o.op:=by
 unfold tL;split
 .rename_i t y W;rw[h y (by simp[W,Op.operands])]
 .rename_i s y f W;rw[h y (by simp[W,Op.operands])]
 .rename_i y W;rw[h y (by simp[W,Op.operands])]
 .rename_i t y z W;rw[h y (by simp[W,Op.operands]),h z (by simp[W,Op.operands])]
 .rfl
theorem DO{all:List Oper}{Y:List Cl}{x:AV}(H:∀t,o.dst=some t->t<S.n)(h:tM X.P Y S o=some x):mM X.P (mv Y) all S o ⟨[],[],true,x⟩:=by
 intro A V Ar φ G a w E next R A4
 unfold tM at h;split at h
 .rename_i M;rw[Xz (by simp[Region.wanted,M])];have J:∀x∈o.op.operands.toList,A.ag x=S.ag x:=λx J=>mf V J;obtain⟨c,Av,AA⟩:=HI (by rw[FJ J];exact h) Ar;obtain⟨_,_,_,AN⟩:=tP (gb:=true) Av AA (λt AL=>by rw[V.n];grind);exact AN φ G a w E next R (λ_ φ' A3 w' AC AJ=>A4 φ' A3 w' AC AJ) (λt x he=>by cases he)
 grind
theorem B1{l:List Nat}{r:List Oper}(h:pG l r=true):l=[]/\r=[]:=by
 cases l<;>cases r<;>simp_all [pG]
theorem HJ{all:List Oper}{AB:List (List Nat)}{ps:List aB}(A6:uW all AB=true)(Ae:ps.length+1=all.length)(A4:AB.getD (all.length-1) []=[])(H:jH AB ps=true):kj all (ps++[yq])=true:=by
 refine XN.2 λj AM=>?_;have I:=XN.1 A6 j AM;have C':j<all.length:=XI.1 AM;unfold ss at I;unfold zm;have Bo:(ps++[yq])[j]?=some ((ps++[yq])[j]'(by grind)):=by grind
 rw[Bo];cases W:all[j]? with
 |none=>grind
 |some o=>
  rw[W]at I;simp at I⊢;refine⟨I.1,λi hi=>?_⟩;by_cases C0:j+1=all.length
  .grind
  .rcases I.2 i hi with O|O
   .grind
   .have BR:j<ps.length:=by omega
    cases Bp:all[i]? with
    |none=>grind
    |some BJ=>
     rw[Bp]at O;simp at O;simp[so];have As:=qj (k5 H i _ (XM (show i<ps.length by omega))) j (by grind) _ (XM BR);have BK:=qj (k5 H j _ (XM BR)) i (by grind) _ (XM (show i<ps.length by omega));have Bq:=O.1;simp[uV]at Bq;grind
def FK(P:Program)(Ai:Mem->Prop)(AB:List (List Nat))(all ops:List Oper)(S:St)(A':List aB)(e:XE)(S1:St):Prop:=
 (e=.normal/\∃ps AI,Cert P Ai all ops S ps AI/\dB S1 AI/\jH AB (A'.reverse++ps)=true)\/
  (∃init ol ps AI,ops=init++[ol]/\Cert P Ai all init S ps AI/\AB.getD (all.length-1) []=[]/\jH AB (A'.reverse++ps)=true/\sL P all AI ol e S1)
theorem sL.eqv{P:Program}{all:List Oper}{S S0 S1:St}{e:XE}(h:sL P all S o e S1)(he:dB S S0):sL P all S0 o e S1:=by
 obtain⟨I,O,AH,AN⟩:=h;refine⟨I.trans he.n,O.trans he.gl,AH,λφ G a w E next R A4 AZ=>?_⟩;have:=AN φ G a w (E.eqv he.symm) next R
 rw[he.mem]at this;grind
theorem yB{md:Bool}{AB:List (List Nat)}{Y:List Cl}{all:List Oper}(A5:fb X A0):∀(ops:List Oper)(S:St)(A':List aB)(e:XE)(S1:St),A'.length+ops.length=all.length->k9 X A0 md AB Y all ops S A'=some (e,S1)->S.gl=X.gl->fC S.n ops=true->
 FK X.P (mv Y) AB all ops S A' e S1
 |[],S,A',e,S1,_,h,A1,H=>by
  simp only[k9]at h;split at h
  .cases h;exact .inl ⟨rfl,[],S,.nil S,dB.refl _,by grind⟩
  grind
 |o::rest,S,A',e,S1,C1,h,A1,H=>by
  simp only[fC,YL,Xl]at H;obtain⟨B9,H⟩:=H;have A_:∀t,o.dst=some t->t<S.n:=λt AL=>by grind
  simp only[k9]at h;cases BG:pG (AB.getD A'.length []) rest with
  |true=>
   rw[BG]at h;simp only[DK]at h;obtain⟨C2,rfl⟩:=B1 BG;split at h
   .right;refine⟨[],o,[],S,rfl,.nil S,?_,by grind,?_⟩
    .grind
    .rcases dD h with ⟨BE,I,O⟩|⟨I,O⟩
     .cases O;exact nR A5 A1 A_ I
     .exact nR A5 A1 A_ I
   grind
  |false=>
  rw[BG]at h;have glue:∀(p:aB)(A:St),(∀e∈p.es,e.key∈p.ks)->(∀m,mv Y m->mv Y (aI m p.es))->mM X.P (mv Y) all S o p->dB A (p.app o S)->k9 X A0 md AB Y all rest A (p::A')=some (e,S1)->FK X.P (mv Y) AB all (o::rest) S A' e S1:=by
   intro p A Z Ar Af heq B8;rcases yB A5 rest A (p::A') e S1 (by grind) B8 (by rw[heq.gl,lZ];grind) (by rw[heq.n,ou];exact H)with ⟨he,ps,BE,A7,BF,Ay⟩|⟨init,ol,ps,BE,E,A7,A4,Ay,Br⟩
   .obtain⟨Ak,Az,B'⟩:=vd A7 heq;exact .inl ⟨he,p::ps,Ak,.cons o rest S p ps Ak Z Ar Af Az,BF.trans B',by grind⟩
   .obtain⟨Ak,Az,B'⟩:=vd A7 heq;exact .inr ⟨o::init,ol,p::ps,Ak,by grind,.cons o init S p ps Ak Z Ar Af Az,A4,by grind,Br.eqv B'⟩
  cases Ae:tM X.P Y S o with
  |some x=>
   rw[Ae]at h;exact glue ⟨[],[],true,x⟩ _ (by simp) (λ_ h=>h) (DO (X:=X) (all:=all) A_ Ae) (dB.refl _) h
  |none=>
   rw[Ae]at h;simp[zq]at h;cases M:cu X A0 md all S o with
   |none=>rw[M]at h;cases h
   |some q=>
    obtain⟨AI,p⟩:=q;rw[M]at h;simp[HC]at h;split at h
    .rename_i hinv;obtain⟨heq,At,Af⟩:=sO A5 A1 A_ M;exact glue p AI At (yA hinv) Af.toI heq h
    .cases h
end
def aE.HK{φ:aQ}{G:Fr}{m:Mem}{w:World}(h:aE φ G m w){E H e1' e2':bk}(A2:E∈m)(A3:H∈m)(AJ:E.key≠H.key){W Y L1' L2':Loc}(A4:φ E.key=some W)(A5:φ H.key=some Y)
 (q:e1'.key=E.key) (A':e2'.key=H.key) (AK:W.U<=L1'.U) (AL:Y.U<=L2'.U) (AM:L1'.U=W.U->L1'={W with bJ:=L1'.bJ}) (AN:L2'.U=Y.U->L2'={Y with bJ:=L2'.bJ})
 (AO:L1'.U=e1'.U) (AP:L2'.U=e2'.U) (A6:∀b,e1'.cont.bg L1' b->E.cont.bg W b\/H.cont.bg Y b) (A7:∀b,e2'.cont.bg L2' b->E.cont.bg W b\/H.cont.bg Y b)
 (AE:∀b,e1'.cont.bg L1' b->e2'.cont.bg L2' b->False)
 (AQ:∀(φ':aQ)(F':Nat->Prop),φ.le φ'->φ' E.key=some L1'->φ' H.key=some L2'->(∀b,F' b->Fo G φ m b)->bt φ' w F' L1' e1'.cont/\bt φ' w F' L2' e2'.cont):
 ∃φ',aE φ' G (Mem.set (Mem.set m e1') e2') w/\az φ m w φ' (Mem.set (Mem.set m e1') e2') w:=by
 obtain⟨m',A8⟩:∃m',m'=Mem.set (Mem.set m e1') e2':=⟨_,rfl⟩;rw[<-A8];have AR:((Mem.set m e1').map (·.key)).Nodup:=by rw[Mem.dr];exact h.nodup
 have AF:m'.map (·.key)=m.map (·.key):=by rw[A8,Mem.dr,Mem.dr]
 have A0:∀y,y∈m'->y=e2'\/y=e1'\/(y∈m/\y.key≠E.key/\y.key≠H.key):=by
  intro y T;rw[A8]at T;rcases (Mem.mem_set AR).1 T with ⟨A,_⟩|⟨A,I⟩
  .exact .inl A
  .rcases (Mem.mem_set h.nodup).1 A with ⟨A,_⟩|⟨A,V⟩
   .exact .inr (.inl A)
   .exact .inr (.inr ⟨A,by rw[<-q];exact V,by rw[<-A'];exact I⟩)
 obtain⟨φ',A9⟩:∃φ':aQ,φ'=λj=>if j=E.key then some L1' else if j=H.key then some L2' else φ j:=⟨_,rfl⟩
 have f1:φ' E.key=some L1':=by simp[A9]
 have f2:φ' H.key=some L2':=by simp[A9,show ¬H.key=E.key from λh=>AJ h.symm]
 have f3:∀j,j≠E.key->j≠H.key->φ' j=φ j:=λj A I=>by simp[A9,A,I]
 have hle:φ.le φ':=by
  intro j AA Z;by_cases A:j=E.key
  .subst A;rw[A4]at Z;cases Z;exact⟨_,f1,AK,AM⟩
  .by_cases I:j=H.key
   .subst I;rw[A5]at Z;cases Z;exact⟨_,f2,AL,AN⟩
   .exact⟨AA,by rw[f3 j A I];exact Z,Ds _,λ_=>rfl⟩
 have AG:∀b,E.cont.bg W b\/H.cont.bg Y b->ek φ m b:=λb J=>J.elim (λJ=>⟨E,A2,W,A4,J⟩) (λJ=>⟨H,A3,Y,A5,J⟩);have AB:∀b,ek φ' m' b->ek φ m b:=by
  rintro b ⟨y,T,O,D,M⟩;rcases A0 y T with rfl|rfl|⟨A,I,V⟩
  .rw[A',f2]at D;cases D;exact AG b (A7 b M)
  .rw[q,f1]at D;cases D;exact AG b (A6 b M)
  .rw[f3 _ I V]at D;exact⟨y,A,O,D,M⟩
 have AH:∀b,Fo G φ' m' b->Fo G φ m b:=λb=>Or.imp id (AB b);have AI:=AQ φ' (Fo G φ' m') hle f1 f2 AH;have A1:∀y∈m,y.key≠E.key->y.key≠H.key->∀O,φ y.key=some O->∀b,y.cont.bg O b->E.cont.bg W b\/H.cont.bg Y b->False:=by
  intro y T I V O D b M J;rcases J with J|J
  .exact I (h.apart y T E A2 O W D A4 ⟨b,M,J⟩)
  .exact V (h.apart y T H A3 O Y D A5 ⟨b,M,J⟩)
 refine⟨φ',⟨by rw[AF];exact h.nodup,?_,?_,?_,λb J=>h.fX b (AB b J),h.bound⟩,⟨hle,λ_ _ _=>rfl,λb _ J=>AB b J,Ds _,rfl,rfl,rfl⟩⟩
 .intro j AA Z;rw[AF];by_cases A:j=E.key
  .subst A;exact Xw A2
  .by_cases I:j=H.key
   .subst I;exact Xw A3
   .rw[f3 j A I]at Z;exact h.kI j AA Z
 .intro y T;rcases A0 y T with rfl|rfl|⟨A,I,V⟩
  .exact⟨L2',by rw[A'];exact f2,AP,AI.2⟩
  .exact⟨L1',by rw[q];exact f1,AO,AI.1⟩
  .obtain⟨O,D,AS,AT⟩:=h.de y A;exact⟨O,by rw[f3 _ I V];exact D,AS,AT.mono hle (λ_ _ _=>rfl) (Ds _) (λb _=>AH b) (λ_ _=>rfl)⟩
 .rintro y T z AC O AD D N ⟨b,M,a⟩;rcases A0 y T with rfl|rfl|⟨A,I,V⟩
  .rw[A',f2]at D;cases D;rcases A0 z AC with rfl|rfl|⟨g1,g2,g3⟩
   .rfl
   .rw[q,f1]at N;cases N;exact (AE b a M).elim
   .rw[f3 _ g2 g3]at N;exact (A1 z g1 g2 g3 AD N b a (A7 b M)).elim
  .rw[q,f1]at D;cases D;rcases A0 z AC with rfl|rfl|⟨g1,g2,g3⟩
   .rw[A',f2]at N;cases N;exact (AE b M a).elim
   .rfl
   .rw[f3 _ g2 g3]at N;exact (A1 z g1 g2 g3 AD N b a (A6 b M)).elim
  .rw[f3 _ I V]at D;rcases A0 z AC with rfl|rfl|⟨g1,g2,g3⟩
   .rw[A',f2]at N;cases N;exact (A1 y A I V O D b M (A7 b a)).elim
   .rw[q,f1]at N;cases N;exact (A1 y A I V O D b M (A6 b a)).elim
   .rw[f3 _ g2 g3]at N;exact h.apart y A z g1 O AD D N ⟨b,M,a⟩
def HL(sz:Nat):∃s,(∀φ w F v,bt φ w F ⟨v,0,s,0,0,[],none⟩ (qu sz))/\∀v b,¬(qu sz).bg ⟨v,0,s,0,0,[],none⟩ b:=by
 unfold qu;split
 .exact⟨sz,λ_ _ _ _=>⟨rfl,by simp,by simp,λh=>by simp at h⟩,λ_ _ h=>by simp[ay.bg]at h⟩
 .exact⟨1,λ_ _ _ _=>⟨⟨rfl,λh=>by simp at h⟩,rfl,by simp[iW],by simp[iW],λh=>by simp at h⟩,λ_ _ h=>by simp[ay.bg]at h⟩
def DP(S:St)(Ah j k sz:Nat):bZ S (S.lB Ah j k sz):=by
 unfold St.lB;split
 .rename_i key B4 cs O v cont C3 Z;split
  .rename_i AD;split
   .exact bZ.refl S
   .obtain⟨C4,BU,BV⟩:=HL sz;refine⟨rfl,rfl,λφ G a w A=>?_⟩;obtain⟨hm,A9,L,A7,AO,AY⟩:=A.mem.get Z;subst A9;obtain⟨BZ,A_,CW,DD,DE⟩:=A.mem.bl (e':=⟨O,v+1,qu sz⟩) hm A7 rfl (L':=⟨v+1,0,C4,0,0,[],none⟩) (by grind) (λhh=>by grind) rfl
     (w':=w) (λ_ _ _=>rfl) (Ds _) (λ_ AA=>(BV _ _ AA).elim) rfl rfl rfl (λ_ _ _=>BU _ _ _ _)
    have CX:Mem.get (Mem.set S.mem ⟨O,v+1,qu sz⟩) Ah=some ⟨key,B4,.box cs⟩:=by
     rw[Mem.j3 (by grind)];grind
    obtain⟨BH,B_,B5,BI,Ba,Bb⟩:=A_.get CX;subst B_;obtain⟨AK,Ao,AH,DF,DG⟩:=A_.bl (e':=⟨key,B4,.box (cs.set j (.vec O (v+1) 0 0))⟩) BH BI rfl (L':=B5) (Ds _) (λ_=>rfl) Ba
     (w':=w) (λ_ _ _=>rfl) (Ds _) (λ_ AA=>.inl AA) rfl rfl rfl (λφ' Aw C5=>by
      obtain⟨g0,arr,elem,g1,g2,g3,g4⟩:=Bb;have CY:∀b,Fo G φ' (Mem.set (Mem.set S.mem ⟨O,v+1,qu sz⟩) ⟨key,B4,.box (cs.set j (.vec O (v+1) 0 0))⟩) b->Fo G BZ (Mem.set S.mem ⟨O,v+1,qu sz⟩) b:=by
       rintro b (h|⟨x,AP,Bc,Aa,B6⟩)
       .exact .inl h
       .right;rcases (Mem.mem_set A_.nodup).1 AP with ⟨rfl,_⟩|⟨Bd,Be⟩
        .simp[Aw]at Aa;cases Aa;exact⟨_,BH,B5,BI,B6⟩
        .simp[Aw,Be]at Aa;exact⟨x,Bd,Bc,Aa,B6⟩
      refine⟨by grind,arr,elem,g1,by grind,g3,λi c u M hu=>?_⟩;rw[List.getElem?_set]at M;split at M
      .rename_i Ap;subst Ap;split at M
       .cases M;have:=g4 j _ u AD hu;cases this;refine .vec O (v+1) 0 0 _ ⟨v+1,0,C4,0,0,[],none⟩ ?_ (Ds _) (λ_=>⟨_,_,rfl,by simp,λh=>by omega⟩) rfl;grind
       grind
      .exact (g4 i c u M hu).mono C5 (λ_ _ _=>rfl) (Ds _) (λb _=>CY b))
    have C6:=CW.trans AH;exact⟨AK,A.rO Ao C6,C6⟩
  .exact bZ.refl S
 .exact bZ.refl S
def sR(AL:AV->AV):∀m:Mem,(nO AL m).map (·.key)=m.map (·.key)
 |[]=>rfl
 |e::r=>by simp[nO,sR AL r]
def AZ{AL:AV->AV}:∀{m:Mem}{x:bk},x∈nO AL m↔∃e∈m,x=⟨e.key,e.U,jF AL e.cont⟩
 |[],x=>by simp[nO]
 |e::r,x=>by simp[nO,AZ (m:=r)]
def DR(S:St)(k AQ:Nat):bZ S (S.ql k AQ):=by
 unfold St.ql;split
 .rename_i key v sz rows O v2 cont Z Ab;split
  .exact bZ.refl S
  .refine⟨rfl,rfl,λφ G a w A=>?_⟩;obtain⟨hm,A9,L,A7,AO,AY⟩:=A.mem.get Z;obtain⟨Ao,AH,AT,Ax,Bf,_⟩:=A.mem.get Ab;subst A9;subst AH;obtain⟨AL,C7⟩:∃AL,AL=xC key v O (v2+1):=⟨_,rfl⟩;rw[<-C7];obtain⟨m1,A_⟩:∃m1,m1=Mem.set (nO AL S.mem) ⟨key,v+1,.dead⟩:=⟨_,rfl⟩;have CZ:((nO AL S.mem).map (·.key)).Nodup:=by rw[sR];exact A.mem.nodup
   have AF:(m1.map (·.key)).Nodup:=by rw[A_,Mem.dr];grind
   obtain⟨m',AR⟩:∃m',m'=Mem.set m1 ⟨O,v2+1,.vec sz rows⟩:=⟨_,rfl⟩;rw[<-A_,<-AR];have BJ:m'.map (·.key)=S.mem.map (·.key):=by rw[AR,Mem.dr,A_,Mem.dr,sR]
   have B7:∀y,y∈m'->y=⟨O,v2+1,.vec sz rows⟩\/y=⟨key,v+1,.dead⟩\/(∃z∈S.mem,y=⟨z.key,z.U,jF AL z.cont⟩/\z.key≠key/\z.key≠O):=by
    intro y AI;rw[AR]at AI;rcases (Mem.mem_set AF).1 AI with ⟨h,_⟩|⟨h,J⟩
    .grind
    .rw[A_]at h;rcases (Mem.mem_set CZ).1 h with ⟨h,_⟩|⟨h,T⟩
     .grind
     .obtain⟨z,Bg,rfl⟩:=AZ.1 h;grind
   obtain⟨φ',Aw⟩:∃φ':aQ,φ'=λj=>if j=key then some {L with U:=v+1} else if j=O then some {L with U:=v2+1} else φ j:=⟨_,rfl⟩
   have f1:φ' key=some {L with U:=v+1}:=by grind
   have f2:φ' O=some {L with U:=v2+1}:=by grind
   have f3:∀j,j≠key->j≠O->φ' j=φ j:=λj H J=>by grind
   have hle:φ.le φ':=by
    intro j C8 AJ;grind
   have Bh:∀b,ek φ' m' b->ek φ S.mem b:=by
    rintro b ⟨y,AI,Ay,AM,Ai⟩;rcases B7 y AI with rfl|rfl|⟨Aq,H,rfl,J,T⟩
    .rw[f2]at AM;cases AM;exact⟨_,hm,L,A7,Ai⟩
    .exact Ai.elim
    .rw[f3 _ J T]at AM;exact⟨Aq,H,Ay,AM,gr.1 Ai⟩
   have A':∀b,Fo G φ' m' b->Fo G φ S.mem b:=λb=>Or.imp id (Bh b);have B8:∀x u,ai φ w (Fo G φ S.mem) x u->ai φ' w (Fo G φ' m') (AL x) u:=by
    intro y u AJ;have DH:=AJ.mono (φ':=φ') (F':=Fo G φ' m') hle (λ_ _ _=>rfl) (Ds _) (λb _=>A' b);rw[C7];unfold xC;split
    .rename_i DI v0 o l;split
     .rename_i hh;obtain⟨rfl,rfl⟩:=hh;cases AJ with
      |vec _ _ _ _ _ L' Aj _ h H=>
       rw[A7]at Aj;cases Aj;exact .vec O (v2+1) o l _ _ f2 (Ds _) (λ_=>h AO.symm) H
     grind
    grind
   refine⟨φ',⟨A.size,A.defers,?_,⟨?_,?_,?_,?_,?_,?_⟩,A.fY.mono (λ_ _ _=>rfl) (Ds _) (λb _=>A' b)⟩,Ar Bh hle⟩
   .intro t x AP;obtain⟨y,AI,rfl⟩:=sh _ S.env t true x AP;exact B8 _ _ (A.env t y AI)
   .rw[BJ];exact A.mem.nodup
   .intro j C8 AJ;rw[BJ];by_cases H:j=key
    .grind
    .by_cases J:j=O
     .grind
     .rw[f3 j H J]at AJ;exact A.mem.kI j C8 AJ
   .intro y AI;rcases B7 y AI with rfl|rfl|⟨Aq,H,rfl,J,T⟩
    .refine⟨_,f2,rfl,?_⟩;have:=AY.mono (φ':=φ') (F':=Fo G φ' m') hle (λ_ _ _=>rfl) (Ds _) (λb _=>A' b) (λ_ _=>rfl);exact this
    .exact⟨_,f1,rfl,trivial⟩
    .obtain⟨Ay,AM,C_,AS⟩:=A.mem.de Aq H;refine⟨Ay,by grind,C_,?_⟩;cases B9:Aq.cont with
     |dead=>trivial
     |box cs=>
      rw[B9]at AS;obtain⟨g0,arr,elem,g1,g2,g3,g4⟩:=AS;refine⟨by grind,arr,elem,g1,by grind,g3,λi c u DJ hu=>?_⟩;grind
     |vec DK Ca=>
      rw[B9]at AS;exact AS.mono hle (λ_ _ _=>rfl) (Ds _) (λb _=>A' b) (λ_ _=>rfl)
     |ej s p=>rw[B9]at AS;exact AS
     |buf t1 b1=>
      rw[B9]at AS;exact⟨AS.1,eR.mono AS.2 (λ_ _ h=>h.mono (λ_ _ _=>rfl) (Ds _) (λb _=>A' b)) (λ_ _=>rfl)⟩
     |vv Ca DL=>
      rw[B9]at AS;exact fW.mono AL AS (λ_ _ _ _ u hu=>hu.mono (λ_ _ _=>rfl) (Ds _) (λb _=>A' b)) (λx _ v AP=>B8 x v AP) (λ_ _=>rfl)
   .rintro y AI z Bg Ay C9 AM Az ⟨b,Ai,BA⟩;rcases B7 y AI with rfl|rfl|⟨Aq,H,rfl,J,T⟩
    .rcases B7 z Bg with rfl|rfl|⟨z0,g1,rfl,g2,g3⟩
     .rfl
     .exact BA.elim
     .rw[f2]at AM;cases AM;rw[f3 _ g2 g3]at Az;exact absurd (A.mem.apart _ hm z0 g1 L C9 A7 Az ⟨b,Ai,gr.1 BA⟩).symm g2
    .exact Ai.elim
    .rcases B7 z Bg with rfl|rfl|⟨z0,g1,rfl,g2,g3⟩
     .rw[f2]at Az;cases Az;rw[f3 _ J T]at AM;exact absurd (A.mem.apart Aq H _ hm Ay L AM A7 ⟨b,gr.1 Ai,BA⟩) J
     .exact BA.elim
     .rw[f3 _ J T]at AM;rw[f3 _ g2 g3]at Az;exact A.mem.apart Aq H z0 g1 Ay C9 AM Az ⟨b,gr.1 Ai,gr.1 BA⟩
   .intro b E;exact A.mem.fX b (Bh b E)
   .exact A.mem.bound
 .exact bZ.refl S
def FL{α:Type}{l:List α}{n:Nat}(h:l.length=n+1):∃(r:List α)(o:α),l=r++[o]/\r.length=n:=by
 refine⟨l.dropLast,l.getLast (by grind),(Yz _).symm,by simp[h]⟩
def HN(S:St)(k AQ:Nat):bZ S (S.AB k AQ):=by
 unfold St.AB;split
 .rename_i key v rows O v2 cont Z Ab;split
  .rename_i xs CA;split
   .exact bZ.refl S
   .rename_i B';refine⟨rfl,rfl,λφ G a w A=>?_⟩;obtain⟨hm,A9,L,A7,AO,AY⟩:=A.mem.get Z;obtain⟨Ao,AH,AT,Ax,Bf,_⟩:=A.mem.get Ab;subst A9;subst AH;have CB:rows=rows.dropLast++[xs]:=by
     rcases List.eq_nil_or_concat rows with rfl|⟨r,x,rfl⟩
     .grind
     grind
    obtain⟨r,Cb⟩:∃r,r=rows.dropLast:=⟨_,rfl⟩;rw[<-Cb]at CB⊢;subst CB;obtain⟨⟨AJ,H,J⟩,T,AN,Ac⟩:fW φ w (Fo G φ S.mem) L (r++[xs]) none:=AY;simp at H J;obtain⟨arr,elem,g1,g2,g3,g4,_⟩:=Ac (by omega);obtain⟨bJ,o,Cc,Cd⟩:=FL J;have CC:=g4 r.length xs o (by simp) (by grind);have BB:∀b,some b∈bJ->some b∈L.bJ:=λb E=>by grind
    have Bi:∀(i:Nat)(x:Option Nat),bJ[i]?=some x->L.bJ[i]?=some x:=λi x AP=>by
     grind
    have DM:∀b,o=some b->some b∉bJ:=λb E hm=>by
     obtain⟨i,hi⟩:=YN hm;grind
    have base:∀(L2':Loc)(x:Value),(L2'.U=v2+1/\L2'.sz=1)->arr[L.base+r.length]?=some x->(∀(φ':aQ)(F':Nat->Prop),φ' O=some L2'->ai φ' w F' (.vec O (v2+1) 0 xs.length) x)->
     (∀b,0<L2'.cap->L2'.a7=b->o=some b)->
     (∀(φ':aQ)(F':Nat->Prop),φ.le φ'->(∀b,F' b->Fo G φ S.mem b)->bt φ' w F' L2' (.vec 1 xs))->
     ∃φ',Rel φ' G {S with mem:=Mem.set (Mem.set S.mem ⟨key,v,.vv r (some (.vec O (v2+1) 0 xs.length))⟩) ⟨O,v2+1,.vec 1 xs⟩} a w/\az φ S.mem w φ' (Mem.set (Mem.set S.mem ⟨key,v,.vv r (some (.vec O (v2+1) 0 xs.length))⟩) ⟨O,v2+1,.vec 1 xs⟩) w:=by
     intro L2' x Ce AP B8 CD Cf;have B0:∀(φ':aQ)(F':Nat->Prop),φ.le φ'->φ' O=some L2'->(∀b,F' b->Fo G φ S.mem b)->bt φ' w F' {L with bJ:=bJ} (.vv r (some (.vec O (v2+1) 0 xs.length))):=by
      intro φ' F' hle f2 A';refine⟨⟨AJ,by grind,Cd⟩,λi j b hi AD=>T i j b (Bi _ _ hi) (Bi _ _ AD),λb E=>AN b (BB b E),λ_=>⟨arr,elem,g1,g2,g3,λi Bj Bk hi AA=>?_,λy AI=>?_⟩⟩
      .exact (g4 i Bj Bk (by grind) (Bi _ _ AA)).mono (λd u _ hu=>hu.mono (λ_ _ _=>rfl) (Ds _) (λb _=>A' b)) (λ_ _=>rfl)
      grind
     obtain⟨φ',AR,Y⟩:=A.mem.HK (e1':=⟨key,v,.vv r (some (.vec O (v2+1) 0 xs.length))⟩) (e2':=⟨O,v2+1,.vec 1 xs⟩) hm Ao B' A7 Ax (L1':={L with bJ:=bJ}) (L2':=L2') rfl rfl (Ds _) (by grind)
      (λ_=>rfl) (λhh=>by grind) AO Ce.1 (λb E=>.inl (by
       rcases E with E|E
       .exact .inl E
       .exact .inr (BB b E))) (λb E=>.inl (.inr (by rw[Cc,CD b E.1 E.2];simp))) (λb Bl BK=>by
       have DN:=CD b BK.1 BK.2;rcases Bl with ⟨_,Bl⟩|Bl
       .grind
       grind) (λφ' F' hle f1 f2 A'=>⟨B0 φ' F' hle f2 A',Cf φ' F' hle A'⟩)
     exact⟨φ',A.rO AR Y,Y⟩
    cases o with
    |none=>
     obtain⟨rfl,b,AG⟩:=CC;exact base ⟨v2+1,0,1,0,0,[],none⟩ _ ⟨rfl,rfl⟩ AG (λφ' F' AU=>.vec O _ 0 0 _ _ AU (Ds _) (λ_=>⟨_,_,rfl,by simp,λh=>by omega⟩) rfl) (λb E=>by simp at E) (λφ' F' hle A'=>⟨rfl,by simp,by simp,λM=>by simp at M⟩)
    |some b=>
     obtain⟨row,Cg,off,cap,q1,q2,q3,DO,Ch,Ci,Cj⟩:=CC;refine base ⟨v2+1,b,1,row.size-off,off,[],none⟩ _ ⟨rfl,rfl⟩ q1 (λφ' F' AU=>.vec O _ 0 _ _ _ AU (Ds _) (λ_=>⟨_,cap,rfl,q3,λh=>⟨by simp,by grind⟩⟩) rfl) (λDQ _ E=>by grind) (λφ' F' hle A'=>?_);refine⟨rfl,by simp only;omega,λd V=>?_,λM=>⟨row,Cg,Ch,by simp only;omega,Ci,λi d hi=>?_⟩⟩
     .obtain⟨i,hi⟩:=YN V;grind
     .obtain⟨_,u,hu,AD⟩:=Cj i d hi;exact⟨u,hu.mono (λ_ _ _=>rfl) (Ds _) (λb _=>A' b),AD⟩
  .exact bZ.refl S
 .exact bZ.refl S
def HO(S:St)(k AQ:Nat):bZ S (S.cls k AQ):=by
 unfold St.cls;split
 .rename_i key v rows DS v3 len O v2 xs Z Ab;split
  .grind
  .rename_i B';split
   .rename_i Ck;obtain⟨rfl,rfl,rfl⟩:=Ck;refine⟨rfl,rfl,λφ G a w A=>?_⟩;obtain⟨hm,A9,L,A7,AO,AY⟩:=A.mem.get Z;obtain⟨Ao,AH,AT,Ax,Bf,Cl⟩:=A.mem.get Ab;subst A9;subst AH;obtain⟨⟨AJ,H,J⟩,T,AN,Ac⟩:fW φ w (Fo G φ S.mem) L rows (some (.vec O v3 0 xs.length)):=AY;simp at H;obtain⟨arr,elem,g1,g2,g3,g4,g5⟩:=Ac (by omega);obtain⟨y,DU,Cm⟩:=g5 _ rfl;obtain⟨z0,DV,z2,z3⟩:=Cl;have DW:∀b,0<AT.cap->AT.a7=b->(L.a7=b\/some b∈L.bJ)->False:=by
     intro b M E hh;refine B' (A.mem.apart _ hm _ Ao L AT A7 Ax ⟨b,?_,⟨M,E⟩⟩);rcases hh with hh|hh
     .exact .inl ⟨by omega,hh⟩
     .exact .inr hh
    have base:∀(o:Option Nat),(∀b,o=some b->0<AT.cap/\AT.a7=b)->(∀F':Nat->Prop,(∀b,F' b->Fo G φ S.mem b)->rM w F' (some y) xs o)->
     ∃φ',Rel φ' G {S with mem:=Mem.set (Mem.set S.mem ⟨key,v,.vv (rows++[xs]) none⟩) ⟨O,v3+1,.dead⟩} a w/\az φ S.mem w φ' (Mem.set (Mem.set S.mem ⟨key,v,.vv (rows++[xs]) none⟩) ⟨O,v3+1,.dead⟩) w:=by
     intro o AA DX;have B0:∀(φ':aQ)(F':Nat->Prop),(∀b,F' b->Fo G φ S.mem b)->bt φ' w F' {L with bJ:=L.bJ++[o]} (.vv (rows++[xs]) none):=by
      intro φ' F' A';refine⟨⟨AJ,by grind,by grind⟩,λi j b hi AD=>?_,λb E=>?_,λ_=>⟨arr,elem,g1,g2,g3,λi Bj Bk hi CE=>?_,λy AI=>by cases AI⟩⟩
      .grind
      .grind
      .rcases Nat.lt_or_ge i rows.length with Bm|DY
       .rw[Xr Bm]at hi;rw[Xr (by omega)]at CE;exact (g4 i Bj Bk hi CE).mono (λd u _ hu=>hu.mono (λ_ _ _=>rfl) (Ds _) (λb _=>A' b)) (λ_ _=>rfl)
       grind
     obtain⟨φ',AR,Y⟩:=A.mem.HK (e1':=⟨key,v,.vv (rows++[xs]) none⟩) (e2':=⟨O,v3+1,.dead⟩) hm Ao B' A7 Ax (L1':={L with bJ:=L.bJ++[o]}) (L2':={AT with U:=v3+1}) rfl rfl (Ds _) (by grind)
      (λ_=>rfl) (λhh=>by grind) AO rfl (λb E=>by
       rcases E with E|E
       .exact .inl (.inl E)
       .simp at E;rcases E with E|E
        .exact .inl (.inr E)
        .exact .inr (AA b E.symm)) (λb E=>E.elim) (λb _ BK=>BK) (λφ' F' hle f1 f2 A'=>⟨B0 φ' F' A',trivial⟩)
     exact⟨φ',A.rO AR Y,Y⟩
    cases Cm with
    |vec _ _ _ _ _ L' Aj DZ AW B0=>
     rw[Ax]at Aj;cases Aj;obtain⟨Cn,cap,rfl,Co,Cp⟩:=AW Bf.symm;by_cases CF:0<cap
     .obtain⟨rfl,B1⟩:=Cp CF;obtain⟨Cq,D_,t1,t2,t3,t4⟩:=z3 (by omega);refine base (some AT.a7) (λb E=>by grind) (λF' A'=>⟨Cq,_,AT.base,cap,by simp,CF,Co,by grind,t1,t3,λi d V=>?_⟩);obtain⟨u,hu,AD⟩:=t4 i d V;rw[z0]at AD;exact⟨by grind,u,hu.mono (λ_ _ _=>rfl) (Ds _) (λb _=>A' b),AD⟩
     .have Cr:xs=[]:=List.length_eq_zero_iff.1 (by omega);refine base none (λb E=>by cases E) (λF' A'=>⟨Cr,Cn,by grind⟩)
   .exact bZ.refl S
 .exact bZ.refl S
def FM(S:St)(k:Nat):bZ S (S.shut k):=by
 unfold St.shut;split
 .rename_i key v rows y Z;refine⟨rfl,rfl,λφ G a w A=>?_⟩;obtain⟨hm,A9,L,A7,AO,AY⟩:=A.mem.get Z;subst A9;obtain⟨φ',AR,Y,_,_⟩:=A.mem.bl (e':=⟨key,v,.vv rows none⟩) hm A7 rfl (L':=L) (Ds _) (λ_=>rfl) AO
   (w':=w) (λ_ _ _=>rfl) (Ds _) (λ_ AA=>.inl AA) rfl rfl rfl (λφ' Aw C5=>by
    obtain⟨⟨AJ,H,J⟩,T,AN,Ac⟩:fW φ w (Fo G φ S.mem) L rows (some y):=AY;refine⟨⟨AJ,by grind,J⟩,T,AN,λM=>?_⟩;obtain⟨arr,elem,g1,g2,g3,g4,g5⟩:=Ac M;refine⟨arr,elem,g1,g2,g3,λi xs o hi AA=>(g4 i xs o hi AA).mono (λd u _ hu=>hu.mono (λ_ _ _=>rfl) (Ds _) (λb _ E=>?_)) (λ_ _=>rfl),λy AI=>by cases AI⟩;rcases E with E|⟨x,AP,Bc,Aa,B6⟩
    .exact .inl E
    .right;rcases (Mem.mem_set A.mem.nodup).1 AP with ⟨rfl,_⟩|⟨Bd,Be⟩
     .simp[Aw]at Aa;cases Aa;exact⟨_,hm,L,A7,B6⟩
     .simp[Aw,Be]at Aa;exact⟨x,Bd,Bc,Aa,B6⟩)
  exact⟨φ',A.rO AR Y,Y⟩
 .exact bZ.refl S
def B2(S:St)(Ah j k:Nat):bZ S (S.nK Ah j k):=by
 unfold St.nK;split
 .rename_i key B4 cs O v cont C3 Z;split
  .rename_i AD;split
   .exact bZ.refl S
   .rename_i B';refine⟨rfl,rfl,λφ G a w A=>?_⟩;obtain⟨BH,B_,B5,BI,Ba,Bb⟩:=A.mem.get C3;obtain⟨hm,A9,L,A7,AO,AY⟩:=A.mem.get Z;subst B_;subst A9;have B0:∀(φ':aQ)(F':Nat->Prop),φ.le φ'->φ' O=some ⟨v+1,0,1,0,0,[],none⟩->(∀b,F' b->Fo G φ S.mem b)->bt φ' w F' B5 (.box (cs.set j (.vec O (v+1) 0 0))):=by
     intro φ' F' hle f2 A';obtain⟨g0,arr,elem,g1,g2,g3,g4⟩:=Bb;refine⟨by grind,arr,elem,g1,by grind,g3,λi c u M hu=>?_⟩;rw[List.getElem?_set]at M;split at M
     .rename_i Ap;subst Ap;split at M
      .cases M;have:=g4 j _ u AD hu;cases this;exact .vec O (v+1) 0 0 _ _ f2 (Ds _) (λ_=>⟨_,_,rfl,by simp,λh=>by omega⟩) rfl
      grind
     .exact (g4 i c u M hu).mono hle (λ_ _ _=>rfl) (Ds _) (λb _=>A' b)
    obtain⟨φ',AR,Y⟩:=A.mem.HK (e1':=⟨key,B4,.box (cs.set j (.vec O (v+1) 0 0))⟩) (e2':=⟨O,v+1,.vv [] none⟩) BH hm B' BI A7 (L1':=B5) (L2':=⟨v+1,0,1,0,0,[],none⟩) rfl rfl (Ds _) (by grind)
     (λ_=>rfl) (λhh=>by grind) Ba rfl (λb E=>.inl E) (λb E=>by
      rcases E with ⟨E,_⟩|E
      .grind
      grind) (λb _ E=>by
      rcases E with ⟨E,_⟩|E
      .grind
      grind) (λφ' F' hle f1 f2 A'=>⟨B0 φ' F' hle f2 A',⟨⟨rfl,by simp,rfl⟩,λi j b hi=>by grind,λb E=>by grind,λM=>by grind⟩⟩)
    exact⟨φ',A.rO AR Y,Y⟩
  .exact bZ.refl S
 .exact bZ.refl S
def JU(S:St)(g:Gh):bZ S (g.go S):=by
 cases g with
 |trim k=>exact vY S k
 |freeze k=>exact BT S k
 |lB Ah j k sz=>exact DP S Ah j k sz
 |ql k AQ=>exact DR S k AQ
 |AB k AQ=>exact HN S k AQ
 |cls k AQ=>exact HO S k AQ
 |shut k=>exact FM S k
 |nK Ah j k=>exact B2 S Ah j k
def qE:∀(l:List Gh)(S:St),bZ S (wx S l)
 |[],S=>bZ.refl S
 |g::r,S=>(JU S g).trans (qE r _)
def mO(X:Ctx)(f:FuncId)(id:Nat)(S:St):bZ S (S.leave X f id):=(Dm S _).trans (qE _ _)
def cw(X:Ctx)(f:FuncId)(n:Nat):Code->Bool
 | .region id ops draw=>fC n ops.toList&&(!draw||uW ops.toList (X.od f id))
 | .seq a b=>cw X f n a&&cw X f n b
 | .cond _ a b=>cw X f n a&&cw X f n b
 | .block _ c=>cw X f n c
 | .loop c=>cw X f n c
 |_=>true
structure fJ(X:Ctx):Prop where
 ov:X.ov=none
 names:∀(g:FuncId)(fn:Func),X.P.funcs[g]?=some fn->fn.name≠ "runtime.NumGoroutine"
 HP:∀(g:FuncId)(fn:Func)(c:Code),X.P.funcs[g]?=some fn->fn.body=some c->(∀k∈(X.fp g).sites,100<=k)->cw X g fn.ntmps c=true
 mixed:X.P.follows .mixedOrders=true
 rD:∀(g:FuncId)(h:List AV->Option AV),X.rD g=some h->dC X.P g=true/\∀(Bn:List AV)(a:AV),h Bn=some a->∀(φ:aQ)(F:Nat->Prop)(w:World)(vs:Array Value),b5 w F X.gl->(∀b,F b->b<w.heap.size)->Bn.length=vs.size->
  (∀(i:Nat) x v,Bn[i]?=some x->vs[i]?=some v->ai φ w F x v)->Calls X.P g vs w λe w'=>∃v,e=.returned v/\Go.RowKit.Below w.heap.size w w'/\ai φ w' F a v
def iY.is{n:Nat}{φ:aQ}{G:Fr}{m:Mem}{w:World}{e:XE}{I:St}{e':Exit}{W:Act}{w':World}(h:iY n φ G m w (Is e I) e' W w'):
 ∃φ',I.n=n/\Rel φ' G I W w'/\az φ m w φ' I.mem w'/\(match e' with
  | .normal=>e=.normal
  | .exit id=>e=.exit id
  | .ret=>e=.ret
  | .panic chain=>∃t x v,e=.panic t x/\chain=[{v:=.iface t v,recovered:=false}]/\aq w' (Fo G φ' I.mem) x v
  |_=>False):=by
 cases e' with
 |normal=>obtain⟨φ',A8,A4,⟨H,rfl⟩,J,T⟩:=h;grind
 |exit id=>obtain⟨φ',A8,A4,⟨H,rfl⟩,J,T⟩:=h;grind
 |ret=>obtain⟨φ',A8,A4,⟨H,rfl⟩,J,T⟩:=h;grind
 |panic chain=>obtain⟨φ',A8,t,x,v,M,V,A4,⟨H,rfl⟩,J,T⟩:=h;grind
 |_=>exact h.elim
section
variable {X:Ctx} {Ak:aJ} {f:FuncId} {n:Nat}
theorem JV{P:Program}{c:Code}{S S1:St}{Q:XE->St->Prop}(t:bZ S S1)(h:iv P c S1 Q):iv P c S Q:=λφ G a w A=>by
 obtain⟨BZ,Cs,A9⟩:=t.2.2 φ G a w A;exact wp_mono (h BZ G a w Cs) λe a2 BC AC=>by rw[t.1]at AC;exact AC.weaken A9
theorem A0{P:Program}{S:St}{e:XE}{c:Code}{k:St->St}(A9:∀S,bZ S (k S)){r:Option (XE×St)}{I:St}(h:qv k r=some (e,I))
 (A:∀A5 S1,r=some (A5,S1)->S1.n=S.n/\S1.gl=S.gl/\iv P c S (Is A5 S1)):I.n=S.n/\I.gl=S.gl/\iv P c S (Is e I):=by
 unfold qv at h;split at h
 .rename_i S1;cases h;obtain⟨H,J,T⟩:=A _ _ rfl;obtain⟨t1,t2,t3⟩:=A9 S1;refine⟨t1.trans H,t2.trans J,λφ G a w Bo=>wp_mono (T φ G a w Bo) λe' W w' AC=>?_⟩;obtain⟨φ',A4,A3,Y,he⟩:=AC.is;cases e' with
  |normal=>
   obtain⟨AK,As,AH⟩:=t3 φ' G W w' A3;exact⟨AK,k S1,t1.trans A4,⟨rfl,rfl⟩,As,Y.trans AH⟩
  |exit id=>cases he
  |ret=>cases he
  |panic chain=>grind
  |_=>grind
 grind
theorem JW{P:Program}{Au:Mem->Prop}{all:List Oper}{ops:List Oper}{S:St}{ps:List aB}{S1:St}(h:Cert P Au all ops S ps S1):S1.n=S.n/\S1.gl=S.gl:=by
 induction h with
 |nil S=>grind
 |cons o rest S p ps S1 _ _ _ _ ih=>exact⟨ih.1.trans (ou ..),ih.2.trans (lZ ..)⟩
theorem A1{P:Program}{Au:Mem->Prop}{all:List Oper}:∀{ops:List Oper}{S:St}{ps:List aB}{S1:St},Cert P Au all ops S ps S1->ps.length=ops.length:=by
 intro ops S ps S1 h;induction h with
 |nil S=>rfl
 |cons o rest S p ps S1 _ _ _ _ ih=>grind
theorem yC:∀{es:List bk},xz es=true->∀e∈es,100<=e.key
 |_::r,h,e,he=>by
  simp[xz]at h;rcases Xm.1 he with rfl|he
  .grind
  .exact yC h.2 e he
theorem yD{ps:List aB}:∀{CG:List Nat},su ps CG=true->∀i∈CG,∀p,ps[i]?=some p->∀e∈p.es,100<=e.key
 |k::r,h,i,hi,p,AC,e,he=>by
  simp[su]at h;rcases Xm.1 hi with rfl|hi
  .have:=h.1;rw[AC]at this;exact yC this e he
  .exact yD h.2 i hi p AC e he
theorem sS{all:List Oper}{Ad:List (List Nat)}(h:uW all Ad=true){i j:Nat}(Ap:i<j)(AD:j<all.length)(A4:i∉(dJ all []).getD j []):(Ad.getD i []).contains j=true/\(Ad.getD j []).contains i=true:=by
 have H:=XN.1 h j (XI.2 AD);unfold ss at H;simp at H;grind
theorem DT{P:Program}{S S1:St}{id:Nat}{ops:List Oper}{Ad:List (List Nat)}{ps:List aB}{j N:Nat}{t:TypeId}{x:D}(hm:P.follows .mixedOrders=true)(Ae:uW ops Ad=true)
 (M:fI (TT P ops j (Ad.getD j []) t x N S1) 0 ops S ps) (Ct:jH Ad ps=true) (CH:su ps (Ad.getD j [])=true) (Bp:S1.env=[]) (CI:j<ops.length) (Da:N=da S.mem+cX ps+1):
 S1.n=S.n/\S1.gl=S.gl/\∀{φ:aQ}{G:Fr}{a:Act}{w:World},Rel φ G S a w->∀{Q:Exit->Act->World->Prop},
 (∀φ' W w' v,Rel φ' G S1 W w'->az φ S.mem w φ' S1.mem w'->aq w' (Fo G φ' S1.mem) x v->Q (.panic [{v:=.iface t v,recovered:=false}]) W w')->(Code.region id ops.toArray true).wp P Q a w:=by
 have BL:=M.len;have Bq:=fI.at (ps:=ps) (S0:=S) M [] [] rfl rfl rfl rfl rfl;have Af:=Fs Ae Ct BL;obtain⟨Br,CJ⟩:∃Br,ops[j]?=some Br:=⟨ops[j],by grind⟩;obtain⟨Bs,CK⟩:∃Bs,ps[j]?=some Bs:=⟨ps[j]'(by omega),by grind⟩
 obtain⟨Cu,AF,AE,A_⟩:=(Bq j Br Bs (by simp) CJ CK).2.2 rfl;rw[jG]at AF;rw[iy]at AE;refine⟨AF,AE,λ{φ G a w} A {Q} Bt=>wp_region_any hm ?_⟩;have Cv:∀(i:Nat)(p:aB),ps[i]?=some p->∀e∈p.es,e.key∈p.ks:=λi p AC=>by
  have BM:i<ps.length:=(D1.1 AC).1;exact (Bq i (ops[i]'(by omega)) p (by simp) (by grind) AC).1
 have Cw:Rel φ G S a {w with drawn:=w.drawn+1}:=A.grow (λ_ _=>rfl) (Ds _);have CL:(dY ops.length λi=>(Array.replicate ops.length false).getD i false)=[]:=by
  rw[dY,Ya];simp_all
 refine Ft (S0:=S) (S1:=S1) (φ0:=φ) (w0:=w) (G:=G) (j:=j) BL Af A.mem.nodup Cv ?_ CJ CK Cu ?_ AF AE Bp (by grind) (λφ' W w' v A3 Y AG=>Bt φ' W w' v A3 Y AG) _ _ φ a _ (by simp) ?_ ?_ ?_ ?_ ?_
 .intro i o p AA AC Ap Bu;have BM:i<ops.length:=(D1.1 AA).1;refine (Bq i o p (by simp) AA AC).2.1 Ap ?_;rcases Nat.lt_or_ge i j with h|h
  .grind
  .exact .inr (sS Ae (by omega) BM Bu).1
 .intro i p AC Ap hi Bu e he;have BM:i<ops.length:=by grind
  have BB:(Ad.getD j []).contains i=true:=by
   rcases Nat.lt_or_ge i j with h|h
   .exact (sS Ae h CI hi).2
   .exact (sS Ae (by omega) BM Bu).1
  exact yD CH i (by grind) p AC e he
 .intro j o _ AD;simp at AD;grind
 .simp_all
 .simp only[XS];rw[CL];exact Cw
 .simp only[XS];rw[CL];exact az.grow (λ_ _=>rfl) (Ds _) rfl rfl rfl
 grind
theorem A2(Al:fJ X)(B1:fb X Ak):∀(c:Code)(S:St)(e:XE)(I:St),den X f Ak n c S=some (e,I)->S.gl=X.gl->cw X f S.n c=true->
 I.n=S.n/\I.gl=S.gl/\iv X.P c S (Is e I):=by
 intro c;induction c with
 |skip=>
  intro S e I h A6 V;obtain⟨rfl,rfl⟩:=h;exact⟨rfl,rfl,Hm ⟨rfl,rfl⟩⟩
 |region id ops draw=>
  intro S e I h A6 V;simp[cw]at V;cases draw with
  |false=>
   refine A0 (mO X f id) h (λA5 S1 H=>?_);obtain⟨J,T,AN⟩:=sN B1 ops.toList S A5 S1 H A6 V.1;exact⟨J,T,λφ G a w A=>wp_region_lit (AN φ G a w A _ (λ_ _ _ h=>h))⟩
  |true=>
   refine A0 (mO X f id) h (λA5 S1 H=>?_);have Ae:uW ops.toList (X.od f id)=true:=by grind
   have key:(∃Au:Mem->Prop,Au S.mem/\A5=.normal/\∃ps A8,Cert X.P Au ops.toList ops.toList S ps A8/\dB S1 A8/\jH (X.od f id) ps=true)\/
    (S1.n=S.n/\S1.gl=S.gl/\∀φ G a w,Rel φ G S a w->∀Q:Exit->Act->World->Prop,(A5=.normal->∀φ' W w',Rel φ' G S1 W w'->az φ S.mem w φ' S1.mem w'->Q .normal W w')->
     (∀t x,A5=.panic t x->∀φ' W w' v,Rel φ' G S1 W w'->az φ S.mem w φ' S1.mem w'->aq w' (Fo G φ' S1.mem) x v->Q (.panic [{v:=.iface t v,recovered:=false}]) W w')->(Code.region id ops true).wp X.P Q a w)/\(A5=.normal\/∃t x,A5=.panic t x):=by
    cases CM:X.fl f id with
    |nil=>
     rw[CM]at H;rcases uD B1 ops.toList S [] A5 S1 H A6 V.1 with ⟨he,ps,A8,M,heq,Af⟩|⟨t,x,j,ps,he,Db,Dc,M,Af,CH,Bp⟩
     .grind
     .right;obtain⟨J,T,AN⟩:=DT (id:=id) Al.mixed Ae M (by grind) (by grind) Bp (by grind) rfl;exact⟨⟨J,T,λφ G a w A Q _ Bt=>AN A (λφ' W w' v Ac Cy Cz=>Bt t x he φ' W w' v Ac Cy Cz)⟩,.inr ⟨t,x,he⟩⟩
    |cons q r=>
     rw[CM]at H;simp[oU]at H;cases BN:de S.mem (q::r)with
     |none=>rw[BN]at H;cases H
     |some Dd=>
      rw[BN]at H;rcases yB B1 ops.toList S [] A5 S1 (by simp) H A6 V.1 with ⟨he,ps,A8,M,heq,Af⟩|⟨init,ol,ps,A8,D',M,A4,Af,J,T,AN,Ac⟩
      .exact .inl ⟨_,qC BN,he,ps,A8,M,heq,by grind⟩
      .obtain⟨Bv,Ab⟩:=JW M;refine .inr ⟨⟨J.trans Bv,T.trans Ab,λφ G a w A Q D0 D2=>?_⟩,AN⟩;have BL:ps.length+1=ops.toList.length:=by
        have:=A1 M;grind
       refine BY (ops:=ops.toList) D' (BX Ae A4) (qC BN) Al.mixed M (HJ Ae BL A4 (by grind)) A (λφ' W w' A3 Y next D3=>?_);exact Ac φ' G W w' A3 next Q (λhe AK a2 BC As AH=>D3 a2 BC (D0 he AK a2 BC As (Y.trans AH))) (λt x he AK a2 BC v As AH AG=>D2 t x he AK a2 BC v As (Y.trans AH) AG)
   rcases key with ⟨Au,D4,rfl,ps,A8,M,heq,Af⟩|⟨⟨AF,AE,D5⟩,_⟩;rotate_left
   .exact⟨AF,AE,λφ G a w A=>D5 φ G a w A _ (λhe φ' W w' A3 Y=>⟨φ',S1,AF,⟨he.symm,rfl⟩,A3,Y⟩) (λt x he φ' W w' v A3 Y AG=>⟨φ',S1,t,x,v,rfl,AG,AF,⟨he.symm,rfl⟩,A3,Y⟩)⟩
   obtain⟨AF,AE⟩:=Lt M;have Af:=Fs Ae Af (A1 M);refine⟨heq.n.trans AF,heq.gl.trans AE,λφ G a w A=>?_⟩;exact BW (ops:=ops.toList) D4 Al.mixed M Af A (λφ' W w' A3 Y=>⟨φ',S1,heq.n.trans AF,⟨rfl,rfl⟩,A3.eqv heq.symm,by rw[heq.mem];grind⟩)
 |seq a b BO Bw=>
  intro S e I h A6 V;simp[cw]at V;rcases dD h with ⟨S1,H,J⟩|⟨H,J⟩
  .obtain⟨AF,AE,Bx⟩:=BO S _ S1 H A6 V.1;obtain⟨Bv,Ab,De⟩:=Bw S1 e I J (AE.trans A6) (by grind);refine⟨Bv.trans AF,Ab.trans AE,Cx (Bx.mono λA5 A8 AW=>?_)⟩;grind
  .obtain⟨AF,AE,Bx⟩:=BO S _ I H A6 V.1;refine⟨AF,AE,Cx (Bx.mono λA5 A8 AW=>?_)⟩;grind
 |cond c a b BO Bw=>
  intro S e I h A6 V;simp[cw]at V;simp[den]at h;cases M:S.ag c with
  |mk g y=>
   rw[M]at h;unfold wz at h;split at h
   .rename_i t heq;cases heq;cases t with
    |true=>
     obtain⟨H,J,T⟩:=BO S e I (by grind) A6 V.1;exact⟨H,J,An M (λ_=>T) (λAU=>by cases AU)⟩
    |false=>
     obtain⟨H,J,T⟩:=Bw S e I (by grind) A6 V.2;exact⟨H,J,An M (λAU=>by cases AU) (λ_=>T)⟩
   grind
 |block id c ih=>
  intro S e I h A6 V;simp[den]at h;have BD:=qE (X.gh f (id+2000000)) S;have ih:∀e I,den X f Ak n c (S.enter X f id)=some (e,I)->I.n=S.n/\I.gl=S.gl/\iv X.P c S (Is e I):=λe I h=>by
   obtain⟨By,a2,a3⟩:=ih (S.enter X f id) e I h (BD.2.1.trans A6) (by simp[St.enter];rw[BD.1];exact V);exact⟨By.trans BD.1,a2.trans BD.2.1,JV BD a3⟩
  unfold wy at h;split at h
  .rename_i CN S1 H;obtain⟨A4,Z,AX⟩:=ih _ S1 H;split at h
   .cases h;refine⟨A4,Z,se (AX.mono λA5 A8 AW=>?_)⟩;grind
   .cases h;refine⟨A4,Z,se (AX.mono λA5 A8 AW=>?_)⟩;grind
  .obtain⟨A4,Z,AX⟩:=ih _ I h;refine⟨A4,Z,se (AX.mono λA5 A8 AW=>?_)⟩;obtain⟨rfl,rfl⟩:=AW;cases A5 with
   |exit CN=>grind
   |_=>grind
 |loop c ih=>
  intro S e I h A6 V;have BB:∀(k:Nat)(S1:St),iter (den X f Ak n c) k S1=some (e,I)->S1.gl=X.gl->cw X f S1.n c=true->I.n=S1.n/\I.gl=S1.gl:=by
   intro k;induction k with
   |zero=>intro S1 H;cases H
   |succ k Df=>
    intro S1 H AE Bz;rcases dD H with ⟨A8,J,T⟩|⟨J,T⟩
    .grind
    grind
  obtain⟨A4,Z⟩:=BB n S h A6 V;refine⟨A4,Z,?_⟩;refine Ho (α:=Nat×St) (λx=>x.2) (λx=>iter (den X f Ak n c) x.1 x.2=some (e,I)/\x.2.gl=X.gl/\cw X f x.2.n c=true) (λx=>x.1) (n,S) rfl ⟨h,A6,V⟩ ?_;rintro ⟨k,S1⟩ ⟨H,AE,Bz⟩;cases k with
  |zero=>cases H
  |succ k=>
   rcases dD H with ⟨A8,J,T⟩|⟨J,T⟩
   .obtain⟨By,a2,AX⟩:=ih S1 _ A8 J AE Bz;refine AX.mono λA5 CO AW=>?_;obtain⟨rfl,rfl⟩:=AW;exact⟨(k,CO),rfl,⟨T,a2.trans AE,by grind⟩,Nat.lt_succ_self k⟩
   .obtain⟨By,a2,AX⟩:=ih S1 _ I J AE Bz;refine AX.mono λA5 CO AW=>?_;grind
 |exit id=>
  intro S e I h A6 V;obtain⟨rfl,rfl⟩:=h;obtain⟨t1,t2,t3⟩:=qE (X.gh f (id+1000000)) S;refine⟨t1,t2,λφ G a w Bo=>wp_mono ((Hn (Q:=Is (.exit id) S) ⟨rfl,rfl⟩:iv X.P (.exit id) S (Is (.exit id) S)) φ G a w Bo) λe' W w' AC=>?_⟩;obtain⟨φ',A4,A3,Y,he⟩:=AC.is;cases e' with
  |exit CN=>
   cases he;obtain⟨AK,As,AH⟩:=t3 φ' G W w' A3;exact⟨AK,_,t1.trans A4,⟨rfl,rfl⟩,As,Y.trans AH⟩
  |normal=>cases he
  |ret=>cases he
  |panic chain=>grind
  |_=>grind
 |ret=>
  intro S e I h A6 V;obtain⟨rfl,rfl⟩:=h;exact⟨rfl,rfl,JM ⟨rfl,rfl⟩⟩
 |rangeFunc _ _ _ _=>intro S e I h;simp[den]at h
 |scope _ _=>intro S e I h;simp[den]at h
 |label _=>intro S e I h;simp[den]at h
 |goto _=>intro S e I h;simp[den]at h
 |refuse _=>intro S e I h;simp[den]at h
theorem ve:∀(cs:List ay)(i:Nat),(bS i cs).map (·.key)=List.range' i cs.length
 |[],i=>rfl
 |c::r,i=>by simp[bS,ve r,Yj]
theorem xF:∀(cs:List ay)(i:Nat)(e:bk),e∈bS i cs->e.U=0
 |[],i,e,he=>by simp[bS]at he
 |c::r,i,e,he=>by
  simp[bS]at he;rcases he with rfl|he
  .rfl
  .exact xF r (i+1) e he
theorem aE.dv{φ:aQ}{G:Fr}{m:Mem}{w:World}(h:aE φ G m w)(dv:List Deferred):aE φ ⟨G.g,dv⟩ m w:=
 ⟨h.nodup,h.kI,h.de,h.apart,h.fX,h.bound⟩
theorem Ev.dv{P:Program}{gl f args m K}(h:∀φ G w (vs:Array Value),G.dv=[]->aE φ G m w->b5 w (Fo G φ m) gl->args.length=vs.size->(∀(i:Nat) x v,args[i]?=some x->vs[i]?=some v->ai φ w (Fo G φ m) x v)->
 Calls P f vs w λe w'=>∃φ' m' out,K out m'/\aE φ' G m' w'/\az φ m w φ' m' w'/\jh φ' w' (Fo G φ' m') out e):Ev P gl f args m K:=by
 intro φ G w vs hm Z BP BE;refine (h φ ⟨G.g,[]⟩ w vs rfl (hm.dv []) Z BP BE).mono ?_;rintro e w' ⟨φ',m',out,H,J,T,AN⟩;exact⟨φ',m',out,H,J.dv G.dv,T,AN⟩
theorem qF(Al:fJ X)(B1:fb X Ak){fn:Func}{c:Code}{args:List AV}{cs:List ay}{out:Out}{l:List (Nat×ay)}(AU:X.P.funcs[f]?=some fn)(E:fn.body=some c)
 (h:lC X f Ak n fn c args cs=some (out,l)):Ev X.P X.gl f args (bS 0 cs) λo m=>o=out/\m=bH 0 l:=by
 unfold lC at h;split at h
 .rename_i M;simp at M;obtain⟨⟨⟨Dg,Dh⟩,BU⟩,BV⟩:=M;refine Ev.dv ?_;intro φ G w vs BF hm D6 Di B8;have BJ:∀k,k∈(bS 0 cs).map (·.key)↔k<cs.length:=λk=>by rw[ve];simp
  have C':∀k∈(X.fp f).sites,k∉(bS 0 cs).map (·.key):=by
   grind
  have CP:∀k L,φ k=some L->k<cs.length/\L.U=0:=λk L A7=>by
   have A9:=hm.kI k L A7;obtain⟨e,he,rfl⟩:=Xt.1 A9;obtain⟨L',Aj,AO,_⟩:=hm.de e he;rw[A7]at Aj;cases Aj;exact⟨(BJ _).1 A9,by rw[AO];exact xF cs 0 e he⟩
  have D7:=hm.add BV C';have C0:az φ (bS 0 cs) w (φ.add (X.fp f).sites) (bS 0 cs++(X.fp f).sites.map dead) w:=⟨At hm C',λ_ _ _=>rfl,λb _ AA=>(tE C' b).1 AA,Ds _,rfl,rfl,rfl⟩;refine calls_of_wp AU E ?_;obtain⟨S0,BG⟩:∃S0,S0=entry fn.ntmps X.gl args cs (X.fp f).sites:=⟨_,rfl⟩;have A:Rel (φ.add (X.fp f).sites) G S0 {tmps:=vs++Array.replicate (fn.ntmps-vs.size) undef,defers:=[]} w:=by
   rw[BG];refine⟨by simp[entry];omega,BF.symm,λt x AP=>?_,D7,?_⟩
   .obtain⟨j,rfl,AD⟩:=qf 0 args t _ AP;have CI:j<vs.size:=by grind
    have e:(vs++Array.replicate (fn.ntmps-vs.size) undef).getD (0+j) undef=vs[j]:=by
     simp;grind
    exact C0.av (B8 j x _ AD (by grind))
   .exact C0.fY D6
  rw[<-BG]at h;cases C1:den X f Ak n c S0 with
  |none=>rw[C1]at h;cases h
  |some q=>
   obtain⟨e,I⟩:=q;rw[C1]at h;obtain⟨Dj,Dk,AX⟩:=A2 Al B1 c S0 e I C1 (by rw[BG];rfl) (by rw[BG];exact Al.HP f fn c AU E BU);refine wp_mono (AX _ G _ w A) λe' W w' AC=>?_;obtain⟨φ',_,A3,Y,he⟩:=AC.is;have CQ:az φ (bS 0 cs) w φ' I.mem w':=by
    have:S0.mem=bS 0 cs++(X.fp f).sites.map dead:=by rw[BG];rfl
    rw[this]at Y;exact C0.trans Y
   have CS:finish X.P (X.fp f) cs.length fn.results.toList I=some (out,l)->
    W.defers=[]/\∃v,(results fn W.tmps).run X.P w'=.ok v w'/\∃BQ m' CT,(CT=out/\m'=bH 0 l)/\aE BQ G m' w'/\az φ (bS 0 cs) w BQ m' w'/\jh BQ w' (Fo G BQ m') CT (.returned v):=by
    intro BR;unfold finish at BR;split at BR
    .rename_i D8 xs CA;split at BR
     .rename_i D9;obtain⟨Av,H,J,T⟩:=qc A3 fn.results.toList D8 xs CA D9;obtain⟨AK,Ag,rfl,g1,g2,g3,g4,_⟩:=mL BR A3.mem A3.fY J T CQ CP;have DA:(results fn W.tmps).run X.P w'=.ok (if h:Av.toArray.size=1 then Av.toArray[0]else .tuple Av.toArray) w':=by
       have e:results fn W.tmps=(do let vs <-fn.results.mapM (sn W.tmps);pure (if h:vs.size=1 then vs[0]else .tuple vs)):=by
        congr 1
       rw[e,Array.mapM_eq_mapM_toList];simp_all
      refine⟨A3.defers.trans BF,_,DA,AK,_,_,⟨rfl,rfl⟩,g1,g2,?_⟩;show ai AK w' _ (oneOf Ag) _;by_cases Dl:Av.length=1
      .obtain⟨v,rfl⟩:∃v,Av=[v]:=by
        cases Av with
        |nil=>grind
        |cons v r=>grind
       obtain⟨y,rfl⟩:∃y,Ag=[y]:=by
        cases Ag with
        |nil=>grind
        |cons v r=>grind
       simpa [oneOf]using g4 0 y v (by simp) (by simp)
      .have e:oneOf Ag=.bc Ag:=by
        cases Ag with
        |nil=>rfl
        |cons y r=>cases r with|nil=>grind|cons _ _=>rfl
       rw[e,dif_neg (by grind)];exact .bc Ag Av.toArray (by grind) (λi y v h CU=>g4 i y v h (by grind))
     grind
    grind
   cases e' with
   |normal=>cases he;exact CS h
   |ret=>cases he;exact CS h
   |exit id=>cases he;cases h
   |panic chain=>
    obtain⟨t,x,v,rfl,rfl,V⟩:=he;have CU:kW (X.fp f) cs.length I [] (λ_=>.panic t x)=some (out,l):=h;obtain⟨AK,Ag,rfl,g1,g2,_,_,g5⟩:=mL (vs:=[]) CU A3.mem A3.fY rfl (by simp) CQ CP;exact⟨A3.defers.trans BF,AK,_,_,⟨rfl,rfl⟩,g1,g2,v,rfl,V.mono (λ_ _ _=>rfl) (Ds _) (λb _=>g5 b)⟩
   |_=>grind
 grind
theorem Ev.split{P:Program}{gl f r m K}(H:Ev P gl f (.lit (.slice none 0 0)::r) m K)(J:Ev P gl f (.nn::r) m K):Ev P gl f (.d (.list [])::r) m K:=by
 intro φ G w vs hm Z BP BE;have go:∀y,(∀v,vs[0]?=some v->ai φ w (Fo G φ m) y v)->∀(i:Nat) x v,(y::r)[i]?=some x->vs[i]?=some v->ai φ w (Fo G φ m) x v:=by
  grind
 have Dn:0<vs.size:=by grind
 have AJ:=BE 0 (.d (.list [])) vs[0] (by simp) (by grind);generalize Do:vs[0]=v0 at AJ;have C2:vs[0]?=some v0:=by grind
 cases AJ with
 |d _ _ V=>
  cases V with
  |nil a cap A4=>
   cases a with
   |none=>
    have:=A4 rfl;subst this;exact H φ G w vs hm Z (by grind) (go _ (λv AG=>by rw[C2]at AG;cases AG;exact .lit _ rfl))
   |some a=>exact J φ G w vs hm Z (by grind) (go _ (λv AG=>by rw[C2]at AG;cases AG;exact .nn a cap))
  |list _ b off cap sz Dp=>exact J φ G w vs hm Z (by grind) (go _ (λv AG=>by rw[C2]at AG;cases AG;exact .nn _ cap))
theorem cN{r:Option (Out×List (Nat×ay))}{sz:Nat}(h:ld r=some sz):r=some (.ret (.vec 0 0 0 0),[(0,.vec sz [])]):=by
 unfold ld at h;grind
theorem B3{h:List AV->Option AV}{args:List AV}{cs:List ay}{r:Out×List (Nat×ay)}(A:fa h args cs=some r):cs=[]/\∃d,h args=some d/\r=(.ret d,[]):=by
 unfold fa at A;grind
theorem toDs_eq:∀{args:List AV}{BS:List D},toDs args=some BS->args=BS.map .d
 |[],BS,h=>by
  simp[toDs]at h;grind
 |y::r,BS,h=>by
  cases A:toDs r with
  |none=>unfold toDs at h;grind
  |some Ag=>
   unfold toDs at h;rw[A]at h;cases y<;>cases h;rw[toDs_eq A];rfl
theorem LV(Al:fJ X){g:FuncId}{h:List AV->Option AV}(Z:X.rD g=some h){args:List AV}{cs:List ay}{out:Out}{l:List (Nat×ay)}(A:fa h args cs=some (out,l)):
 dC X.P g=true/\Ev X.P X.gl g args (bS 0 cs) λo m=>o=out/\m=bH 0 l:=by
 obtain⟨M,DB⟩:=Al.rD g h Z;refine⟨M,?_⟩;obtain⟨rfl,d,V,he⟩:=B3 A;cases he;intro φ G w vs hm A6 BP BE;have CV:∀b,ek φ (bS 0 []) b->False:=by
  rintro b ⟨e,he,_⟩;simp[bS]at he
 refine (DB args d V φ (Fo G φ (bS 0 [])) w vs A6 (λb E=>E.elim (hm.bound b) λh=>(CV b h).elim) BP BE).mono ?_;rintro e w' ⟨v,rfl,E,BF⟩;refine⟨φ,bS 0 [],.ret d,⟨rfl,rfl⟩,⟨hm.nodup,hm.kI,λe he=>by simp[bS]at he,λe he=>by simp[bS]at he,λb E=>(CV b E).elim,λb DC=>Yf (hm.bound b DC) E.size⟩,⟨aQ.le_refl _,λb Bm _=>E.block b Bm,λb _ AA=>AA,E.size,E.os,E.tape,E.output⟩,?_⟩;exact BF
end
def N3(φ:aQ)(w:World)(F:Nat->Prop)(x:DF)(d:Deferred):Prop:=
 ∃Y:Array Value,d.target=.fn (.func x.1) Y/\x.2.length=(d.args++Y).size/\∀(i:Nat) y v,x.2[i]?=some y->(d.args++Y)[i]?=some v->ai φ w F y v
def jm(φ:aQ)(w:World)(F:Nat->Prop):List DF->List Deferred->Prop
 |[],[]=>True
 |x::xs,d::D=>N3 φ w F x d/\jm φ w F xs D
 |_,_=>False
def jm.keeps{φ m w φ' m' w'}{G:Fr}(h:az φ m w φ' m' w'):∀{xs:List DF}{D:List Deferred},jm φ w (Fo G φ m) xs D->jm φ' w' (Fo G φ' m') xs D
 |[],[],_=>trivial
 |x::xs,d::D,⟨⟨Y,A5,A1,A3⟩,A8⟩=>⟨⟨Y,A5,A1,λi y v A9 q=>h.av (A3 i y v A9 q)⟩,jm.keeps h A8⟩
 |[],_::_,AO=>AO.elim
 |_::_,[],AO=>AO.elim
def qG(n:Nat)(φ:aQ)(g:Nat->Prop)(m:Mem)(w:World)(e:XE)(A:St)(E:List DF)(e':Exit)(J:Act)(w':World):Prop:=
 ∃φ' Z,A.n=n/\Rel φ' ⟨g,Z⟩ A J w'/\az φ m w φ' A.mem w'/\jm φ' w' (Fo ⟨g,Z⟩ φ' A.mem) E Z/\(match e' with
  | .normal=>e=.normal
  | .exit id=>e=.exit id
  | .ret=>e=.ret
  | .panic chain=>∃t x v,e=.panic t x/\chain=[{v:=.iface t v,recovered:=false}]/\aq w' (Fo ⟨g,Z⟩ φ' A.mem) x v
  |_=>False)
def qG.weaken{n:Nat}{φ AX:aQ}{g:Nat->Prop}{m m1:Mem}{w AY:World}{e A E e' J w'}(h:qG n AX g m1 AY e A E e' J w')(Aj:az φ m w AX m1 AY):qG n φ g m w e A E e' J w':=by
 obtain⟨φ',Z,A5,A1,A3,A8,T⟩:=h;exact⟨φ',Z,A5,A1,Aj.trans A3,A8,T⟩
def A6{S:St}{o:Oper}{d:DF}(h:jT S o=some d):o.guard=none/\∃c AA args AJ g AD,o.op=.defer c/\c={callee:=.value AA,args,argTypes:=AJ}/\S.ag AA=(true,.fn g AD)/\g<my/\er S args.toList=true/\d=(g,bw S args.toList++AD):=by
 unfold jT at h;split at h
 .rename_i AA args AJ AP AQ;unfold Pz at h;split at h
  .rename_i g AD AK;split at h
   .rename_i AE;cases h;simp only[Xl,XK]at AE;exact⟨AP,_,AA,args,AJ,g,AD,AQ,rfl,AK,AE.2,AE.1,rfl⟩
   .cases h
  .cases h
 .cases h
section
variable {X:Ctx} {A':aJ} {f:FuncId} {n:Nat}
theorem qH{md:Bool}{all:List Oper}(A4:fb X A'):∀(ops:List Oper)(S:St)(D:List DF)(e:XE)(A:St)(E:List DF),cO X A' md all ops S D=some (e,A,E)->S.gl=X.gl->fC S.n ops=true->
 A.n=S.n/\A.gl=S.gl/\∀φ g dv a w,Rel φ ⟨g,dv⟩ S a w->jm φ w (Fo ⟨g,dv⟩ φ S.mem) D dv->∀Q:Exit->Act->World->Prop,(∀e' J w',qG S.n φ g S.mem w e A E e' J w'->Q e' J w')->wpList X.P all.toArray Q ops a w
 |[],S,D,e,A,E,h,N,I=>by
  simp only[cO,Xn,XB]at h;obtain⟨rfl,rfl,rfl⟩:=h;exact⟨rfl,rfl,λφ g dv a w H M Q AB=>AB .normal _ _ ⟨φ,dv,rfl,H,az.refl ..,M,rfl⟩⟩
 |o::rest,S,D,e,A,E,h,N,I=>by
  simp only[fC,YL,Xl]at I;obtain⟨AZ,I⟩:=I;have A_:∀t,o.dst=some t->t<S.n:=λt Ak=>by rw[Ak]at AZ;simpa using AZ
  simp only[cO]at h;cases AR:jT S o with
  |some d=>
   rw[AR]at h;simp only at h;obtain⟨AP,c,AA,args,AJ,g0,AD,AQ,Al,AK,An,AE,rfl⟩:=A6 AR;obtain⟨AF,AH,AS⟩:=qH A4 rest (S.put o.dst true .aA) _ e A E h ((gI ..).trans N) (by rw[hH];exact I);refine⟨AF.trans (hH ..),AH.trans (gI ..),λφ g dv a w H M Q AB=>?_⟩;have AT:=H.ag AA (by rw[AK]);rw[AK]at AT;generalize Ao:a.eval AA=Ay at AT;cases AT with
   |lJ _ _ Y Aa Ab=>exact absurd An (Nat.not_lt.2 (Yq _ _))
   |fn _ _ Y Az Aa Ab=>
    have Ap:(execOp a.eval o).run X.P w=.ok (.defer {target:=.fn (.func g0) Y,args:=args.map a.eval}) w:=by
     simp[execOp,AQ,Al,resolve,Ao,Deferred.ofValue]
    have hw:Region.wanted o (yielded all.toArray a.tmps)=true:=by simp[Region.wanted,AP]
    unfold wpList;rw[Xz hw];left;unfold Oper.wp;rw[Ap,Oper.upon_defer];have Aq:Rel φ ⟨g,{target:=.fn (.func g0) Y,args:=args.map a.eval}::dv⟩ S {a with defers:={target:=.fn (.func g0) Y,args:=args.map a.eval}::a.defers} w:=
     ⟨H.size,by rw[H.defers],H.env,H.mem.dv _,H.fY⟩
    have AU:=Aq.put o.dst A_ true .aA undef (λ_=>.aA _);refine AS φ g _ _ w AU ⟨⟨Y,rfl,?_,?_⟩,?_⟩ Q (λe' a2 AL U=>AB e' a2 AL ?_)
    .rw[Xx,eO];simp[Aa]
    .intro i y v A9 q;rw[cH];by_cases hi:i<args.size
     .rw[Xr (by rw[eO];simpa using hi),oY]at A9;rw[XY (by simpa using hi)]at q;simp only[Array.getElem?_map,Xj]at q;obtain⟨z,Ac,rfl⟩:=q;obtain⟨B',Ad,rfl⟩:=Xj.1 A9;rw[X1,Ac]at Ad;cases Ad;exact H.ag z (og AE z (by simpa using Array.mem_of_getElem? Ac))
     .rw[Xu (by rw[eO];simpa using hi),eO]at A9;rw[Array.getElem?_append_right (by simpa using hi)]at q;simp only[Array.size_map,Xs]at A9 q;exact Ab _ _ v A9 q
    .rw[cH];exact M
    .rw[hH,cH]at U;exact U
  |none=>
   rw[AR]at h;simp only at h;cases AV:iS X A' md all S o with
   |none=>rw[AV]at h;cases h
   |some p=>
    obtain⟨O,S1⟩:=p;rw[AV]at h;obtain⟨V,A0,Ar,Ae⟩:=nR A4 N A_ AV;rcases Ar with rfl|⟨t0,B0,rfl⟩
    .simp only[zr]at h;obtain⟨AF,AH,AS⟩:=qH A4 rest S1 D e A E h (A0.trans N) (by rw[V];exact I);refine⟨AF.trans V,AH.trans A0,λφ g dv a w H M Q AB=>?_⟩;have:=Ae φ ⟨g,dv⟩ a w H (wpList X.P all.toArray Q rest) Q
      (λ_ φ' J w' AI A7=>AS φ' g dv J w' AI (M.keeps A7) Q (λe' a2 AL U=>AB e' a2 AL (by rw[<-V];exact U.weaken A7))) (λt x he=>by cases he)
     unfold wpList;split
     .rename_i hw;rw[Xz hw]at this;exact .inl this
     .rename_i hw;rw[Xq hw]at this;exact this
    .simp only[zr,Xn,XB]at h;obtain⟨rfl,rfl,rfl⟩:=h;refine⟨V,A0,λφ g dv a w H M Q AB=>?_⟩;have:=Ae φ ⟨g,dv⟩ a w H (wpList X.P all.toArray Q rest) Q
      (λhe=>by cases he) (λt x he φ' J w' v AI A7 q=>AB (.panic _) J w' ⟨φ',dv,V,AI,A7,M.keeps A7,t,x,v,he,rfl,q⟩)
     unfold wpList;split
     .rename_i hw;rw[Xz hw]at this;exact .inl this
     .rename_i hw;rw[Xq hw]at this;exact this
theorem CG(AM:fJ X)(A4:fb X A'){c:Code}{S:St}{D:List DF}{e:XE}{A:St}{E:List DF}(h:qw D (den X f A' n c S)=some (e,A,E))(N:S.gl=X.gl)(I:cw X f S.n c=true):
 A.n=S.n/\A.gl=S.gl/\∀φ g dv a w,Rel φ ⟨g,dv⟩ S a w->jm φ w (Fo ⟨g,dv⟩ φ S.mem) D dv->c.wp X.P (qG S.n φ g S.mem w e A E) a w:=by
 cases W:den X f A' n c S with
 |none=>rw[W]at h;cases h
 |some p=>
  obtain⟨O,S1⟩:=p;rw[W]at h;simp only[qw,Xn,XB]at h;obtain⟨rfl,rfl,rfl⟩:=h;obtain⟨A5,A1,A3⟩:=A2 AM A4 c S O S1 W N I;refine⟨A5,A1,λφ g dv a w H M=>wp_mono (A3 φ ⟨g,dv⟩ a w H) λe' J w' U=>?_⟩;obtain⟨φ',As,AI,A7,he⟩:=U.is;exact⟨φ',dv,As,AI,A7,M.keeps A7,by cases e'<;>exact he⟩
theorem JX(AM:fJ X)(A4:fb X A')(c:Code):∀(S:St)(D:List DF)(e:XE)(A:St)(E:List DF),eI X f A' n c S D=some (e,A,E)->S.gl=X.gl->cw X f S.n c=true->
 A.n=S.n/\A.gl=S.gl/\∀φ g dv a w,Rel φ ⟨g,dv⟩ S a w->jm φ w (Fo ⟨g,dv⟩ φ S.mem) D dv->c.wp X.P (qG S.n φ g S.mem w e A E) a w:=by
 induction c with
 |seq a b At Au=>
  intro S D e A E h N I;simp only[cw,Xl]at I;simp only[eI]at h;cases W:eI X f A' n a S D with
  |none=>rw[W]at h;cases h
  |some p=>
   obtain⟨O,S1,AC⟩:=p;obtain⟨V,A0,AN⟩:=At S D O S1 AC W N I.1;have stop:O≠.normal->e=O/\A=S1/\E=AC:=λhe=>by
    rw[W]at h;cases O with
    |normal=>exact absurd rfl he
    |_=>simp only[AG,Xn,XB]at h;exact⟨h.1.symm,h.2.1.symm,h.2.2.symm⟩
   by_cases he:O=.normal
   .subst he;rw[W]at h;simp only[AG]at h;obtain⟨AF,AH,Av⟩:=Au S1 AC e A E h (A0.trans N) (by rw[V];exact I.2);refine⟨AF.trans V,AH.trans A0,λφ g dv ac w H M=>wp_seq (wp_mono (AN φ g dv ac w H M) λe' J w' U=>?_)⟩;obtain⟨φ',Z,A5,A1,A3,A8,T⟩:=U;cases e' with
    |normal=>exact wp_mono (Av φ' g Z J w' A1 A8) λB1 a2 AL Af=>by rw[V]at Af;exact Af.weaken A3
    |exit id=>cases T
    |ret=>cases T
    |panic chain=>obtain⟨t,x,v,AW,_⟩:=T;cases AW
    |_=>exact T.elim
   .obtain⟨rfl,rfl,rfl⟩:=stop he;refine⟨V,A0,λφ g dv ac w H M=>wp_seq (wp_mono (AN φ g dv ac w H M) λe' J w' U=>?_)⟩;cases e' with
    |normal=>obtain⟨_,_,_,_,_,_,T⟩:=U;exact absurd T he
    |_=>exact U
 |region id ops draw=>
  intro S D e A E h N I;simp only[eI]at h;split at h
  .rename_i Ag;simp only[Xl,Bool.not_eq_true']at Ag;obtain⟨rfl,_⟩:=Ag;simp only[cw,Xl]at I;have Aw:fC S.n ops.toList=true:=I.1;cases W:cO X A' (X.md f id) ops.toList ops.toList S D with
   |none=>rw[W]at h;cases h
   |some p=>
    obtain⟨O,S1,AC⟩:=p;rw[W]at h;obtain⟨V,A0,AN⟩:=qH A4 ops.toList S D O S1 AC W N Aw;have Ah:∀φ g dv a w,Rel φ ⟨g,dv⟩ S a w->jm φ w (Fo ⟨g,dv⟩ φ S.mem) D dv->(Code.region id ops false).wp X.P (qG S.n φ g S.mem w O S1 AC) a w:=
     λφ g dv a w H M=>wp_region_lit (AN φ g dv a w H M _ (λ_ _ _ h=>h))
    by_cases he:O=.normal
    .subst he;simp only[sE,Xn,XB]at h;obtain⟨rfl,rfl,rfl⟩:=h;obtain⟨t1,t2,t3⟩:=mO X f id S1;refine⟨t1.trans V,t2.trans A0,λφ g dv a w H M=>wp_mono (Ah φ g dv a w H M) λe' J w' U=>?_⟩;obtain⟨φ',Z,A5,A1,A3,A8,T⟩:=U;cases e' with
     |normal=>
      obtain⟨Ax,AU,Ai⟩:=t3 φ' ⟨g,Z⟩ J w' A1;exact⟨Ax,Z,t1.trans A5,AU,A3.trans Ai,A8.keeps Ai,rfl⟩
     |exit id=>cases T
     |ret=>cases T
     |panic chain=>obtain⟨t,x,v,AW,_⟩:=T;cases AW
     |_=>exact T.elim
    .have:e=O/\A=S1/\E=AC:=by
      cases O with
      |normal=>exact absurd rfl he
      |_=>simp only[sE,Xn,XB]at h;exact⟨h.1.symm,h.2.1.symm,h.2.2.symm⟩
     obtain⟨rfl,rfl,rfl⟩:=this;exact⟨V,A0,Ah⟩
  .exact CG AM A4 h N I
 |_=>intro S D e A E h N I;exact CG AM A4 (by simpa only[eI]using h) N I
end
abbrev Ru:=FuncId->Array Value->World->(Ending->World->Prop)->Prop
def A7(C:Ru):Prop:=∀f vs w R A',C f vs w R->(∀e w',R e w'->A' e w')->C f vs w A'
def A8(C:Ru)(gl:List (Nat×D))(f:FuncId)(args:List AV)(m:Mem)(K:Out->Mem->Prop):Prop:=
 ∀φ G w (vs:Array Value),aE φ G m w->b5 w (Fo G φ m) gl->args.length=vs.size->(∀(i:Nat) x v,args[i]?=some x->vs[i]?=some v->ai φ w (Fo G φ m) x v)->
  C f vs w λe w'=>∃φ' m' out,K out m'/\aE φ' G m' w'/\az φ m w φ' m' w'/\jh φ' w' (Fo G φ' m') out e
def A8.LF{C:Ru}(T:A7 C){gl f args}{cs:List ay}{out:Out}{A:List (Nat×ay)}(h:A8 C gl f args (bS 0 cs) λo m=>o=out/\m=bH 0 A)(A0:cs.length<=A.length):
 A8 C gl f args (bS 0 cs) λo m=>o=xA cs.length A out/\m=bH 0 (cd (bH 0 A) (List.range cs.length) (λ_=>true) (λ_ v=>v) 0 (List.range cs.length)):=by
 intro φ G w vs hm U AD AE;refine T _ _ _ _ _ (h φ G w vs hm U AD AE) ?_;rintro e w' ⟨φ',m',V,⟨rfl,rfl⟩,M,E,H⟩;obtain⟨s1,s2,AF⟩:=tD (G1:=G) (ρ:=List.range cs.length) (bor:=λ_=>true) (nv:=λ_ v=>v) M List.nodup_range (λk N=>pJ A 0 k (Nat.zero_le _) (by simp at N;omega)) (λb h=>.inl h) (λb h=>M.fX b h.own)
  (λk e L b U _ _ W Z=>M.fX _ ⟨e,(Mem.get_mem U).1,L,by rw[(Mem.get_mem U).2];exact W,Z⟩)
 refine⟨_,_,_,⟨rfl,rfl⟩,s1,⟨?_,E.rN,?_,E.size,E.os,E.tape,E.output⟩,?_⟩
 .intro k L W;have N:k<cs.length:=by
   have:=hm.kI k L W;rw[Au,kT]at this;simpa using this
  obtain⟨L',a,AG,AH⟩:=E.le k L W;exact⟨L',by simp[aQ.dX,N,a],AG,AH⟩
 .intro b AI Z;exact E.own b AI ((py (φ:=φ') (nv:=λ_ v=>v) (bor:=λ_=>true) (λk N=>pJ A 0 k (Nat.zero_le _) (by simp at N;omega)) b).1 Z).own
 .cases V with
  |ret x=>
   cases e with
   |returned v=>exact (s2 x v H).norm
   |_=>exact H.elim
  |panic t x=>
   cases e with
   |panicked chain=>
    obtain⟨v,Y,J⟩:=H;exact⟨v,Y,J.mono (λ_ _ _=>rfl) (Ds _) (λb _=>AF b)⟩
   |_=>exact H.elim
def B4{C:Ru}(T:A7 C){gl:List (Nat×D)}{A1:aJ}(AJ:∀g args cs out l,A1 g args cs=some (out,l)->A8 C gl g args (bS 0 cs) λo m=>o=out/\m=bH 0 l)
 {m:Mem} {A2:Nat} {g:FuncId} {I:List AV} {mt:List Nat} {res:cK} (h:cm A1 m A2 g I mt=some res) {φ:aQ} {G:Fr} {w:World} (hm:aE φ G m w) (AK:b5 w (Fo G φ m) gl)
 {vs:Array Value} (A0:I.length=vs.size) (AL:∀(i:Nat) x v,I[i]?=some x->vs[i]?=some v->ai φ w (Fo G φ m) x v):
 C g vs w λe w'=>∃φ',aE φ' G (aI m res.es) w'/\az φ m w φ' (aI m res.es) w'/\jh φ' w' (Fo G φ' (aI m res.es)) res.out e:=by
 unfold cm iR iQ at h;obtain⟨ρ,A3⟩:∃ρ,ρ=collect m 64 (gN mt 0 I) []:=⟨_,rfl⟩;have A4:=ki m 64 (gN mt 0 I) [] List.nodup_nil (by simp);rw[<-A3]at h A4;generalize (nN mt 0 I).filter (λk=>!ρ.contains k)=B at h;clear A3;obtain⟨A5,A6⟩:=A4;unfold cL at h;split at h
 .rename_i out A AM;split at h
  .rename_i Y;cases h;have A9:A8 C gl g (dN (mt.contains 1000) m ρ B I) (bS 0 (jy (cd m ρ (λk=>B.contains k) dL 0 ρ))) λo m=>o=out/\m=bH 0 A:=by
    obtain⟨AY,AZ,AN,a⟩:=sJ AM;have AA:=AJ _ _ _ _ _ AN;rcases a with ⟨rfl,rfl⟩|⟨A_,rfl,rfl⟩
    .exact AA
    .have AB:(jy (cd m ρ (λk=>B.contains k) dL 0 ρ)).length=ρ.length:=by rw[nQ,lv]
     have:=AA.LF T (by rw[AB];omega);rw[AB]at this;exact this
   simp only[Xl,Bool.or_eq_true,XK]at Y;obtain⟨⟨Aa,AO⟩,AP⟩:=Y;rw[sI]at A9;obtain⟨v1,v2,v3⟩:=yg (B:=B) hm A5 A6;have AQ:∀(i:Nat) x v,(dN (mt.contains 1000) m ρ B I)[i]?=some x->vs[i]?=some v->ai (φ.dX ρ dL) w (Fo (gx φ G m ρ B) (φ.dX ρ dL) (bH 0 (cd m ρ (λk=>B.contains k) dL 0 ρ))) x v:=by
    intro i x v J AR;rw[qA]at J;obtain⟨y,AS,rfl⟩:=Xj.1 J;exact (v2 y v (AL i y v AS AR)).uu
   have AT:b5 w (Fo (gx φ G m ρ B) (φ.dX ρ dL) (bH 0 (cd m ρ (λk=>B.contains k) dL 0 ρ))) gl:=
    AK.mono (λ_ _ _=>rfl) (Ds _) (λb _=>v3 b)
   refine T _ _ _ _ _ (A9 (φ.dX ρ dL) (gx φ G m ρ B) w _ v1 AT (by rw[mu];exact A0) AQ) ?_;rintro e w' ⟨Ab,m2,V,⟨rfl,rfl⟩,AU,AW,H⟩;have q:B=[]\/(plainO V=true/\jl A=true):=AP.imp (by simp) id;obtain⟨φ',M,E,AC⟩:=yh (B:=B) hm A5 A6 (fr:=List.range' (A2+1) (A.length-ρ.length)) List.nodup_range' (u6 AO) AU AW (by simp;omega) (q.imp id λO=>qB O.2);refine⟨φ',M,E,?_⟩;cases V with
   |ret x=>
    cases e with
    |returned v=>exact AC x v (q.imp id λO=>O.1) H
    |_=>exact H.elim
   |panic t x=>
    cases e with
    |panicked chain=>
     obtain⟨v,rfl,J⟩:=H;have:=AC (.d x) v (q.imp id λO=>O.1) (.d _ _ J);cases this with
     |d _ _ AX=>exact⟨v,rfl,AX⟩
    |_=>exact H.elim
  .cases h
 .cases h
def yE{P:Program}{ops:Array Oper}{Q:Exit->Act->List Frame->World->Prop}{cs:List Frame}(AA:∀a w,¬Q .outgrown a cs w):∀(l:List Nat)(a:Act)(w:World),
 wpOps P ops (λe a w=>Q e a cs w) l a w->wpOpsS P ops Q l a cs w
 |[],a,w,h=>h
 |i::rest,a,w,h=>by
  have ih:=yE (P:=P) (ops:=ops) AA rest;unfold wpOps at h;unfold wpOpsS;split at h
  .rename_i V;simp only[V];exact ih a w h
  .rename_i o V;simp only[V];split at h
   .rename_i hw;rw[Xz hw];rcases h with h|⟨_,a0,w0,h⟩
    .have T:=Oper.wp_mono (K':=λE w'=>wpOpsS P ops Q rest E cs w') ih h;unfold Oper.wp at T;split
     .rename_i w' H;rw[H]at T;exact T.elim
     .exact T
    .exact absurd h (AA a0 w0)
   .rename_i hw;rw[Xq hw];exact ih _ w h
def DU(c0:Frame)(A:List Frame)(v:Value)(D:FrameMode):Prop:=
 recoverD (c0::A)=some (v,{c0 with mode:=D}::A)\/(recoverD (c0::A)=none/\v=.nilIface/\D=c0.mode)
def xG{o:Oper}(h:sF o=true):o.guard=none/\∃A3,o.op=.call {callee:=.builtin .recover,args:=#[],argTypes:=A3}:=by
 unfold sF at h;split at h
 .rename_i args A3 A5 V;refine⟨A5,A3,?_⟩;rw[V];have:args=#[]:=by
   cases args with
   |mk l=>cases l with
    |nil=>rfl
    |cons a r=>simp at h
  rw[this]
 .cases h
abbrev zu(c0:Frame)(A:List Frame)(D:FrameMode)(n:Nat)(φ:aQ)(G:Fr)(m:Mem)(w:World)(e:XE)(I:St):Exit->Act->List Frame->World->Prop:=
 λe' E y w'=>y={c0 with mode:=D}::A/\iY n φ G m w (Is e I) e' E w'
def qI{P:Program}{c:Code}{Q AB:Exit->Act->List Frame->World->Prop}{a:Act}{cs:List Frame}{w:World}(h:c.wpS P Q a cs w)(AK:∀e a cs w,Q e a cs w->AB e a cs w):c.wpS P AB a cs w:=
 λb k AL H=>let ⟨e,E,y,w',q,r⟩:=h b k AL H;⟨e,E,y,w',AK _ _ _ _ q,r⟩
section
variable {X:Ctx} {A6:aJ} {f:FuncId} {n:Nat}
theorem JY(AM:fJ X)(AC:fb X A6)(A':AV)(c:Code):∀(S:St)(e:XE)(I:St),mr X f A6 n A' c S=some (e,I)->S.gl=X.gl->cw X f S.n c=true->
 I.n=S.n/\I.gl=S.gl/\∀φ G a w c0 A v D,DU c0 A v D->ai φ w (Fo G φ S.mem) A' v->Rel φ G S a w->c.wpS X.P (zu c0 A D S.n φ G S.mem w e I) a (c0::A) w:=by
 induction c with
 |seq a b AD Ad=>
  intro S e I h A1 W;simp only[cw,Xl]at W;simp only[mr]at h;rcases dD h with ⟨S1,Y,T⟩|⟨Y,T⟩
  .obtain⟨M,N,O⟩:=AD S .normal S1 Y A1 W.1;obtain⟨AN,AO,AP⟩:=A2 AM AC b S1 e I T (N.trans A1) (by rw[M];exact W.2);refine⟨AN.trans M,AO.trans N,λφ G ac w c0 A v D J Z H=>wpS_seq (qI (O φ G ac w c0 A v D J Z H) ?_)⟩;rintro e' E y w' ⟨rfl,U⟩;obtain⟨φ',AE,A7,A8,he⟩:=U.is;cases e' with
   |normal=>
    refine wpS_of_wp (wp_mono (AP φ' G E w' A7) λAe a2 Af AF=>⟨rfl,?_⟩);rw[M]at AF;exact AF.weaken A8
   |exit id=>cases he
   |ret=>cases he
   |panic chain=>obtain⟨t,x,v,AQ,_⟩:=he;cases AQ
   |_=>exact he.elim
  .obtain⟨M,N,O⟩:=AD S e I Y A1 W.1;refine⟨M,N,λφ G ac w c0 A v D J Z H=>wpS_seq (qI (O φ G ac w c0 A v D J Z H) ?_)⟩;rintro e' E y w' ⟨rfl,U⟩;cases e' with
   |normal=>obtain⟨φ',_,_,_,he⟩:=U.is;exact absurd he T
   |_=>exact⟨rfl,U⟩
 |region id ops draw=>
  intro S e I h A1 W;simp only[mr]at h;split at h
  .rename_i o r AG;split at h
   .rename_i AR;obtain⟨A5,A3,V⟩:=xG AR;simp only[cw,Xl]at W;have A9:fC S.n ops.toList=true:=W.1;rw[AG]at A9;simp only[fC,YL,Xl]at A9;obtain⟨AH,AS⟩:=A9;have AT:∀t,o.dst=some t->t<S.n:=λt AU=>by rw[AU]at AH;simpa using AH
    have A4:(o::r).toArray=ops:=by rw[<-AG]
    have key:∀A0 S1,ee X A6 (X.md f id) (o::r) r (S.put o.dst true A')=some (A0,S1)->S1.n=S.n/\S1.gl=S.gl/\∀φ G a w c0 A v D,DU c0 A v D->ai φ w (Fo G φ S.mem) A' v->Rel φ G S a w->
     (Code.region id ops false).wpS X.P (zu c0 A D S.n φ G S.mem w A0 S1) a (c0::A) w:=by
     intro A0 S1 Y;obtain⟨M,N,O⟩:=sN AC r (S.put o.dst true A') A0 S1 Y ((gI ..).trans A1) (by rw[hH];exact AS);rw[hH]at M O;rw[gI]at N;rw[cH]at O;refine⟨M,N,λφ G a w c0 A v D J Z H=>wpS_region ?_⟩;have AW:List.range ops.size=0::List.range' 1 r.length:=by
      rw[<-A4];simp[List.range_eq_range',Yj]
     have AX:ops[0]?=some o:=by rw[<-A4];simp
     have AY:(execOp a.eval o).run X.P w=.ok .recover w:=by
      simp[execOp,V,resolve,Deferred.ofValue,invoke,builtin]
     have AZ:=H.put o.dst AT true A' v (λ_=>Z);have AI:=O φ G _ w AZ (λe a w'=>zu c0 A D S.n φ G S.mem w A0 S1 e a ({c0 with mode:=D}::A) w') (λe' E w' U=>⟨rfl,U⟩);rw[A4,<-wpOps_eq_wpList r 1 (λj=>by rw[<-A4];simp[Nat.add_comm])]at AI;have AJ:=yE (Q:=zu c0 A D S.n φ G S.mem w A0 S1) (cs:={c0 with mode:=D}::A) (λ_ _ hh=>hh.2) _ _ _ AI;rw[AW];unfold wpOpsS;simp only[AX];rw[Xz (by simp[Region.wanted,A5])];simp only[AY];rcases J with J|⟨J,rfl,rfl⟩
     .rw[J];exact AJ
     .rw[J];exact AJ
    unfold qv at h;split at h
    .rename_i S1 Y;cases h;obtain⟨M,N,O⟩:=key _ _ Y;obtain⟨t1,t2,t3⟩:=mO X f id S1;refine⟨t1.trans M,t2.trans N,λφ G a w c0 A v D J Z H=>qI (O φ G a w c0 A v D J Z H) ?_⟩;rintro e' E y w' ⟨rfl,U⟩;refine⟨rfl,?_⟩;obtain⟨φ',AE,A7,A8,he⟩:=U.is;cases e' with
     |normal=>
      obtain⟨A_,Aa,Ab⟩:=t3 φ' G E w' A7;exact⟨A_,_,t1.trans AE,⟨rfl,rfl⟩,Aa,A8.trans Ab⟩
     |exit id=>cases he
     |ret=>cases he
     |panic chain=>obtain⟨t,x,v,Ac,_⟩:=he;cases Ac
     |_=>exact he.elim
    .exact key _ _ h
   .cases h
  .cases h
 |_=>intro S e I h;simp[mr]at h
end
section
variable {X:Ctx} {A4:aJ} {f:FuncId} {n:Nat}
theorem A9{fn:Func}{args:List AV}{cs:List ay}(AL:args.length<=fn.ntmps)(AM:cs.length<=100)(Z:∀k∈(X.fp f).sites,100<=k)(A5:(X.fp f).sites.Nodup)
 {φ:aQ} {G:Fr} {w:World} {vs:Array Value} (A6:G.dv=[]) (hm:aE φ G (bS 0 cs) w) (AA:b5 w (Fo G φ (bS 0 cs)) X.gl) (AB:args.length=vs.size)
 (AC:∀(i:Nat) x v,args[i]?=some x->vs[i]?=some v->ai φ w (Fo G φ (bS 0 cs)) x v):
 Rel (φ.add (X.fp f).sites) G (entry fn.ntmps X.gl args cs (X.fp f).sites) {tmps:=vs++Array.replicate (fn.ntmps-vs.size) undef,defers:=[]} w/\
  az φ (bS 0 cs) w (φ.add (X.fp f).sites) (entry fn.ntmps X.gl args cs (X.fp f).sites).mem w/\(∀k L,φ k=some L->k<cs.length/\L.U=0):=by
 have AN:∀k,k∈(bS 0 cs).map (·.key)↔k<cs.length:=λk=>by rw[ve];simp
 have AD:∀k∈(X.fp f).sites,k∉(bS 0 cs).map (·.key):=by
  intro k a Aa;have q:=Z k a;have A':=(AN k).1 Aa;omega
 have T:∀k L,φ k=some L->k<cs.length/\L.U=0:=λk L AO=>by
  have a:=hm.kI k L AO;obtain⟨e,he,rfl⟩:=Xt.1 a;obtain⟨L',AP,Ab,_⟩:=hm.de e he;rw[AO]at AP;cases AP;exact⟨(AN _).1 a,by rw[Ab];exact xF cs 0 e he⟩
 have AE:=hm.add A5 AD;have AF:az φ (bS 0 cs) w (φ.add (X.fp f).sites) (bS 0 cs++(X.fp f).sites.map dead) w:=⟨At hm AD,λ_ _ _=>rfl,λb _ Ac=>(tE AD b).1 Ac,Ds _,rfl,rfl,rfl⟩;refine⟨⟨by simp[entry];omega,A6.symm,λt x V=>?_,AE,AF.fY AA⟩,AF,T⟩;obtain⟨j,rfl,AQ⟩:=qf 0 args t _ V;have AG:j<vs.size:=by rw[<-AB];exact (D1.1 AQ).1
 have e:(vs++Array.replicate (fn.ntmps-vs.size) undef).getD (0+j) undef=vs[j]:=by
  simp only[X8,XG];rw[XY AG];simp[AG]
 rw[e];exact AF.av (AC j x _ AQ (by simp[AG]))
theorem yF{fn:Func}{cs:List ay}{out:Out}{l:List (Nat×ay)}{φ φ':aQ}{G:Fr}{N:St}{E:Act}{w w':World}(O:Rel φ' G N E w')(AH:az φ (bS 0 cs) w φ' N.mem w')
 (T:∀k L,φ k=some L->k<cs.length/\L.U=0) (H:finish X.P (X.fp f) cs.length fn.results.toList N=some (out,l)):
 ∃v,(results fn E.tmps).run X.P w'=.ok v w'/\∃A m' W,(W=out/\m'=bH 0 l)/\aE A G m' w'/\az φ (bS 0 cs) w A m' w'/\jh A w' (Fo G A m') W (.returned v):=by
 unfold finish at H;split at H
 .rename_i Ad xs Ae;split at H
  .rename_i Af;obtain⟨J,q,A',AI⟩:=qc O fn.results.toList Ad xs Ae Af;obtain⟨A0,M,rfl,g1,g2,g3,g4,_⟩:=mL H O.mem O.fY A' AI AH T;have Ag:(results fn E.tmps).run X.P w'=.ok (if h:J.toArray.size=1 then J.toArray[0]else .tuple J.toArray) w':=by
    have e:results fn E.tmps=(do let vs <-fn.results.mapM (sn E.tmps);pure (if h:vs.size=1 then vs[0]else .tuple vs)):=by
     unfold results;congr 1
    rw[e,Array.mapM_eq_mapM_toList];simp only[Sem.run_bind,Sem.run_map,q,Result.andThen_ok,Sem.run_pure]
   refine⟨_,Ag,A0,_,_,⟨rfl,rfl⟩,g1,g2,?_⟩;show ai A0 w' _ (oneOf M) _;by_cases AJ:J.length=1
   .obtain⟨v,rfl⟩:∃v,J=[v]:=by
     cases J with
     |nil=>simp at AJ
     |cons v r=>exact⟨v,by cases r with|nil=>rfl|cons _ _=>simp at AJ⟩
    obtain⟨y,rfl⟩:∃y,M=[y]:=by
     cases M with
     |nil=>simp at g3
     |cons v r=>exact⟨v,by cases r with|nil=>rfl|cons _ _=>simp at g3⟩
    simpa [oneOf]using g4 0 y v (by simp) (by simp)
   .have e:oneOf M=.bc M:=by
     cases M with
     |nil=>rfl
     |cons y r=>cases r with|nil=>simp at g3;omega|cons _ _=>rfl
    rw[e,dif_neg (by simpa using AJ)];exact .bc M J.toArray (by simpa using g3) (λi y v h Ah=>g4 i y v h (by simpa using Ah))
  .cases H
 .cases H
def FQ(u:FrameMode)(v:Value):Prop:=(v=.nilIface/\u=.returning)\/∃t x,v=.iface t x/\u=.panicking [{v:=.iface t x,recovered:=false}]
def LY(P:Program):Ru:=λf vs w R=>∀u v,vs.back?=some v->FQ u v->CallsD P f vs.pop u w λe D w'=>settle D=.returning/\R e w'
theorem HR(P:Program):A7 (LY P):=λf vs w R B' h Ai u v I hm=>(h u v I hm).mono λe D w' hh=>⟨hh.1,Ai e w' hh.2⟩
theorem FR(AR:fJ X)(Aj:fb X A4){fn:Func}{c:Code}{args:List AV}{cs:List ay}{out:Out}{l:List (Nat×ay)}(AS:X.P.funcs[f]?=some fn)(AT:fn.body=some c)
 (h:sG X f A4 n fn c args cs=some (out,l)):A8 (LY X.P) X.gl f args (bS 0 cs) λo m=>o=out/\m=bH 0 l:=by
 unfold sG at h;split at h
 .rename_i A1 AU;split at h
  .rename_i AW;simp only[Xl,XK,XN]at AW;obtain⟨⟨⟨AL,AM⟩,Z⟩,A5⟩:=AW;intro φ A2 w vs AE AA AB AC u v I Ak;obtain⟨G,Y⟩:∃G:Fr,G=⟨A2.g,[]⟩:=⟨_,rfl⟩;have A6:G.dv=[]:=by rw[Y]
   have hm:aE φ G (bS 0 cs) w:=by rw[Y];exact AE.dv []
   have Al:b5 w (Fo G φ (bS 0 cs)) X.gl:=by rw[Y];exact AA
   have AX:∀(i:Nat) x v,args[i]?=some x->vs[i]?=some v->ai φ w (Fo G φ (bS 0 cs)) x v:=by rw[Y];exact AC
   have An:args≠[]:=by rintro rfl;cases AU
   have B0:0<args.length:=List.length_pos_iff.2 An;have Ao:args.dropLast.length=vs.pop.size:=by simp;omega
   obtain⟨Ap,AY,T⟩:=A9 (fn:=fn) AL AM Z A5 A6 hm Al Ao (λi x v V I=>by
    have hi:i<args.length-1:=by have:=(D1.1 V).1;simpa using this
    refine AX i x v ?_ ?_
    .rw[List.dropLast_eq_take,List.getElem?_take_of_lt (by omega)]at V;exact V
    .rw[Array.getElem?_pop]at I;rw[Xz (by omega)]at I;exact I)
   have Aq:ai (φ.add (X.fp f).sites) w (Fo G (φ.add (X.fp f).sites) (entry fn.ntmps X.gl args.dropLast cs (X.fp f).sites).mem) A1 v:=by
    refine AY.av (AX (args.length-1) A1 v ?_ ?_)
    .rw[<-List.getLast?_eq_getElem?];exact AU
    .rw[Array.back?]at I;rw[AB];exact I
   cases AK:mr X f A4 n A1 c (entry fn.ntmps X.gl args.dropLast cs (X.fp f).sites)with
   |none=>rw[AK]at h;cases h
   |some p=>
    obtain⟨e,N⟩:=p;rw[AK]at h;obtain⟨B1,B2,Ar⟩:=JY AR Aj A1 c _ e N AK rfl (AR.HP f fn c AS AT Z);refine callsD_of_wpS AS AT λc0 A3 hu=>?_;obtain⟨D,As,Au⟩:∃D,DU c0 A3 v D/\settle D=.returning:=by
     rcases Ak with ⟨rfl,rfl⟩|⟨t,x,rfl,rfl⟩
     .exact⟨.returning,.inr ⟨by simp[recoverD,hu],rfl,hu.symm⟩,rfl⟩
     .exact⟨.panicking [{v:=.iface t x,recovered:=true}],.inl (by simp[recoverD,hu]),by simp[settle]⟩
    refine qI (Ar _ G _ w c0 A3 v D As Aq Ap) ?_;rintro e' E B3 w' ⟨rfl,Av⟩;obtain⟨φ',_,O,Aw,he⟩:=Av.is;have AH:=AY.trans Aw;have AZ:finish X.P (X.fp f) cs.length fn.results.toList N=some (out,l)->E.defers=[]/\∃A_,({c0 with mode:=D}::A3)={c0 with mode:=A_}::A3/\∃v,(results fn E.tmps).run X.P w'=.ok v w'/\(settle A_=.returning/\
     ∃A m' W,(W=out/\m'=bH 0 l)/\aE A A2 m' w'/\az φ (bS 0 cs) w A m' w'/\jh A w' (Fo A2 A m') W (.returned v)):=by
     intro H;obtain⟨v,q,A0,m2,Ax,A',AI,Ay,Az⟩:=yF O AH T H;subst Y;exact⟨O.defers,D,rfl,v,q,Au,A0,m2,Ax,A',AI.dv A2.dv,Ay,Az⟩
    cases e' with
    |normal=>cases he;exact AZ h
    |ret=>cases he;exact AZ h
    |exit id=>cases he;cases h
    |panic chain=>obtain⟨t,x,v,rfl,_⟩:=he;cases h
    |_=>exact he.elim
  .cases h
 .cases h
end
def Jk(X:Ctx)(W:aJ):Prop:=∀g args cs out l,W g args cs=some (out,l)->dC X.P g=true/\A8 (LY X.P) X.gl g args (bS 0 cs) λo m=>o=out/\m=bH 0 l
def zb{M:aJ}{m:Mem}{AP:Nat}{g:FuncId}{AE:List AV}{mt:List Nat}{res:cK}(h:cm M m AP g AE mt=some res):∃args cs out l,M g args cs=some (out,l):=by
 unfold cm iR iQ cL at h;split at h
 .rename_i out B1 N;obtain⟨B2,B3,AF,_⟩:=sJ N;exact⟨_,_,_,_,AF⟩
 .cases h
section
variable {X:Ctx} {M W:aJ} {f:FuncId} {n:Nat}
theorem FT(A:fJ X)(A7:fb X M)(AG:Jk X W){fn:Func}{c:Code}{args:List AV}{cs:List ay}{out:Out}{l:List (Nat×ay)}(D:X.P.funcs[f]?=some fn)(E:fn.body=some c)
 (h:sH X f M W n fn c args cs=some (out,l)):Ev X.P X.gl f args (bS 0 cs) λo m=>o=out/\m=bH 0 l:=by
 unfold sH at h;split at h
 .rename_i AH;simp only[Xl,XK,XN]at AH;obtain⟨⟨⟨AQ,AR⟩,AI⟩,AS⟩:=AH;refine Ev.dv ?_;intro φ G w vs AA hm AT AU AW;obtain⟨A',Y,AJ⟩:=A9 (fn:=fn) AQ AR AI AS AA hm AT AU AW;obtain⟨g,B5⟩:=G;simp only at AA;subst AA;cases AB:eI X f M n c (entry fn.ntmps X.gl args cs (X.fp f).sites) []with
  |none=>rw[AB]at h;cases h
  |some p=>
   obtain⟨e,Z,AK⟩:=p;rw[AB]at h;obtain⟨B6,AX,AY⟩:=JX A A7 c _ _ e Z AK AB rfl (A.HP f fn c D E AI);refine calls_of_wp_defers D E (wp_mono (AY _ g [] _ w A' trivial) λe' H w' AZ=>?_);obtain⟨φ',AL,_,J,A_,A0,he⟩:=AZ;have A1:=Y.trans A_;have Aa:Z.gl=X.gl:=AX;have back:∀{T:aQ}{A2:St}{I:World},Rel T ⟨g,AL⟩ A2 H I->az φ (bS 0 cs) w T A2.mem I->finish X.P (X.fp f) cs.length fn.results.toList A2=some (out,l)->
    ∃v,(results fn H.tmps).run X.P I=.ok v I/\∃A3 m' q,(q=out/\m'=bH 0 l)/\aE A3 ⟨g,[]⟩ m' I/\az φ (bS 0 cs) w A3 m' I/\jh A3 I (Fo ⟨g,[]⟩ A3 m') q (.returned v):=by
    intro T A2 I Ab A4 Ac;obtain⟨v,Ad,Ae,m3,Af,Ag,Ah,Ai,Aj⟩:=yF Ab A4 AJ Ac;exact⟨v,Ad,Ae,m3,Af,Ag,Ah.dv [],Ai,Aj⟩
   match AK,AL,A0 with
   |[],[],_=>
    have O:H.defers=[]:=J.defers;simp only[u4]at h;cases e' with
    |normal=>cases he;show Leaves _ _ _ _ H.defers _ _;rw[O];exact back J A1 h
    |ret=>cases he;show Leaves _ _ _ _ H.defers _ _;rw[O];exact back J A1 h
    |exit id=>cases he;cases h
    |panic chain=>
     obtain⟨t,x,v,rfl,rfl,AC⟩:=he;have Ak:kW (X.fp f) cs.length Z [] (λ_=>.panic t x)=some (out,l):=h;obtain⟨T,AE,rfl,g1,g2,_,_,g5⟩:=mL (vs:=[]) Ak J.mem J.fY rfl (by simp) A1 AJ;show Leaves _ _ _ _ H.defers _ _;rw[O];exact⟨T,_,_,⟨rfl,rfl⟩,g1,g2,v,rfl,AC.mono (λ_ _ _=>rfl) (Ds _) (λb _=>g5 b)⟩
    |_=>exact he.elim
   |[d],[U],⟨Al,_⟩=>
    have O:H.defers=[U]:=J.defers;simp only[u4]at h;have one:∀u A5 y,u≠FrameMode.run->FQ u y->ai φ' w' (Fo ⟨g,[U]⟩ φ' Z.mem) A5 y->u1 e=some A5->
     Leaves X.P fn H.tmps (λe w'=>∃φ' m' q,(q=out/\m'=bH 0 l)/\aE φ' ⟨g,[]⟩ m' w'/\az φ (bS 0 cs) w φ' m' w'/\jh φ' w' (Fo ⟨g,[]⟩ φ' m') q e) [U] u w':=by
     intro u A5 y hu An Ao Ap;rw[Ap]at h;simp only[tN]at h;cases N:cm W Z.mem 0 d.1 (d.2++[A5]) (X.fp d.1).oR with
     |none=>rw[N]at h;cases h
     |some res=>
      rw[N]at h;obtain⟨AD,AM,AN,Aq⟩:=Al;obtain⟨_,_,_,_,Ar⟩:=zb N;have As:=(AG _ _ _ _ _ Ar).1;have At:=B4 (HR X.P) (gl:=X.gl) (λg args cs out l hh=>(AG g args cs out l hh).2) N (φ:=φ') (G:=⟨g,[U]⟩) (w:=w') (vs:=(U.args++AD).push y) J.mem (by rw[<-Aa];exact J.fY)
       (by simp[AN];omega) (λi x v V A6=>by
        by_cases hi:i<d.2.length
        .rw[Xr hi]at V;rw[Array.getElem?_push,Xq (by omega)]at A6;exact Aq i x v V A6
        .have:i=d.2.length:=by
          have:=(D1.1 V).1;simp at this;omega
         subst this;rw[Xu (Ds _)]at V;simp at V;subst V;rw[Array.getElem?_push,Xz AN]at A6;cases A6;exact Ao)
      have AO:=At u y (by simp) An;rw[Array.pop_push]at AO;refine⟨hu,.func d.1,AD,d.1,U.args++AD,AM,by rw[AM];simp[invoke,nP As],AO.mono ?_⟩;rintro Y Au I ⟨Av,T,Aw,A4,Ax⟩;unfold qx at h;split at h
      .rename_i x es ks heq;cases heq;cases Y with
       |returned v2=>
        show Leaves _ _ _ _ [] (settle Au) I;rw[Av];exact back (J.rO Aw A4) (A1.trans A4) h
       |_=>exact Ax.elim
      .cases h
    cases e' with
    |normal=>cases he;show Leaves _ _ _ _ H.defers _ _;rw[O];exact one .returning _ .nilIface (by simp) (.inl ⟨rfl,rfl⟩) (.lit _ rfl) rfl
    |ret=>cases he;show Leaves _ _ _ _ H.defers _ _;rw[O];exact one .returning _ .nilIface (by simp) (.inl ⟨rfl,rfl⟩) (.lit _ rfl) rfl
    |exit id=>cases he;cases h
    |panic chain=>
     obtain⟨t,x,v,rfl,rfl,AC⟩:=he;show Leaves _ _ _ _ H.defers _ _;rw[O];exact one (.panicking [{v:=.iface t v,recovered:=false}]) _ (.iface t v) (by simp) (.inr ⟨t,v,rfl,rfl⟩) (.dF _ _ _ AC) rfl
    |_=>exact he.elim
   |_::_::_,_,_=>cases h
 .cases h
theorem HS(A:fJ X)(A7:fb X M):Jk X (qz X n M):=by
 intro g args cs out l h;unfold qz at h;split at h
 .rename_i fn D;split at h
  .rename_i c E;refine⟨?_,FR A A7 D E h⟩;unfold dC;rw[D];simp[E,A.names g fn D]
  .cases h
 .cases h
theorem Ba(A:fJ X):∀n,fb X (aD X n)
 |0=>λg args cs out l h=>by cases h
 |n+1=>λg args cs out l h=>by
  have ih:=Ba A n;simp only[aD,A.ov]at h;split at h
  .rename_i AF Ay;exact LV A Ay h
  split at h
  .rename_i fn D;split at h
   .rename_i c E;have N:dC X.P g=true:=by
     unfold dC;rw[D];simp[E,A.names g fn D]
    refine⟨N,?_⟩;cases A0:qy c with
    |true=>
     rw[A0]at h;exact FT A ih (HS A ih) D E h
    |false=>
    rw[A0]at h;simp only[tO]at h;unfold eZ at h;split at h
    .split at h
     .rename_i r;unfold gB at h;split at h
      .rename_i a b Az B';split at h
       .rename_i B0;subst B0;have A':=cN Az;have Y:=cN B';rw[A']at h;cases h;exact Ev.split (qF A ih D E A') (qF A ih D E Y)
       .cases h
      .cases h
     .exact qF A ih D E h
    .exact qF A ih D E h
   .cases h
  .cases h
end
def aw{α:Type}(f:Nat->Option α):Prop:=∀n r,f n=some r->f (n+1)=some r
def aw.le{α:Type}{f:Nat->Option α}(h:aw f){n m:Nat}(AX:n<=m){r:α}(U:f n=some r):f m=some r:=by
 induction AX with
 |refl=>exact U
 |step _ ih=>exact h _ _ ih
def aw.const{α:Type}(x:Option α):aw λ_=>x:=λ_ _ h=>h
def aw.bind{α β:Type}{f:Nat->Option α}{g:α->Nat->Option β}(O:aw f)(V:∀x,aw (g x)):aw λn=>(f n).bind λx=>g x n:=by
 intro n r h;obtain⟨x,AA,U⟩:=X5.1 h;simp[O n x AA];exact V x n r U
open Classical in
noncomputable def dQ{α:Type}(f:Nat->Option α):Option α:=if h:∃n,(f n).isSome=true then f (Classical.choose h)else none
def bN{α:Type}{f:Nat->Option α}(O:aw f){r:α}:dQ f=some r↔∃n,f n=some r:=by
 unfold dQ;constructor
 .intro h;split at h
  .grind
  grind
 .rintro ⟨n,W⟩;have hex:∃n,(f n).isSome=true:=⟨n,by grind⟩;rw[dif_pos hex];have AK:=Classical.choose_spec hex;obtain⟨Ak,AL⟩:=Yt.1 AK;rw[AL];rcases Nat.le_total n (Classical.choose hex)with I|I
  .rw[<-AL];exact O.le I W
  .have:=O.le I AL;grind
def aC{α:Type}(x:Option α):dQ (λ_=>x)=x:=by
 cases x with
 |some r=>exact (bN (aw.const _)).2 ⟨0,rfl⟩
 |none=>unfold dQ;grind
def cS{α β:Type}{f:Nat->Option α}{g:α->Nat->Option β}(O:aw f)(V:∀x,aw (g x)):dQ (λn=>(f n).bind λx=>g x n)=(dQ f).bind λx=>dQ (g x):=by
 apply Option.ext;intro r;rw[bN (O.bind V),X5];constructor
 .rintro ⟨n,W⟩;obtain⟨x,AA,U⟩:=X5.1 W;exact⟨x,(bN O).2 ⟨n,AA⟩,(bN (V x)).2 ⟨n,U⟩⟩
 .rintro ⟨x,AA,U⟩;obtain⟨n,W⟩:=(bN O).1 AA;obtain⟨m,hm⟩:=(bN (V x)).1 U;exact⟨max n m,by rw[O.le (Nat.le_max_left n m) W];exact (V x).le (Nat.le_max_right n m) hm⟩
def sV{α:Type}{f:Nat->Option α}(O:aw f):dQ (λn=>f (n+1))=dQ f:=by
 have AY:aw λn=>f (n+1):=λn r h=>O (n+1) r h;apply Option.ext;intro r;rw[bN AY,bN O];exact⟨λ⟨n,h⟩=>⟨n+1,h⟩,λ⟨n,h⟩=>⟨n,O n r h⟩⟩
def aT(k:St->Option (XE×St)):XE×St->Option (XE×St)
 |(.normal,S)=>k S
 |r=>some r
def qJ(r:Option (XE×St))(k:St->Option (XE×St)):andThen r k=r.bind (aT k):=by
 rcases r with _|⟨e,S⟩
 .rfl
 .cases e<;>rfl
def mT(k:St->St):XE×St->Option (XE×St)
 |(.normal,S)=>some (.normal,k S)
 |r=>some r
def pK(k:St->St)(r:Option (XE×St)):qv k r=r.bind (mT k):=by
 rcases r with _|⟨e,S⟩
 .rfl
 .cases e<;>rfl
def bT(id:Nat):XE×St->Option (XE×St)
 |(.exit AQ,S)=>if AQ=id then some (.normal,S)else some (.exit AQ,S)
 |r=>some r
def Bb(id:Nat)(r:Option (XE×St)):wy id r=r.bind (bT id):=by
 rcases r with _|⟨e,S⟩
 .rfl
 .cases e<;>rfl
def cT(m:Mem)(Z:Nat)(ρ B:List Nat)(N:Nat)(b:Bool)(p:Out×List (Nat×ay)):Option cK:=cL m Z ρ B (k7 N b (some p))
def uF(m:Mem)(Z:Nat)(ρ B:List Nat)(N:Nat)(b:Bool)(r:Option (Out×List (Nat×ay))):cL m Z ρ B (k7 N b r)=r.bind (cT m Z ρ B N b):=by cases r<;>rfl
def xH(S:St)(d:Option Nat)(r:Option cK):sB S d r=r.bind λc=>sB S d (some c):=by cases r<;>rfl
def Bc(b:Bool)(m:Mem)(r:Option cK):qq b m r=r.bind λc=>qq b m (some c):=by cases r<;>cases b<;>rfl
def vg(S:St)(o:Oper)(r:Option cK):qt S o r=r.bind λc=>qt S o (some c):=by cases r<;>rfl
def jI(D:List aB)(r:Option (St×aB))(k:St->List aB->Option (XE×St)):zp D r k=r.bind λp=>k p.1 (p.2::D):=by cases r<;>rfl
def Bd(P:Program)(p:c8)(N:Nat)(rs:List ResultVar)(r:Option (XE×St)):fin P p N rs r=r.bind λq=>fin P p N rs (some q):=by cases r<;>rfl
def cC(C:Nat->aJ):Prop:=∀g a c,aw λk=>C k g a c
section
variable {X:Ctx} {C:Nat->aJ} {S:St} {o:Oper} {md:Bool}
theorem o8(A:cC C)(m:Mem)(Z:Nat)(g:FuncId)(AE:List AV)(mt:List Nat):aw (λk=>cm (C k) m Z g AE mt):=by
 unfold cm iR iQ;simp[uF];exact (A _ _ _).bind λ_=>aw.const _
theorem gn(A:cC C)(args:List Operand)(J:Bool×AV):aw (λk=>bf X (C k) S o args J):=by
 unfold bf;split
 .split
  .simp[Bc _ _ (cm _ _ _ _ _ _)];exact (o8 A _ _ _ _ _).bind λ_=>aw.const _
  .exact aw.const _
 .exact aw.const _
theorem B5(A:cC C):aw (λk=>mc X (C k) S o):=by
 unfold mc;split
 .rename_i J args A7 A4;have I:(λk=>sB S o.dst (bf X (C k) S o args.toList (S.ag J)))=λk=>(bf X (C k) S o args.toList (S.ag J)).bind λc=>sB S o.dst (some c):=by
   funext k;exact xH ..
  rw[I];exact (gn A args.toList (S.ag J)).bind (λ_=>aw.const _)
 .exact aw.const _
 .exact aw.const _
theorem o9(A:cC C)(r:bp):aw (λk=>dO X (C k) S o r):=by
 cases r with
 |no=>exact B5 A
 |val c x=>exact aw.const _
 |bl c x e=>exact aw.const _
theorem Be(A:cC C)(b:Bool)(r:bp):aw (λk=>jS X (C k) S o b r):=by
 have other:∀r,aw (λk=>if b=true then dO X (C k) S o r else some (.normal,S.put o.dst true .aA)):=by
  intro r;split
  .exact o9 A r
  .exact aw.const _
 cases r with
 |no=>exact other .no
 |val c x=>exact aw.const _
 |bl c x e=>exact other (.bl c x e)
theorem mQ(A:cC C)(all:List Oper):aw (λk=>iS X (C k) md all S o):=by
 unfold iS;split
 .exact o9 A _
 .split
  .split
   .exact Be A _ _
   .split
    .exact o9 A _
    .exact aw.const _
  .exact aw.const _
  .exact aw.const _
theorem kv{F:Nat->Option (XE×St)}{K:St->Nat->Option (XE×St)}(A':aw F)(AB:∀S,aw (K S)):aw (λn=>andThen (F n) (λS=>K S n)):=by
 simp[qJ];refine A'.bind (g:=λx n=>aT (λS=>K S n) x) λx=>?_;obtain⟨e,S⟩:=x;cases e with
 |normal=>exact AB S
 |_=>exact aw.const _
theorem gO(A:cC C)(all:List Oper):∀(ops:List Oper)(S:St),aw (λk=>ee X (C k) md all ops S)
 |[],S=>aw.const _
 |o::r,S=>kv (mQ A all) (λY=>gO A all r Y)
theorem DW(A:cC C):aw (λk=>jz X (C k) S o):=by
 unfold jz;split
 .rename_i J args A7 A4;have I:(λk=>qt S o (bf X (C k) S o args.toList (S.ag J)))=λk=>(bf X (C k) S o args.toList (S.ag J)).bind λc=>qt S o (some c):=by
   funext k;exact vg ..
  rw[I];exact (gn A args.toList (S.ag J)).bind (λ_=>aw.const _)
 .exact aw.const _
theorem qK(A:cC C)(r:bp):aw (λk=>cI X (C k) S o r):=by
 cases r with
 |no=>exact DW A
 |val c x=>exact aw.const _
 |bl c x e=>exact aw.const _
theorem B6(A:cC C)(b:Bool)(r:bp):aw (λk=>me X (C k) S o b r):=by
 have other:∀r,aw (λk=>if b=true then cI X (C k) S o r else some (S.put o.dst true .aA,⟨[],[],true,.aA⟩)):=by
  intro r;split
  .exact qK A r
  .exact aw.const _
 cases r with
 |no=>exact other .no
 |val c x=>exact aw.const _
 |bl c x e=>exact other (.bl c x e)
theorem gP(A:cC C)(all:List Oper):aw (λk=>cu X (C k) md all S o):=by
 unfold cu;split
 .exact qK A _
 .split
  .split
   .exact B6 A _ _
   .split
    .exact qK A _
    .exact aw.const _
  .exact aw.const _
  .exact aw.const _
theorem xI(S:St)(r:Option cK):oT S r=r.bind λc=>oT S (some c):=by cases r<;>rfl
theorem yG(A:cC C):aw (λk=>gm X (C k) S o):=by
 unfold gm;split
 .unfold uZ;split
  .unfold AF;split
   .rename_i J args A7 A4;have I:(λk=>oT S (bf X (C k) S o args.toList (S.ag J)))=λk=>(bf X (C k) S o args.toList (S.ag J)).bind λc=>oT S (some c):=by
     funext k;exact xI ..
    rw[I];exact (gn A args.toList (S.ag J)).bind (λ_=>aw.const _)
   .exact aw.const _
  .exact aw.const _
 .exact aw.const _
theorem Bf{AM:aJ}{all:List Oper}{q:St×aB}(h:cu X AM md all S o=some q):gm X AM S o=none:=by
 cases A0:gm X AM S o with
 |none=>rfl
 |some p=>
  obtain⟨V,AZ,J,args,A7,A4,AK,_⟩:=yz A0;unfold cu at h;rw[V]at h;simp[cI,jz,AZ,A4,AK]at h;cases h
theorem FV(A:cC C)(E:Nat×List (List Nat))(all r:List Oper)(D:List aB){K:Nat->St->List aB->Option (XE×St)}(AB:∀S D,aw λk=>K k S D):aw (λk=>ja X (C k) md E all r S o D (K k) (gm X (C k) S o)):=by
 intro n y h;simp only at h⊢;cases A0:gm X (C n) S o with
 |some q=>
  rw[A0]at h;have A_:gm X (C (n+1)) S o=some q:=yG A n q A0;rw[A_];exact h
 |none=>
  rw[A0]at h;simp[ja,jI]at h;cases V:cu X (C n) md all S o with
  |none=>grind
  |some p=>
   have AR:cu X (C (n+1)) md all S o=some p:=gP A all n p V;rw[Bf AR];simp[ja];rw[V]at h;rw[AR];exact AB _ _ n y h
theorem jn(A:cC C)(E:Nat×List (List Nat))(all:List Oper):∀(ops:List Oper)(S:St)(D:List aB),aw (λk=>dP X (C k) md E all ops S D)
 |[],S,D=>aw.const _
 |o::r,S,D=>FV A E all r D λS D=>jn A E all r S D
def DX(M:List Cl)(p:St×aB):Option (St×aB):=if wv M p.2.es=true then some p else none
theorem CH(M:List Cl)(r:Option (St×aB)):HC M r=r.bind (DX M):=by
 rcases r with _|⟨S,p⟩<;>rfl
theorem oE(A:cC C)(E:List (List Nat))(M:List Cl)(all:List Oper):∀(ops:List Oper)(S:St)(D:List aB),aw (λk=>k9 X (C k) md E M all ops S D)
 |[],S,D=>aw.const _
 |o::r,S,D=>by
  simp only[k9,jI];cases pG (E.getD D.length []) r with
  |true=>
   simp[DK];split
   .exact gO A all [o] S
   .exact aw.const _
  |false=>
  cases tM X.P M S o with
  |some x=>
   exact oE A E M all r _ _
  |none=>
   simp[zq,CH];exact ((gP A all).bind (g:=λp _=>DX M p) λp=>aw.const _).bind (g:=λp n=>k9 X (C n) md E M all r p.1 (p.2::D)) λp=>oE A E M all r p.1 (p.2::D)
theorem yH(A:cC C)(E:List (List Nat))(all:List Oper)(S:St)(fl:List (Nat×Nat)):aw (λk=>oU X (C k) md E all S fl):=by
 cases fl with
 |nil=>exact jn A _ all all S []
 |cons q r=>
  simp[oU];cases de S.mem (q::r)with
  |none=>exact aw.const _
  |some M=>exact oE A E M all all S []
theorem yI(f:St->Option (XE×St)):∀(j:Nat)(S:St)(r:XE×St),iter f j S=some r->iter f (j+1) S=some r
 |0,S,r,h=>by cases h
 |j+1,S,r,h=>by
  rw[iter];rcases dD h with ⟨S1,I,A1⟩|⟨I,A1⟩
  .rw[I];exact yI f j S1 r A1
  .rw[I];obtain⟨e,S1⟩:=r;cases e with
   |normal=>grind
   |_=>rfl
theorem nV(f:St->Option (XE×St)){j k:Nat}(h:j<=k){S:St}{r:XE×St}(U:iter f j S=some r):iter f k S=some r:=by
 induction h with
 |refl=>exact U
 |step _ ih=>exact yI f _ S r ih
theorem oF{F:Nat->St->Option (XE×St)}(A':∀S,aw (λk=>F k S)):∀(j:Nat)(S:St),aw (λk=>iter (F k) j S)
 |0,S=>aw.const _
 |j+1,S=>kv (A' S) (λY=>oF A' j Y)
theorem qL(A:cC C)(f:FuncId){m:Nat->Nat}(hm:∀k,m k<=m (k+1)):∀(c:Code)(S:St),aw (λk=>den X f (C k) (m k) c S):=by
 intro c;induction c with
 |region id ops draw=>
  intro S;cases draw with
  |false=>
   simp[den,pK];exact (gO A _ _ _).bind λ_=>aw.const _
  |true=>
   simp[den,pK];exact (yH A _ _ _ _).bind λ_=>aw.const _
 |seq a b A5 AC=>intro S;exact kv (A5 S) (λY=>AC Y)
 |cond c a b A5 AC=>
  intro S;simp[den];unfold wz;split
  .split
   .exact A5 S
   simp_all
  .exact aw.const _
 |block id c ih=>
  intro S;simp[den,Bb];exact (ih _).bind λ_=>aw.const _
 |loop c ih=>
  intro S n r h;have I:=oF (F:=λk=>den X f (C k) (m k) c) ih (m n) S n r h;exact nV _ (hm n) I
 |skip=>intro S;exact aw.const _
 |exit id=>intro S;exact aw.const _
 |ret=>intro S;exact aw.const _
 |rangeFunc _ _ _ _=>intro S;exact aw.const _
 |scope _ _=>intro S;exact aw.const _
 |label _=>intro S;exact aw.const _
 |goto _=>intro S;exact aw.const _
 |refuse _=>intro S;exact aw.const _
theorem wH(A:cC C)(f:FuncId){m:Nat->Nat}(hm:∀k,m k<=m (k+1))(fn:Func)(c:Code)(args:List AV)(cs:List ay):aw (λk=>lC X f (C k) (m k) fn c args cs):=by
 unfold lC;split
 .simp[Bd X.P (X.fp f) cs.length fn.results.toList (den _ _ _ _ _ _)];exact (qL A f hm c _).bind λ_=>aw.const _
 .exact aw.const _
theorem rG{F G:Nat->Option (Out×List (Nat×ay))}(A':aw F)(Aa:aw G):aw (λn=>gB (F n) (G n)):=by
 intro n r h;replace h:gB (F n) (G n)=some r:=h;show gB (F (n+1)) (G (n+1))=some r;unfold gB at h;split at h
 .rename_i a b A6 A8;have A9:=cN A6;have Ab:=cN A8;have f1:=A' n _ A9;have f2:=Aa n _ Ab;rw[A9]at h;rw[f1,f2];exact h
 grind
theorem zc{R:Nat->List AV->Option (Out×List (Nat×ay))}(AH:∀a,aw (λn=>R n a))(args:List AV)(b:Bool):aw (λn=>eZ (R n) args b):=by
 unfold eZ;split
 .split
  .exact rG (AH _) (AH _)
  simp_all
 simp_all
def nT(k:St->XD)(H:List DF):XE×St->XD
 |(.normal,S)=>k S
 |(e,S)=>some (e,S,H)
theorem vh(k:St->XD)(H:List DF)(r:Option (XE×St)):zr k H r=r.bind (nT k H):=by
 rcases r with _|⟨e,S⟩
 .rfl
 .cases e<;>rfl
def lT(k:St->St):XE×St×List DF->XD
 |(.normal,S,H)=>some (.normal,k S,H)
 |r=>some r
theorem sW(k:St->St)(r:XD):sE k r=r.bind (lT k):=by
 rcases r with _|⟨e,S,H⟩
 .rfl
 .cases e<;>rfl
def dT(H:List DF)(p:XE×St):XD:=some (p.1,p.2,H)
theorem xJ(H:List DF)(r:Option (XE×St)):qw H r=r.bind (dT H):=by
 rcases r with _|⟨e,S⟩<;>rfl
def sT(k:St->List DF->XD):XE×St×List DF->XD
 |(.normal,S,H)=>k S H
 |r=>some r
theorem CI(k:St->List DF->XD)(r:XD):AG k r=r.bind (sT k):=by
 rcases r with _|⟨e,S,H⟩
 .rfl
 .cases e<;>rfl
theorem iB(A:cC C)(all:List Oper):∀(ops:List Oper)(S:St)(H:List DF),aw (λk=>cO X (C k) md all ops S H)
 |[],S,H=>aw.const _
 |o::r,S,H=>by
  simp[cO];cases jT S o with
  |some d=>exact iB A all r _ _
  |none=>
   simp[vh];refine (mQ A all).bind (g:=λx n=>nT (λS1=>cO X (C n) md all r S1 H) H x) λx=>?_;obtain⟨e,S1⟩:=x;cases e with
   |normal=>exact iB A all r S1 H
   |_=>exact aw.const _
theorem yJ(A:cC C)(f:FuncId){m:Nat->Nat}(hm:∀k,m k<=m (k+1)):∀(c:Code)(S:St)(H:List DF),aw (λk=>eI X f (C k) (m k) c S H):=by
 have add:∀(c:Code)(S:St)(H:List DF),aw (λk=>qw H (den X f (C k) (m k) c S)):=λc S H=>by
  simp[xJ];exact (qL A f hm c S).bind λ_=>aw.const _
 intro c;induction c with
 |seq a b A5 AC=>
  intro S H;simp[eI,CI];refine (A5 S H).bind (g:=λx n=>sT (eI X f (C n) (m n) b) x) λx=>?_;obtain⟨e,S1,Ac⟩:=x;cases e with
  |normal=>exact AC S1 Ac
  |_=>exact aw.const _
 |region id ops draw=>
  intro S H;simp[eI];split
  .simp[sW];exact (iB A _ _ _ _).bind λ_=>aw.const _
  simp_all
 |_=>simp[eI];simp_all
theorem yK(A:cC C)(f:FuncId){m:Nat->Nat}(hm:∀k,m k<=m (k+1))(AD:AV):∀(c:Code)(S:St),aw (λk=>mr X f (C k) (m k) AD c S):=by
 intro c;induction c with
 |seq a b A5 AC=>intro S;exact kv (A5 S) (λY=>qL A f hm b Y)
 |region id ops draw=>
  intro S;simp[mr];split
  .split
   .simp[pK];exact (gO A _ _ _).bind λ_=>aw.const _
   .exact aw.const _
  .exact aw.const _
 |_=>intro S;exact aw.const _
theorem JZ(P:Program)(p:c8)(N:Nat)(rs:List ResultVar)(r:Option (XE×St)):HE P p N rs r=r.bind λq=>HE P p N rs (some q):=by cases r<;>rfl
theorem B7(A:cC C)(f:FuncId){m:Nat->Nat}(hm:∀k,m k<=m (k+1))(fn:Func)(c:Code)(args:List AV)(cs:List ay):aw (λk=>sG X f (C k) (m k) fn c args cs):=by
 unfold sG;split
 .split
  .simp[JZ X.P (X.fp f) cs.length fn.results.toList (mr _ _ _ _ _ _ _)];exact (yK A f hm _ c _).bind λ_=>aw.const _
  .exact aw.const _
 .exact aw.const _
theorem DY(A:cC C){m:Nat->Nat}(hm:∀k,m k<=m (k+1)):cC (λk=>qz X (m k) (C k)):=by
 intro g args cs;simp[qz];split
 .split
  .exact B7 A g hm _ _ _ _
  .exact aw.const _
 .exact aw.const _
theorem J0(S:St)(r:Option cK):qx S r=r.bind λc=>qx S (some c):=by cases r<;>rfl
theorem J1(X:Ctx)(p:c8)(N:Nat)(rs:List ResultVar)(r:Option St):u3 X p N rs r=r.bind λS=>finish X.P p N rs S:=by cases r<;>rfl
theorem J2(X:Ctx)(p:c8)(N:Nat)(rs:List ResultVar)(AS:aJ)(r:XD):u4 X p N rs AS r=r.bind λq=>u4 X p N rs AS (some q):=by cases r<;>rfl
theorem DZ{CR:Nat->aJ}(A:cC CR)(p:c8)(N:Nat)(rs:List ResultVar)(S:St)(d:DF)(AD:Option AV):aw (λk=>tN X p N rs (CR k) S d AD):=by
 cases AD with
 |none=>exact aw.const _
 |some AD=>
  simp[tN,J1,J0 S (cm _ _ _ _ _ _)];exact ((o8 A _ _ _ _ _).bind (g:=λc _=>qx S (some c)) λ_=>aw.const _).bind (g:=λS _=>finish X.P p N rs S) λ_=>aw.const _
theorem D0{CR:Nat->aJ}(A:cC CR)(p:c8)(N:Nat)(rs:List ResultVar)(q:XE×St×List DF):aw (λk=>u4 X p N rs (CR k) (some q)):=by
 obtain⟨e,S,H⟩:=q;match H with
 |[]=>exact aw.const _
 |[d]=>exact DZ A p N rs S d (u1 e)
 |_::_::_=>exact aw.const _
theorem B8(A:cC C){CR:Nat->aJ}(AH:cC CR)(f:FuncId){m:Nat->Nat}(hm:∀k,m k<=m (k+1))(fn:Func)(c:Code)(args:List AV)(cs:List ay):aw (λk=>sH X f (C k) (CR k) (m k) fn c args cs):=by
 unfold sH;split
 .simp[J2 X (X.fp f) cs.length fn.results.toList _ (eI _ _ _ _ _ _ _)];exact (yJ A f hm c _ _).bind (g:=λq n=>u4 X (X.fp f) cs.length fn.results.toList (CR n) (some q)) λq=>D0 AH _ _ _ q
 .exact aw.const _
theorem wI(X:Ctx):∀n g a c r,aD X n g a c=some r->aD X (n+1) g a c=some r
 |0,g,a,c,r,h=>by cases h
 |n+1,g,a,c,r,h=>by
  have ih:=wI X n;have A:cC λk=>if k=0 then aD X n else aD X (n+1):=by
   intro g a c k r h;grind
  have hm:∀k,(if k=0 then n else n+1)<=(if k+1=0 then n else n+1):=by
   grind
  cases A2:X.ov with
  |some c0=>simp[aD,A2]at h⊢;exact h
  |none=>
  cases A3:X.rD g with
  |some Al=>simp[aD,A3]at h⊢;exact h
  |none=>
  cases O:X.P.funcs[g]? with
  |none=>simp only[aD,A2,A3,O]at h;cases h
  |some fn=>
   cases A8:fn.body with
   |none=>simp only[aD,A2,A3,O,A8]at h;cases h
   |some code=>
    have A9:∀k,aD X (k+1) g a c=tO X g (aD X k) k fn code a c (qy code):=by
     simp[aD,A2,A3,O,A8]
    rw[A9]at h⊢;cases AI:qy code with
    |true=>
     rw[AI]at h;exact B8 (X:=X) (C:=λk=>if k=0 then aD X n else aD X (n+1)) (CR:=λk=>qz X (if k=0 then n else n+1) (if k=0 then aD X n else aD X (n+1))) A (DY A hm) g hm fn code a c 0 r h
    |false=>
    rw[AI]at h;exact zc (R:=λk args=>lC X g ((λk=>if k=0 then aD X n else aD X (n+1)) k) ((λk=>if k=0 then n else n+1) k) fn code args c) (λargs=>wH A g hm fn code args c) a _ 0 r h
theorem aP(X:Ctx):cC (aD X):=λg a c n r h=>wI X n g a c r h
end
noncomputable def ar(X:Ctx):aJ:=λg a c=>dQ λk=>aD X k g a c
noncomputable def db(X:Ctx)(f:FuncId)(c:Code)(S:St):Option (XE×St):=dQ λk=>den X f (aD X k) k c S
def gC{X:Ctx}{g a c r}(n:Nat)(h:aD X n g a c=some r):ar X g a c=some r:=(bN (aP X g a c)).2 ⟨n,h⟩
def HT{X:Ctx}(Ad:fJ X):fb X (ar X):=λg args cs out l h=>by
 obtain⟨n,W⟩:=(bN (aP X g args cs)).1 h;exact Ba Ad n g args cs out l W
section
variable {X:Ctx} {S:St} {o:Oper} {f:FuncId} {md:Bool}
theorem dm(c:Code)(S:St):aw (λk=>den X f (aD X k) k c S):=qL (aP X) f (m:=λk=>k) (λk=>YF k) c S
theorem D2(m:Mem)(Z:Nat)(g:FuncId)(AE:List AV)(mt:List Nat):dQ (λk=>cm (aD X k) m Z g AE mt)=cm (ar X) m Z g AE mt:=by
 unfold cm iR iQ;simp[uF];rw[cS (aP X _ _ _) (λ_=>aw.const _)];simp[aC];rfl
theorem pa(args:List Operand)(J:Bool×AV):dQ (λk=>bf X (aD X k) S o args J)=bf X (ar X) S o args J:=by
 unfold bf;split
 .split
  .simp[Bc _ _ (cm _ _ _ _ _ _)];rw[cS (o8 (aP X) _ _ _ _ _) (λ_=>aw.const _),D2];simp[aC]
  .exact aC _
 .exact aC _
theorem D3:dQ (λk=>mc X (aD X k) S o)=mc X (ar X) S o:=by
 unfold mc;split
 .rename_i J args A7 A4;have I:(λk=>sB S o.dst (bf X (aD X k) S o args.toList (S.ag J)))=λk=>(bf X (aD X k) S o args.toList (S.ag J)).bind λc=>sB S o.dst (some c):=by
   funext k;exact xH ..
  rw[I,cS (gn (aP X) _ _) (λ_=>aw.const _),pa,xH];simp[aC]
 .exact aC _
 .exact aC _
theorem qM(r:bp):dQ (λk=>dO X (aD X k) S o r)=dO X (ar X) S o r:=by
 cases r with
 |no=>exact D3
 |val c x=>exact aC _
 |bl c x e=>exact aC _
theorem B9(b:Bool)(r:bp):dQ (λk=>jS X (aD X k) S o b r)=jS X (ar X) S o b r:=by
 have other:∀r,dQ (λk=>if b=true then dO X (aD X k) S o r else some (.normal,S.put o.dst true .aA))=if b=true then dO X (ar X) S o r else some (.normal,S.put o.dst true .aA):=by
  intro r;split
  .exact qM r
  .exact aC _
 cases r with
 |no=>exact other .no
 |val c x=>exact aC _
 |bl c x e=>exact other (.bl c x e)
theorem yL(all:List Oper):dQ (λk=>iS X (aD X k) md all S o)=iS X (ar X) md all S o:=by
 unfold iS;split
 .exact qM _
 .split
  .split
   .exact B9 _ _
   .split
    .exact qM _
    .exact aC _
  .exact aC _
  .exact aC _
theorem pb{F:Nat->Option (XE×St)}{K:St->Nat->Option (XE×St)}(A':aw F)(AB:∀S,aw (K S)):dQ (λn=>andThen (F n) (λS=>K S n))=andThen (dQ F) (λS=>dQ (K S)):=by
 simp[qJ];rw[cS (g:=λx n=>aT (λS=>K S n) x) A' (λx=>by
  obtain⟨e,S⟩:=x;cases e with
  |normal=>exact AB S
  |_=>exact aw.const _)]
 congr 1;funext x;obtain⟨e,S⟩:=x;cases e<;>first|rfl|exact aC _
theorem qN(all:List Oper):∀(ops:List Oper)(S:St),dQ (λk=>ee X (aD X k) md all ops S)=ee X (ar X) md all ops S
 |[],S=>aC _
 |o::r,S=>by
  simp[ee];have:=pb (F:=λk=>iS X (aD X k) md all S o) (K:=λY k=>ee X (aD X k) md all r Y) (mQ (aP X) all) (λY=>gO (aP X) all r Y);rw[yL]at this;simp[qN all r]at this;grind
theorem FW:dQ (λk=>jz X (aD X k) S o)=jz X (ar X) S o:=by
 unfold jz;split
 .rename_i J args A7 A4;have I:(λk=>qt S o (bf X (aD X k) S o args.toList (S.ag J)))=λk=>(bf X (aD X k) S o args.toList (S.ag J)).bind λc=>qt S o (some c):=by
   funext k;exact vg ..
  rw[I,cS (gn (aP X) _ _) (λ_=>aw.const _),pa,vg];simp[aC]
 .exact aC _
theorem sX(r:bp):dQ (λk=>cI X (aD X k) S o r)=cI X (ar X) S o r:=by
 cases r with
 |no=>exact FW
 |val c x=>exact aC _
 |bl c x e=>exact aC _
theorem D4(b:Bool)(r:bp):dQ (λk=>me X (aD X k) S o b r)=me X (ar X) S o b r:=by
 have other:∀r,dQ (λk=>if b=true then cI X (aD X k) S o r else some (S.put o.dst true .aA,(⟨[],[],true,.aA⟩:aB)))=if b=true then cI X (ar X) S o r else some (S.put o.dst true .aA,⟨[],[],true,.aA⟩):=by
  intro r;split
  .exact sX r
  .exact aC _
 cases r with
 |no=>exact other .no
 |val c x=>exact aC _
 |bl c x e=>exact other (.bl c x e)
theorem wJ(all:List Oper):dQ (λk=>cu X (aD X k) md all S o)=cu X (ar X) md all S o:=by
 unfold cu;split
 .exact sX _
 .split
  .split
   .exact D4 _ _
   .split
    .exact sX _
    .exact aC _
  .exact aC _
  .exact aC _
theorem HU:dQ (λk=>gm X (aD X k) S o)=gm X (ar X) S o:=by
 unfold gm;split
 .unfold uZ;split
  .unfold AF;split
   .rename_i J args A7 A4;have I:(λk=>oT S (bf X (aD X k) S o args.toList (S.ag J)))=λk=>(bf X (aD X k) S o args.toList (S.ag J)).bind λc=>oT S (some c):=by
     funext k;exact xI ..
    rw[I,cS (gn (aP X) _ _) (λ_=>aw.const _),pa,xI];simp[aC]
   .exact aC _
  .exact aC _
 .exact aC _
theorem wK(E:Nat×List (List Nat))(all:List Oper):∀(ops:List Oper)(S:St)(D:List aB),dQ (λk=>dP X (aD X k) md E all ops S D)=dP X (ar X) md E all ops S D
 |[],S,D=>aC _
 |o::r,S,D=>by
  have A0:∀q,gm X (ar X) S o=some q↔∃k,gm X (aD X k) S o=some q:=λq=>by rw[<-HU];exact bN (yG (aP X))
  have V:∀q,cu X (ar X) md all S o=some q↔∃k,cu X (aD X k) md all S o=some q:=λq=>by rw[<-wJ];exact bN (gP (aP X) all)
  have U:∀S D y,dP X (ar X) md E all r S D=some y↔∃k,dP X (aD X k) md E all r S D=some y:=λS D y=>by rw[<-wK E all r S D];exact bN (jn (aP X) E all r S D)
  apply Option.ext;intro y;rw[bN (jn (aP X) E all (o::r) S D)];simp[dP];constructor
  .rintro ⟨k,T⟩;cases AT:gm X (aD X k) S o with
   |some q=>
    rw[AT]at T;rw[(A0 q).2 ⟨k,AT⟩];exact T
   |none=>
    simp[ja,jI]at T;cases Ae:cu X (aD X k) md all S o with
    |none=>grind
    |some p=>
     have AJ:=(V p).2 ⟨k,Ae⟩;rw[Bf AJ];simp[ja,jI]at T⊢;grind
  .intro h;cases AN:gm X (ar X) S o with
   |some q=>
    rw[AN]at h;obtain⟨k,T⟩:=(A0 q).1 AN;exact⟨k,by rw[T];exact h⟩
   |none=>
    rw[AN]at h;simp[ja,jI]at h;cases AJ:cu X (ar X) md all S o with
    |none=>grind
    |some p=>
     rw[AJ]at h;obtain⟨AU,Af⟩:=(V p).1 AJ;obtain⟨AW,Ag⟩:=(U _ _ y).1 h;have An:=(gP (X:=X) (S:=S) (o:=o) (md:=md) (aP X) all).le (Nat.le_max_left AU AW) Af;have Ao:=(jn (X:=X) (md:=md) (aP X) E all r p.1 (p.2::D)).le (Nat.le_max_right AU AW) Ag;simp[ja,jI];grind
theorem vi(E:List (List Nat))(M:List Cl)(all:List Oper):∀(ops:List Oper)(S:St)(D:List aB),dQ (λk=>k9 X (aD X k) md E M all ops S D)=k9 X (ar X) md E M all ops S D
 |[],S,D=>aC _
 |o::r,S,D=>by
  simp only[k9,jI];cases pG (E.getD D.length []) r with
  |true=>
   simp[DK];split
   .exact qN all [o] S
   .exact aC _
  |false=>
  cases tM X.P M S o with
  |some x=>
   exact vi E M all r _ _
  |none=>
   simp[zq,CH];rw[cS (g:=λp n=>k9 X (aD X n) md E M all r p.1 (p.2::D)) ((gP (aP X) all).bind (g:=λp _=>DX M p) λp=>aw.const _) (λp=>oE (aP X) E M all r p.1 (p.2::D)),
    cS (g:=λp _=>DX M p) (gP (aP X) all) (λp=>aw.const _),wJ]
   simp[vi E M all r,aC]
theorem HV(E:List (List Nat))(all:List Oper)(S:St)(fl:List (Nat×Nat)):dQ (λk=>oU X (aD X k) md E all S fl)=oU X (ar X) md E all S fl:=by
 cases fl with
 |nil=>exact wK _ all all S []
 |cons q r=>
  simp[oU];cases de S.mem (q::r)with
  |none=>exact aC _
  |some M=>exact vi E M all all S []
theorem FX:db X f .skip S=some (.normal,S):=aC _
theorem FY{id:Nat}:db X f (.exit id) S=some (.exit id,wx S (X.gh f (id+1000000))):=aC _
theorem HW:db X f .ret S=some (.ret,S):=aC _
theorem HX{a b:Code}:db X f (.seq a b) S=andThen (db X f a S) (db X f b):=pb (dm a S) (λY=>dm b Y)
theorem FZ{c:Operand}{a b:Code}:db X f (.cond c a b) S=wz (db X f a S) (db X f b S) (S.ag c):=by
 unfold db;simp[den];unfold wz;split
 .grind
 .exact aC _
theorem D5{id:Nat}{c:Code}:db X f (.block id c) S=wy id (db X f c (S.enter X f id)):=by
 unfold db;simp[den,Bb];rw[cS (dm c _) (λ_=>aw.const _)];simp[aC]
theorem Ca{id:Nat}{ops:Array Oper}:db X f (.region id ops false) S=qv (St.leave X f id) (ee X (ar X) (X.md f id) ops.toList ops.toList S):=by
 unfold db;simp[den,pK];rw[cS (gO (aP X) _ _ _) (λ_=>aw.const _),qN];simp[aC]
theorem F0{id:Nat}{ops:Array Oper}:db X f (.region id ops true) S=qv (St.leave X f id) (oU X (ar X) (X.md f id) (X.od f id) ops.toList S (X.fl f id)):=by
 unfold db;simp[den,pK];rw[cS (yH (aP X) _ _ _ _) (λ_=>aw.const _),HV];simp[aC]
theorem F2{c:Code}:db X f (.loop c) S=andThen (db X f c S) (db X f (.loop c)):=by
 apply Option.ext;intro r;have AO:∀S r,db X f (.loop c) S=some r↔∃k,iter (den X f (aD X k) k c) k S=some r:=λS r=>bN (dm (.loop c) S);have hi:∀{k j i:Nat}{S r},k<=j->i<=j->iter (den X f (aD X k) k c) i S=some r->iter (den X f (aD X j) j c) j S=some r:=by
  intro k j i S r T Ah h;exact nV _ Ah ((oF (F:=λk=>den X f (aD X k) k c) (λS=>dm c S) i S).le T h)
 rw[AO];constructor
 .rintro ⟨k,T⟩;cases k with
  |zero=>cases T
  |succ k=>
   rcases dD T with ⟨S1,I,A1⟩|⟨I,A1⟩
   .have:db X f c S=some (.normal,S1):=(bN (dm c S)).2 ⟨k+1,I⟩;rw[this];exact (AO S1 r).2 ⟨k+1,hi (Ds _) (YF k) A1⟩
   .have:db X f c S=some r:=(bN (dm c S)).2 ⟨k+1,I⟩;rw[this];obtain⟨e,S1⟩:=r;cases e with
    |normal=>grind
    |_=>rfl
 .intro h;rcases dD h with ⟨S1,I,A1⟩|⟨I,A1⟩
  .obtain⟨k,T⟩:=(bN (dm c S)).1 I;obtain⟨j,Ai⟩:=(AO S1 r).1 A1;refine⟨max k j+1,?_⟩;rw[iter,(dm c S).le (show k<=max k j+1 by omega) T];have:=(oF (F:=λk=>den X f (aD X k) k c) (λS=>dm c S) j S1).le (show j<=max k j+1 by omega) Ai;exact nV _ (show j<=max k j by omega) this
  .obtain⟨k,T⟩:=(bN (dm c S)).1 I;refine⟨k+1,?_⟩;rw[iter,(dm c S).le (YF k) T];obtain⟨e,S1⟩:=r;cases e with
   |normal=>grind
   |_=>rfl
noncomputable def wL(X:Ctx)(f:FuncId)(fn:Func)(c:Code)(cs:List ay)(args:List AV):Option (Out×List (Nat×ay)):=
 if (decide (args.length<=fn.ntmps)&&decide (cs.length<=100)&&(X.fp f).sites.all (λk=>decide (100<=k))&&decide (X.fp f).sites.Nodup)=true then
  fin X.P (X.fp f) cs.length fn.results.toList (db X f c (entry fn.ntmps X.gl args cs (X.fp f).sites))
 else none
theorem mg{h:List AV->Option AV}{args:List AV}{cs:List ay}(A2:X.ov=none)(A3:X.rD f=some h):ar X f args cs=fa h args cs:=by
 unfold ar;rw[<-sV (aP X f args cs)];have:(λn=>aD X (n+1) f args cs)=λ_=>fa h args cs:=by simp[aD,A2,A3]
 rw[this,aC]
theorem HY{fn:Func}{c:Code}{args:List AV}{cs:List ay}(A2:X.ov=none)(A3:X.rD f=none)(O:X.P.funcs[f]?=some fn)(A8:fn.body=some c)(AI:qy c=false):
 ar X f args cs=eZ (wL X f fn c cs) args (X.fp f).split:=by
 have hm:∀args,aw (λk=>lC X f (aD X k) k fn c args cs):=λargs=>wH (aP X) f (m:=λk=>k) (λk=>YF k) fn c args cs;have U:∀args,dQ (λk=>lC X f (aD X k) k fn c args cs)=wL X f fn c cs args:=by
  intro args;unfold lC wL;split
  .have I:(λk=>fin X.P (X.fp f) cs.length fn.results.toList (den X f (aD X k) k c (entry fn.ntmps X.gl args cs (X.fp f).sites)))=λk=>(den X f (aD X k) k c (entry fn.ntmps X.gl args cs (X.fp f).sites)).bind λq=>fin X.P (X.fp f) cs.length fn.results.toList (some q):=by
    funext k;exact Bd ..
   rw[I,cS (dm c _) (λ_=>aw.const _),Bd];simp[aC];rfl
  .exact aC _
 have A9:ar X f args cs=dQ (λk=>eZ (λargs=>lC X f (aD X k) k fn c args cs) args (X.fp f).split):=by
  unfold ar;rw[<-sV (aP X f args cs)];congr 1;funext k;rw[aD,A2,A3,O];simp[A8,AI,tO]
 rw[A9];unfold eZ;split
 .split
  .apply Option.ext;intro y;rw[bN (rG (hm _) (hm _)),<-U,<-U];constructor
   .rintro ⟨n,W⟩;unfold gB at W⊢;split at W
    .rename_i a b A6 AP;have f1:=(bN (hm _)).2 ⟨n,cN A6⟩;have f2:=(bN (hm _)).2 ⟨n,cN AP⟩;rw[f1,f2];rw[cN A6]at W;exact W
    grind
   .intro h;unfold gB at h;split at h
    .rename_i a b A6 AP;obtain⟨n,W⟩:=(bN (hm _)).1 (cN A6);obtain⟨m,Aj⟩:=(bN (hm _)).1 (cN AP);refine⟨max n m,?_⟩;rw[(hm _).le (Nat.le_max_left n m) W,(hm _).le (Nat.le_max_right n m) Aj];rw[cN A6]at h;exact h
    grind
  grind
 grind
end
abbrev dR:=Option (Out×List (Nat×ay))
abbrev Kt:=XE->St->dR
noncomputable def bn(X:Ctx)(f:FuncId)(c:Code)(S:St)(k:Kt):dR:=(db X f c S).bind λp=>k p.1 p.2
noncomputable def runK(X:Ctx)(md:Bool)(all ops:List Oper)(S:St)(k:Kt):dR:=(ee X (ar X) md all ops S).bind λp=>k p.1 p.2
noncomputable def ft(X:Ctx)(md:Bool)(A:Nat×List (List Nat))(all ops:List Oper)(S:St)(E:List aB)(k:Kt):dR:=(dP X (ar X) md A all ops S E).bind λp=>k p.1 p.2
noncomputable def xK(X:Ctx)(f:FuncId)(b:Code)(k:Kt):Kt
 | .normal,S=>bn X f b S k
 |e,S=>k e S
def xL(id:Nat)(k:Kt):Kt
 | .exit N,S=>if N=id then k .normal S else k (.exit N) S
 |e,S=>k e S
noncomputable def wM(X:Ctx)(f:FuncId)(c:Code)(k:Kt):Kt
 | .normal,S=>bn X f (.loop c) S k
 |e,S=>k e S
def wN(X:Ctx)(f:FuncId)(id:Nat)(k:Kt):Kt
 | .normal,S=>k .normal (S.leave X f id)
 |e,S=>k e S
def xM(P:Program)(p:c8)(J:Nat)(rs:List ResultVar):Kt
 | .normal,S=>finish P p J rs S
 | .ret,S=>finish P p J rs S
 | .panic t x,S=>qg p J t x S
 | .exit _,_=>none
def F3:Bool×AV->Bool
 |(true,.d (.bool _))=>true
 |_=>false
def sY:Bool×AV->Bool
 |(_,.d (.bool b))=>b
 |_=>false
def Env.kn:Env->Nat->Bool->Env
 |[],_,_=>[]
 |(t,x)::r,c,b=>if t=c then (t,true,.d (.bool b))::r else (t,x)::Env.kn r c b
def St.kn(S:St)(c:Nat)(b:Bool):St:={S with env:=Env.kn S.env c b}
section
variable {X:Ctx} {f:FuncId} {S:St} {k:Kt}
theorem nW(r:Option (XE×St))(g:St->Option (XE×St)):(andThen r g).bind (λp=>k p.1 p.2)=r.bind λp=>match p with
 |(.normal,S)=>(g S).bind λp=>k p.1 p.2
 |(e,S)=>k e S:=by
 rcases r with _|⟨e,S⟩
 .rfl
 .cases e<;>rfl
theorem F4:bn X f .skip S k=k .normal S:=by simp only[bn,FX,X4]
theorem F5{id:Nat}:bn X f (.exit id) S k=k (.exit id) (wx S (X.gh f (id+1000000))):=by simp only[bn,FY,X4]
theorem HZ:bn X f .ret S k=k .ret S:=by simp only[bn,HW,X4]
theorem H0{a b:Code}:bn X f (.seq a b) S k=bn X f a S (xK X f b k):=by
 simp only[bn,HX,nW];congr 1;funext p;obtain⟨e,S⟩:=p;cases e<;>rfl
theorem aN{c:Code}:bn X f (.loop c) S k=bn X f c S (wM X f c k):=by
 rw[bn,F2,nW,bn];congr 1;funext p;obtain⟨e,S⟩:=p;cases e<;>rfl
theorem D6{id:Nat}{c:Code}:bn X f (.block id c) S k=bn X f c (S.enter X f id) (xL id k):=by
 simp only[bn,D5];rcases db X f c (S.enter X f id)with _|⟨e,S⟩
 .rfl
 .cases e with
  |exit N=>
   simp only[wy,X4,xL];split<;>rfl
  |_=>rfl
theorem yM{c:Operand}{a b:Code}:bn X f (.cond c a b) S k=if F3 (S.ag c)=true then (if sY (S.ag c)=true then bn X f a S k else bn X f b S k)else none:=by
 simp only[bn,FZ];generalize S.ag c=v;obtain⟨g,x⟩:=v;cases g with
 |false=>rfl
 |true=>
  cases x with
  |d x=>
   cases x with
   |bool t=>cases t<;>rfl
   |_=>rfl
  |_=>rfl
theorem Jm{b:Bool}:∀{env:Env}{c:Nat},Env.lk env c=some (true,.d (.bool b))->Env.kn env c b=env
 |[],c,h=>by cases h
 |(t,x)::r,c,h=>by
  simp only[Env.lk]at h;simp only[Env.kn];split
  .rename_i W;rw[Xz W]at h;cases h;rfl
  .rename_i W;rw[Xq W]at h;rw[Jm h]
theorem L5{c:Tmp}{b:Bool}(h:S.ag (.tmp c)=(true,.d (.bool b))):Env.lk S.env c=some (true,.d (.bool b)):=by
 simp only[St.ag]at h;cases A':Env.lk S.env c with
 |none=>rw[A']at h;simp at h
 |some x=>rw[A']at h;simp only[Ye]at h;rw[h]
theorem D7{c:Tmp}{a b:Code}:bn X f (.cond (.tmp c) a b) S k=if F3 (S.ag (.tmp c))=true then (if sY (S.ag (.tmp c))=true then bn X f a (S.kn c true) k else bn X f b (S.kn c false) k)else none:=by
 rw[yM];generalize A2:S.ag (.tmp c)=v;obtain⟨g,x⟩:=v;cases g with
 |false=>rfl
 |true=>
  cases x with
  |d x=>
   cases x with
   |bool t=>
    have:S.kn c t=S:=by
     unfold St.kn;rw[Jm (L5 A2)]
    cases t with
    |true=>rw[this];rfl
    |false=>rw[this];rfl
   |_=>rfl
  |_=>rfl
theorem D8{v:Value}{a b:Code}:bn X f (.cond (.const v) a b) S k=if F3 (S.ag (.const v))=true then (if sY (S.ag (.const v))=true then bn X f a S k else bn X f b S k)else none:=yM
theorem Cb{id:Nat}{l:List Oper}:bn X f (.region id ⟨l⟩ false) S k=runK X (X.md f id) l l S (wN X f id k):=by
 simp only[bn,Ca,runK];rcases ee X (ar X) (X.md f id) l l S with _|⟨e,S⟩
 .rfl
 .cases e<;>rfl
noncomputable def zw(X:Ctx)(md:Bool)(A:List (List Nat))(l:List Oper)(S:St)(k:Kt):List (Nat×Nat)->dR
 |[]=>ft X md (da S.mem,A) l l S [] k
 |q::r=>(HD X (ar X) md A l S (de S.mem (q::r))).bind λp=>k p.1 p.2
theorem F6{id:Nat}{l:List Oper}:bn X f (.region id ⟨l⟩ true) S k=zw X (X.md f id) (X.od f id) l S (wN X f id k) (X.fl f id):=by
 simp only[bn,F0];cases X.fl f id with
 |nil=>
  simp only[oU,zw,ft];rcases dP X (ar X) (X.md f id) (da S.mem,X.od f id) l l S []with _|⟨e,S⟩
  .rfl
  .cases e<;>rfl
 |cons q r=>
  simp only[oU,zw];rcases HD X (ar X) (X.md f id) (X.od f id) l S (de S.mem (q::r))with _|⟨e,S⟩
  .rfl
  .cases e<;>rfl
theorem J3{md:Bool}{A:List (List Nat)}{l:List Oper}:zw X md A l S k []=ft X md (da S.mem,A) l l S [] k:=rfl
theorem L6{b:Code}:xK X f b k .normal S=bn X f b S k:=rfl
theorem L7{b:Code}{id:Nat}:xK X f b k (.exit id) S=k (.exit id) S:=rfl
theorem L8{b:Code}:xK X f b k .ret S=k .ret S:=rfl
theorem L9{b:Code}{t:TypeId}{x:D}:xK X f b k (.panic t x) S=k (.panic t x) S:=rfl
theorem Ma{id:Nat}:xL id k .normal S=k .normal S:=rfl
theorem Mb{id N:Nat}:xL id k (.exit N) S=if N=id then k .normal S else k (.exit N) S:=rfl
theorem Mc{id:Nat}:xL id k .ret S=k .ret S:=rfl
theorem Md{id:Nat}{t:TypeId}{x:D}:xL id k (.panic t x) S=k (.panic t x) S:=rfl
theorem J4{c:Code}:wM X f c k .normal S=bn X f (.loop c) S k:=rfl
theorem J5{c:Code}{id:Nat}:wM X f c k (.exit id) S=k (.exit id) S:=rfl
theorem J6{c:Code}:wM X f c k .ret S=k .ret S:=rfl
theorem J7{c:Code}{t:TypeId}{x:D}:wM X f c k (.panic t x) S=k (.panic t x) S:=rfl
theorem H2{id:Nat}:wN X f id k .normal S=k .normal (S.leave X f id):=rfl
theorem H3{id:Nat}{t:TypeId}{x:D}:wN X f id k (.panic t x) S=k (.panic t x) S:=rfl
theorem Me{P:Program}{p:c8}{J:Nat}{rs:List ResultVar}:xM P p J rs .normal S=finish P p J rs S:=rfl
theorem Mf{P:Program}{p:c8}{J:Nat}{rs:List ResultVar}:xM P p J rs .ret S=finish P p J rs S:=rfl
theorem Mg{P:Program}{p:c8}{J:Nat}{rs:List ResultVar}{t:TypeId}{x:D}:xM P p J rs (.panic t x) S=qg p J t x S:=rfl
end
def qO(all:List Oper)(o:Oper):Option Nat:=
 match o.guard with
 |some (j,_)=>gA all j
 |none=>none
noncomputable def lD(X:Ctx)(md:Bool)(S:St)(d:Option Nat)(all r:List Oper)(k:Kt):Option cK->dR
 |some ⟨.ret x,es,_⟩=>runK X md all r (({S with mem:=aI S.mem es}:St).put d true x) k
 |some ⟨.panic t x,es,_⟩=>k (.panic t x) {S with mem:=aI S.mem es}
 |none=>none
def Bg(S:St)(k:Kt):Bool×AV->dR
 |(true,.dF t d)=>k (.panic t d) S
 |_=>none
noncomputable def oG(X:Ctx)(md:Bool)(S:St)(o:Oper)(all r:List Oper)(k:Kt):Op->dR
 | .call {callee:=.value M,args,..}=>lD X md S o.dst all r k (bf X (ar X) S o args.toList (S.ag M))
 | .panic x=>Bg S k (S.ag x)
 |_=>none
noncomputable def lE(X:Ctx)(md:Bool)(S:St)(o:Oper)(all r:List Oper)(k:Kt):bp->dR
 | .val c x=>if (dj S o&&c)=true then runK X md all r (S.put o.dst true x) k else none
 | .bl c x e=>if (dj S o&&c)=true then runK X md all r (({S with mem:=Mem.set S.mem e}:St).put o.dst true x) k else none
 | .no=>oG X md S o all r k o.op
noncomputable def nX(X:Ctx)(md:Bool)(S:St)(o:Oper)(all r:List Oper)(k:Kt)(b:Bool):bp->dR
 | .val c x=>if b=true->(dj S o&&c)=true then runK X md all r (S.put o.dst b x) k else none
 | .bl c x e=>if b=true then lE X md S o all r k (.bl c x e)else runK X md all r (S.put o.dst true .aA) k
 | .no=>if b=true then oG X md S o all r k o.op else runK X md all r (S.put o.dst true .aA) k
noncomputable def wO(X:Ctx)(S:St)(o:Oper)(all r:List Oper)(k:Kt)(H t:Bool):Bool->dR
 |false=>nX X false S o all r k (t == H) (bu X.P S o)
 |true=>if (t == H)=true then lE X true (S.cz (qO all o) H) o all r k (bu X.P (S.cz (qO all o) H) o)else runK X true all r ((S.cz (qO all o) (!H)).put o.dst true (.bc [])) k
noncomputable def Bh(X:Ctx)(md:Bool)(S:St)(o:Oper)(all r:List Oper)(k:Kt)(H:Bool):GV->dR
 | .wu t=>wO X S o all r k H t md
 | .skip=>runK X md all r (S.put o.dst true (.bc [])) k
 | .bad=>none
section
variable {X:Ctx} {f:FuncId} {S:St} {k:Kt} {all r:List Oper} {md:Bool}
theorem qP(o:Oper)(res:bp):(andThen (dO X (ar X) S o res) (ee X (ar X) md all r)).bind (λp=>k p.1 p.2)=lE X md S o all r k res:=by
 cases res with
 |val c x=>simp only[dO,lE];split<;>rfl
 |bl c x e=>simp only[dO,lE];split<;>rfl
 |no=>
  simp only[dO,lE,mc];split
  .rename_i M args A0 O;rw[O];simp only[oG];rcases bf X (ar X) S o args.toList (S.ag M)with _|⟨out,es,ks⟩
   .rfl
   .cases out<;>rfl
  .rename_i x O;rw[O];simp only[oG];generalize S.ag x=v;obtain⟨g,y⟩:=v;cases g<;>cases y<;>rfl
  .rename_i U A3;unfold oG;split
   .rename_i heq;exact absurd heq (U _ _ _)
   .rename_i heq;exact absurd heq (A3 _)
   .rfl
theorem H4:runK X md all [] S k=k .normal S:=rfl
theorem F7{d:Option Tmp}{op:Op}{ty:TypeId}{pos:String}{I:Array Edge}:runK X md all (⟨d,op,ty,pos,I,none⟩::r) S k=lE X md S ⟨d,op,ty,pos,I,none⟩ all r k (bu X.P S ⟨d,op,ty,pos,I,none⟩):=
 qP _ _
theorem D9{d:Option Tmp}{op:Op}{ty:TypeId}{pos:String}{I:Array Edge}{j:Nat}{w:Bool}:runK X md all (⟨d,op,ty,pos,I,some (j,w)⟩::r) S k=Bh X md S ⟨d,op,ty,pos,I,some (j,w)⟩ all r k w (kq (ke all S j)):=by
 simp only[runK,ee,iS];generalize kq (ke all S j)=g;cases g with
 |skip=>rfl
 |bad=>rfl
 |wu t=>
  simp only[Bh];cases md with
  |true=>
   simp only[wO,qO];split
   .exact qP _ _
   .rfl
  |false=>
  simp only[wO];generalize V:bu X.P S _=res;cases res with
  |val c x=>simp only[jS,nX];split<;>rfl
  |bl c x e=>
   simp only[jS,nX];split
   .exact qP _ (.bl c x e)
   .rfl
  |no=>
   simp only[jS,nX];split
   .exact qP _ .no
   .rfl
theorem F8{d:Option Nat}{c:Prop}[Decidable c]{a b:Option cK}:lD X md S d all r k (if c then a else b)=if c then lD X md S d all r k a else lD X md S d all r k b:=by split<;>rfl
end
def Bi{m:Mem}{Y:Nat}{ρ B:List Nat}{c:Prop}[Decidable c]{a b:Option (Out×List (Nat×ay))}:cL m Y ρ B (if c then a else b)=if c then cL m Y ρ B a else cL m Y ρ B b:=by split<;>rfl
noncomputable def gJ(X:Ctx)(md:Bool)(A:Nat×List (List Nat))(S:St)(d:Option Nat)(all r:List Oper)(E:List aB)(k:Kt):Option cK->dR
 |some ⟨.ret x,es,ks⟩=>ft X md A all r (({S with mem:=aI S.mem es}:St).put d true x) (⟨ks,es,true,x⟩::E) k
 |some ⟨.panic t x,es,ks⟩=>(DI X md A all r d E ⟨{S with mem:=aI S.mem es},t,x,es,ks⟩).bind λp=>k p.1 p.2
 |none=>none
noncomputable def sZ(X:Ctx)(md:Bool)(A:Nat×List (List Nat))(S:St)(o:Oper)(all r:List Oper)(E:List aB)(k:Kt):Op->dR
 | .call {callee:=.value M,args,..}=>gJ X md A S o.dst all r E k (bf X (ar X) S o args.toList (S.ag M))
 |_=>none
noncomputable def nY(X:Ctx)(md:Bool)(A:Nat×List (List Nat))(S:St)(o:Oper)(all r:List Oper)(E:List aB)(k:Kt):bp->dR
 | .val c x=>if (dj S o&&c)=true then ft X md A all r (S.put o.dst true x) (⟨eH S o,[],true,x⟩::E) k else none
 | .bl c x e=>if (dj S o&&c&&(eH S o).contains e.key)=true then ft X md A all r (({S with mem:=Mem.set S.mem e}:St).put o.dst true x) (⟨eH S o,[e],true,x⟩::E) k else none
 | .no=>sZ X md A S o all r E k o.op
noncomputable def ky(X:Ctx)(md:Bool)(A:Nat×List (List Nat))(S:St)(d:Option Nat)(all r:List Oper)(E:List aB)(k:Kt):Option cK->dR
 |some ⟨.ret x,es,ks⟩=>ft X md A all r (({S with mem:=aI S.mem es}:St).put d true x) (⟨ks,es,true,x⟩::E) k
 |_=>none
noncomputable def pL(X:Ctx)(md:Bool)(A:Nat×List (List Nat))(S:St)(o:Oper)(all r:List Oper)(E:List aB)(k:Kt):Op->dR
 | .call {callee:=.value M,args,..}=>ky X md A S o.dst all r E k (bf X (ar X) S o args.toList (S.ag M))
 |_=>none
noncomputable def kz(X:Ctx)(md:Bool)(A:Nat×List (List Nat))(S:St)(o:Oper)(all r:List Oper)(E:List aB)(k:Kt):bp->dR
 | .val c x=>if (dj S o&&c)=true then ft X md A all r (S.put o.dst true x) (⟨eH S o,[],true,x⟩::E) k else none
 | .bl c x e=>if (dj S o&&c&&(eH S o).contains e.key)=true then ft X md A all r (({S with mem:=Mem.set S.mem e}:St).put o.dst true x) (⟨eH S o,[e],true,x⟩::E) k else none
 | .no=>pL X md A S o all r E k o.op
noncomputable def lg(X:Ctx)(md:Bool)(A:Nat×List (List Nat))(S:St)(o:Oper)(all r:List Oper)(E:List aB)(k:Kt)(b:Bool):bp->dR
 | .val c x=>if b=true->(dj S o&&c)=true then ft X md A all r (S.put o.dst b x) (⟨eH S o,[],b,x⟩::E) k else none
 | .bl c x e=>if b=true then kz X md A S o all r E k (.bl c x e)else ft X md A all r (S.put o.dst true .aA) (⟨[],[],true,.aA⟩::E) k
 | .no=>if b=true then pL X md A S o all r E k o.op else ft X md A all r (S.put o.dst true .aA) (⟨[],[],true,.aA⟩::E) k
noncomputable def s4(X:Ctx)(A:Nat×List (List Nat))(S:St)(o:Oper)(all r:List Oper)(E:List aB)(k:Kt)(H t:Bool):Bool->dR
 |false=>lg X false A S o all r E k (t == H) (bu X.P S o)
 |true=>if (t == H)=true then kz X true A (S.cz (qO all o) H) o all r E k (bu X.P (S.cz (qO all o) H) o)else ft X true A all r ((S.cz (qO all o) (!H)).put o.dst true (.bc [])) (⟨[],[],true,.bc []⟩::E) k
noncomputable def wP(X:Ctx)(md:Bool)(A:Nat×List (List Nat))(S:St)(o:Oper)(all r:List Oper)(E:List aB)(k:Kt)(H:Bool):GV->dR
 | .wu t=>s4 X A S o all r E k H t md
 | .skip=>ft X md A all r (S.put o.dst true (.bc [])) (⟨[],[],true,.bc []⟩::E) k
 | .bad=>none
section
variable {X:Ctx} {f:FuncId} {S:St} {k:Kt} {all r:List Oper} {md:Bool} {A:Nat×List (List Nat)} {E:List aB}
theorem mh(o:Oper)(res:bp):(zp E (cI X (ar X) S o res) (dP X (ar X) md A all r)).bind (λp=>k p.1 p.2)=kz X md A S o all r E k res:=by
 cases res with
 |val c x=>simp only[cI,kz];split<;>rfl
 |bl c x e=>simp only[cI,kz];split<;>rfl
 |no=>
  simp only[cI,kz,jz];split
  .rename_i M args A0 O;rw[O];simp only[pL];rcases bf X (ar X) S o args.toList (S.ag M)with _|⟨out,es,ks⟩
   .rfl
   .cases out<;>rfl
  .rename_i U;unfold pL;split
   .rename_i heq;exact absurd heq (U _ _ _)
   .rfl
theorem lh(h:jH A.2 E.reverse=true):ft X md A all [] S E k=k .normal S:=by
 simp only[ft,dP,h,Yh,X4]
def vj:List aB->List aB->List aB
 |[],r=>r
 |x::l,r=>vj l (x::r)
theorem xN:∀(l r:List aB),vj l r=l.reverse++r
 |[],_=>rfl
 |x::l,r=>by rw[vj,xN l];simp
theorem eA:ft X md A all [] S E k=if jH A.2 (vj E [])=true then k .normal S else none:=by
 rw[xN,X2];simp only[ft,dP];split<;>rfl
theorem F9{d:Option Tmp}{op:Op}{ty:TypeId}{pos:String}{I:Array Edge}:ft X md A all (⟨d,op,ty,pos,I,none⟩::r) S E k=nY X md A S ⟨d,op,ty,pos,I,none⟩ all r E k (bu X.P S ⟨d,op,ty,pos,I,none⟩):=by
 simp only[ft,dP,gm];generalize O:(⟨d,op,ty,pos,I,none⟩:Oper)=o;have A4:o.guard=none:=by subst O;rfl
 have T:cu X (ar X) md all S o=cI X (ar X) S o (bu X.P S o):=by unfold cu;rw[A4]
 generalize V:bu X.P S o=res;rw[V]at T;cases res with
 |val c x=>simp only[uZ,ja,T,nY];exact mh _ (.val c x)
 |bl c x e=>simp only[uZ,ja,T,nY];exact mh _ (.bl c x e)
 |no=>
  simp only[uZ,AF,nY];split
  .rename_i M args A0 Z;rw[Z];simp only[sZ];cases A1:bf X (ar X) S o args.toList (S.ag M)with
   |none=>
    simp only[oT,ja,T,cI,jz,Z,A1,gJ];rfl
   |some res=>
    obtain⟨out,es,ks⟩:=res;cases out with
    |ret x=>
     simp only[oT,ja,T,cI,jz,Z,A1,gJ];rfl
    |panic t x=>rfl
  .rename_i U;simp only[ja,T,cI,jz];unfold sZ;split
   .rename_i heq;exact absurd heq (U _ _ _)
   .rfl
theorem Ea{d:Option Tmp}{op:Op}{ty:TypeId}{pos:String}{I:Array Edge}{j:Nat}{w:Bool}:ft X md A all (⟨d,op,ty,pos,I,some (j,w)⟩::r) S E k=wP X md A S ⟨d,op,ty,pos,I,some (j,w)⟩ all r E k w (kq (ke all S j)):=by
 simp only[ft,dP,gm,ja,cu];generalize kq (ke all S j)=g;cases g with
 |skip=>rfl
 |bad=>rfl
 |wu t=>
  simp only[wP];cases md with
  |true=>
   simp only[s4,qO];split
   .exact mh _ _
   .rfl
  |false=>
  simp only[s4];generalize V:bu X.P S _=res;cases res with
  |val c x=>simp only[me,lg];split<;>rfl
  |bl c x e=>
   simp only[me,lg];split
   .exact mh _ (.bl c x e)
   .rfl
  |no=>
   simp only[me,lg];split
   .exact mh _ .no
   .rfl
theorem Eb{d:Option Nat}{c:Prop}[Decidable c]{a b:Option cK}:gJ X md A S d all r E k (if c then a else b)=if c then gJ X md A S d all r E k a else gJ X md A S d all r E k b:=by split<;>rfl
theorem Ec{d:Option Nat}{c:Prop}[Decidable c]{a b:Option cK}:ky X md A S d all r E k (if c then a else b)=if c then ky X md A S d all r E k a else ky X md A S d all r E k b:=by split<;>rfl
end
def wQ(n:Nat)(p:c8)(args:List AV)(cs:List ay):Bool:=
 decide (args.length<=n)&&decide (cs.length<=100)&&p.sites.all (λk=>decide (100<=k))&&decide p.sites.Nodup
def H5{X:Ctx}{f:FuncId}{fn:Func}{c:Code}{args:List AV}{cs:List ay}{n:Nat}{rs:List ResultVar}{p:c8}(A5:X.ov=none)(A6:X.rD f=none)(A7:X.P.funcs[f]?=some fn)(A8:fn.body=some c)(A9:qy c=false)(AA:fn.ntmps=n)(AB:fn.results.toList=rs)
 (AC:X.fp f=p) (V:p.split=false) (AD:wQ n p args cs=true):ar X f args cs=bn X f c (entry n X.gl args cs p.sites) (xM X.P p cs.length rs):=by
 subst AC;rw[HY A5 A6 A7 A8 A9,V];simp only[eZ,wL];subst AA;subst AB;rw[Xz (by simpa only[wQ]using AD)];simp only[bn];rcases db X f c _ with _|⟨e,S⟩
 .rfl
 .cases e<;>rfl
attribute [simp] bu.eq_1
attribute [simp] dj.eq_1
attribute [simp] er.eq_1 er.eq_2
attribute [simp] Go.Op.operands.eq_1 Go.Op.operands.eq_2 Go.Op.operands.eq_3 Go.Op.operands.eq_4 Go.Op.operands.eq_5 Go.Op.operands.eq_6 Go.Op.operands.eq_7 Go.Op.operands.eq_8 Go.Op.operands.eq_9 Go.Op.operands.eq_10 Go.Op.operands.eq_11 Go.Op.operands.eq_12 Go.Op.operands.eq_13 Go.Op.operands.eq_14 Go.Op.operands.eq_15 Go.Op.operands.eq_16 Go.Op.operands.eq_17 Go.Op.operands.eq_18 Go.Op.operands.eq_19 Go.Op.operands.eq_20 Go.Op.operands.eq_21 Go.Op.operands.eq_22 Go.Op.operands.eq_23 Go.Op.operands.eq_24 Go.Op.operands.eq_25 Go.Op.operands.eq_26 Go.Op.operands.eq_27 Go.Op.operands.eq_28 Go.Op.operands.eq_29 Go.Op.operands.eq_30 Go.Op.operands.eq_31 Go.Op.operands.eq_32 Go.Op.operands.eq_33 Go.Op.operands.eq_34 Go.Op.operands.eq_35 Go.Op.operands.eq_36 Go.Op.operands.eq_37 Go.Op.operands.eq_38 Go.Op.operands.eq_39 Go.Op.operands.eq_40 Go.Op.operands.eq_41 Go.Op.operands.eq_42 Go.Op.operands.eq_43
attribute [simp] St.ag.eq_1 St.ag.eq_2 St.ag.eq_3 St.ag.eq_4
attribute [simp] Env.lk.eq_1 Env.lk.eq_2
attribute [simp] St.put.eq_1 St.put.eq_2
attribute [simp] Mem.get.eq_1 Mem.get.eq_2
attribute [simp] Mem.set.eq_1 Mem.set.eq_2
attribute [simp] AV.gu.eq_1 AV.gu.eq_2 AV.gu.eq_3
attribute [simp] iK.eq_1 iK.eq_2 iK.eq_3 iK.eq_4 iK.eq_5 iK.eq_6
attribute [simp] AV.cells.eq_1 AV.cells.eq_2 AV.cells.eq_3
attribute [simp] gW.eq_1 gW.eq_2 gW.eq_3 gW.eq_4 gW.eq_5
attribute [simp] j5.eq_1 j5.eq_2 j5.eq_3
attribute [simp] jM.eq_1 eN.eq_1 eN.eq_2 eN.eq_3
attribute [simp] iq.eq_1 iq.eq_2
attribute [simp] lS.eq_1 lS.eq_2 lS.eq_3 lS.eq_4 K5 sd.eq_1
attribute [simp] sc.eq_1 sc.eq_2 sc.eq_3 sc.eq_4
attribute [simp] j9.eq_1 j9.eq_2 j9.eq_3 j9.eq_4 j9.eq_5 j9.eq_6 j9.eq_7 j9.eq_8 j9.eq_9
attribute [simp] dz.eq_1 dz.eq_2 dz.eq_3 dz.eq_4 dz.eq_5 dz.eq_6 dz.eq_7 dz.eq_8 dz.eq_9 dz.eq_10 dz.eq_11 dz.eq_12 dz.eq_13 dz.eq_14 dz.eq_15 dz.eq_16
attribute [simp] iu.eq_1 iu.eq_2 iu.eq_3 iu.eq_4 iu.eq_5 iu.eq_6 iu.eq_7 iu.eq_8
attribute [simp] zi.eq_1
attribute [simp] ny.eq_1 ny.eq_2
attribute [simp] vJ.eq_1 vJ.eq_2
attribute [simp] ke.eq_1
attribute [simp] tA.eq_1
def Ed{α:Type}(y:α):Option (List α)->Option (List α)
 |some E=>some (y::E)
 |none=>none
@[simp] def N7{α:Type}(y:α)(E:List α):Ed y (some E)=some (y::E):=rfl
@[simp] def N8{α:Type}(y:α):Ed y none=none:=rfl
@[simp] def toDs_nil:toDs []=some []:=rfl
@[simp] def toDs_d(y r):toDs (.d y::r)=Ed y (toDs r):=by
 cases h:toDs r with
 |none=>exact toDs.eq_3 _ _ (λ_ _ _ H=>by rw[h]at H;cases H)
 |some E=>exact toDs.eq_2 _ _ _ h
@[simp] def toDs_vec(a b c d r):toDs (.vec a b c d::r)=none:=by rw[toDs.eq_def]
@[simp] def toDs_ptr(a b c r):toDs (.ptr a b c::r)=none:=by rw[toDs.eq_def]
@[simp] def toDs_lit(a r):toDs (.lit a::r)=none:=by rw[toDs.eq_def]
@[simp] def toDs_fn(a b r):toDs (.fn a b::r)=none:=by rw[toDs.eq_def]
@[simp] def toDs_nn(r):toDs (.nn::r)=none:=by rw[toDs.eq_def]
@[simp] def toDs_junk(r):toDs (.aA::r)=none:=by rw[toDs.eq_def]
attribute [simp] mJ.eq_1 mJ.eq_2
attribute [simp] z7.eq_1 z7.eq_2 z7.eq_3 z7.eq_4
attribute [simp] eX.eq_1 eX.eq_2 eX.eq_3 eX.eq_4 eX.eq_5 eX.eq_6 eX.eq_7 eX.eq_8 Dh.eq_1 Ag.eq_1 Ah.eq_1 qu.eq_def zH.eq_def nC.eq_def p7.eq_def Ak.eq_1 Ak.eq_2
attribute [simp] jt.eq_1 jt.eq_2 jt.eq_3 jt.eq_4 jt.eq_5
attribute [simp] mm.eq_1
attribute [simp] np.eq_1 C2.eq_1 C2.eq_2 C3.eq_1 C3.eq_2
attribute [simp] oh.eq_1 oh.eq_2
attribute [simp] di.eq_1 di.eq_2 di.eq_3 di.eq_4 di.eq_5
attribute [simp] pY.eq_1
attribute [simp] pZ.eq_1
attribute [simp] xu.eq_1 xu.eq_2
attribute [simp] iL.eq_1 iL.eq_2 iL.eq_3 iL.eq_4
attribute [simp] vL.eq_1
attribute [simp] lr.eq_1 lr.eq_2
attribute [simp] fL.eq_1
attribute [simp] lQ.eq_1 lQ.eq_2
attribute [simp] kc.eq_1 kc.eq_2 kc.eq_3 vP.eq_def
attribute [simp] hE.eq_1 hE.eq_2 hE.eq_3 hE.eq_4 hE.eq_5 hE.eq_6
attribute [simp] mI.eq_1
attribute [simp] jN.eq_1 jN.eq_2 jN.eq_3
attribute [simp] nz.eq_1 nz.eq_2 pw.eq_1 pw.eq_2 tB.eq_1
attribute [simp] kS.eq_1 kS.eq_2 kS.eq_3 kS.eq_4
attribute [simp] gg.eq_1 gg.eq_2 gg.eq_3 gg.eq_4 gg.eq_5
attribute [simp] bound.eq_1 bound.eq_2 bound.eq_3
attribute [simp] putCells.eq_1 putCells.eq_2
attribute [simp] fk.eq_1 fk.eq_2 fk.eq_3 fk.eq_4 fk.eq_5 fk.eq_6 fk.eq_7 fk.eq_8 fk.eq_9 fk.eq_10 fk.eq_11 fk.eq_12
attribute [simp] D.cells.eq_1 D.cells.eq_2
attribute [simp] D.size.eq_1 D.size.eq_2
attribute [simp] D.flat.eq_1 D.flat.eq_2
mutual
@[simp] def H6:∀x:D,sC x x=true
 | .int ..=>by simp[sC]
 | .bool _=>by simp[sC]
 | .str _=>by simp[sC]
 | .list xs=>by simp[sC,s5 xs]
 | .agg xs=>by simp[sC,s5 xs]
 | .jd=>by simp[sC]
@[simp] def s5:∀x:List D,qp x x=true
 |[]=>by simp[qp]
 |x::r=>by simp[qp,H6 x,s5 r]
end
attribute [simp] xB.eq_1 xB.eq_2 xB.eq_3 tJ.eq_1 tJ.eq_2 sD.eq_1 sD.eq_2 zn.eq_1 zn.eq_2 k8.eq_1 k8.eq_2 DG.eq_1 DG.eq_2 qq.eq_1 qq.eq_2 qq.eq_3
attribute [simp] bf.eq_1 bf.eq_2
attribute [simp] bw.eq_1 bw.eq_2 iZ.eq_1 ed.eq_1 tI.eq_1 mZ.eq_1 my.eq_1
attribute [simp] collect.eq_1 collect.eq_2 collect.eq_3
attribute [simp] gN.eq_1 gN.eq_2
attribute [simp] nN.eq_1 nN.eq_2
attribute [simp] dM.eq_1 dM.eq_2 dM.eq_3 dM.eq_4 dM.eq_5 dM.eq_6 dM.eq_7 dM.eq_8 dM.eq_9 dM.eq_10 dM.eq_11 dM.eq_12 dM.eq_13 dM.eq_14
attribute [simp] iP.eq_1 iP.eq_2 iP.eq_3 iP.eq_4 iP.eq_5 iP.eq_6 iP.eq_7
attribute [simp] mY.eq_1 mY.eq_2 mY.eq_3 mY.eq_4
attribute [simp] eY.eq_1 eY.eq_2
attribute [simp] dN.eq_1 dN.eq_2 uu.eq_1 uu.eq_2
attribute [simp] jy.eq_1 jy.eq_2
attribute [simp] mn.eq_1 mn.eq_2 mn.eq_3
attribute [simp] oQ.eq_1 oQ.eq_2
attribute [simp] fD.eq_1 fD.eq_2
attribute [simp] cL.eq_1 cL.eq_2
attribute [simp] qo.eq_1 qo.eq_2
attribute [simp] plainO.eq_1 plainO.eq_2
attribute [simp] jl.eq_1 jl.eq_2 jl.eq_1 jl.eq_2
attribute [simp] fE.eq_1 fE.eq_2 fE.eq_3
attribute [simp] bB.eq_1 bB.eq_2 bB.eq_3 bB.eq_4 bB.eq_5 bB.eq_6 bB.eq_7 bB.eq_8 bB.eq_9 bB.eq_10 bB.eq_11 bB.eq_12 bB.eq_13 bB.eq_14
attribute [simp] eB.eq_1 eB.eq_2 eB.eq_3 eB.eq_4 eB.eq_5 eB.eq_6
attribute [simp] LA.eq_1 LA.eq_2
attribute [simp] up.eq_1 up.eq_2 up.eq_3 up.eq_4 up.eq_5 up.eq_6 up.eq_7 up.eq_8 up.eq_9 up.eq_10 up.eq_11 up.eq_12 up.eq_13 up.eq_14
attribute [simp] sg.eq_1 sg.eq_2 sg.eq_3
attribute [simp] et.eq_1 et.eq_2
attribute [simp] base.eq_1 base.eq_2
attribute [simp] aI.eq_1 aI.eq_2
attribute [simp] wx.eq_1 wx.eq_2
attribute [simp] Gh.go.eq_1 Gh.go.eq_2 Gh.go.eq_3 Gh.go.eq_4
attribute [simp] St.ql.eq_1 xC.eq_1 xC.eq_2 nO.eq_1 nO.eq_2 Hp.eq_1 Hp.eq_2 om.eq_1 om.eq_2
attribute [simp] finish.eq_1
attribute [simp] nF.eq_1 nF.eq_2
attribute [simp] sl.eq_1 sl.eq_2
attribute [simp] kV.eq_1
attribute [simp] St.qd.eq_1
attribute [simp] pA.eq_1 pA.eq_2 pA.eq_3
attribute [simp] vX.eq_1 vX.eq_2
attribute [simp] fS.eq_1 fS.eq_2 fS.eq_3 fS.eq_4 fS.eq_5 fS.eq_6 fS.eq_7 fS.eq_8 fS.eq_9 fS.eq_10 fS.eq_11 fS.eq_12 fS.eq_13 fS.eq_14
attribute [simp] St.trim.eq_1
attribute [simp] ji.eq_1 ji.eq_2
attribute [simp] mapM.eq_1 mapM.eq_2
attribute [simp] jF.eq_1 jF.eq_2 jF.eq_3
attribute [simp] fo.eq_1 fo.eq_2 fo.eq_3 fo.eq_4 fo.eq_5 fo.eq_6 fo.eq_7 fo.eq_8 fo.eq_9 fo.eq_10 fo.eq_11 fo.eq_12 fo.eq_13 fo.eq_14
attribute [simp] gM.eq_1 gM.eq_2
attribute [simp] oneOf.eq_1 oneOf.eq_2
attribute [simp] AV.norm.eq_1 AV.norm.eq_2 AV.norm.eq_3 AV.norm.eq_4
attribute [simp] toD1.eq_1 toD1.eq_2 toD1.eq_3 toD1.eq_4
attribute [simp] toDsN.eq_1 toDsN.eq_2
attribute [simp] vw.eq_1 vw.eq_2 vw.eq_3 vw.eq_4 vw.eq_5 vw.eq_6 vw.eq_7 vw.eq_8 vw.eq_9 vw.eq_10 vw.eq_11 vw.eq_12 vw.eq_13 vw.eq_14
attribute [simp] cd.eq_1 cd.eq_2
attribute [simp] TK.agg.eq_1 TK.agg.eq_2 TK.agg.eq_3
attribute [simp] lE.eq_1 lE.eq_2 lE.eq_3
attribute [simp] nX.eq_1 nX.eq_2 nX.eq_3
attribute [simp] Bh.eq_1 Bh.eq_2 Bh.eq_3
attribute [simp] oG.eq_1 oG.eq_2 oG.eq_3
attribute [simp] lD.eq_1 lD.eq_2 lD.eq_3
attribute [simp] Bg.eq_1 Bg.eq_2
attribute [simp] F3.eq_1 F3.eq_2
attribute [simp] sY.eq_1 sY.eq_2
attribute [simp] kP.eq_1
attribute [simp] nB.eq_1 Ai.eq_1 E4.eq_1 E4.eq_2 zeroOf.eq_1 zeroOf.eq_2 zeroOf.eq_3
attribute [simp] St.qe.eq_1 St.qe.eq_2
attribute [simp] lU.eq_1 lU.eq_2
attribute [simp] fN.eq_1 fN.eq_2
attribute [simp] gL.eq_1 gL.eq_2
attribute [simp] oq.eq_1 oq.eq_2
attribute [simp] lY.eq_1 lY.eq_2
attribute [simp] iM.eq_1 iM.eq_2
attribute [simp] gk.eq_1 gk.eq_2
attribute [simp] nL.eq_1 nL.eq_2
attribute [simp] nM.eq_1 nM.eq_2
attribute [simp] dU.eq_1 dU.eq_2
attribute [simp] bS.eq_1 bS.eq_2
attribute [simp] eZ.eq_1 eZ.eq_2 eZ.eq_3
attribute [simp] ld.eq_1 ld.eq_2
attribute [simp] gB.eq_1
attribute [simp] eH.eq_1 wc.eq_1 wc.eq_2 wc.eq_3
attribute [simp] mX.eq_1 mX.eq_2
attribute [simp] aK.eq_1 aK.eq_2 aK.eq_3 aK.eq_4
attribute [simp] nY.eq_1 nY.eq_2 nY.eq_3
attribute [simp] lg.eq_1 lg.eq_2 lg.eq_3
attribute [simp] wP.eq_1 wP.eq_2 wP.eq_3
attribute [simp] sZ.eq_1 sZ.eq_2 kz.eq_1 kz.eq_2 kz.eq_3 pL.eq_1 pL.eq_2 ky.eq_1 ky.eq_2
attribute [simp] gJ.eq_1 gJ.eq_2 gJ.eq_3
attribute [simp] fq.eq_1 fq.eq_2 fq.eq_3 fq.eq_4 fq.eq_5 fq.eq_6 fq.eq_7 fq.eq_8 fq.eq_9 fq.eq_10 fq.eq_11 fq.eq_12 fq.eq_13 fq.eq_14
attribute [simp] jv.eq_1 jv.eq_2
attribute [simp] St.freeze.eq_1
attribute [simp] St.lB.eq_1
attribute [simp] Go.Call.operands.eq_1
attribute [simp] D.isByte.eq_1 D.isByte.eq_2
attribute [simp] nu.eq_1 nu.eq_2 nu.eq_3 nu.eq_4
attribute [simp] b6.eq_1 b6.eq_2 b6.eq_3
attribute [simp] vC.eq_1 vC.eq_2
attribute [simp] F4 F5 HZ H0 D6 D7 D8 Cb F6 J3 L6 L7 L8 L9 Ma Mb Mc Md J4 J5 J6 J7 H2 H3 Me Mf Mg H4 F7 D9 F8 Bi F9 Ea Eb Ec
attribute [simp] xA.eq_1 xA.eq_2 k7.eq_1 k7.eq_2 bH.eq_1 bH.eq_2
attribute [simp] wO.eq_1 wO.eq_2
attribute [simp] s4.eq_1 s4.eq_2
attribute [simp] qO.eq_1
attribute [simp] Env.kn.eq_1 Env.kn.eq_2 St.kn.eq_1
attribute [simp] jH.eq_1 qi.eq_1 qi.eq_2 qi.eq_3 xy.eq_1 xy.eq_2 xx.eq_1 xx.eq_2 vj.eq_1 vj.eq_2 kY.eq_1
attribute [simp] fa.eq_1 fa.eq_2 iT.eq_1
@[simp] def SH(t:Bool):kq (some (true,.d (.bool t)))=.wu t:=rfl
@[simp] def SI:kq (some (true,.bc []))=.skip:=rfl
attribute [simp] gA.eq_1
attribute [simp] St.cz St.prune keyOf St.leave St.enter kW tF Av St.sj v7 dL wQ entry dead cm iR iQ D.at D.cell D.setCells qg
@[simp] def N9(m ρ bor nv):∀A:List D,lU m ρ bor nv (A.map .d)=A.map .d
 |[]=>rfl
 |d::r=>by simp[N9 m ρ bor nv r]
@[simp] def Oa(ρ I):∀A:List D,oq ρ I (A.map .d)=A.map .d
 |[]=>rfl
 |d::r=>by simp[Oa ρ I r]
@[simp] def Ga:∀A:List D,gk (A.map .d)=[]
 |[]=>rfl
 |d::r=>by simp[Ga r]
@[simp] def H7(k v):∀A:List D,lY k v (A.map .d)=none
 |[]=>rfl
 |d::r=>by simp[H7 k v r]
@[simp] def J8(k v o l):∀A:List D,iM k v o l (A.map .d)=A.map .d
 |[]=>rfl
 |d::r=>by simp[J8 k v o l r]
@[simp] def Ee:∀A:List D,fN (A.map .d)=gL A
 |[]=>rfl
 |d::r=>by simp[Ee r]
attribute [simp] List.take_of_length_le
@[simp] def Code.at:Code->List Nat->Code
 |c,[]=>c
 | .seq a b,i::p=>if i=0 then Code.at a p else Code.at b p
 | .cond _ a b,i::p=>if i=0 then Code.at a p else Code.at b p
 | .block _ c,_::p=>Code.at c p
 | .loop c,_::p=>Code.at c p
 |c,_=>c
@[simp] def Ro:List.range 2=[0,1]:=rfl
@[simp] def Rp:List.range 3=[0,1,2]:=rfl
@[simp] def Rq:List.range 4=[0,1,2,3]:=rfl
@[simp] def Rr:List.range 5=[0,1,2,3,4]:=rfl
@[simp] def Rs:List.range 6=[0,1,2,3,4,5]:=rfl
@[simp] def Rt(a b:Int):(a == b)=decide (a=b):=by by_cases h:a=b<;>simp[h]
def bQ(n:Int):Prop:= -9223372036854775808<=n/\n<=9223372036854775807
def jW{n:Int}(h:bQ n):IntKind.i64.wrap n=n:=IntWalk.i64_in _ (by unfold bQ at h;omega)
def dE(n:Int)(h:bQ n:=by unfold bQ;omega):IntKind.i64.wrap n=n:=jW h
abbrev bd:=List UInt8
def sp(n:Int):bd:=32::Go.Lib.itoa n
def ff:List bd:=[[78,69,71],[78,79,84],[65,68,68],[83,85,66],[77,85,76],[68,73,86],[77,79,68],[69,81],[78,69],[76,84],[71,84],[76,69],[71,69],[65,78,68],[88,79,82],[79,82]]
def dc(A:Int->bd)(x:Ins):bd:=
 if x.op=1 then [112,117,115,104]++sp x.n
 else if x.op=2 then [108,111,97,100]++sp x.a
 else if x.op=3 then [116,114,117,116,104]++sp x.a
 else if x.op=4 then [108,111,97,100,120]++(sp x.a++(sp x.n++sp x.m))
 else if x.op=5 then [116,114,117,116,104,120]++(sp x.a++(sp x.n++sp x.m))
 else if x.op=6 then [115,116,111,114,101]++sp x.a
 else if x.op=7 then [115,116,111,114,101,120]++(sp x.a++(sp x.n++sp x.m))
 else if x.op=8 then (if x.a=1 then [100,111,116]else [100,111])++(32::ff.getD (x.b-6).toNat [])
 else if x.op=9 then [106,117,109,112]++sp x.a
 else if x.op=10 then [110,111,116]++sp x.a
 else if x.op=11 then [116,105,99,107]
 else if x.op=12 then [98,108,111,99,107]++((32::A x.b)++sp x.a)
 else if x.op=13 then [117,112,116,111]++(sp x.a++sp x.b)
 else if x.op=14 then [119,105,116,104,105,110]++(sp x.a++(sp x.n++sp x.m))
 else [101,110,100]
def dZ(x:Ins):Ins:=
 if x.op=1 then ⟨1,0,0,x.n,0⟩
 else if x.op=2\/x.op=3\/x.op=6\/x.op=9\/x.op=10 then ⟨x.op,x.a,0,0,0⟩
 else if x.op=4\/x.op=5\/x.op=7\/x.op=14 then ⟨x.op,x.a,0,x.n,x.m⟩
 else if x.op=8\/x.op=12\/x.op=13 then ⟨x.op,x.a,x.b,0,0⟩
 else ⟨x.op,0,0,0,0⟩
def lF(x:Ins):Bool:=decide ((dZ x).a=x.a/\(dZ x).b=x.b/\(dZ x).n=x.n/\(dZ x).m=x.m)
def eg(A:Int->bd):List Ins->Option bd
 |[]=>some []
 |x::r=>if lF x=true then (eg A r).map λt=>dc A x++(10::t)else none
structure eL(x:Ins):Prop where
 a:bQ x.a
 b:bQ x.b
 n:bQ x.n
 m:bQ x.m
def QA:List D->Option D
 |[.str s,.str t]=>if s.length<4294967281 then some (.int .i64 (Go.Lib.index s t))else none
 |_=>none
def SJ:List D->Option D
 |[.str s,.int .u8 c]=>some (.int .i64 (Go.Lib.indexByte s c.toNat.toUInt8))
 |_=>none
def SK:List D->Option D
 |[.str s,.str p]=>some (.bool (Go.Lib.hasPrefix s p))
 |_=>none
attribute [simp] QA.eq_1 SJ.eq_1 SK.eq_1
def pN:List D->Option D
 |[.str s,.str t]=>if s.length<4294967281/\1<=t.length then some (.list ((Go.Lib.split s t).map .str))else none
 |_=>none
def Bj(n:Int):Prop:= -9223372036854775808<=n/\n<=9223372036854775807
instance (n:Int):Decidable (Bj n):=inferInstanceAs (Decidable (_/\_))
def Gb:List D->Option D
 |[.int .i64 n,.int .i64 b]=>if b=10/\Bj n then some (.str (Go.Lib.itoa n))else none
 |_=>none
def Gc:List D->Option D
 |[.int .i64 n]=>if Bj n then some (.str (Go.Lib.itoa n))else none
 |_=>none
def Jn(s:List UInt8):AV:=match Go.Lib.parseIntB 64 s with
 | .ok n=>.bc [.d (.int .i64 n),.lit .nilIface]
 | .syntax=>.bc [.d (.int .i64 0),.err]
 | .range=>.bc [.d (.int .i64 (Go.Lib.intSat 64 s)),.err]
def Gd:List AV->Option AV
 |[.d (.str s),.d (.int .i64 b),.d (.int .i64 z)]=>if b=10/\z=64/\s.length<=281474976710656 then some (Jn s)else none
 |_=>none
def CJ(g:Nat)(c:Int):List AV->Option AV
 |[.d (.str s),.fn f []]=>if f=g/\s.length<=4294967296 then some (.d (.list ((Go.Lib.goFieldsP (λr=>decide ((r:Int)=c)) ⟨s.toArray⟩).map λx=>.str x.data.toList)))else none
 |_=>none
attribute [simp] pN.eq_1 Gb.eq_1 Gc.eq_1 Gd.eq_1 CJ.eq_1
noncomputable def kA(X:Ctx)(f:FuncId)(c:Code)(S:St)(A:List DF):XD:=dQ λk=>eI X f (aD X k) k c S A
noncomputable def Ef(X:Ctx)(f:FuncId)(E:AV)(c:Code)(S:St):Option (XE×St):=dQ λk=>mr X f (aD X k) k E c S
noncomputable def QB(X:Ctx):aJ:=λg args cs=>dQ λk=>qz X k (aD X k) g args cs
abbrev s6:=XE->St->List DF->dR
noncomputable def hU(X:Ctx)(f:FuncId)(c:Code)(S:St)(A:List DF)(k:s6):dR:=(kA X f c S A).bind λp=>k p.1 p.2.1 p.2.2
noncomputable def qQ(X:Ctx)(md:Bool)(all ops:List Oper)(S:St)(A:List DF)(k:s6):dR:=(cO X (ar X) md all ops S A).bind λp=>k p.1 p.2.1 p.2.2
noncomputable def wR(X:Ctx)(f:FuncId)(b:Code)(k:s6):s6
 | .normal,S,A=>hU X f b S A k
 |e,S,A=>k e S A
def xO(X:Ctx)(f:FuncId)(id:Nat)(k:s6):s6
 | .normal,S,A=>k .normal (S.leave X f id) A
 |e,S,A=>k e S A
noncomputable def Bk(X:Ctx)(md:Bool)(all r:List Oper)(A:List DF)(k:s6):Kt
 | .normal,S=>qQ X md all r S A k
 |e,S=>k e S A
noncomputable def zx(X:Ctx)(md:Bool)(all r:List Oper)(o:Oper)(S:St)(A:List DF)(k:s6):Option DF->dR
 |some d=>qQ X md all r (S.put o.dst true .aA) (d::A) k
 |none=>runK X md all [o] S (Bk X md all r A k)
section
variable {X:Ctx} {f:FuncId} {S:St} {A:List DF} {md:Bool}
theorem pc(all:List Oper):∀(ops:List Oper)(S:St)(A:List DF),dQ (λk=>cO X (aD X k) md all ops S A)=cO X (ar X) md all ops S A
 |[],S,A=>aC _
 |o::r,S,A=>by
  simp only[cO];cases jT S o with
  |some d=>exact pc all r _ _
  |none=>
   simp only[vh];rw[cS (g:=λx n=>nT (λS1=>cO X (aD X n) md all r S1 A) A x) (mQ (aP X) all) (λx=>by
    obtain⟨e,S1⟩:=x;cases e with
    |normal=>exact iB (aP X) all r S1 A
    |_=>exact aw.const _),yL]
   congr 1;funext x;obtain⟨e,S1⟩:=x;cases e with
   |normal=>exact pc all r S1 A
   |_=>exact aC _
theorem PI(c:Code)(S:St)(A:List DF):aw (λk=>eI X f (aD X k) k c S A):=yJ (aP X) f (m:=λk=>k) (λk=>YF k) c S A
theorem Ge{a b:Code}:kA X f (.seq a b) S A=AG (kA X f b) (kA X f a S A):=by
 unfold kA;simp only[eI,CI];rw[cS (g:=λx n=>sT (eI X f (aD X n) n b) x) (PI a S A) (λx=>by
  obtain⟨e,S1,D⟩:=x;cases e with
  |normal=>exact PI b S1 D
  |_=>exact aw.const _)]
 congr 1;funext x;obtain⟨e,S1,D⟩:=x;cases e<;>first|rfl|exact aC _
theorem iC{c:Code}(h:∀k,eI X f (aD X k) k c S A=qw A (den X f (aD X k) k c S)):kA X f c S A=qw A (db X f c S):=by
 unfold kA db;have:(λk=>eI X f (aD X k) k c S A)=λk=>(den X f (aD X k) k c S).bind λq=>dT A q:=by
  funext k;rw[h,xJ]
 rw[this,cS (dm c S) (λ_=>aw.const _),xJ];simp only[aC]
theorem Gf{id:Nat}{ops:Array Oper}(h:wA ops.toList=true):kA X f (.region id ops false) S A=sE (St.leave X f id) (cO X (ar X) (X.md f id) ops.toList ops.toList S A):=by
 unfold kA;have:(λk=>eI X f (aD X k) k (.region id ops false) S A)=λk=>(cO X (aD X k) (X.md f id) ops.toList ops.toList S A).bind λq=>lT (St.leave X f id) q:=by
  funext k;simp only[eI,h,Bool.not_false,Bool.and_self,sW]
 rw[this,cS (iB (aP X) _ _ _ _) (λ_=>aw.const _),pc,sW];simp only[aC]
variable {k:s6}
theorem Gg{a b:Code}:hU X f (.seq a b) S A k=hU X f a S A (wR X f b k):=by
 simp only[hU,Ge];rcases kA X f a S A with _|⟨e,S1,D⟩
 .rfl
 .cases e<;>rfl
theorem iE{c:Code}(h:kA X f c S A=qw A (db X f c S)):hU X f c S A k=bn X f c S λe S=>k e S A:=by
 simp only[hU,bn,h];rcases db X f c S with _|⟨e,S1⟩<;>rfl
theorem Eg{o:Operand}{a b:Code}:hU X f (.cond o a b) S A k=bn X f (.cond o a b) S λe S=>k e S A:=iE (iC λ_=>rfl)
theorem Gi:hU X f .ret S A k=bn X f .ret S λe S=>k e S A:=iE (iC λ_=>rfl)
theorem Eh:hU X f .skip S A k=bn X f .skip S λe S=>k e S A:=iE (iC λ_=>rfl)
theorem Ei{c:Code}:hU X f (.loop c) S A k=bn X f (.loop c) S λe S=>k e S A:=iE (iC λ_=>rfl)
theorem Cc{id:Nat}{c:Code}:hU X f (.block id c) S A k=bn X f (.block id c) S λe S=>k e S A:=iE (iC λ_=>rfl)
theorem Ej{id:Nat}{ops:Array Oper}:hU X f (.region id ops true) S A k=bn X f (.region id ops true) S λe S=>k e S A:=iE (iC λ_=>rfl)
theorem Gj{id:Nat}{l:List Oper}:hU X f (.region id ⟨l⟩ false) S A k=if wA l=true then qQ X (X.md f id) l l S A (xO X f id k)else bn X f (.region id ⟨l⟩ false) S λe S=>k e S A:=by
 split
 .rename_i h;simp only[hU,qQ,Gf (ops:=⟨l⟩) h];rcases cO X (ar X) (X.md f id) l l S A with _|⟨e,S1,D⟩
  .rfl
  .cases e<;>rfl
 .rename_i h;exact iE (iC λ_=>by simp[eI,h])
theorem Gk{all:List Oper}:qQ X md all [] S A k=k .normal S A:=rfl
theorem Ek{all r:List Oper}{o:Oper}:qQ X md all (o::r) S A k=zx X md all r o S A k (jT S o):=by
 simp only[qQ,cO];cases jT S o with
 |some d=>rfl
 |none=>
  simp only[zx,runK,ee,vh,qJ];rcases iS X (ar X) md all S o with _|⟨e,S1⟩
  .rfl
  .cases e<;>rfl
end
noncomputable def Jo(X:Ctx)(p:c8)(D:Nat)(rs:List ResultVar):s6
 |e,S,[]=>xM X.P p D rs e S
 |e,S,[d]=>tN X p D rs (QB X) S d (u1 e)
 |_,_,_=>none
noncomputable def El(X:Ctx)(f:FuncId)(A:AV)(c:Code)(S:St)(k:Kt):dR:=(Ef X f A c S).bind λp=>k p.1 p.2
def Jp(P:Program)(p:c8)(D:Nat)(rs:List ResultVar):Kt
 | .normal,S=>finish P p D rs S
 | .ret,S=>finish P p D rs S
 |_,_=>none
section
variable {X:Ctx} {f:FuncId} {S:St}
variable {k:Kt} {A:AV}
theorem Gl{a b:Code}:El X f A (.seq a b) S k=El X f A a S (xK X f b k):=by
 have h:Ef X f A (.seq a b) S=andThen (Ef X f A a S) (db X f b):=
  pb (F:=λn=>mr X f (aD X n) n A a S) (K:=λE n=>den X f (aD X n) n b E) (yK (aP X) f (m:=λk=>k) (λk=>YF k) A a S) (λE=>dm b E)
 simp only[El,h,nW];congr 1;funext q;obtain⟨e,S1⟩:=q;cases e<;>rfl
end
def Ctx.over(X:Ctx)(E:aJ):Ctx:={X with ov:=some E}
section
variable {X:Ctx} {E C:aJ} {f:FuncId}
@[simp] theorem SL:(X.over E).P=X.P:=rfl
@[simp] theorem Rv:(X.over E).gl=X.gl:=rfl
@[simp] theorem PJ:(X.over E).kg=X.kg:=rfl
@[simp] theorem Rw:(X.over E).gh=X.gh:=rfl
@[simp] theorem Rx:(X.over E).md=X.md:=rfl
@[simp] theorem Ry:(X.over E).fp=X.fp:=rfl
@[simp] theorem Rz:(X.over E).od=X.od:=rfl
@[simp] theorem RA:(X.over E).fl=X.fl:=rfl
@[simp] theorem Ob:ar (X.over E)=E:=by
 funext g a c;unfold ar;rw[<-sV (aP (X.over E) g a c)];have:(λn=>aD (X.over E) (n+1) g a c)=λ_=>E g a c:=rfl;rw[this,aC]
end
inductive PR(D A α:Type) where
 |ok (a:α) (s:A)
 |bad (e:D) (s:A)
 |out
section
variable {D A α β H:Type}
def PR.el(r:PR D A α)(f:α->A->Option β)(g:D->A->Option β):Option β:=
 match r with
 | .ok a s=>f a s
 | .bad e s=>g e s
 | .out=>none
@[simp] theorem Vp{a:α}{s:A}{f:α->A->Option β}{g:D->A->Option β}:(PR.ok a s).el f g=f a s:=rfl
@[simp] theorem SM{e:D}{s:A}{f:α->A->Option β}{g:D->A->Option β}:(PR.bad e s).el f g=g e s:=rfl
@[simp] theorem SN{f:α->A->Option β}{g:D->A->Option β}:(PR.out:PR D A α).el f g=none:=rfl
@[simp] theorem SO{c:Prop}[Decidable c]{a b:PR D A α}{f:α->A->Option β}{g:D->A->Option β}:(if c then a else b).el f g=if c then a.el f g else b.el f g:=by split<;>rfl
def PR.bind(r:PR D A α)(k:α->A->PR D A H):PR D A H:=
 match r with
 | .ok a s=>k a s
 | .bad e s=>.bad e s
 | .out=>.out
@[simp] theorem RB{a:α}{s:A}{k:α->A->PR D A H}:(PR.ok a s).bind k=k a s:=rfl
@[simp] theorem QC{e:D}{s:A}{k:α->A->PR D A H}:(PR.bad e s:PR D A α).bind k=.bad e s:=rfl
@[simp] theorem QD{k:α->A->PR D A H}:(PR.out:PR D A α).bind k=.out:=rfl
@[simp] theorem RC{r:PR D A α}{k:α->A->PR D A H}{f:H->A->Option β}{g:D->A->Option β}:(r.bind k).el f g=r.el (λa s=>(k a s).el f g) g:=by cases r<;>rfl
@[simp] theorem Vq{r:PR D A α}{f:α->A->Option β}{g:D->A->Option β}:r.el (λa s=>f a s) (λe s=>g e s)=r.el f g:=rfl
theorem Mh{I:Nat}{b:Bool}{r:PR D A α}{f:α->A->dR}{g:D->A->dR}:k7 I b (r.el f g)=r.el (λa s=>k7 I b (f a s)) (λe s=>k7 I b (g e s)):=by cases r<;>rfl
theorem J9{m:Mem}{J:Nat}{ρ B:List Nat}{r:PR D A α}{f:α->A->dR}{g:D->A->dR}:cL m J ρ B (r.el f g)=r.el (λa s=>cL m J ρ B (f a s)) (λe s=>cL m J ρ B (g e s)):=by cases r<;>rfl
theorem H8{X:Ctx}{md:Bool}{S:St}{d:Option Nat}{all q:List Oper}{k:Kt}{r:PR D A α}{f:α->A->Option cK}{g:D->A->Option cK}:lD X md S d all q k (r.el f g)=r.el (λa s=>lD X md S d all q k (f a s)) (λe s=>lD X md S d all q k (g e s)):=by cases r<;>rfl
theorem Gm{X:Ctx}{md:Bool}{M:Nat×List (List Nat)}{S:St}{d:Option Nat}{all q:List Oper}{N:List aB}{k:Kt}{r:PR D A α}{f:α->A->Option cK}{g:D->A->Option cK}:gJ X md M S d all q N k (r.el f g)=r.el (λa s=>gJ X md M S d all q N k (f a s)) (λe s=>gJ X md M S d all q N k (g e s)):=by cases r<;>rfl
def Le(a b:Option β):Prop:=∀r,a=some r->b=some r
theorem Le.refl(a:Option β):Le a a:=λ_ h=>h
theorem Le.trans{a b c:Option β}(h:Le a b)(k:Le b c):Le a c:=λr U=>k r (h r U)
theorem Le.none{b:Option β}:Le none b:=λ_ h=>by cases h
theorem Le.el{r:PR D A α}{f O:α->A->Option β}{g T:D->A->Option β}(V:∀a s,Le (f a s) (O a s))(W:∀e s,Le (g e s) (T e s)):Le (r.el f g) (r.el O T):=by
 cases r with
 |ok a s=>exact V a s
 |bad e s=>exact W e s
 |out=>exact Le.none
end
section
variable {X:Ctx} {U:aJ} {md:Bool} {all:List Oper} {S:St}
@[simp] theorem NF{d:Option Tmp}{op:Op}{ty:TypeId}{pos:String}{M:Array Edge}:cu X U md all S ⟨d,op,ty,pos,M,none⟩=cI X U S ⟨d,op,ty,pos,M,none⟩ (bu X.P S ⟨d,op,ty,pos,M,none⟩):=rfl
@[simp] theorem QE{I:List Nat}{i:Nat}{A:List aB}:mq X md all I i [] S A=some (vj A []):=by rw[xN,X2];rfl
theorem Gn{I:List Nat}{i:Nat}{o:Oper}{r:List Oper}{A:List aB}:mq X md all I i (o::r) S A=if I.contains i=true then (match cu X (λ_ _ _=>none) md all S o with
 |some (S1,p)=>mq X md all I (i+1) r S1 (p::A)
 |none=>none)else mq X md all I (i+1) r (S.put o.dst false .aA) (⟨[],[],false,.aA⟩::A):=by
 simp only[mq];cases I.contains i<;>rfl
end
attribute [simp] Gn cI.eq_1 cI.eq_2 cI.eq_3 DI.eq_1 DH.eq_1 DH.eq_2 da.eq_1 da.eq_2 cX.eq_1 cX.eq_2 fH.eq_1 fH.eq_2 St.kill.eq_1 xz.eq_1 xz.eq_2 su.eq_1 su.eq_2
attribute [simp] Mh J9 H8 Gm
section
variable {N J α:Type} {X:Ctx} {md:Bool} {O:Nat×List (List Nat)} {S:St} {d:Option Nat} {all q:List Oper} {A:List aB} {k:Kt} {r:PR N J α} {f:α->J->Option cK} {g:N->J->Option cK}
@[simp] theorem PK:ky X md O S d all q A k (r.el f g)=r.el (λa s=>ky X md O S d all q A k (f a s)) (λe s=>ky X md O S d all q A k (g e s)):=by cases r<;>rfl
@[simp] theorem RD:qx S (r.el f g)=r.el (λa s=>qx S (f a s)) (λe s=>qx S (g e s)):=by cases r<;>rfl
@[simp] theorem RE{p:c8}{T:Nat}{rs:List ResultVar}{f:α->J->Option St}{g:N->J->Option St}:u3 X p T rs (r.el f g)=r.el (λa s=>u3 X p T rs (f a s)) (λe s=>u3 X p T rs (g e s)):=by cases r<;>rfl
end
attribute [simp] Gg Eg Gi Eh Ei Cc Ej Gj Gk Ek
attribute [simp] wR.eq_1 xO.eq_1 Bk.eq_1 zx.eq_1 zx.eq_2 Jo.eq_1 Jo.eq_2 u3.eq_1 u3.eq_2 qx.eq_1 u1.eq_1 u1.eq_2 u1.eq_3 tN.eq_1 Gl Jp.eq_1 Jp.eq_2
section
variable {X:Ctx} {f:FuncId} {S:St} {E:List DF} {H:s6} {b:Code}
@[simp] theorem RG:wR X f b H .ret S E=H .ret S E:=rfl
@[simp] theorem RH{t:TypeId}{x:D}:wR X f b H (.panic t x) S E=H (.panic t x) S E:=rfl
@[simp] theorem RI{i:Nat}:wR X f b H (.exit i) S E=H (.exit i) S E:=rfl
@[simp] theorem PL{id:Nat}{t:TypeId}{x:D}:xO X f id H (.panic t x) S E=H (.panic t x) S E:=rfl
@[simp] theorem QF{md:Bool}{all r:List Oper}{t:TypeId}{x:D}:Bk X md all r E H (.panic t x) S=H (.panic t x) S E:=rfl
end
@[simp] def Kx:eY none=[]:=rfl
@[simp] def Ky(k v:Nat):eY (some ⟨k,v,.dead⟩)=[]:=rfl
@[simp] def Mi(k v:Nat)(cs:List AV):eY (some ⟨k,v,.box cs⟩)=gk cs:=rfl
@[simp] def Mj(k v sz:Nat)(rows:List D):eY (some ⟨k,v,.vec sz rows⟩)=[]:=rfl
@[simp] def Mk(k v:Nat)(rows:List (List D)):eY (some ⟨k,v,.vv rows none⟩)=[]:=rfl
@[simp] def NG(k v:Nat)(rows:List (List D))(x:AV):eY (some ⟨k,v,.vv rows (some x)⟩)=dM x:=rfl
@[simp] def RJ(m ρ bor nv rows y):mn m ρ bor nv (.vv rows y)=.vv rows (y.map (vw m ρ bor nv)):=rfl
@[simp] def PN(rows y):fE (.vv rows y)=(rows.all gL&&(match y with|none=>true|some x=>bB x)):=rfl
@[simp] def SP(ρ E rows y):sg ρ E (.vv rows y)=.vv rows (y.map (up ρ E)):=rfl
@[simp] def QG(m ρ bor nv t b):mn m ρ bor nv (.buf t b)=.buf t b:=rfl
@[simp] def Oc(t b):fE (.buf t b)=true:=rfl
@[simp] def RL(ρ E t b):sg ρ E (.buf t b)=.buf t b:=rfl
@[simp] def QH(H t b):jF H (.buf t b)=.buf t b:=rfl
@[simp] def Ml(k v t b):eY (some ⟨k,v,.buf t b⟩)=[]:=rfl
@[simp] def QI(m ρ bor nv t b):mn m ρ bor nv (.ej t b)=.ej t b:=rfl
@[simp] def Od(t b):fE (.ej t b)=true:=rfl
@[simp] def RM(ρ E t b):sg ρ E (.ej t b)=.ej t b:=rfl
@[simp] def QJ(H t b):jF H (.ej t b)=.ej t b:=rfl
@[simp] def Mm(k v t b):eY (some ⟨k,v,.ej t b⟩)=[]:=rfl
@[simp] def RN(H rows y):jF H (.vv rows y)=.vv rows (y.map H):=rfl
@[simp] def QK{I:Nat}{b:Bool}{c:Prop}[Decidable c]{x y:Option (Out×List (Nat×ay))}:k7 I b (if c then x else y)=if c then k7 I b x else k7 I b y:=by split<;>rfl
@[simp] def Kz(P t A len ps):dA P t A len ps none=none:=by
 unfold dA;split<;>simp_all
@[simp] def Oe(P t A len n x o):dA P t A len [(n,.d x)] o=none:=by
 unfold dA;split<;>simp_all
@[simp] def Mn(P t A len n x o):dA P t A len [(n,.agg x)] o=none:=by
 unfold dA;split<;>simp_all
@[simp] def Mo(P t A len o):dA P t A len [] o=none:=by
 unfold dA;split<;>simp_all
@[simp] def Mp(P t A len p q r o):dA P t A len (p::q::r) o=none:=by
 unfold dA;split<;>simp_all
@[simp] def Mq(P t A len k v c):dA P t A len [(0,.lit (.slice none 0 0))] (some ⟨k,v,c⟩)=(match tk P t with
 | .slice e=>match b7 P e,gE P e with
  |some sz,some _=>some (.bl (sz=1/\len=1) (.vec A (v+1) 0 1) ⟨A,v+1,.box [.lit (.slice none 0 0)]⟩)
  |_,_=>none
 |_=>none):=rfl
attribute [simp] lu.eq_1
attribute [simp] vD.eq_1 pX.eq_1
attribute [simp] Gh.go St.AB.eq_1 St.cls.eq_1 St.shut.eq_1 St.nK.eq_1
def q1(m:Nat):Nat:=m/4294967296%4294967296
def q2(m:Nat):Nat:=m/18446744073709551616%4294967296
def q3(m:Nat):Nat:=m/79228162514264337593543950336%4294967296
def q0(m:Nat):Nat:=m%4294967296
def Em(z:Int):Int×Bool:=if-9223372036854775808<=z/\z<=9223372036854775807 then (z,true)else (0,false)
def QL(a b:Int):Int×Int:=if b=0 then (0,3)else if a= -9223372036854775808/\b= -1 then (0,2)else (a.tdiv b,0)
def QM(a b:Int):Int×Int:=if b=0 then (0,3)else (a.tmod b,0)
def dh(b:Bool):Int:=if b=true then 1 else 0
@[simp] def Xb(p:Int×Bool×Int):AV:=.bc [.d (.int .i64 p.1),.d (.bool p.2.1),.d (.int .i64 p.2.2)]
def xP:Int×Bool×Int:=(0,false, -1)
def En(p:Int×Bool):Int×Bool×Int:=if p.2=true then (p.1,false,0)else (0,false,2)
def Mr(p:Int×Int):Int×Bool×Int:=if p.2=3 then (0,false,1)else if p.2=0 then (p.1,false,0)else (0,false,2)
def Mt(op a:Int)(t:Bool):Int×Bool×Int:=
 if t=true then (if a≠0/\a≠1 then xP else if op=7 then (dh (decide (a=0)),true,0)else xP)
 else if op=6 then En (Em (0-a))else xP
def QN(op a b:Int):Int×Bool×Int:=
 if op=13 then (dh (decide (a=b)),true,0)else if op=14\/op=20 then (dh (decide (a≠b)),true,0)
 else if op=19 then (dh (decide (a=1/\b=1)),true,0)else if op=21 then (dh (decide (a=1\/b=1)),true,0)else xP
def SQ(op a b:Int):Int×Bool×Int:=
 if op=8 then En (Em (a+b))else if op=9 then En (Em (a-b))else if op=10 then En (Em (a*b))else if op=11 then Mr (QL a b)else if op=12 then Mr (QM a b)
 else if op=13 then (dh (decide (a=b)),true,0)else if op=14 then (dh (decide (a≠b)),true,0)else if op=15 then (dh (decide (a<b)),true,0)
 else if op=16 then (dh (decide (b<a)),true,0)else if op=17 then (dh (decide (a<=b)),true,0)else if op=18 then (dh (decide (b<=a)),true,0)else xP
def Mu(op a b:Int)(t:Bool):Int×Bool×Int:=
 if t=true then (if (a≠0/\a≠1)\/(b≠0/\b≠1)then xP else QN op a b)else SQ op a b
def Gp(e b:Int):Int:=if e<b then e+1 else e
def Of(k a b q e:Int):List Int:=
 if k=10 then (if a=0 then [a,b,0,0]else [a,b,dh (decide (b<=Gp e b)),Gp e b])
 else if k=11 then (if a=0 then (if q=0 then [a,b,q,e]else [a,b,dh (decide (Gp e b<b)),Gp e b])else [a,b,1,0])
 else [a,b,q,e]
def SR(a b q e p r:Int):List Int:=
 let E:=if a≠0/\p=0/\r=0 then 1 else r
 let D:=if a≠0/\p=0/\r=0 then 0 else e
 if E=0 then [a,b,q,D,dh (decide (a≠0)),E]else [a,b,dh (decide (D<b)),Gp D b,dh (decide (a≠0)),dh (decide (D<b))]
def SS(a s v q c p:Int):List Int:=
 let A:=if s≠0 then 0 else if a≠0/\p=0/\c<9223372036854775807 then c+1 else c
 [a,s,v,dh (decide (v<=A)),A,dh (decide (a≠0))]
def SU(a s v q c p:Int):List Int:=
 let A:=if s≠0 then v else if a≠0/\p=0/\ -9223372036854775808<c then c-1 else c
 [a,s,v,dh (decide (A<=0)),A,dh (decide (a≠0))]
def Og(k a b q e p r:Int):List Int:=
 if k=12 then SR a b q e p r else if k=13 then SS a b q e p r else if k=14 then SU a b q e p r else [a,b,q,e,p,r]
def Oh(k a b q:Int):List Int:=
 if k=15 then [a,dh (decide (a≠0/\q=0)),dh (decide (a≠0))]else if k=16 then [a,dh (decide (a=0/\q≠0)),dh (decide (a≠0))]
 else if k=17 then [a,b,dh (decide (a≠0\/(q≠0/\b=0)))]else if k=18 then [a,b,dh (decide (b=0/\(q≠0\/a≠0)))]else [a,b,q]
def Oi(k:Int):List Int->List Int
 |[a,b,q]=>Oh k a b q
 |[a,b,q,e]=>Of k a b q e
 |[a,b,q,e,p,r]=>Og k a b q e p r
 |c=>c
abbrev Tx:=List UInt8
structure Bl where
 kind:Int
 text:Tx
 n:Int
 xQ:Int
 PO:Int
 deriving DecidableEq
inductive Ex where
 |mk (op n:Int) (name field:Tx) (sub:List Ex) (xQ:Int)
inductive Sm where
 |mk (op:Int) (name:Tx) (to val:Ex) (A:List Ex) (D:List (List Int)) (fields:List Tx) (E:List (List Sm)) (xQ:Int)
instance:Inhabited Ex:=⟨.mk 0 0 [] [] [] 0⟩
instance:Inhabited Sm:=⟨.mk 0 [] default default [] [] [] [] 0⟩
structure Vr where
 name:Tx
 ty:Int
 sec:Int
 arr:Bool
 lo:Int
 hi:Int
 init:Int
 xQ:Int
 deriving DecidableEq
structure Pg where
 name:Tx
 vars:List Vr
 body:List Sm
structure PS where
 at_:Nat
 deep:Int
 vars:List Vr
structure Er where
 e:Int
 xQ:Int
 PO:Int
 deriving DecidableEq
abbrev PM(α:Type):=PR Er PS α
abbrev wr(n:Int):Int:=IntKind.i64.wrap n
section
variable (L:List Bl)
def QO(s:PS):PM Bl:=match L[s.at_]? with
 |some t=>.ok t s
 |none=>.out
def SX(t:Bl)(w:Tx):Bool:=(decide (t.kind=2)||decide (t.kind=4))&&decide (t.text=w)
def isS(w:Tx)(s:PS):PM Bool:=(QO L s).bind λt s=>.ok (SX t w) s
structure Kd where
 at_:Bl
 kind:Int
 arr:Bool
 lo:Int
 hi:Int
end
def SY:Ex->Int| .mk a _ _ _ _ _=>a
def SZ:Ex->Int| .mk _ a _ _ _ _=>a
def S5:Ex->Tx| .mk _ _ a _ _ _=>a
def S6:Ex->Tx| .mk _ _ _ a _ _=>a
def S7:Ex->List Ex| .mk _ _ _ _ a _=>a
def S8:Ex->Int| .mk _ _ _ _ _ a=>a
@[simp] def S9{a b c d e f}:SY (.mk a b c d e f)=a:=rfl
@[simp] def Ta{a b c d e f}:SZ (.mk a b c d e f)=b:=rfl
@[simp] def Tc{a b c d e f}:S5 (.mk a b c d e f)=c:=rfl
@[simp] def Td{a b c d e f}:S6 (.mk a b c d e f)=d:=rfl
@[simp] def Tf{a b c d e f}:S7 (.mk a b c d e f)=e:=rfl
@[simp] def Tg{a b c d e f}:S8 (.mk a b c d e f)=f:=rfl
def Th:Sm->Int| .mk a _ _ _ _ _ _ _ _=>a
def Ti:Sm->Tx| .mk _ a _ _ _ _ _ _ _=>a
def Tj:Sm->Ex| .mk _ _ a _ _ _ _ _ _=>a
def Tk:Sm->Ex| .mk _ _ _ a _ _ _ _ _=>a
def Tl:Sm->List Ex| .mk _ _ _ _ a _ _ _ _=>a
def QP:Sm->List (List Int)| .mk _ _ _ _ _ a _ _ _=>a
def Tm:Sm->List Tx| .mk _ _ _ _ _ _ a _ _=>a
def Tn:Sm->List (List Sm)| .mk _ _ _ _ _ _ _ a _=>a
def To:Sm->Int| .mk _ _ _ _ _ _ _ _ a=>a
@[simp] def Tp{a b c d e f g h i}:Th (.mk a b c d e f g h i)=a:=rfl
@[simp] def Tq{a b c d e f g h i}:Ti (.mk a b c d e f g h i)=b:=rfl
@[simp] def Tr{a b c d e f g h i}:Tj (.mk a b c d e f g h i)=c:=rfl
@[simp] def Ts{a b c d e f g h i}:Tk (.mk a b c d e f g h i)=d:=rfl
@[simp] def Tt{a b c d e f g h i}:Tl (.mk a b c d e f g h i)=e:=rfl
@[simp] def RO{a b c d e f g h i}:QP (.mk a b c d e f g h i)=f:=rfl
@[simp] def Tu{a b c d e f g h i}:Tm (.mk a b c d e f g h i)=g:=rfl
@[simp] def Tv{a b c d e f g h i}:Tn (.mk a b c d e f g h i)=h:=rfl
@[simp] def Tw{a b c d e f g h i}:To (.mk a b c d e f g h i)=i:=rfl
structure Pn where
 name:Tx
 ty:Int
 Ty:Bool
 deriving DecidableEq
def PQ(p:Pn):D:=.agg [.str p.name,.int .i64 p.ty,.bool p.Ty]
def fQ(ins outs:List (Tx×Bool))(n:Nat):List Pn:=ins.map (λx=>⟨x.1,if x.2 then 1 else 2,true⟩)++outs.map (λx=>⟨x.1,if x.2 then 1 else 2,false⟩)++List.replicate n ⟨[],1,false⟩
def tT:List (Tx×Bool):=[([68,111,110,101],false),([66,117,115,121],false),([65,99,116,105,118,101],false),([67,111,109,109,97,110,100,65,98,111,114,116,101,100],false),([69,114,114,111,114],false)]
def PT:List (Int×List Pn):=[
 (10,fQ [([73,78],false),([80,84],true)] [([81],false),([69,84],true)] 0),
 (11,fQ [([73,78],false),([80,84],true)] [([81],false),([69,84],true)] 0),
 (12,fQ [([73,78],false),([80,84],true)] [([81],false),([69,84],true)] 2),
 (13,fQ [([67,85],false),([82],false),([80,86],true)] [([81],false),([67,86],true)] 1),
 (14,fQ [([67,68],false),([76,68],false),([80,86],true)] [([81],false),([67,86],true)] 1),
 (15,fQ [([67,76,75],false)] [([81],false)] 1),
 (16,fQ [([67,76,75],false)] [([81],false)] 1),
 (17,fQ [([83,49],false),([82],false)] [([81,49],false)] 0),
 (18,fQ [([83],false),([82,49],false)] [([81,49],false)] 0),
 (20,fQ [([65,120,105,115],true),([69,110,97,98,108,101],false)] [([83,116,97,116,117,115],false),([69,114,114,111,114],false)] 0),
 (21,fQ [([65,120,105,115],true),([69,120,101,99,117,116,101],false)] tT 2),
 (22,fQ [([65,120,105,115],true),([69,120,101,99,117,116,101],false)] tT 2),
 (23,fQ [([65,120,105,115],true),([69,120,101,99,117,116,101],false)] tT 2),
 (24,fQ [([65,120,105,115],true),([69,120,101,99,117,116,101],false),([80,111,115,105,116,105,111,110],true),([86,101,108,111,99,105,116,121],true),([66,117,102,102,101,114,77,111,100,101],true)] tT 2),
 (25,fQ [([65,120,105,115],true),([69,120,101,99,117,116,101],false),([68,105,115,116,97,110,99,101],true),([86,101,108,111,99,105,116,121],true),([66,117,102,102,101,114,77,111,100,101],true)] tT 2),
 (26,fQ [([65,120,105,115],true),([69,120,101,99,117,116,101],false),([68,105,115,116,97,110,99,101],true),([86,101,108,111,99,105,116,121],true),([66,117,102,102,101,114,77,111,100,101],true)] tT 2),
 (27,fQ [([65,120,105,115],true),([69,120,101,99,117,116,101],false),([86,101,108,111,99,105,116,121],true)] [([73,110,86,101,108,111,99,105,116,121],false),([66,117,115,121],false),([65,99,116,105,118,101],false),([67,111,109,109,97,110,100,65,98,111,114,116,101,100],false),([69,114,114,111,114],false)] 2),
 (28,fQ [([65,120,105,115],true),([69,120,101,99,117,116,101],false),([77,97,115,116,101,114],true),([78,117,109,101,114,97,116,111,114],true),([68,101,110,111,109,105,110,97,116,111,114],true)] [([73,110,71,101,97,114],false),([66,117,115,121],false),([65,99,116,105,118,101],false),([67,111,109,109,97,110,100,65,98,111,114,116,101,100],false),([69,114,114,111,114],false)] 2),
 (29,fQ [([65,120,105,115],true),([69,120,101,99,117,116,101],false)] [([68,111,110,101],false),([69,114,114,111,114],false)] 1),
 (30,fQ [([65,120,105,115],true),([69,120,101,99,117,116,101],false),([80,111,115,105,116,105,111,110],true)] [([68,111,110,101],false),([69,114,114,111,114],false)] 1),
 (31,fQ [([65,120,105,115],true),([69,110,97,98,108,101],false),([80,101,114,99,101,110,116],true)] [([69,110,97,98,108,101,100],false)] 0)]
def Ep:List (Int×List Pn)->Int->List Pn
 |[],_=>[]
 |(a,l)::r,k=>if a=k then l else Ep r k
def tU(k:Int):List Pn:=Ep PT k
structure Te where
 t:Int
 e:Int
 xQ:Int
 deriving DecidableEq
def ew(b:Int):Nat:=(tU b).length
def dS:List Int:=[10,11,12,13,14,15,16,17,18,20,21,22,23,24,25,26,27,28,29,30,31]
def qR{b:Int}(A:b∉dS):tU b=[]:=by
 simp only[dS,Xm,Yg,or_false,not_or]at A;obtain⟨D,E,H,I,J,M,N,O,T,U,V,W,Y,Z,q,y,A',A0,A1,A2,A3⟩:=A;unfold tU PT;simp only[Ep,Xq (X7 D),Xq (X7 E),Xq (X7 H),Xq (X7 I),Xq (X7 J),Xq (X7 M),Xq (X7 N),Xq (X7 O),Xq (X7 T),Xq (X7 U),Xq (X7 V),Xq (X7 W),Xq (X7 Y),Xq (X7 Z),Xq (X7 q),Xq (X7 y),Xq (X7 A'),Xq (X7 A0),Xq (X7 A1),Xq (X7 A2),Xq (X7 A3)]
def Gr(b:Int):(tU b).length<=20:=by
 by_cases A:b∈dS
 .simp only[dS,Xm,Yg,or_false]at A;rcases A with rfl|rfl|rfl|rfl|rfl|rfl|rfl|rfl|rfl|rfl|rfl|rfl|rfl|rfl|rfl|rfl|rfl|rfl|rfl|rfl|rfl<;>decide
 .rw[qR A];decide
def Jq(x:Ins)(n:Int):Bool:=decide (x.n<=n)&&decide (n<=x.m)
def rH(C:List Int)(k:Int):Int:=C[k.toNat]?.getD 0
def Oj(C:List Int)(x:Ins):Bool:=decide (0<=rH C (x.b+1)/\rH C x.a<=rH C x.b)||decide (rH C (x.b+1)<0/\rH C x.b<=rH C x.a)
structure Ms where
 cells:List Int
 Gs:List Int
 at_:Int
 fuel:Int
 fault:Int
def Ms.pop(s:Ms):Ms:={s with Gs:=s.Gs.dropLast}
def Ms.push(s:Ms)(n:Int):Ms:={s with Gs:=s.Gs++[n]}
def Ms.top(s:Ms):Int:=s.Gs.getLast?.getD 0
def Mv(C:List Int)(k n:Int):List Int:=C.set k.toNat n
def Ok(x:Ins)(s:Ms):Option Ms:=
 if x.op=1 then some (s.push x.n)
 else if x.op=2 then some (s.push (rH s.cells x.a))
 else if x.op=3 then some (s.push (dh (decide (rH s.cells x.a≠0))))
 else if x.op=4\/x.op=5 then
  (if Jq x s.top=true then some (s.pop.push (if x.op=4 then rH s.cells (x.a+(s.top-x.n))else dh (decide (rH s.cells (x.a+(s.top-x.n))≠0))))else some {s.pop with fault:=3})
 else if x.op=6 then some {s.pop with cells:=Mv s.cells x.a s.top}
 else if x.op=7 then
  (if Jq x s.pop.top=true then some {s.pop.pop with cells:=Mv s.cells (x.a+(s.pop.top-x.n)) s.top} else some {s.pop.pop with fault:=3})
 else none
def TF(x:Ins)(s:Ms):Ms:=
 if x.b=6\/x.b=7 then
  (if (Mt x.b s.top (decide (x.a=1))).2.2=0 then s.pop.push (Mt x.b s.top (decide (x.a=1))).1 else {s.pop with fault:=(Mt x.b s.top (decide (x.a=1))).2.2})
 else
  (if (Mu x.b s.pop.top s.top (decide (x.a=1))).2.2=0 then s.pop.pop.push (Mu x.b s.pop.top s.top (decide (x.a=1))).1 else {s.pop.pop with fault:=(Mu x.b s.pop.top s.top (decide (x.a=1))).2.2})
def Mw(x:Ins)(C:List Int):List Int:=C.take x.a.toNat++Oi x.b ((C.drop x.a.toNat).take (ew x.b))++C.drop (x.a.toNat+ew x.b)
def QQ(x:Ins)(s:Ms):Ms:=
 if x.op=8 then TF x s
 else if x.op=9 then {s with at_:=x.a}
 else if x.op=10 then (if s.top=0 then {s.pop with at_:=x.a} else s.pop)
 else if x.op=11 then (if s.fuel=0 then {s with fault:=4} else {s with fuel:=s.fuel-1})
 else if x.op=12 then {s with cells:=Mw x s.cells}
 else if x.op=13 then s.push (dh (Oj s.cells x))
 else if x.op=14 then s.push (dh (decide (x.n<=rH s.cells x.a/\rH s.cells x.a<=x.m)))
 else s
def Ol(x:Ins)(s:Ms):Ms:=
 match Ok x {s with at_:=s.at_+1} with
 |some t=>t
 |none=>QQ x {s with at_:=s.at_+1}
inductive zy(l:List Ins):Ms->Ms->Prop
 |fault (s:Ms) (h:s.fault≠0):zy l s s
 |fin (s:Ms) (x:Ins) (A4:s.fault=0) (A5:l[s.at_.toNat]?=some x) (h:x.op=15):zy l s s
 |step (s:Ms) (x:Ins) (t:Ms) (A4:s.fault=0) (A5:l[s.at_.toNat]?=some x) (h:x.op≠15) (A6:zy l (Ol x s) t):zy l s t
@[simp] def WD(t:Bl):D:=.agg [.int .i64 t.kind,.str t.text,.int .i64 t.n,.int .i64 t.xQ,.int .i64 t.PO]
end Go.Am
end
