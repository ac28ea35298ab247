/-
  Texts of one proof, one behind the other.
-/
import Derived.Test.YtjhbmdndjhgjlaaDoorB1
import Derived.Test.YtjhbmdndjhgjlaaDoorB2
import Derived.Test.YtjhbmdndjhgjlaaDoorB3
import Derived.Lib.SplitLaws
import Derived.Lib.TrimUEq
import Derived.Lib.IndexBytes
import Derived.Lib.AtoiAllCases
import Derived.ProofKit
import Derived.ChangeArms
import Derived.ChangeCalls
import Derived.LaidLaws
import Derived.SizedLaws
import Derived.Handed
import Derived.Shelf.Vars
set_option linter.all false
section
namespace Go.Am
open Go
set_option maxRecDepth 20000
set_option maxHeartbeats 4000000
def iF(c:UInt8):List UInt8->List UInt8->List (List UInt8)
 |[],cur=>[cur]
 |x::r,cur=>if x=c then cur::iF c r []else iF c r (cur++[x])
def iG(c:UInt8)(s:List UInt8):List (List UInt8):=iF c s []
def qT(c:UInt8):∀(u r cur:List UInt8),(∀x∈u,x≠c)->iF c (u++r) cur=iF c r (cur++u)
 |[],r,cur,_=>by simp
 |x::u,r,cur,h=>by
  have ih:=qT c u r (cur++[x]) (λy O=>h y (by simp[O]));simp only[YK,iF];rw[Xq (h x (by simp)),ih,Yb];rfl
def rI:∀{u r:List UInt8}{c:UInt8},(∀x∈u,x≠c)->Go.Lib.indexByte (u++c::r) c=u.length
 |[],r,c,_=>by simp[Go.Lib.indexByte]
 |x::u,r,c,h=>by
  have ih:=rI (u:=u) (r:=r) (c:=c) (λy O=>h y (by simp[O]));simp only[YK,Go.Lib.indexByte];rw[Xq (by simpa using h x (by simp)),ih,Xq (by simp)];simp
def Bp(c:UInt8):∀s:List UInt8,(∀x∈s,x≠c)\/∃u r,s=u++c::r/\∀x∈u,x≠c
 |[]=>.inl (by simp)
 |x::s=>by
  by_cases J:x=c
  .exact .inr ⟨[],s,by simp[J],by simp⟩
  .rcases Bp c s with h|⟨u,r,rfl,h⟩
   .exact .inl (by simpa using ⟨J,h⟩)
   .exact .inr ⟨x::u,r,by simp,by simpa using ⟨J,h⟩⟩
def wU{c:UInt8}{s:List UInt8}(h:∀x∈s,x≠c):s.count c=0:=List.count_eq_zero.2 λA6=>h c A6 rfl
def yN(c:UInt8):∀(k:Nat)(s:List UInt8),s.count c=k->Go.Lib.splitK [c] 0 k s=iG c s
 |0,s,h=>by
  have H:∀x∈s,x≠c:=λx J e=>by subst e;exact List.count_eq_zero.1 h J
  have:=qT c s [] [] H;simp only[Go.Lib.splitK,iG];simp only[X2,Yy]at this;rw[this];rfl
 |k+1,s,h=>by
  rcases Bp c s with H|⟨u,r,rfl,H⟩
  .rw[wU H]at h;cases h
  .have T:r.count c=k:=by
    rw[List.count_append,wU H,List.count_cons_self]at h;omega
   have ih:=yN c k r T;unfold Go.Lib.splitK;rw[Go.Lib.index_one,rI H];rw[Xq (by simp)];have A7:((u.length:Int).toNat+0)=u.length:=by simp
   have A8:((u.length:Int).toNat+[c].length)=u.length+1:=by simp
   rw[A7,A8,List.take_left',List.drop_append]
   .simp only[List.drop_of_length_le (show u.length<=u.length+1 by omega),Nat.add_sub_cancel_left,List.drop_succ_cons,List.drop_zero,Yy,ih];unfold iG;rw[qT c u (c::r) [] H];simp[iF]
   .rfl
def H9(s:List UInt8)(c:UInt8):Go.Lib.split s [c]=iG c s:=by
 unfold Go.Lib.split;rw[Go.Lib.count_one];exact yN c _ s rfl
def cv:List UInt8->List UInt8->List (List UInt8)
 |[],cur=>if cur=[]then []else [cur]
 |x::r,cur=>if x=32 then (if cur=[]then cv r []else cur::cv r [])else cv r (cur++[x])
def gK(s:List UInt8):List (List UInt8):=cv s []
def mR:∀(u r cur:List UInt8),(∀x∈u,x≠32)->cv (u++r) cur=cv r (cur++u)
 |[],r,cur,_=>by simp
 |x::u,r,cur,h=>by
  have ih:=mR u r (cur++[x]) (λy O=>h y (by simp[O]));simp only[YK,cv];rw[Xq (h x (by simp)),ih,Yb];rfl
def Gt{n b1 b2 b3:Nat}:Go.Lib.decodeN n 32 b1 b2 b3=(32,1):=by unfold Go.Lib.decodeN;simp
def Gu{n b0 b1 b2 b3:Nat}(H:1<=n)(h:b0≠32):(Go.Lib.decodeN n b0 b1 b2 b3).1≠32/\1<=(Go.Lib.decodeN n b0 b1 b2 b3).2/\(Go.Lib.decodeN n b0 b1 b2 b3).2<=n/\(Go.Lib.decodeN n b0 b1 b2 b3).2<=4/\
 (1<(Go.Lib.decodeN n b0 b1 b2 b3).2->b1/64=2)/\(2<(Go.Lib.decodeN n b0 b1 b2 b3).2->b2/64=2)/\(3<(Go.Lib.decodeN n b0 b1 b2 b3).2->b3/64=2):=by
 unfold Go.Lib.decodeN;repeat' split
 all_goals (refine⟨?_,?_,?_,?_,?_,?_,?_⟩<;>simp only<;>omega)
def Bq(s:ByteArray)(a b:Nat):(s.extract a b).data.toList=(s.data.toList.take b).drop a:=by
 rw[Go.Lib.extract_data];simp[List.drop_take]
def Es(s:ByteArray):∀(f pos:Nat)(st:Option Nat)(A:List (Nat×Nat))(cur:List UInt8),s.data.toList.length<=pos+f->pos<=s.data.toList.length->
 (match st with|some a=>a<pos/\cur=(s.data.toList.take pos).drop a|none=>cur=[])->
 ((Go.Lib.closeSpans s (Go.Lib.spansFromP (λr=>decide ((r:Int)=32)) s f pos st A)).map λx=>(s.data.toList.take x.2).drop x.1)=
  (A.map λx=>(s.data.toList.take x.2).drop x.1)++cv (s.data.toList.drop pos) cur:=by
 have A1:s.size=s.data.toList.length:=by simp
 have close:∀(pos:Nat)(st:Option Nat)(A:List (Nat×Nat))(cur:List UInt8),pos=s.data.toList.length->
  (match st with|some a=>a<pos/\cur=(s.data.toList.take pos).drop a|none=>cur=[])->
  ((Go.Lib.closeSpans s (A,st)).map λx=>(s.data.toList.take x.2).drop x.1)=(A.map λx=>(s.data.toList.take x.2).drop x.1)++cv (s.data.toList.drop pos) cur:=by
  intro pos st A cur Y D;subst Y;cases st with
  |none=>
   simp only at D;subst D;simp only[Go.Lib.closeSpans,List.drop_length,cv,Yh,X2]
  |some a=>
   obtain⟨U,rfl⟩:=D;have Z:¬(s.data.toList.take s.data.toList.length).drop a=[]:=by
    intro h;have:=XR List.length h;simp at this U;omega
   simp only[Go.Lib.closeSpans,List.drop_length,cv,List.map_append,XU,List.map_nil,A1];rw[Xq Z]
 intro f;induction f with
 |zero=>
  intro pos st A cur A9 Y D;exact close pos st A cur (by omega) D
 |succ f ih=>
  intro pos st A cur A9 Y D;unfold Go.Lib.spansFromP;by_cases N:pos<s.size
  .rw[Xz N];rw[A1]at N;obtain⟨c,r,M⟩:∃c r,s.data.toList.drop pos=c::r:=by
    cases h:s.data.toList.drop pos with
    |nil=>have:=XR List.length h;simp at this N;omega
    |cons c r=>exact⟨c,r,rfl⟩
   have V:∀k,s.data.toList.getD (pos+k) 0=(c::r).getD k 0:=by
    intro k;rw[<-M];simp[List.getD]
   have q:=Go.Lib.decode_N s pos;have A2:=V 0;simp only[XZ]at A2;rw[A2,V 1,V 2,V 3]at q;have A3:s.data.toList.drop (pos+1)=r:=by rw[<-List.drop_drop,M];rfl
   by_cases A':c=32
   .subst A';have AA:Utf8.decode s pos=(32,1):=by rw[q];exact Gt
    rw[AA];simp only[Xz (show decide (((32:Nat):Int)=32)=true by decide)];cases st with
    |none=>
     simp only at D;subst D;simp only
     rw[ih (pos+1) none A [] (by omega) (by omega) rfl,M,A3];simp[cv]
    |some a=>
     obtain⟨U,rfl⟩:=D;have Z:¬(s.data.toList.take pos).drop a=[]:=by
      intro h;have:=XR List.length h;simp at this N;omega
     simp only
     rw[ih (pos+1) none _ [] (by omega) (by omega) rfl,M,A3];simp only[cv,Xz,Xq Z,List.map_append,XU,List.map_nil,Yb,YK,Yy]
   .have AB:c.toNat≠32:=λe=>A' (Yx.1 e);have AC:1<=s.data.toList.length-pos:=by omega
    have W:=Gu (n:=s.data.toList.length-pos) (b0:=c.toNat) (b1:=((c::r).getD 1 0).toNat) (b2:=((c::r).getD 2 0).toNat) (b3:=((c::r).getD 3 0).toNat) AC AB;have AD:Utf8.decode s pos=Go.Lib.decodeN (s.data.toList.length-pos) c.toNat ((c::r).getD 1 0).toNat ((c::r).getD 2 0).toNat ((c::r).getD 3 0).toNat:=q;rw[<-AD]at W;generalize Utf8.decode s pos=AE at W⊢;obtain⟨d,w⟩:=AE;simp only at W⊢;obtain⟨AF,AL,AM,AN,AG,AH,AI⟩:=W;rw[Xq (by simpa using λe:(d:Int)=32=>AF (by omega))];have AO:(c::r).length=s.data.toList.length-pos:=by rw[<-M];simp
    have hu:∀x∈(c::r).take w,x≠32:=by
     intro x J e;obtain⟨k,T,A4⟩:=Ys.1 J;have I:k<w:=by simp at T;omega
     have E:(c::r).getD k 0=x:=by
      rw[List.getElem_take]at A4;rw[<-A4];simp at T;simp[List.getD,show k<r.length+1 by omega]
     subst e;have A0:∀y:UInt8,y=32->y.toNat/64=2->False:=by
      rintro y rfl h;revert h
      decide
     match k,I,E with
     |0,_,E=>exact A' (by simpa using E)
     |1,I,E=>exact A0 _ E (AG I)
     |2,I,E=>exact A0 _ E (AH I)
     |3,I,E=>exact A0 _ E (AI I)
     |k+4,I,_=>omega
    have AJ:s.data.toList.drop pos=(c::r).take w++s.data.toList.drop (pos+w):=by
     rw[<-List.drop_drop,M,Yn]
    have hw:cv (s.data.toList.drop pos) cur=cv (s.data.toList.drop (pos+w)) (cur++(c::r).take w):=by
     rw[AJ,mR _ _ _ hu]
    have A5:∀a,a<=pos->(s.data.toList.take (pos+w)).drop a=(s.data.toList.take pos).drop a++(c::r).take w:=by
     intro a U;rw[List.take_add,List.drop_append,M];have AK:(s.data.toList.take pos).length=pos:=by simp;simp at N;omega
     rw[AK,show a-pos=0 by omega];rfl
    rw[hw];cases st with
    |none=>
     simp only at D;subst D;simp only
     rw[ih (pos+w) (some pos) A ((c::r).take w) (by omega) (by omega) ⟨by omega,by
      rw[A5 pos (Ds _)];have:(s.data.toList.take pos).drop pos=[]:=List.drop_eq_nil_of_le (by simp;omega);rw[this];rfl⟩]
     simp
    |some a=>
     obtain⟨U,rfl⟩:=D;simp only
     rw[ih (pos+w) (some a) A _ (by omega) (by omega) ⟨by omega,(A5 a (by omega)).symm⟩]
  .rw[Xq N];exact close pos st A cur (by omega) D
def Gv(s:ByteArray):(Go.Lib.goFieldsP (λr=>decide ((r:Int)=32)) s).map (λx=>x.data.toList)=gK s.data.toList:=by
 have:=Es s s.size 0 none [] [] (by simp) (by simp) rfl;simp only[List.map_nil,Yy,List.drop_zero]at this;unfold Go.Lib.goFieldsP Go.Lib.spansOfP gK;rw[<-this,List.map_map];apply List.map_congr_left;intro x _;exact Bq s x.1 x.2
def vk(s:List UInt8):Option Int:=match Go.Lib.parseIntB 64 s with
 | .ok n=>if Go.Lib.itoa n=s then some n else none
 |_=>none
def Br(c:UInt8):Prop:=48<=c.toNat/\c.toNat<=57
instance (c:UInt8):Decidable (Br c):=inferInstanceAs (Decidable (_/\_))
def dk:List UInt8->Nat->Nat
 |[],a=>a
 |c::r,a=>dk r (a*10+(c.toNat-48))
def qU(c:UInt8):∀(l:List UInt8)(a:Nat),dk (l++[c]) a=dk l a*10+(c.toNat-48)
 |[],a=>rfl
 |x::l,a=>qU c l _
def CK:∀(l:List UInt8)(a:Nat),a<=dk l a
 |[],a=>Ds _
 |x::l,a=>YH (by omega) (CK l (a*10+(x.toNat-48)))
def canon(l:List UInt8):Prop:=l≠[]/\(∀c∈l,Br c)/\(l.head?=some 48->l.length=1)
def yP{c:UInt8}(h:Br c):UInt8.ofNat (48+(c.toNat-48))=c:=by
 have:=h.1;rw[show 48+(c.toNat-48)=c.toNat by omega];simp
def tV:∀(n:Nat)(l:List UInt8),l.length=n->canon l->Go.Lib.decDigits (dk l 0)=l/\(l.head?≠some 48->1<=dk l 0):=by
 intro n;induction n with
 |zero=>
  intro l E h;exact absurd (XH E) h.1
 |succ n ih=>
  intro l E h;obtain⟨J,D,U⟩:=h;obtain⟨m,c,rfl⟩:∃m c,l=m++[c]:=⟨l.dropLast,l.getLast J,(Yz J).symm⟩;have A:Br c:=D c (by simp);rw[qU];cases m with
  |nil=>
   have M:dk [] 0*10+(c.toNat-48)<10:=by simp[dk];have:=A.2;omega
   constructor
   .rw[Go.Lib.decDigits,dif_pos M];simp only[dk,Nat.zero_mul,X8,Yy];rw[yP A]
   .intro V;simp only[Yy,List.head?_cons,ne_eq,Xn]at V;simp only[dk];have A':c.toNat≠48:=λe=>V (Yx.1 e);have:=A.1;omega
  |cons x m=>
   have V:(x::m).head?≠some 48:=by
    intro e;have:=U (by simpa using e);simp at this
   have hm:canon (x::m):=⟨by simp,λd I=>D d (by simp at I⊢;rcases I with I|I<;>simp[I]),λe=>absurd e V⟩;obtain⟨i1,i2⟩:=ih (x::m) (by simpa using E) hm;have i2:=i2 V;have I:=A.2;have M:¬dk (x::m) 0*10+(c.toNat-48)<10:=by omega
   constructor
   .rw[Go.Lib.decDigits,dif_neg M];have A0:(dk (x::m) 0*10+(c.toNat-48))/10=dk (x::m) 0:=by omega
    have A1:(dk (x::m) 0*10+(c.toNat-48))%10=c.toNat-48:=by omega
    rw[A0,A1,i1,yP A]
   .intro _;omega
def iH(u:Nat):canon (Go.Lib.decDigits u)/\dk (Go.Lib.decDigits u) 0=u/\(1<=u->(Go.Lib.decDigits u).head?≠some 48):=by
 induction u using Nat.strongRecOn with
 |_ u ih=>
  by_cases h:u<10
  .rw[Go.Lib.decDigits,dif_pos h];have O:(UInt8.ofNat (48+u)).toNat=48+u:=by rw[UInt8.toNat_ofNat'];omega
   refine⟨⟨by simp,by simp[Br,O];omega,by simp⟩,by simp only[dk,O];omega,λD e=>?_⟩;simp only[List.head?_cons,Xn]at e;have:=XR UInt8.toNat e;rw[O]at this;have A':(48:UInt8).toNat=48:=rfl;omega
  .rw[Go.Lib.decDigits,dif_neg h];obtain⟨⟨i0,i1,i2⟩,i3,i4⟩:=ih (u/10) (by omega);have O:(UInt8.ofNat (48+u%10)).toNat=48+u%10:=by rw[UInt8.toNat_ofNat'];omega
   have hh:(Go.Lib.decDigits (u/10)++[UInt8.ofNat (48+u%10)]).head?=(Go.Lib.decDigits (u/10)).head?:=by
    cases A2:Go.Lib.decDigits (u/10)with
    |nil=>exact absurd A2 i0
    |cons x m=>rfl
   have i4:=i4 (by omega);refine⟨⟨by simp,λc A=>?_,λe=>?_⟩,?_,λ_=>?_⟩
   .rcases XL.1 A with A|A
    .exact i1 c A
    .simp at A;subst A;simp[Br,O];omega
   .rw[hh]at e;exact absurd e i4
   .rw[qU,i3,O];omega
   .rw[hh];exact i4
def yQ:∀(l:List UInt8)(a:Nat),(∀c∈l,Br c)->dk l a<=18446744073709551615->Go.Lib.parseUintM 18446744073709551615 a l=.ok (dk l a)
 |[],a,_,_=>rfl
 |c::r,a,h,N=>by
  have A:=h c (by simp);have ge:=CK r (a*10+(c.toNat-48));have A3:dk r (a*10+(c.toNat-48))<=18446744073709551615:=N;have ih:=yQ r (a*10+(c.toNat-48)) (λx A4=>h x (by simp[A4])) A3;simp only[Go.Lib.parseUintM];rw[Xz (show 48<=c.toNat/\c.toNat<=57 from A),Xq (by omega),Xq (by omega),ih];rfl
instance (l:List UInt8):Decidable (canon l):=inferInstanceAs (Decidable (_/\_/\(_->_)))
def qV(s:List UInt8):Option Int:=
 if s.head?=some 45 then
  (if canon s.tail/\s.tail.head?≠some 48/\s.tail.length<=19/\dk s.tail 0<=9223372036854775808 then some (-(dk s.tail 0:Int))else none)
 else (if canon s/\s.length<=19/\dk s 0<9223372036854775808 then some (dk s 0:Int)else none)
def Ka:∀(n:Nat)(l:List UInt8),l.length=n+1->canon l->l.head?≠some 48->10^n<=dk l 0:=by
 intro n;induction n with
 |zero=>
  intro l E h hh;have:=(tV 1 l E h).2 hh;simpa using this
 |succ n ih=>
  intro l E h hh;obtain⟨J,D,U⟩:=h;obtain⟨m,c,rfl⟩:∃m c,l=m++[c]:=⟨l.dropLast,l.getLast J,(Yz J).symm⟩;have hm:m.length=n+1:=by simpa using E
  have Z:m.head?≠some 48:=by
   cases m with
   |nil=>simp at hm
   |cons x m=>simpa using hh
  have:=ih m hm ⟨λe=>by subst e;simp at hm,λd I=>D d (by simp[I]),λe=>absurd e Z⟩ Z;rw[qU,Nat.pow_succ];omega
def xR{l:List UInt8}(h:canon l)(N:dk l 0<=9223372036854775808):l.length<=19:=by
 by_cases hh:l.head?=some 48
 .rw[h.2.2 hh];omega
 .by_cases E:l.length<=19
  .exact E
  .have D:=Ka (l.length-1) l (by omega) h hh;have U:10^19<=10^(l.length-1):=Nat.pow_le_pow_right (by decide) (by omega);have A8:(10:Nat)^19=10000000000000000000:=by decide
   omega
def Gw{s:List UInt8}{n:Int}(h:Go.Lib.parseIntB 64 s=.ok n):(s.head?=some 45/\∃u:Nat,n= -(u:Int)/\u<=9223372036854775808)\/(s.head?≠some 45/\∃u:Nat,n=(u:Int)/\u<9223372036854775808):=by
 unfold Go.Lib.parseIntB at h;split at h
 .cases h
 .rename_i c r;simp only at h;split at h
  .cases h
  .cases h
  .rename_i u hu;split at h
   .cases h
   .split at h
    .cases h
    .rename_i D U;have he:∀d:UInt8,d.toNat=45↔d=45:=λd=>⟨λe=>Yx.1 e,λe=>by rw[e];rfl⟩;by_cases A:c.toNat=45
     .rw[Xz A]at h;cases h;refine .inl ⟨by simp[(he c).1 A],u,rfl,?_⟩;have:¬2^(64-1)<u:=λM=>U ⟨A,M⟩;simpa using this
     .rw[Xq A]at h;cases h;refine .inr ⟨by simp only[List.head?_cons,ne_eq,Xn];exact λe=>A ((he c).2 e),u,rfl,?_⟩;have:¬2^(64-1)<=u:=λM=>D ⟨A,M⟩;simpa using this
def Bs{l:List UInt8}(h:canon l)(N:dk l 0<=18446744073709551615):Go.Lib.parseUintB 64 l=.ok (dk l 0):=by
 unfold Go.Lib.parseUintB;rw[Xq h.1];have:(2:Nat)^64-1=18446744073709551615:=by decide
 rw[this];exact yQ l 0 h.2.1 N
def itoa_neg{u:Nat}(h:1<=u):Go.Lib.itoa (-(u:Int))=45::Go.Lib.decDigits u:=by
 unfold Go.Lib.itoa;rw[Xz (by omega)];have:(-(u:Int)).natAbs=u:=by omega
 rw[this]
def vm(u:Nat):Go.Lib.itoa (u:Int)=Go.Lib.decDigits u:=by
 unfold Go.Lib.itoa;rw[Xq (by omega)];have:(u:Int).toNat=u:=by omega
 rw[this]
def wV{l:List UInt8}(h:canon l):l.head?≠some 45/\l.head?≠some 43:=by
 obtain⟨J,D,_⟩:=h;cases l with
 |nil=>exact absurd rfl J
 |cons c l=>
  have A:=D c (by simp);simp only[List.head?_cons,ne_eq,Xn];exact⟨λe=>by subst e;revert A;decide,λe=>by subst e;revert A;decide⟩
def Kb{s:List UInt8}{n:Int}(h:qV s=some n):vk s=some n:=by
 unfold qV at h;unfold vk;split at h
 .rename_i H;obtain⟨r,rfl⟩:∃r,s=45::r:=by
   cases s with
   |nil=>simp at H
   |cons c r=>simp at H;exact⟨r,by rw[H]⟩
  split at h
  .rename_i A;obtain⟨A,hh,_,N⟩:=A;cases h;simp only[List.tail_cons]at A hh N⊢;have W:Go.Lib.parseIntB 64 (45::r)=.ok (-(dk r 0:Int)):=by
    unfold Go.Lib.parseIntB;simp only
    have D:(45:UInt8).toNat=45:=rfl;rw[D,Xz (.inr rfl),Bs A (by omega)];have Y:(2:Nat)^(64-1)=9223372036854775808:=by decide
    rw[Y];simp only[not_true,false_and,X3,true_and];rw[Xq (by omega)];rfl
   rw[W];simp only
   rw[itoa_neg ((tV _ r rfl A).2 hh),(tV _ r rfl A).1,Xz rfl]
  .cases h
 .rename_i H;split at h
  .rename_i A;obtain⟨A,_,N⟩:=A;cases h;have W:Go.Lib.parseIntB 64 s=.ok (dk s 0:Int):=by
    unfold Go.Lib.parseIntB;split
    .exact absurd rfl A.1
    .rename_i c r _;obtain⟨q1,q2⟩:=wV A;simp only[List.head?_cons,ne_eq,Xn]at q1 q2;have q:¬c.toNat=45:=λe=>q1 (Yx.1 e);have A5:¬c.toNat=43:=λe=>q2 (Yx.1 e);simp only
     rw[Xq (by rintro (e|e);exact A5 e;exact q e),Bs A (by omega)];have Y:(2:Nat)^(64-1)=9223372036854775808:=by decide
     rw[Y];simp only[q,not_false_eq_true,true_and,false_and,X3];rw[Xq (by omega)]
   rw[W];simp only
   rw[vm,(tV _ s rfl A).1,Xz rfl]
  .cases h
def Ib{s:List UInt8}{n:Int}(h:vk s=some n):qV s=some n:=by
 unfold vk at h;split at h
 .rename_i m W;split at h
  .rename_i hi;cases h;subst hi;rcases Gw W with ⟨H,u,rfl,hu⟩|⟨H,u,rfl,hu⟩
   .have y:1<=u:=by
     rcases Nat.eq_zero_or_pos u with rfl|A6
     .exfalso;have:Go.Lib.itoa (-((0:Nat):Int))=Go.Lib.decDigits 0:=vm 0;rw[this]at H;exact (wV (iH 0).1).1 H
     .exact A6
    rw[itoa_neg y]at H⊢;obtain⟨T,c2,c3⟩:=iH u;unfold qV;rw[Xz (by simp)];simp only[List.tail_cons];simp only[c2];rw[Xz ⟨T,c3 y,xR T (by rw[c2];exact hu),hu⟩]
   .rw[vm];obtain⟨T,c2,c3⟩:=iH u;unfold qV;rw[Xq (wV T).1];simp only[c2];rw[Xz ⟨T,xR T (by rw[c2];omega),hu⟩]
  .cases h
 .cases h
def Mz(s:List UInt8):vk s=qV s:=by
 cases h:qV s with
 |some n=>exact Kb h
 |none=>
  cases A7:vk s with
  |none=>rfl
  |some n=>rw[Ib A7]at h;cases h
end Go.Am
end
section
namespace Go.Am
open Go Go.ChangeShapes Go.WideShapes Go.RowKit
def wX(P:Program)(ok:TypeId->Bool):List Field->Nat->Nat->Bool
 |[],o,A5=>o == A5
 |f::r,o,A5=>f.offset == o&&ok f.type&&wX P ok r (o+P.cellsOf f.type) A5
def mi(P:Program):Nat->TypeId->Bool
 |0,_=>false
 |n+1,t=>match P.underlying t with
  |some .bool|some (.int _)|some .string=>P.cellsOf t == 1
  |some (.slice e)=>P.cellsOf t == 1&&mi P n e&&decide (1<=P.cellsOf e)
  |some (.struct fs)=>wX P (mi P n) fs.toList 0 (P.cellsOf t)
  |_=>false
def typed(P:Program):Nat->TypeId->D->Prop
 |0,_,_=>False
 |n+1,t,d=>match P.underlying t with
  |some .bool=>∃b,d=.bool b
  |some (.int k)=>∃z,d=.int k z/\(Lit.int k z).wf=true
  |some .string=>∃s,d=.str s/\s.length<=maxLen
  |some (.slice e)=>∃xs,d=.list xs/\xs.length<=maxLen/\∀x∈xs,typed P n e x
  |some (.struct fs)=>∃M:List D,d=.agg (M.flatMap D.cells)/\M.length=fs.size/\∀(i:Nat)(f:Field)(y:D),fs[i]?=some f->M[i]?=some y->typed P n f.type y
  |_=>False
def Reads(w:World)(F:Nat->Prop)(d:D)(cs:List Value):Prop:=
 d.cells.length=cs.length/\(∀u∈cs,ba u=true)/\∀(i:Nat) c u,d.cells[i]?=some c->cs[i]?=some u->aq w F c u/\c.flat=true
def Reads.one{w F d v}(h:aq w F d v)(I:d.flat=true)(J:d.cells=[d]):Reads w F d [v]:=by
 refine⟨by rw[J];rfl,λu hu=>?_,λi c u A N=>?_⟩
 .simp at hu;subst hu;exact h.one I
 .rw[J]at A;cases i with
  |zero=>simp at A N;subst A;subst N;exact⟨h,I⟩
  |succ i=>simp at A
def shaped(d:D)(cs:List Value):Value:=
 match d with
 | .agg _=>.agg cs.toArray
 |_=>cs.headD undef
def Reads.rel{w F d cs}(h:Reads w F d cs):aq w F d (shaped d cs):=by
 obtain⟨A,N,Z⟩:=h;have key:d.flat=true->d.cells=[d]->aq w F d (cs.headD undef):=by
  intro I J;rw[J]at A Z;match cs,A with
  |[u],_=>exact (Z 0 d u rfl rfl).1
 cases d with
 |agg AI=>exact aq.jJ A N (λi c v J AJ=>(Z i c v J AJ).1)
 |_=>exact key rfl rfl
def Reads.Bt{w F d cs}(h:Reads w F d cs):(shaped d cs).cells.toList=cs:=by
 obtain⟨A,N,Z⟩:=h;have key:d.cells=[d]->(cs.headD undef).cells.toList=cs:=by
  intro J;rw[J]at A;match cs,A,N with
  |[u],_,N=>simp only[List.headD];rw[bX (N u (by simp))]
 cases d with
 |agg AI=>simp[shaped,Value.cells]
 |_=>exact key rfl
def wY{w:World}{base:Nat}{a:Addr}{n:Nat}{cs:List Value}(h:w.cells? base a n=some cs):cs.length=n/\∀j,j<n->w.cell? (a.add j)=cs[j]?:=by
 unfold World.cells? at h;split at h
 .exact⟨by simpa using mapM_some_length h,λj A'=>mapM_some_get h j j (by simp[A'])⟩
 .cases h
def add_add{b off n j:Nat}:(Addr.add (Addr.add ⟨b,off,none⟩ n) j)=⟨b,off+n+j,none⟩:=by
 unfold Addr.add;split<;>split<;>simp_all
def qW{w:World}{a:Addr}{c:Value}(h:w.cell? a=some c):a.block<w.heap.size/\a.spot=none:=by
 unfold World.cell? at h;split at h
 .rename_i hh;refine⟨(Xv.1 hh).1,?_⟩;split at h
  .cases h
  .rename_i AK;simpa using AK
 .cases h
def s7{P:Program}{w:World}{F:Nat->Prop}{n:Nat}{cs:List Value}{ok:TypeId->Bool}:∀(fs:List Field)(o:Nat),wX P ok fs o cs.length=true->
 (∀f∈fs,ok f.type=true->∃d,typed P n f.type d/\Reads w F d ((cs.drop f.offset).take (P.cellsOf f.type))/\d.cells.length=P.cellsOf f.type)->
 ∃M:List D,M.length=fs.length/\(∀(i:Nat)(f:Field)(y:D),fs[i]?=some f->M[i]?=some y->typed P n f.type y)/\o<=cs.length/\Reads w F (.agg (M.flatMap D.cells)) (cs.drop o)
 |[],o,O,_=>by
  simp only[wX,beq_iff_eq]at O;subst O;exact⟨[],rfl,λi f y I=>by simp at I,Ds _,by simp[D.cells],by simp,λi c u A=>by simp[D.cells]at A⟩
 |f::r,o,O,I=>by
  simp only[wX,Xl,beq_iff_eq]at O;obtain⟨⟨rfl,A6⟩,AL⟩:=O;obtain⟨M,A,N,Z,V⟩:=s7 r _ AL (λA7 AM=>I A7 (by simp[AM]));obtain⟨d,U,A0,Y⟩:=I f (by simp) A6;refine⟨d::M,by simp[A],λi A7 y hi T=>?_,by omega,?_⟩
  .cases i with
   |zero=>simp at hi T;subst hi;subst T;exact U
   |succ i=>simp at hi T;exact N i A7 y hi T
  .have AN:cs.drop f.offset=(cs.drop f.offset).take (P.cellsOf f.type)++cs.drop (f.offset+P.cellsOf f.type):=by
    rw[<-List.drop_drop,Yn]
   obtain⟨AE,a2,a3⟩:=A0;obtain⟨b1,b2,b3⟩:=V;have AO:(D.agg ((d::M).flatMap D.cells)).cells=d.cells++(D.agg (M.flatMap D.cells)).cells:=by simp[D.cells]
   rw[AN];unfold Reads;rw[AO];refine⟨by simp only[Xx,AE,b1],λu hu=>?_,λi c u J hu=>?_⟩
   .rcases XL.1 hu with hu|hu
    .exact a2 u hu
    .exact b2 u hu
   .by_cases hi:i<d.cells.length
    .rw[Xr hi]at J;rw[Xr (by omega)]at hu;exact a3 i c u J hu
    .rw[Xu (by omega)]at J;rw[Xu (by omega)]at hu;rw[<-AE]at hu;exact b3 _ c u J hu
section
variable {H:Type} {enc:TypeId×Value->H} {P:Program} {w:World} {base:Nat} {sp:Nat->Bool} {held:Bool}
theorem s8:∀(n:Nat)(m:Nat)(t:TypeId)(cs:List Value)(x:DataW H×List MemPlace),mi P n t=true->DataW.trod enc P w base sp held m t cs=some x->
 ∃d,typed P n t d/\Reads w (λ_=>False) d cs/\d.cells.length=P.cellsOf t
 |0,_,_,_,_,E,_=>by cases E
 |n+1,m,t,cs,x,E,W=>by
  simp only[mi]at E;simp only[typed];cases O:P.underlying t with
  |none=>rw[O]at E;cases E
  |some u=>
   rw[O]at E;cases u with
   |bool=>
    obtain⟨b,rfl,_⟩:=DataW.trod_bool O W;exact⟨.bool b,⟨b,rfl⟩,Reads.one (.bool b) rfl rfl,by simp at E;simp[D.cells,E]⟩
   |int k=>
    obtain⟨z,rfl,_,hw⟩:=DataW.trod_int O W;exact⟨.int k z,⟨z,rfl,hw⟩,Reads.one (.int k z) rfl rfl,by simp at E;simp[D.cells,E]⟩
   |string=>
    obtain⟨s,rfl,_,hw⟩:=DataW.trod_string O W;exact⟨.str s.data.toList,⟨_,rfl,by simpa using hw⟩,Reads.one (.str s _ rfl) rfl rfl,by simp at E;simp[D.cells,E]⟩
   |slice e=>
    simp only[Xl,beq_iff_eq,XK]at E;obtain⟨⟨A,N⟩,Z⟩:=E;rcases DataW.trod_slice O W with ⟨rfl,_⟩|⟨a,len,cap,elems,rest,m',rfl,rfl,_,AZ,AP,A_,Aa,A1,_⟩
    .exact⟨.list [],⟨[],rfl,by simp,by simp⟩,Reads.one (.nil none 0 (λ_=>rfl)) rfl rfl,by simp[D.cells,A]⟩
    .have AQ:∀i,∃p:D×Value,i<len->typed P n e p.1/\aq w (λ_=>False) p.1 p.2/\p.1.size=P.cellsOf e/\a.block<w.heap.size/\a.spot=none/\
      ∀j c,p.2.cells[j]?=some c->w.cell? ⟨a.block,a.off+i*P.cellsOf e+j,none⟩=some c:=by
      intro i;by_cases hi:i<len
      .have V:=A1 i hi;have A2:∃y,elems[i]?=some y:=⟨elems[i]'(by omega),by simp[show i<elems.length by omega]⟩
       obtain⟨y,T⟩:=A2;rw[T]at V;simp only[X5]at V;obtain⟨A8,AR,AS⟩:=V;obtain⟨d,U,A0,Y⟩:=s8 n m' e A8 y N AS;obtain⟨g1,g2⟩:=wY AR;have g3:a.block<w.heap.size/\a.spot=none:=by
        have A9:∃i0,i0<len/\i0=0:=⟨0,by omega,rfl⟩;have AA:=A1 0 (by omega);have AT:∃y,elems[0]?=some y:=⟨elems[0]'(by omega),by simp[show 0<elems.length by omega]⟩
        obtain⟨Ab,AU⟩:=AT;rw[AU]at AA;simp only[X5]at AA;obtain⟨AB,AV,_⟩:=AA;obtain⟨Ac,AW⟩:=wY AV;have q:=AW 0 (by omega);have A3:∃c,AB[0]?=some c:=⟨AB[0]'(by omega),by simp[show 0<AB.length by omega]⟩
        obtain⟨c,J⟩:=A3;rw[J]at q;have A4:=qW q;simpa [Addr.add]using A4
       refine⟨⟨d,shaped d A8⟩,λ_=>⟨U,A0.rel,by rw[<-D.cZ];exact Y,g3.1,g3.2,λj c A'=>?_⟩⟩;have q:=A0.Bt;have A3:A8[j]?=some c:=by rw[<-q];simpa using A'
       have AX:j<P.cellsOf e:=by
        have:=(D1.1 A3).1;omega
       have A4:=g2 j AX;obtain⟨AF,ao,AC⟩:=a;obtain rfl:AC=none:=g3.2;rw[add_add]at A4;rw[A4];exact A3
      .exact⟨⟨.bool false,undef⟩,λh=>absurd h hi⟩
     obtain⟨f,I⟩:=XP AQ;refine⟨.list ((List.range len).map λi=>(f i).1),⟨_,rfl,by simp;omega,λx W=>?_⟩,Reads.one ?_ rfl rfl,by simp[D.cells,A]⟩
     .simp only[Xt,XI]at W;obtain⟨i,hi,rfl⟩:=W;exact (I i hi).1
     .by_cases Y:len=0
      .subst Y;exact .nil (some a) cap (λh=>by cases h)
      .have A9:=I 0 (by omega);obtain⟨AF,ao,AC⟩:=a;obtain rfl:AC=none:=A9.2.2.2.2.1;have AD:((List.range len).map λi=>(f i).1).length=len:=by simp
       have:=aq.list (w:=w) (F:=λ_=>False) ((List.range len).map λi=>(f i).1) AF ao cap (P.cellsOf e) (λi=>(f i).2) (by rw[AD];exact AP) A9.2.2.2.1 (λh=>h)
        (λd U=>by
         simp only[Xt,XI]at U;obtain⟨i,hi,rfl⟩:=U;exact (I i hi).2.2.1)
        (λi d U=>by
         simp only[XA,Xj]at U;obtain⟨Ad,AY,rfl⟩:=U;have:=D1.1 AY;obtain⟨AG,AH⟩:=this;simp at AG AH;subst AH;exact (I _ AG).2.1)
        (λi j c hi A'=>by
         rw[AD]at hi;exact (I i hi).2.2.2.2.2 j c A')
       rw[AD]at this;exact this
   |struct fs=>
    obtain⟨xs,m',rfl,_,Y,Ae,A1⟩:=DataW.trod_struct O W;simp only at E;rw[<-Y]at E;obtain⟨M,A,N,_,V⟩:=s7 (n:=n) (w:=w) (F:=λ_=>False) fs.toList 0 E (λf I A6=>by
     obtain⟨i,hi,he⟩:=Ys.1 I;have A2:=A1 i f (by simp at hi he;simp[hi,he]);have q:∃y,xs[i]?=some y:=⟨xs[i]'(by simp at hi;omega),by simp[show i<xs.length by simp at hi;omega]⟩
     obtain⟨y,T⟩:=q;rw[T]at A2;exact s8 n m' f.type _ y A6 A2)
    refine⟨.agg (M.flatMap D.cells),⟨M,rfl,by simpa using A,λi f y hi T=>N i f y (by simpa using hi) T⟩,by simpa using V,?_⟩;have:=V.1;rw[this];simpa using Y
   |_=>cases E
end
end Go.Am
end
section
namespace Go.Am
open Go Go.ChangeShapes Go.WideShapes Go.RowKit
section
variable {H:Type} {enc:TypeId×Value->H} {P:Program} {w:World} {base:Nat} {sp:Nat->Bool} {held:Bool}
theorem Kc{n:Nat}{t:TypeId}{v:Value}{d:DataW H}{ps:List MemPlace}{b0:Nat}(U:mi P n t=true)(J:Value.okWide P w .any b0 t v)(h:DataW.Trod enc P w base sp held t v d ps):
 ∃x,typed P n t x/\aq w (λ_=>False) x v:=by
 obtain⟨m,hm⟩:=h;obtain⟨x,I,AM,_⟩:=s8 n m t _ _ U hm;refine⟨x,I,?_⟩;have N:=AM.rel;cases n with
 |zero=>cases U
 |succ n=>
  simp only[mi]at U;simp only[typed]at I;cases E:P.underlying t with
  |none=>rw[E]at U;cases U
  |some u=>
   rw[E]at U I;cases u with
   |bool=>obtain⟨b,rfl⟩:=okWide_bool E J;obtain⟨y,rfl⟩:=I;exact N
   |int k=>obtain⟨b,rfl⟩:=okWide_int E J;obtain⟨y,rfl,_⟩:=I;exact N
   |string=>obtain⟨b,rfl⟩:=okWide_string E J;obtain⟨y,rfl,_⟩:=I;exact N
   |slice e=>obtain⟨a,len,cap,rfl⟩:=okWide_slice E J;obtain⟨y,rfl,_⟩:=I;exact N
   |struct fs=>
    simp only[Value.okWide,E]at J;obtain⟨cs,rfl,_⟩:=J;obtain⟨A0,rfl,_⟩:=I;simpa [shaped,Value.cells]using N
   |_=>cases U
theorem Bu{n b0:Nat}:∀{V:List TypeId}{vs:List Value}{A:List (DataW H)}{ps:List MemPlace},DataW.TrodAll enc P w base sp held V vs A ps->(∀t∈V,mi P n t=true)->
 (∀(j:Nat) t v,V[j]?=some t->vs[j]?=some v->Value.okWide P w .any b0 t v)->
 ∃xs:List D,xs.length=vs.length/\xs.length=V.length/\(∀(i:Nat) t x,V[i]?=some t->xs[i]?=some x->typed P n t x)/\∀(i:Nat) x v,xs[i]?=some x->vs[i]?=some v->aq w (λ_=>False) x v
 |[],[],[],_,_,_,_=>⟨[],rfl,rfl,λi t x h=>by simp at h,λi x v h=>by simp at h⟩
 |t::V,v::vs,d::A,ps,h,U,J=>by
  obtain⟨p,q,N,Z,_⟩:=h;obtain⟨x,I,A3⟩:=Kc (U t (by simp)) (J 0 t v rfl rfl) N;obtain⟨xs,g1,g2,g3,g4⟩:=Bu Z (λt E=>U t (by simp[E])) (λj t v O T=>J (j+1) t v (by simpa using O) (by simpa using T));refine⟨x::xs,by simp[g1],by simp[g2],λi AN A9 O T=>?_,λi A9 AO O T=>?_⟩
  .cases i with
   |zero=>simp at O T;subst O;subst T;exact I
   |succ i=>simp at O T;exact g3 i AN A9 O T
  .cases i with
   |zero=>simp at O T;subst O;subst T;exact A3
   |succ i=>simp at O T;exact g4 i A9 AO O T
 |[],_::_,_,_,h,_,_=>by cases h
 |[],[],_::_,_,h,_,_=>by cases h
 |_::_,[],_,_,h,_,_=>by cases h
 |_::_,_::_,[],_,h,_,_=>by cases h
theorem rJ(A2:laidOutB P=true){W A':World}(M:Below W.heap.size W A'):∀{V:List TypeId}{vs:List Value}{A:List (DataW H)}{ps:List MemPlace},DataW.TrodAll enc P W 0 (λ_=>true) true V vs A ps->
 (∀t∈V,P.readableRec t=true/\t<P.types.size)->(∀x∈ps,x.block<W.heap.size)->DataW.TrodAll enc P A' 0 (λb=>decide (b<W.heap.size)) true V vs A ps
 |[],[],[],_,h,_,_=>h
 |t::V,v::vs,d::A,ps,h,U,A8=>by
  obtain⟨p,q,N,Z,rfl⟩:=h;exact⟨p,q,Below.trod A2 (U t (by simp)).1 (U t (by simp)).2 N M (λx I=>A8 x (by simp[I])),rJ A2 M Z (λt E=>U t (by simp[E])) (λx I=>A8 x (by simp[I])),rfl⟩
 |[],_::_,_,_,h,_,_=>by cases h
 |[],[],_::_,_,h,_,_=>by cases h
 |_::_,[],_,_,h,_,_=>by cases h
 |_::_,_::_,[],_,h,_,_=>by cases h
end
section
variable {P:Program} {n:Nat} {t:TypeId} {d:D}
def xS(P:Program)(n:Nat):List Field->List D->Prop
 |[],A=>A=[]
 |f::r,A=>∃y AG,typed P n f.type y/\xS P n r AG/\A=y.cells++AG
theorem wZ:∀{fs:List Field}{A0:List D},A0.length=fs.length->(∀(i:Nat)(f:Field)(y:D),fs[i]?=some f->A0[i]?=some y->typed P n f.type y)->xS P n fs (A0.flatMap D.cells)
 |[],[],_,_=>rfl
 |f::fs,y::A0,h,AH=>⟨y,A0.flatMap D.cells,AH 0 f y rfl rfl,wZ (by simpa using h) (λi f y N Z=>AH (i+1) f y (by simpa using N) (by simpa using Z)),by simp⟩
theorem iI{k:IntKind}(E:P.underlying t=some (.int k))(h:typed P (n+1) t d):∃z,d=.int k z/\(Lit.int k z).wf=true:=by simpa only[typed,E]using h
theorem Bv(E:P.underlying t=some .string)(h:typed P (n+1) t d):∃s,d=.str s/\s.length<=maxLen:=by simpa only[typed,E]using h
theorem Cd{e:TypeId}(E:P.underlying t=some (.slice e))(h:typed P (n+1) t d):∃xs,d=.list xs/\xs.length<=maxLen/\∀x∈xs,typed P n e x:=by simpa only[typed,E]using h
theorem s9{fs:Array Field}(E:P.underlying t=some (.struct fs))(h:typed P (n+1) t d):∃A,d=.agg A/\xS P n fs.toList A:=by
 simp only[typed,E]at h;obtain⟨A0,rfl,N,Z⟩:=h;exact⟨_,rfl,wZ (by simpa using N) (λi f y O T=>Z i f y (by simpa using O) T)⟩
end
def MD(X:Ctx):Bool:=
 (List.range X.P.funcs.size).all (λg=>match X.P.funcs[g]? with|some fn=>fn.name != "runtime.NumGoroutine" &&(match fn.body with|some c=>!((X.fp g).sites.all λk=>decide (100<=k))||cw X g fn.ntmps c|none=>true)|none=>true)&&X.P.follows .mixedOrders&&X.ov.isNone
def jA(X:Ctx)(g:FuncId)(h:List AV->Option AV):Prop:=dC X.P g=true/\∀(A4:List AV)(a:AV),h A4=some a->∀(φ:aQ)(F:Nat->Prop)(w:World)(vs:Array Value),b5 w F X.gl->(∀b,F b->b<w.heap.size)->A4.length=vs.size->
 (∀(i:Nat) x v,A4[i]?=some x->vs[i]?=some v->ai φ w F x v)->Calls X.P g vs w λe w'=>∃v,e=.returned v/\Below w.heap.size w w'/\ai φ w' F a v
def jA.lift{X:Ctx}{g:FuncId}{h:List D->Option D}(hh:dC X.P g=true/\∀(A:List D) (d:D),h A=some d->∀(F:Nat->Prop) (w:World) (vs:Array Value),b5 w F X.gl->(∀b,F b->b<w.heap.size)->A.length=vs.size->
 (∀(i:Nat) x v,A[i]?=some x->vs[i]?=some v->aq w F x v)->Calls X.P g vs w λe w'=>∃v,e=.returned v/\Below w.heap.size w w'/\aq w' F d v):jA X g (iT h):=by
 refine⟨hh.1,λA4 a A5 φ F w vs AP AQ A2 A3=>?_⟩;unfold iT at A5;cases AA:toDs A4 with
 |none=>rw[AA]at A5;cases A5
 |some A=>
  rw[AA]at A5;obtain⟨d,AB,rfl⟩:=Xj.1 A5;have he:=toDs_eq AA;subst he;refine (hh.2 A d AB F w vs AP AQ (by simpa using A2) (λi x v I J=>?_)).mono ?_
  .have:=A3 i (.d x) v (by simp[I]) J;cases this with|d _ _ h=>exact h
  .rintro e w' ⟨v,rfl,M,J⟩;exact⟨v,rfl,M,.d _ _ J⟩
def fJ.of{X:Ctx}(h:MD X=true)(A6:∀g h,X.rD g=some h->jA X g h):fJ X:=by
 simp only[MD,Xl,XN,XI]at h;have key:∀(g:FuncId)(fn:Func),X.P.funcs[g]?=some fn->fn.name≠ "runtime.NumGoroutine" /\(match fn.body with|some c=>!((X.fp g).sites.all λk=>decide (100<=k))||cw X g fn.ntmps c|none=>true)=true:=by
  intro g fn Y;have N:=h.1.1 g (Xv.1 Y).1;rw[Y]at N;simpa using N
 refine⟨by simpa using h.2,λg fn Y=>(key g fn Y).1,λg fn c Y M A7=>?_,h.1.2,A6⟩;have:=(key g fn Y).2;rw[M]at this;have e:((X.fp g).sites.all λk=>decide (100<=k))=true:=XN.2 λk A1=>decide_eq_true (A7 k A1);simpa [e]using this
def PV:Fr:=⟨λ_=>False,[]⟩
def Gx{X:Ctx}(AC:fJ X){f:FuncId}{b:Bool}{xs:List D}(AR:ar X f (xs.map .d) []=some (.ret (.d (.bool b)),[])){W:World}{args:Array Value}(A2:xs.length=args.size)
 (A3:∀(i:Nat) x v,xs[i]?=some x->args[i]?=some v->aq W (λ_=>False) x v) (Y:b5 W (λ_=>False) X.gl):
 Calls X.P f args W λe A'=>e=.returned (.bool b)/\Below W.heap.size W A':=by
 have h:=(HT AC f _ _ _ _ AR).2;have AI:∀b,Fo PV (λ_=>none) (bS 0 []) b->False:=by
  intro b M;rcases M with M|⟨e,he,_⟩
  .exact M
  .simp[bS]at he
 refine (h (λ_=>none) PV W args ⟨by simp[bS],λk L AS=>by simp at AS,λe he=>by simp[bS]at he,λe he=>by simp[bS]at he,λb ⟨e,he,_⟩=>by simp[bS]at he,λb M=>M.elim⟩
  (Y.mono (λ_ _ _=>rfl) (Ds _) (λb _ M=>AI b M)) (by simpa using A2) (λi x v I J=>?_)).mono ?_
 .simp only[XA,Xj]at I;obtain⟨d,AB,rfl⟩:=I;exact .d d v ((A3 i d v AB J).mono (λ_ _ _=>rfl) (Ds _) (λb _ M=>AI b M))
 .rintro e A' ⟨φ',m',out,⟨rfl,rfl⟩,hm,A1,A6⟩;refine⟨?_,A1.os,A1.tape,A1.output,A1.size,λk AT=>A1.rN k AT (λ⟨e,he,_⟩=>by simp[bS]at he)⟩;cases e with
  |returned v=>
   simp only[jh]at A6;cases A6 with
   |d x v h=>cases h;rfl
  |_=>exact A6.elim
section
variable {H:Type} {enc:TypeId×Value->H}
theorem Bw{X:Ctx}(AC:fJ X){f:FuncId}{fn:Func}{s:ChangeSpec}{apart fresh handsOn:Bool}{n:Nat}{tb:TypeId}
 (AU:laidOutB X.P=true) (AD:(fn.params.toList.all λt=>X.P.readableRec t&&decide (t<X.P.types.size)&&mi X.P n t)=true)
 (AW:fn.resultTypes=#[tb]) (AX:X.P.underlying tb=some .bool) (AJ:s.vars=[])
 (AY:∀A:List (DataW H),A.length=fn.params.size->s.fn H A={results:=[.lit (.bool true)],args:=A})
 {W:World} {base:Nat} {args:Array Value} {A gs:List (DataW H)} {before:List MemPlace}
 (AZ:∀(j:Nat) t v,fn.params[j]?=some t->args[j]?=some v->Value.okWide X.P W .any base t v)
 (AK:DataW.Whole enc X.P fn.params.toList s.vars apart W args.toList A gs before) (Y:b5 W (λ_=>False) X.gl)
 (A_:∀xs:List D,xs.length=fn.params.size->(∀(i:Nat) t x,fn.params[i]?=some t->xs[i]?=some x->typed X.P n t x)->ar X f (xs.map .d) []=some (.ret (.d (.bool true)),[])):
 Calls X.P f args W λe A'=>∃v,e=.returned v/\s.post enc X.P fn apart fresh handsOn false W args v A':=by
 have AL:=AK;obtain⟨p,q,AE,AF,rfl,Ab,Ac⟩:=AK;rw[AJ]at AF;obtain⟨rfl,rfl⟩:gs=[]/\q=[]:=by
  cases gs with
  |nil=>exact⟨rfl,AF⟩
  |cons g r=>exact absurd AF (by intro h;cases h)
 simp only[XN,Xl,XK]at AD;obtain⟨xs,N,Z,O,T⟩:=Bu (n:=n) (b0:=base) AE (λt E=>(AD t E).2) (λj t v E J=>AZ j t v (by simpa using E) (by simpa using J));have Aa:=trodAll_length AE;refine (Gx AC (A_ xs (by simpa using Z) (λi t x E I=>O i t x (by simpa using E) I)) (by simpa using N) (λi x v I J=>T i x v I (by simpa using J)) Y).mono ?_;rintro e A' ⟨rfl,M⟩;have A8:∀x∈p,x.block<W.heap.size:=λx I=>by simpa using AL.lt x (by simpa using I)
 have A7:s.fn H (A++[])={results:=[.lit (.bool true)],args:=A}:=by
  rw[X2];exact AY A (by simpa using Aa.2)
 refine⟨_,rfl,A,[],p++[],[],p,[],AL,?_,?_,?_,M.frame _,λh=>by cases h⟩
 .rw[A7,AW];exact trodAll_mk1 (shut_bool AX true)
 .rw[A7];exact rJ AU M AE (λt E=>(AD t E).1) A8
 .rw[A7,AJ];rfl
end
end Go.Am
end
section
namespace Go.Am
open Go
set_option maxRecDepth 20000
set_option maxHeartbeats 4000000
def vn{P:Program}{w:World}{n:String}{d:DataW Unit}:∀{l:List (String×DataW Unit)}{ps:List MemPlace},DataW.LaidVars P w l ps->(n,d)∈l->
 ∃g t cs fuel p,P.globalNamed n=some g/\(P.globals[g]?).map (·.type)=some t/\w.var? P n=some cs/\DataW.trod (λ_=>()) P w 0 (λ_=>true) false fuel t cs.toList=some (d,p)
 |[],_,_,hm=>by simp at hm
 |(AB,AC)::r,ps,⟨g,t,cs,fuel,p,q,O,J,A,M,N,_⟩,hm=>by
  rcases Xm.1 hm with hm|hm
  .cases hm;exact⟨g,t,cs,fuel,p,O,J,A,M⟩
  .exact vn N hm
def Gy{H:Type}{enc:TypeId×Value->H}{P:Program}{w:World}{base:Nat}{sp:Nat->Bool}{held:Bool}{fuel:Nat}{t e:TypeId}{n:Nat}{k:IntKind}{cs:List Value}{U:List (DataW H)}{p:List MemPlace}
 (V:P.underlying t=some (.array n e)) (he:P.underlying e=some (.int k)) (Y:P.cellsOf e=1) (h:DataW.trod enc P w base sp held fuel t cs=some (.agg U,p)):
 cs.length=P.cellsOf t/\U.length=n/\∀i,i<n->∃z,cs[i]?=some (.int k z)/\U[i]?=some (.lit (.int k z)):=by
 cases fuel with
 |zero=>simp[DataW.trod]at h
 |succ m=>
  unfold DataW.trod at h;rw[V]at h;simp only at h;split at h
  .rename_i Z;simp only[Xj,XB,DataW.agg.injEq]at h;obtain⟨xs,A',rfl,_⟩:=h;have O:xs.length=n:=by simpa using mapM_some_length A'
   refine⟨Z,by simpa using O,λi hi=>?_⟩;have J:=mapM_some_get A' i i (by simp[hi]);have A:i<xs.length:=by omega
   have M:xs[i]?=some xs[i]:=by simp[A]
   rw[M,Y]at J;obtain⟨z,N,a,_⟩:=DataW.trod_int he J;refine⟨z,?_,by simp[M,a]⟩;have T:=XR (·[0]?) N;simpa [Xp,XJ]using T
  .cases h
def ta{P:Program}{W:World}{l:List (String×DataW Unit)}{name:String}{g:Nat}{t e:TypeId}{n:Nat}{k:IntKind}{zs:List Int}
 (Z:laidMet P l W) (hm:(name,DataW.agg (zs.map λz=>.lit (.int k z)))∈l) (y:P.globalNamed name=some g) (A6:(P.globals[g]?).map (·.type)=some t)
 (V:P.underlying t=some (.array n e)) (he:P.underlying e=some (.int k)) (Y:P.cellsOf e=1) (AD:0<n) (A7:P.cellsOf t=n):
 (g<W.heap.size/\∀cs,D.agg (zs.map λz=>.int k z)=.agg cs->∃cur e A0,W.heap[g]?=some (.cells cur e A0)/\cur.size=cs.length)/\∃A1,aq W (λ_=>False) (.agg (zs.map λz=>.int k z)) A1/\∀(i:Nat)(c:Value),A1.cells[i]?=some c->W.cell? ⟨g,i,none⟩=some c:=by
 obtain⟨ps,I,_⟩:=Z;obtain⟨AE,AF,cs,fuel,p,O,J,A,M⟩:=vn I hm;obtain rfl:=Yi (y.symm.trans O);obtain rfl:=Yi (A6.symm.trans J);obtain⟨A2,N,a⟩:=Gy V he Y M;rw[A7]at A2;simp at N;have T:∀i z,zs[i]?=some z->W.cell? ⟨g,i,none⟩=some (.int k z):=by
  intro i z E;have hi:i<n:=by
   have:=(D1.1 E).1;omega
  obtain⟨A8,A9,A3⟩:=a i hi;simp[E]at A3;subst A3;rw[World.var?_cell y A i];simpa using A9
 refine⟨⟨?_,?_⟩,.agg (zs.map λz=>Value.int k z).toArray,?_,?_⟩
 .have E:∃z,zs[0]?=some z:=⟨zs[0]'(by omega),by simp[show 0<zs.length by omega]⟩
  obtain⟨z,E⟩:=E;exact (qW (T 0 z E)).1
 .rintro AG AA;obtain rfl:=D.agg.inj AA;unfold World.var? at A;rw[y]at A;simp only[X4]at A;split at A
  .rename_i cur e' A0 hh;cases A;exact⟨_,_,_,hh,by simp at N A2⊢;omega⟩
  .cases A
 .refine aq.jJ (by simp) (λv I=>?_) (λi c v A4 I=>?_)
  .simp at I;obtain⟨z,_,rfl⟩:=I;rfl
  .simp only[XA,Xj]at A4 I;obtain⟨z,E,rfl⟩:=A4;obtain⟨A8,A5,rfl⟩:=I;rw[E]at A5;cases A5;exact .int k z
 .intro i c hi;simp[Value.cells]at hi;obtain⟨z,E,rfl⟩:=hi;exact T i z E
end Go.Am
end
section
namespace Go.Am
open Go
variable {H:Type} {enc:TypeId×Value->H}
theorem Gz{a:Assume}{C:Checked}{os:Os}{f:FuncId}{fn:Func}{s:ChangeSpec}{D:List PathCond}{apart fresh handsOn again:Bool}{X:World->Array Value->Prop}
 (I:∀(w w':World)(args:Array Value),w.heap=w'.heap->X w args->X w' args)
 (own:ownKnob C.prog.godebug=none) (started:os.Started) (J:C.prog.inits.idxOf? f=none) (M:C.prog.funcs[f]?=some fn)
 (witness:∃(w:World)(tape:Tape)(i:Input),w.os=os/\(w.forCall tape i).Shaped C.prog/\i.vars=[]/\Input.okWide C.prog (w.forCall tape i) .any w.heap.size f i/\
  ((s.pre enc C.prog fn D apart (w.forCall tape i).memory i.args/\X (w.forCall tape i).memory i.args)/\sizedMet enc C.prog fn (OpenSpec.ofChange s) apart (w.forCall tape i).memory i.args)/\a.holds C.prog (lone (Frame.enter C.prog f i.args .normal) [] (w.forCall tape i)))
 (N:∀(W:World)(base:Nat)(args:Array Value)(A gs:List (DataW H))(before:List MemPlace),
  (∀(j:Nat) t v,fn.params[j]?=some t->args[j]?=some v->Value.okWide C.prog W .any base t v)->
  DataW.Whole enc C.prog fn.params.toList s.vars apart W args.toList A gs before->X W args->W.ShapedOpen C.prog->
  Calls C.prog f args W λe E=>∃v,e=.returned v/\s.post enc C.prog fn apart fresh handsOn again W args v E):
 ReturnsInHanded a C os f .any (λw args=>(s.pre enc C.prog fn D apart w args/\X w args)/\sizedMet enc C.prog fn (OpenSpec.ofChange s) apart w args) (s.post enc C.prog fn apart fresh handsOn again):=by
 refine returnsInHanded_of_calls own started J witness ?_;intro w tape i _ O _ T U _;obtain⟨_,_,_,V,Y,_,_,_,_,Z⟩:=T;have e:V=fn:=Yi (Y.symm.trans M);subst e;obtain⟨⟨⟨A,gs,before,hw,A0⟩,q⟩,A1⟩:=U;have y:=DataW.Whole.of_heap (w':=w.forCall tape i) (by rfl) hw;refine (N (w.forCall tape i) w.heap.size i.args A gs before Z y (I _ _ _ (by rfl) q) O).mono λe E ⟨v,he,A'⟩=>?_;subst he;exact ChangeSpec.post_blind A'
end Go.Am
end
section
namespace Go.Am
open Go Go.ChangeShapes Go.WideShapes Go.RowKit
def uH{P:Program}{W:World}{l:List (String×DataW Unit)}{name:String}{g:Nat}{t:TypeId}{d:DataW Unit}{ms:Array (String×TypeId)}
 (E:laidMet P l W) (hm:(name,d)∈l) (D:P.globalNamed name=some g) (H:(P.globals[g]?).map (·.type)=some t) (hu:P.underlying t=some (.interface ms)):
 ∃v,W.cell? ⟨g,0,none⟩=some v/\(v=.nilIface\/∃u p,v=.iface u p):=by
 obtain⟨ps,I,_⟩:=E;obtain⟨U,V,cs,fuel,p,J,M,N,A⟩:=vn I hm;obtain rfl:=Yi (D.symm.trans J);obtain rfl:=Yi (H.symm.trans M);have key:∃v,cs.toList=[v]/\(v=.nilIface\/∃u p,v=.iface u p):=by
  cases fuel with
  |zero=>simp[DataW.trod]at A
  |succ m=>
   unfold DataW.trod at A;rw[hu]at A;split at A<;>first|(rename_i Y;exact⟨_,by assumption,.inl rfl⟩)|(exact⟨_,by assumption,.inr ⟨_,_,rfl⟩⟩)|(simp_all;done)
 obtain⟨v,O,T⟩:=key;refine⟨v,?_,T⟩;rw[World.var?_cell D N 0];have:=XR (·[0]?) O;simpa using this
end Go.Am
end
