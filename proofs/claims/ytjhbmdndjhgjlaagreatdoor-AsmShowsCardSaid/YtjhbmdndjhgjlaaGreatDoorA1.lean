/-
  Texts of one proof, one behind the other.
-/
import Derived.WalkKit
import Derived.Laws.Rows
import Derived.Laws.CopyRow
import Derived.Laws.StructEq
set_option linter.all false
namespace Go.Am
open Go
def Ds:=@Nat.le_refl
def D1:=@List.getElem?_eq_some_iff
def WH:=@Option.map_eq_some_iff
def WI:=@List.mem_of_getElem?
def WJ:=@Bool.and_eq_true
def WK:=@List.mem_cons
def WL:=@Nat.mul_le_mul_right
def WM:=@List.getElem?_take
def WN:=@List.getElem?_append_left
def WO:=@if_neg
def WQ:=@Array.length_toList
def WR:=@Option.some.injEq
def WS:=@List.mem_map
def WT:=@List.getElem?_append_right
def WU:=@Array.getElem?_eq_some_iff
def WV:=@decide_eq_true_eq
def WW:=@List.mem_map_of_mem
def WX:=@List.mem_of_mem_drop
def WY:=@List.length_append
def WZ:=@List.getElem?_map
def W0:=@Prod.mk.injEq
def W1:=@Nat.add_assoc
def W2:=@if_pos
def W3:=@List.mem_of_mem_take
def W4:=@Array.getD_eq_getD_getElem?
def W5:=@List.mem_range
def W6:=@List.getElem?_drop
def W7:=@List.all_eq_true
def W8:=@List.getD_eq_getElem?_getD
def W9:=@List.eq_nil_of_length_eq_zero
def Xa:=@Nat.add_mul
def Xb:=@List.mem_cons_of_mem
def Xc:=@List.mem_filter
def Xd:=@Classical.axiomOfChoice
def Xe:=@List.mem_append
def Xf:=@List.getElem_mem
def Xg:=@List.size_toArray
def Xh:=@List.getElem?_eq_getElem
def Xi:=@congrArg
def Xj:=@List.length_take
def Xk:=@of_decide_eq_true
def Xl:=@List.getElem?_toArray
def Xm:=@Array.getElem?_append_left
def Xn:=@List.map_cons
def Xo:=@List.length_singleton
def Xp:=@Array.getElem?_toList
def Xq:=@Nat.add_zero
def Xr:=@Option.bind_eq_some_iff
def Xs:=@Ne.symm
def Xt:=@Nat.zero_add
def Xu:=@Nat.succ_mul
def Xv:=@List.filter_eq_nil_iff
def Xw:=@if_false
def Xx:=@List.getElem?_eq_none
def Xy:=@Option.getD_some
def Xz:=@Option.bind_some
def XA:=@Nat.lt_of_lt_of_le
def XB:=@Option.map_some
def XC:=@Nat.min_eq_left
def XF:=@List.append_nil
def XG:=@List.range'_succ
def XH:=@List.not_mem_nil
def XI:=@List.filter_filter
def XJ:=@List.filter_append
def XK:=@List.getLast?_eq_getElem?
def XL:=@Array.getElem?_eq_getElem
def XM:=@Nat.le_add_left
def XN:=@Option.isSome_iff_exists
def XO:=@if_true
def XP:=@List.length_drop
def XQ:=@List.getElem?_replicate
def XR:=@Nat.mul_one
def XS:=@List.take_of_length_le
def XT:=@Option.some.inj
def XU:=@List.length_nil
def XV:=@List.take_append_drop
def XW:=@Array.getElem?_modify
def XX:=@List.filter_congr
def XY:=@List.append_assoc
def XZ:=@List.length_filter_lt_length_iff_exists
def X0:=@List.mem_iff_getElem
def X1:=@List.length_cons
def X2:=@decide_eq_false_iff_not
def X3:=@Nat.le_succ
def X4:=@List.filter_cons_of_neg
def X5:=@Nat.le_trans
def X6:=@List.foldl_nil
def X7:=@List.countP_le_length
def X8:=@List.all_cons
def X9:=@List.mem_append_left
def Ya:=@List.getElem?_of_mem
def Yb:=@Array.toArray_toList
end Go.Am
section
namespace Go.Am
open Go
set_option maxRecDepth 20000
set_option maxHeartbeats 4000000
inductive Ends(succ:Nat->List Nat):Nat->Prop
 |mk (i:Nat) (h:∀j∈succ i,Ends succ j):Ends succ i
inductive Way(succ:Nat->List Nat):Nat->Nat->Prop
 |one {i j} (h:j∈succ i):Way succ i j
 |more {i j k} (h:Way succ i j) (E:k∈succ j):Way succ i k
def Way.trans{succ:Nat->List Nat}{i j k:Nat}(h:Way succ i j)(E:Way succ j k):Way succ i k:=by
 induction E with
 |one O=>exact .more h O
 |more _ O ih=>exact .more ih O
def Ends.QJ{succ:Nat->List Nat}{i j:Nat}(h:Ends succ i)(w:Way succ i j):Ends succ j:=by
 induction w with
 |one E=>cases h with|mk _ h=>exact h _ E
 |more _ E ih=>cases ih with|mk _ h=>exact h _ E
def Ends.FN{succ:Nat->List Nat}{i:Nat}(h:Ends succ i):¬Way succ i i:=by
 induction h with
 |mk i h ih=>
  intro w
  --AI first step of AI QJ
  have first:∀{a b},Way succ a b->∃c∈succ a,c=b\/Way succ c b:=by
   intro a b w;induction w with
   |one h=>exact⟨_,h,.inl rfl⟩
   |more _ E ih=>
    obtain⟨c,A',O⟩:=ih;rcases O with rfl|O
    .exact⟨_,A',.inr (.one E)⟩
    .exact⟨_,A',.inr (.more O E)⟩
  obtain⟨c,A',O⟩:=first w
  rcases O with rfl|O
  .exact ih _ A' w
  .exact ih c A' (O.trans (.one A'))
mutual
def eJ(succ:Nat->List Nat):Nat->Nat->List Nat->Bool×List Nat
 |0,_,A=>(true,A)
 |f+1,at_,A=>if A.getD at_ 0≠0 then (A.getD at_ 0 == 1,A)else
  match et succ f (succ at_) (A.set at_ 1)with
  |(true,s)=>(true,s)
  |(false,s)=>(false,s.set at_ 2)
def et(succ:Nat->List Nat):Nat->List Nat->List Nat->Bool×List Nat
 |_,[],A=>(false,A)
 |f,n::r,A=>match eJ succ f n A with
  |(true,s)=>(true,s)
  |(false,s)=>et succ f r s
end
def fresh(A:List Nat):Nat:=A.countP (·== 0)
structure j0(succ:Nat->List Nat)(A A0:List Nat):Prop where
 len:A0.length=A.length
 wc:∀i,A0.getD i 0=1↔A.getD i 0=1
 black:∀i,A.getD i 0=2->A0.getD i 0=2
 yo:(∀i,A.getD i 0<=2)->∀i,A0.getD i 0<=2
 ends:(∀i,A.getD i 0=2->Ends succ i)->∀i,A0.getD i 0=2->Ends succ i
 fresh:fresh A0<=fresh A
def j0.refl(succ:Nat->List Nat)(s:List Nat):j0 succ s s:=⟨rfl,λ_=>Iff.rfl,λ_ h=>h,λh=>h,λh=>h,Ds _⟩
def j0.trans{succ:Nat->List Nat}{a b c:List Nat}(h:j0 succ a b)(k:j0 succ b c):j0 succ a c:=
 ⟨by rw[k.len,h.len],λi=>(k.wc i).trans (h.wc i),λi hi=>k.black i (h.black i hi),λM=>k.yo (h.yo M),λhe=>k.ends (h.ends he),X5 k.fresh h.fresh⟩
def eu(l:List Nat)(i j v:Nat):(l.set i v).getD j 0=if i=j/\i<l.length then v else l.getD j 0:=by
 simp only[W8,List.getElem?_set];by_cases h:i=j
 .subst h;by_cases E:i<l.length
  .simp[E]
  .simp[E]
 .simp[h]
def wT{l:List Nat}{i v:Nat}(h:l.getD i 0=0)(hi:i<l.length)(M:v≠0):fresh (l.set i v)+1=fresh l:=by
 induction l generalizing i with
 |nil=>simp at hi
 |cons x r ih=>
  cases i with
  |zero=>
   simp at h;subst h;simp[fresh,M]
  |succ i=>
   have D:=ih (i:=i) (by simpa using h) (by simpa using hi);unfold fresh at D⊢;simp only[List.set_cons_succ,List.countP_cons];omega
def mO{l:List Nat}{i v:Nat}(M:v≠0):fresh (l.set i v)<=fresh l:=by
 induction l generalizing i with
 |nil=>simp
 |cons x r ih=>
  cases i with
  |zero=>
   simp only[fresh,List.set_cons_zero,List.countP_cons];simp[M]
  |succ i=>
   have D:=ih (i:=i);unfold fresh at D⊢;simp only[List.set_cons_succ,List.countP_cons];omega
def Jx(succ:Nat->List Nat)(A:List Nat)(at_:Nat):Prop:=∀i,A.getD i 0=1->Way succ i at_
def Bd(succ:Nat->List Nat):∀f:Nat,
 (∀at_ A,fresh A<f->at_<A.length->(∀i<A.length,∀j∈succ i,j<A.length)->(∀i,A.getD i 0<=2)->Jx succ A at_->
  ((eJ succ f at_ A).1=true->∃i,i<A.length/\Way succ i i)/\((eJ succ f at_ A).1=false->j0 succ A (eJ succ f at_ A).2/\(eJ succ f at_ A).2.getD at_ 0=2))/\
 (∀l at_ A,fresh A<f->(∀n∈l,n∈succ at_)->(∀n∈l,n<A.length)->A.getD at_ 0=1->(∀i<A.length,∀j∈succ i,j<A.length)->(∀i,A.getD i 0<=2)->(∀i,A.getD i 0=1->i=at_\/Way succ i at_)->
  ((et succ f l A).1=true->∃i,i<A.length/\Way succ i i)/\((et succ f l A).1=false->j0 succ A (et succ f l A).2/\∀n∈l,(et succ f l A).2.getD n 0=2))
 |0=>⟨λ_ _ h=>by omega,λ_ _ _ h=>by omega⟩
 |f+1=>by
  have A1:∀at_ A,fresh A<f+1->at_<A.length->(∀i<A.length,∀j∈succ i,j<A.length)->(∀i,A.getD i 0<=2)->Jx succ A at_->
   ((eJ succ (f+1) at_ A).1=true->∃i,i<A.length/\Way succ i i)/\((eJ succ (f+1) at_ A).1=false->j0 succ A (eJ succ (f+1) at_ A).2/\(eJ succ (f+1) at_ A).2.getD at_ 0=2):=by
   intro at_ A T H I M A3;have AJ:=(Bd succ f).2 (succ at_) at_ (A.set at_ 1);unfold eJ;by_cases A5:A.getD at_ 0≠0
   .rw[W2 A5];refine⟨λh=>⟨at_,H,A3 at_ (by simpa using h)⟩,λh=>⟨j0.refl _ _,?_⟩⟩;have:=M at_;simp only[beq_eq_false_iff_ne]at h;simp only
    omega
   .rw[WO A5];have A8:A.getD at_ 0=0:=by omega
    have AK:=wT (v:=1) A8 H (by decide);have A9:=AJ (by omega) (λn h=>h) (λn h=>by simpa using I at_ H n h) (by rw[eu];simp[H]) (by simpa using I)
     (λi=>by rw[eu];split;omega;exact M i)
     (λi hi=>by
      rw[eu]at hi;split at hi
      .rename_i h;exact .inl h.1.symm
      .exact .inr (A3 i hi))
    obtain⟨s,b,he⟩:∃s b,et succ f (succ at_) (A.set at_ 1)=(b,s):=⟨_,_,rfl⟩;rw[he]at A9⊢;cases b with
    |true=>exact⟨λ_=>by simpa using A9.1 rfl,λh=>by simp at h⟩
    |false=>
     refine⟨λh=>by simp at h,λ_=>?_⟩;obtain⟨ok,W⟩:=A9.2 rfl;simp only at ok W⊢;have A2:s.length=A.length:=by rw[ok.len];simp
     refine⟨⟨by simp[A2],λi=>?_,λi hi=>?_,λ_ i=>?_,λAL i hi=>?_,?_⟩,by rw[eu];simp[A2,H]⟩
     .rw[eu];by_cases hi:at_=i
      .subst hi;simp only[A2,H,and_self,XO,A8];omega
      .simp only[hi,false_and,Xw];rw[ok.wc i,eu];simp[hi]
     .rw[eu];split
      .rfl
      .refine ok.black i ?_;rw[eu];split
       .rename_i h;rw[<-h.1,A8]at hi;omega
       .exact hi
     .rw[eu];split
      .omega
      .refine ok.yo (λi=>?_) i;rw[eu];split;omega;exact M i
     .have AC:∀i,s.getD i 0=2->Ends succ i:=ok.ends (λi hi=>by
       rw[eu]at hi;split at hi
       .omega
       .exact AL i hi)
      rw[eu]at hi;split at hi
      .rename_i h;rw[<-h.1];exact .mk _ (λj J=>AC j (W j J))
      .exact AC i hi
     .have D:=mO (l:=s) (i:=at_) (v:=2) (by decide);have E:=ok.fresh;omega
  refine⟨A1,?_⟩;intro l;induction l with
  |nil=>
   intro at_ A _ _ _ _ _ _ _;unfold et;exact⟨λh=>by simp at h,λ_=>⟨j0.refl _ _,λn h=>by simp at h⟩⟩
  |cons n r ih=>
   intro at_ A T AD Y AM I M A3;have D:=A1 n A T (Y n (by simp)) I M (λi hi=>by
    have A6:=AD n (by simp);rcases A3 i hi with rfl|h
    .exact .one A6
    .exact .more h A6)
   unfold et;obtain⟨s,b,he⟩:∃s b,eJ succ (f+1) n A=(b,s):=⟨_,_,rfl⟩;rw[he]at D⊢;cases b with
   |true=>exact⟨λ_=>D.1 rfl,λh=>by simp at h⟩
   |false=>
    obtain⟨ok,A4⟩:=D.2 rfl;simp only at ok A4⊢;have E:=ih at_ s (Nat.lt_of_le_of_lt ok.fresh T) (λm hm=>AD m (by simp[hm])) (λm hm=>by rw[ok.len];exact Y m (by simp[hm])) ((ok.wc at_).2 AM)
     (by rw[ok.len];exact I) (ok.yo M) (λi hi=>A3 i ((ok.wc i).1 hi))
    refine⟨λh=>by have:=E.1 h;rwa [ok.len]at this,λh=>?_⟩;obtain⟨AF,W⟩:=E.2 h;refine⟨ok.trans AF,λm hm=>?_⟩;rcases WK.1 hm with rfl|hm
    .exact AF.black _ A4
    .exact W m hm
def rounds(succ:Nat->List Nat)(f:Nat):List Nat->List Nat->Bool
 |[],_=>false
 |n::r,A=>match eJ succ f n A with
  |(true,_)=>true
  |(false,s)=>rounds succ f r s
def BV(succ:Nat->List Nat)(N f:Nat)(T:N<f)(I:∀i<N,∀j∈succ i,j<N):
 rounds succ f (List.range N) (List.replicate N 0)=true↔∃i<N,¬Ends succ i:=by
 have key:∀(l:List Nat)(A:List Nat),A.length=N->(∀n∈l,n<N)->(∀i,A.getD i 0≠1)->(∀i,A.getD i 0<=2)->(∀i,A.getD i 0=2->Ends succ i)->(∀i<N,i∈l\/A.getD i 0=2)->
  (rounds succ f l A=true↔∃i<N,¬Ends succ i):=by
  intro l;induction l with
  |nil=>
   intro A _ _ _ _ he W;unfold rounds;refine⟨λh=>by simp at h,?_⟩;rintro ⟨i,hi,A6⟩;rcases W i hi with h|h
   .simp at h
   .exact absurd (he i h) A6
  |cons n r ih=>
   intro A H Y U M he W;have AK:fresh A<=A.length:=X7;have D:=(Bd succ f).1 n A (by omega) (by rw[H];exact Y n (by simp)) (by rw[H];exact I) M (λi hi=>absurd hi (U i));unfold rounds;obtain⟨s,b,A1⟩:∃s b,eJ succ f n A=(b,s):=⟨_,_,rfl⟩;rw[A1]at D⊢;cases b with
   |true=>
    refine⟨λ_=>?_,λ_=>rfl⟩;obtain⟨i,hi,w⟩:=D.1 rfl;exact⟨i,by omega,λh=>h.FN w⟩
   |false=>
    obtain⟨ok,A4⟩:=D.2 rfl;simp only at ok A4⊢;refine ih s (by rw[ok.len,H]) (λm hm=>Y m (by simp[hm])) (λi hi=>U i ((ok.wc i).1 hi)) (ok.yo M) (ok.ends he) (λi hi=>?_);rcases W i hi with h|h
    .rcases WK.1 h with rfl|h
     .exact .inr A4
     .exact .inl h
    .exact .inr (ok.black i h)
 refine key _ _ (by simp) (by simp) (λi=>?_) (λi=>?_) (λi hi=>?_) (λi hi=>.inl (by simpa using hi))
 .simp[W8,XQ];split<;>simp
 .simp[W8,XQ];split<;>simp
 .simp[W8,XQ]at hi;split at hi<;>simp at hi
def hY(succ:Nat->List Nat)(s:List Bool×Bool)(i:Nat):List Bool×Bool:=
 if s.1.getD i true=true then s else if (succ i).all (λj=>s.1.getD j true)=true then (s.1.set i true,true)else s
def eN(succ:Nat->List Nat)(l:List Nat)(s:List Bool×Bool):List Bool×Bool:=l.foldl (hY succ) s
def iY(succ:Nat->List Nat)(l:List Nat):Nat->List Bool->List Bool
 |0,g=>g
 |f+1,g=>match eN succ l (g,false)with
  |(V,true)=>iY succ l f V
  |(V,false)=>V
def left(g:List Bool):Nat:=g.countP (·== false)
def DC(l:List Bool)(i j:Nat)(v:Bool):(l.set i v).getD j true=if i=j/\i<l.length then v else l.getD j true:=by
 simp only[W8,List.getElem?_set];by_cases h:i=j
 .subst h;by_cases E:i<l.length
  .simp[E]
  .simp[E]
 .simp[h]
def yp{l:List Bool}{i:Nat}(h:l.getD i true=false):left (l.set i true)+1=left l:=by
 induction l generalizing i with
 |nil=>simp at h
 |cons x r ih=>
  cases i with
  |zero=>
   simp at h;subst h;simp[left]
  |succ i=>
   have D:=ih (i:=i) (by simpa using h);unfold left at D⊢;simp only[List.set_cons_succ,List.countP_cons];omega
structure kL(succ:Nat->List Nat)(s Z:List Bool×Bool):Prop where
 len:Z.1.length=s.1.length
 ends:(∀i<s.1.length,s.1.getD i true=true->Ends succ i)->∀i<s.1.length,Z.1.getD i true=true->Ends succ i
 less:Z.2=true->s.2=false->left Z.1<left s.1
 le:left Z.1<=left s.1
 more:s.2=true->Z.2=true
 same:Z.2=false->Z=s
def DD{succ:Nat->List Nat}{s:List Bool×Bool}{i:Nat}(I:∀j∈succ i,j<s.1.length):kL succ s (hY succ s i):=by
 unfold hY;split
 .exact⟨rfl,λh=>h,λa b=>(by rw[a]at b;cases b),Ds _,λh=>h,λ_=>rfl⟩
 .rename_i A5;split
  .rename_i D;have E:=yp (l:=s.1) (i:=i) (by simpa using A5);refine⟨by simp,λhe j J h=>?_,λ_ _=>by simp only;omega,by simp only;omega,λ_=>rfl,λh=>by simp at h⟩;simp only at h;rw[DC]at h;split at h
   .rename_i AN;rw[<-AN.1];exact .mk _ (λk A7=>he k (I k A7) (by simpa using W7.1 D k A7))
   .exact he j J h
  .exact⟨rfl,λh=>h,λa b=>(by rw[a]at b;cases b),Ds _,λh=>h,λ_=>rfl⟩
def kL.trans{succ:Nat->List Nat}{a b c:List Bool×Bool}(h:kL succ a b)(k:kL succ b c):kL succ a c:=
 ⟨by
  rw[k.len,h.len],λhe=>by have:=k.ends;rw[h.len]at this;exact this (h.ends he),λD E=>by
  cases y:b.2 with
  |true=>exact Nat.lt_of_le_of_lt k.le (h.less y E)
  |false=>exact XA (k.less D y) h.le,X5 k.le h.le,λD=>k.more (h.more D),λD=>by
  cases y:b.2 with
  |true=>rw[k.more y]at D;cases D
  |false=>rw[k.same D,h.same y]⟩
def pD{succ:Nat->List Nat}{N:Nat}(I:∀i<N,∀j∈succ i,j<N):∀(l:List Nat)(s:List Bool×Bool),s.1.length=N->(∀i∈l,i<N)->
 kL succ s (eN succ l s)/\((eN succ l s).2=false->∀i∈l,s.1.getD i true=false->∃j∈succ i,s.1.getD j true=false)
 |[],s,_,_=>⟨⟨rfl,λh=>h,λa b=>(by rw[show (eN succ [] s).2=s.2 from rfl,b]at a;cases a),Ds _,λh=>h,λ_=>rfl⟩,λ_ i h=>by simp at h⟩
 |i::r,s,H,Y=>by
  have D:=DD (s:=s) (i:=i) (by rw[H];exact I i (Y i (by simp)));obtain⟨E,O⟩:=pD I r (hY succ s i) (by rw[D.len,H]) (λj J=>Y j (by simp[J]));have e:eN succ (i::r) s=eN succ r (hY succ s i):=rfl;rw[e];refine⟨D.trans E,λT j J U=>?_⟩;have q:hY succ s i=s:=D.same (by
   cases y:(hY succ s i).2 with
   |false=>rfl
   |true=>rw[E.more y]at T;cases T)
  rcases WK.1 J with rfl|J
  .unfold hY at q;rw[WO (by rw[U];simp)]at q;split at q
   .rename_i AA;have:left (s.1.set j true)=left s.1:=by rw[show s.1.set j true=s.1 from Xi Prod.fst q]
    have:=yp U;omega
   .rename_i AA;simp only[W7,Classical.not_forall]at AA;obtain⟨k,A7,AO⟩:=AA;exact⟨k,A7,by simpa using AO⟩
  .rw[q]at O T;exact O T j J U
def pE{succ:Nat->List Nat}{N:Nat}(I:∀i<N,∀j∈succ i,j<N)(l:List Nat)(H:∀i,i∈l↔i<N):∀(f:Nat)(g:List Bool),g.length=N->left g<f->(∀i<N,g.getD i true=true->Ends succ i)->
 (iY succ l f g).length=N/\∀i<N,((iY succ l f g).getD i true=true↔Ends succ i)
 |0,g,_,h,_=>by omega
 |f+1,g,U,T,he=>by
  obtain⟨ok,AG⟩:=pD I l (g,false) U (λi hi=>(H i).1 hi);unfold iY;obtain⟨V,b,A1⟩:∃V b,eN succ l (g,false)=(V,b):=⟨_,_,rfl⟩;rw[A1]at ok AG⊢;have A2:V.length=N:=by have:=ok.len;simp only at this;omega
  cases b with
  |true=>
   have:=ok.less rfl rfl;simp only at this;exact pE I l H f V A2 (by omega) (by have:=ok.ends;simp only[U]at this;exact this he)
  |false=>
   have q:=ok.same rfl;simp only[W0]at q;obtain⟨rfl,_⟩:=q;refine⟨A2,λi hi=>⟨he i hi,λh=>?_⟩⟩;induction h with
   |mk i h ih=>
    simp only
    cases AP:V.getD i true with
    |true=>rfl
    |false=>
     obtain⟨j,J,AB⟩:=AG rfl i ((H i).2 hi) AP;have:=ih j J (I i hi j J);simp only at this AB;rw[this]at AB;cases AB
def AE{succ:Nat->List Nat}{p:Nat->Bool}(AQ:∀j,p j=false->Ends succ j)(i:Nat):Ends (λi=>(succ i).filter p) i↔Ends succ i:=by
 constructor
 .intro h;induction h with
  |mk i h ih=>
   refine .mk _ (λj J=>?_);cases AH:p j with
   |false=>exact AQ j AH
   |true=>exact ih j (by simp[J,AH])
 .intro h;induction h with
  |mk i h ih=>exact .mk _ (λj J=>ih j ((Xc.1 J).1))
structure Ins where
 op:Int
 a:Int
 b:Int
 n:Int
 m:Int
def jr(cells at_ n:Int):Bool:=decide (0<=at_)&&decide (0<=n)&&decide (n<=cells)&&decide (at_<=cells-n)
def iZ(cells at_ n:Int):Bool:=decide (0<=at_)&&decide (at_<=8192)&&decide (at_+n<=cells)
def mr{cells at_ n:Int}(Z:0<=cells/\cells<=8192)(c:1<=n):jr cells at_ n=iZ cells at_ n:=by
 unfold jr iZ;rw[Bool.eq_iff_iff];simp only[WJ,WV];omega
def nM(x:Ins):Bool:=
 if x.a=0 then decide (x.b=6)||decide (8<=x.b)&&decide (x.b<=18)
 else if x.a=1 then decide (x.b=7)||decide (x.b=13)||decide (x.b=14)||decide (19<=x.b)&&decide (x.b<=21)
 else false
def BW(cells:Int)(x:Ins):Bool:=decide (0<=x.n)&&decide (x.n<=x.m)&&decide (x.m<=255)&&jr cells x.a (x.m-x.n+1)
def ea(A:Int->Nat)(cells last at_:Int)(x:Ins):Bool:=
 if x.op=1\/x.op=11 then true
 else if x.op=2\/x.op=3\/x.op=6\/x.op=14 then jr cells x.a 1
 else if x.op=13 then jr cells x.a 1&&jr cells x.b 2
 else if x.op=4\/x.op=5\/x.op=7 then BW cells x
 else if x.op=8 then nM x
 else if x.op=9\/x.op=10 then decide (0<=x.a)&&decide (x.a<=last)
 else if x.op=12 then decide (0<A x.b)&&jr cells x.a (A x.b)
 else if x.op=15 then decide (at_=last)
 else false
def fU(A:Int->Nat)(cells last:Int):Nat->List Ins->Bool
 |_,[]=>true
 |i,x::r=>ea A cells last i x&&fU A cells last (i+1) r
def dj(n:Nat)(t:Bool)(S:List Bool):Option (List Bool):=
 if S.length<n then none else if t&&(S.drop (S.length-n)).any (λb=>!b)then none else some (S.take (S.length-n))
def cx(t:Bool)(S:List Bool):Option (List Bool):=if S.length<64 then some (S++[t])else none
def hZ(S:List Bool):Option (List Bool):=if S=[]then some []else none
def ia(x:Ins)(S:List Bool):Option (List Bool):=
 if x.op=1 then cx (decide (x.n=0)||decide (x.n=1)) S
 else if x.op=2 then cx false S
 else if x.op=3\/x.op=13\/x.op=14 then cx true S
 else if x.op=4 then (dj 1 false S).bind (cx false)
 else if x.op=5 then (dj 1 false S).bind (cx true)
 else if x.op=6 then dj 1 false S
 else if x.op=7 then dj 2 false S
 else if x.op=8 then (dj (if x.b=6\/x.b=7 then 1 else 2) (decide (x.a=1)) S).bind (cx (decide (x.b=7)||decide (13<=x.b)))
 else if x.op=10 then (dj 1 true S).bind hZ
 else hZ S
def c8(M:List Bool):Nat->List Ins->List Bool->Bool
 |_,[],_=>true
 |i,x::r,S=>if M.getD i false&&!S.isEmpty then false else match ia x S with
  |none=>false
  |some W=>c8 M (i+1) r W
def fu(ins:List Ins):List Bool:=ins.foldl (λl x=>if x.op=9\/x.op=10 then l.set x.a.toNat true else l) (List.replicate ins.length false)
def x8(ins:List Ins)(i:Nat):List Nat:=
 match ins[i]? with
 |none=>[]
 |some x=>if x.op=9 then [x.a.toNat]else if x.op=10 then [i+1,x.a.toNat]else if x.op=15 then []else [i+1]
def dN(ins:List Ins)(i:Nat):Bool:=
 match ins[i]? with
 |none=>false
 |some x=>decide (x.op=11)
def di(ins:List Ins)(i:Nat):List Nat:=if dN ins i=true then []else x8 ins i
def cU(ins:List Ins)(i:Nat):List Nat:=(di ins i).filter λj=>!dN ins j
def DE(ins:List Ins)(i:Nat):Ends (cU ins) i↔Ends (di ins) i:=
 AE (p:=λj=>!dN ins j) (λj D=>.mk _ (λk Y=>by
  have:dN ins j=true:=by simpa using D
  simp[di,this]at Y)) i
def mu(n vars cells:Int)(gF:Int):Bool:=decide (1<=n)&&decide (n<=4096)&&decide (0<=cells)&&decide (cells<=8192)&&decide (0<=vars)&&decide (vars<=cells)&&decide (gF=15)
def gF(ins:List Ins):Int:=(ins.getLast?.map (·.op)).getD 0
def dI(A:Int->Nat)(ins:List Ins)(vars cells:Int):Bool:=mu ins.length vars cells (gF ins)&&fU A cells ((ins.length:Int)-1) 0 ins
def ja(A:Int->Nat)(ins:List Ins)(vars cells:Int):Bool:=
 dI A ins vars cells&&c8 (fu ins) 0 ins []&&!(rounds (cU ins) (ins.length+1) (List.range ins.length) (List.replicate ins.length 0))
def nN{A:Int->Nat}{cells last:Int}:∀{ins:List Ins}{i0:Nat},fU A cells last i0 ins=true->∀i x,ins[i]?=some x->ea A cells last ((i0+i:Nat):Int) x=true
 |y::r,i0,h,i,x,E=>by
  simp only[fU,WJ]at h;cases i with
  |zero=>simp at E;subst E;exact h.1
  |succ i=>
   have:=nN h.2 i x (by simpa using E);rw[show i0+(i+1)=i0+1+i by omega];exact this
def we{A:Int->Nat}{ins:List Ins}{vars cells:Int}(h:dI A ins vars cells=true):∀i<ins.length,∀j∈di ins i,j<ins.length:=by
 intro i hi j D;simp only[dI,WJ]at h;have E:ins[i]?=some ins[i]:=by simp[hi]
 have H:=nN h.2 i _ E;simp only[Xt]at H;have O:i+1=ins.length->ins[i].op=15:=by
  intro q;have T:=h.1;simp only[mu,WJ,WV]at T;have I:=T.2;unfold gF at I;rw[XK,show ins.length-1=i by omega,E]at I;simpa using I
 unfold di at D;split at D
 .simp at D
 .unfold x8 at D;rw[E]at D;simp only at D;unfold ea at H;by_cases U:ins[i].op=9
  .simp[U]at D H;omega
  .by_cases V:ins[i].op=10
   .simp[V]at D H;have:i+1≠ins.length:=λh=>by have:=O h;omega
    omega
   .by_cases J:ins[i].op=15
    .simp[J]at D
    .simp[U,V,J]at D;have:i+1≠ins.length:=λh=>J (O h);omega
def DG{A:Int->Nat}{ins:List Ins}{vars cells:Int}(h:dI A ins vars cells=true):
 rounds (cU ins) (ins.length+1) (List.range ins.length) (List.replicate ins.length 0)=true↔∃i<ins.length,¬Ends (di ins) i:=by
 rw[BV (cU ins) ins.length (ins.length+1) (by omega) (λi hi j D=>we h i hi j (Xc.1 D).1)];simp only[DE]
inductive D where
 |int (k:IntKind) (n:Int)
 |bool (b:Bool)
 |str (s:List UInt8)
 |list (xs:List D)
 |agg (cs:List D)
 |jb
def D.size:D->Nat
 | .agg cs=>cs.length
 |_=>1
def D.flat:D->Bool
 | .agg _=>false
 |_=>true
def bd:Value->Bool
 | .agg _=>false
 | .tuple _=>false
 |_=>true
def bV{v:Value}(h:bd v=true):v.cells=#[v]:=by cases v<;>simp_all [bd,Value.cells]
inductive ar(w:World)(F:Nat->Prop):D->Value->Prop
 |int (k n):ar w F (.int k n) (.int k n)
 |bool (b):ar w F (.bool b) (.bool b)
 |jb (v:Value) (h:v=.nilIface\/∃t p,v=.iface t p):ar w F .jb v
 |str (b:ByteArray) (s:List UInt8) (h:b.data.toList=s):ar w F (.str s) (.string b)
 |agg (cs:List D) (a:Array Value) (E:cs.length=a.size)
  (Y:∀d∈cs,d.flat=true) (I:∀(i:Nat)(d:D)(v:Value),cs[i]?=some d->a[i]?=some v->ar w F d v):ar w F (.agg cs) (.agg a)
 |nil (a:Option Addr) (cap:Nat) (A2:a=none->cap=0):ar w F (.list []) (.slice a 0 cap)
 |list (xs:List D) (b off cap sz:Nat) (vs:Nat->Value) (A3:xs.length<=cap) (T:b<w.heap.size) (M:¬F b) (A4:∀d∈xs,d.size=sz)
  (O:∀(i:Nat)(d:D),xs[i]?=some d->ar w F d (vs i))
  (I:∀(i j:Nat)(c:Value),i<xs.length->(vs i).cells[j]?=some c->w.cell? ⟨b,off+i*sz+j,none⟩=some c):
  ar w F (.list xs) (.slice (some ⟨b,off,none⟩) xs.length cap)
def ar.size{w F d v}(h:ar w F d v):v.cells.size=d.size:=by
 cases h
 case jb h=>rcases h with rfl|⟨t,p,rfl⟩<;>rfl
 all_goals simp_all [D.size,Value.cells]
def ar.one{w F d v}(h:ar w F d v)(Y:d.flat=true):bd v=true:=by
 cases h
 case jb h=>rcases h with rfl|⟨t,p,rfl⟩<;>rfl
 all_goals simp_all [D.flat,Am.bd]
def fK{w w':World}{b o:Nat}(h:w'.heap[b]?=w.heap[b]?):w'.cell? ⟨b,o,none⟩=w.cell? ⟨b,o,none⟩:=by
 simp[World.cell?,h]
def ar.mono{w w':World}{F F':Nat->Prop}{d v}(h:ar w F d v)
 (Z:∀b,b<w.heap.size->¬F b->w'.heap[b]?=w.heap[b]?) (y:w.heap.size<=w'.heap.size) (M:∀b,b<w.heap.size->F' b->F b):ar w' F' d v:=by
 induction h with
 |int k n=>exact .int k n
 |bool b=>exact .bool b
 |jb v h=>exact .jb v h
 |str b s h=>exact .str b s h
 |agg cs a E Y _ ih=>exact .agg cs a E Y ih
 |nil a cap A2=>exact .nil a cap A2
 |list xs b off cap sz vs A3 T q A4 _ I ih=>
  exact .list xs b off cap sz vs A3 (by omega) (λh=>q (M b T h)) A4 ih (λi j c hi A9=>by
   rw[fK (Z b T q)];exact I i j c hi A9)
def mg:Nat:=1000000
inductive AV where
 |aC
 |d (x:D)
 |agg (cs:List AV)
 |ptr (k U off:Nat)
 |tn (k U:Nat) (t:TypeId)
 |vec (k U off len:Nat)
 |bb (k U i j:Nat)
 |bR (x:D) (j:Nat)
 |fn (f:FuncId) (cap:List AV)
 |bk (vs:List AV)
 |dJ (t:TypeId) (x:D)
 |lit (v:Value)
 |nn
 |err
structure Loc where
 U:Nat
 ba:Nat
 sz:Nat
 cap:Nat
 base:Nat
 bL:List (Option Nat):=[]
 ty:Option TypeId:=none
abbrev aR:=Nat->Option Loc
inductive ai(φ:aR)(w:World)(F:Nat->Prop):AV->Value->Prop
 |aC (v):ai φ w F .aC v
 |d (x v) (h:ar w F x v):ai φ w F (.d x) v
 |agg (cs:List AV) (a:Array Value) (E:cs.length=a.size) (A:∀v∈a,bd v=true) (I:∀(i:Nat)(c:AV)(v:Value),cs[i]?=some c->a[i]?=some v->ai φ w F c v):ai φ w F (.agg cs) (.agg a)
 |ptr (k U off:Nat) (v:Value) (L:Loc) (H:φ k=some L) (O:U<=L.U) (h:U=L.U->v=.pointer (some ⟨L.ba,off,none⟩)) (A:bd v=true):ai φ w F (.ptr k U off) v
 |tn (k U:Nat) (t:TypeId) (L:Loc) (H:φ k=some L) (O:U<=L.U) (h:U=L.U->L.ty=some t):ai φ w F (.tn k U t) (.pointer none)
 |vec (k U off len:Nat) (v:Value) (L:Loc) (H:φ k=some L) (O:U<=L.U)
  (h:U=L.U->∃a cap,v=.slice a len cap/\len<=cap/\(cap>0->a=some ⟨L.ba,L.base+off*L.sz,none⟩/\off+cap<=L.cap)) (A:bd v=true):ai φ w F (.vec k U off len) v
 |bb (k U i j:Nat) (v:Value) (L:Loc) (H:φ k=some L) (O:U<=L.U) (h:U=L.U->v=.pointer (some ⟨L.ba,L.base+i*L.sz+j,none⟩)) (A:bd v=true):ai φ w F (.bb k U i j) v
 |bR (x:D) (j:Nat) (b off:Nat) (A':Value) (T:b<w.heap.size) (M:¬F b) (A5:ar w F x A')
  (I:∀(i:Nat)(c:Value),A'.cells[i]?=some c->w.cell? ⟨b,off+i,none⟩=some c):ai φ w F (.bR x j) (.pointer (some ⟨b,off+j,none⟩))
 |fn (f:FuncId) (cap:List AV) (a:Array Value) (Y:f<mg) (E:cap.length=a.size) (I:∀(i:Nat)(c:AV)(v:Value),cap[i]?=some c->a[i]?=some v->ai φ w F c v):ai φ w F (.fn f cap) (.func (.func f) #[] a)
 |lA (f:FuncId) (cap:List AV) (a:Array Value) (E:cap.length=a.size) (I:∀(i:Nat)(c:AV)(v:Value),cap[i]?=some c->a[i]?=some v->ai φ w F c v):ai φ w F (.fn (f+mg) cap) (.func (.func f) a #[])
 |bk (vs:List AV) (a:Array Value) (E:vs.length=a.size) (I:∀(i:Nat)(c:AV)(v:Value),vs[i]?=some c->a[i]?=some v->ai φ w F c v):ai φ w F (.bk vs) (.tuple a)
 |dJ (t:TypeId) (x:D) (v:Value) (h:ar w F x v):ai φ w F (.dJ t x) (.iface t v)
 |lit (v) (A:bd v=true):ai φ w F (.lit v) v
 |nn (a:Addr) (cap:Nat):ai φ w F .nn (.slice (some a) 0 cap)
 |err (t:TypeId) (v:Value):ai φ w F .err (.iface t v)
def aR.le(φ φ':aR):Prop:=∀k L,φ k=some L->∃L',φ' k=some L'/\L.U<=L'.U/\(L'.U=L.U->L'={L with bL:=L'.bL})
def aR.le_refl(φ:aR):φ.le φ:=λ_ L h=>⟨L,h,Ds _,λ_=>rfl⟩
def aR.le_trans{φ φ' A6:aR}(h:φ.le φ')(AA:φ'.le A6):φ.le A6:=by
 intro k L H;obtain⟨A7,A,AE,AB⟩:=h k L H;obtain⟨AC,AD,AF,A8⟩:=AA k A7 A;refine⟨AC,AD,by omega,λe=>?_⟩;have J:A7.U=L.U:=by omega
 have V:=AB J;rw[V]at A8;exact A8 (by rw[e])
def ai.mono{φ φ':aR}{w w':World}{F F':Nat->Prop}{x v}(h:ai φ w F x v)(A0:φ.le φ')
 (Z:∀b,b<w.heap.size->¬F b->w'.heap[b]?=w.heap[b]?) (y:w.heap.size<=w'.heap.size) (M:∀b,b<w.heap.size->F' b->F b):ai φ' w' F' x v:=by
 induction h with
 |aC v=>exact .aC v
 |d x v h=>exact .d x v (h.mono Z y M)
 |agg cs a E A _ ih=>exact .agg cs a E A ih
 |ptr k U off v L H O h A=>
  obtain⟨L',W,A1,he⟩:=A0 k L H;exact .ptr k U off v L' W (by omega) (λe=>by
   have J:L'.U=L.U:=by omega
   have V:=he J;rw[V];exact h (by rw[e,J])) A
 |tn k U t L H O h=>
  obtain⟨L',W,A1,he⟩:=A0 k L H;exact .tn k U t L' W (by omega) (λe=>(Xi Loc.ty (he (by omega))).trans (h (by omega)))
 |vec k U off len v L H O h A=>
  obtain⟨L',W,A1,he⟩:=A0 k L H;exact .vec k U off len v L' W (by omega) (λe=>by
   have J:L'.U=L.U:=by omega
   have V:=he J;rw[V];exact h (by rw[e,J])) A
 |bb k U i j v L H O h A=>
  obtain⟨L',W,A1,he⟩:=A0 k L H;exact .bb k U i j v L' W (by omega) (λe=>by
   have J:L'.U=L.U:=by omega
   have V:=he J;rw[V];exact h (by rw[e,J])) A
 |bR x j b off A' T q A5 I=>
  exact .bR x j b off A' (by omega) (λh=>q (M b T h)) (A5.mono Z y M) (λi c hi=>by rw[fK (Z b T q)];exact I i c hi)
 |fn f cap a Y E _ ih=>exact .fn f cap a Y E ih
 |lA f cap a E _ ih=>exact .lA f cap a E ih
 |bk vs a E _ ih=>exact .bk vs a E ih
 |dJ t x v h=>exact .dJ t x v (h.mono Z y M)
 |lit v A=>exact .lit v A
 |nn a cap=>exact .nn a cap
 |err t v=>exact .err t v
inductive ax where
 |dead
 |box (cs:List AV)
 |vec (sz:Nat) (rows:List D)
 |vv (rows:List (List D)) (y:Option AV)
 |buf (t:TypeId) (bs:List UInt8)
 |eP (s:List UInt8) (pos:Nat)
structure bn where
 key:Nat
 U:Nat
 cont:ax
abbrev Mem:=List bn
def Mem.get:Mem->Nat->Option bn
 |[],_=>none
 |e::r,k=>if e.key=k then some e else Mem.get r k
def Mem.set:Mem->bn->Mem
 |[],_=>[]
 |e::r,x=>if e.key=x.key then x::r else e::Mem.set r x
def Mem.get_mem{m:Mem}{k e}(h:Mem.get m k=some e):e∈m/\e.key=k:=by
 induction m with
 |nil=>simp[Mem.get]at h
 |cons x r ih=>
  simp only[Mem.get]at h;split at h
  .simp_all
  .have:=ih h;simp_all
def Mem.get_of_mem{m:Mem}{e}(J:(m.map (·.key)).Nodup)(h:e∈m):Mem.get m e.key=some e:=by
 induction m with
 |nil=>simp at h
 |cons x r ih=>
  simp only[Xn,List.nodup_cons]at J;simp only[Mem.get];rcases WK.1 h with rfl|h
  .simp
  .have:x.key≠e.key:=λhe=>J.1 (by rw[he];exact WW h);simp[this,ih J.2 h]
def Mem.dy(m:Mem)(x:bn):(Mem.set m x).map (·.key)=m.map (·.key):=by
 induction m with
 |nil=>rfl
 |cons e r ih=>
  simp only[Mem.set];split
  .simp_all
  .simp[ih]
def Mem.mem_set{m:Mem}{x e:bn}(J:(m.map (·.key)).Nodup):e∈Mem.set m x↔(e=x/\x.key∈m.map (·.key))\/(e∈m/\e.key≠x.key):=by
 induction m with
 |nil=>simp[Mem.set]
 |cons y r ih=>
  simp only[Xn,List.nodup_cons]at J;simp only[Mem.set];split
  .rename_i O;constructor
   .intro h;rcases WK.1 h with rfl|h
    .left;simp[O]
    .right;refine⟨by simp[h],λhe=>J.1 ?_⟩;rw[O,<-he];exact WW h
   .rintro (⟨rfl,_⟩|⟨h,Z⟩)
    .simp
    .rcases WK.1 h with rfl|h
     .exact absurd O Z
     .simp[h]
  .rename_i O;simp only[WK,ih J.2,Xn];constructor
   .rintro (rfl|⟨rfl,h⟩|⟨h,Z⟩)
    .right;exact⟨.inl rfl,O⟩
    .left;exact⟨rfl,.inr h⟩
    .right;exact⟨.inr h,Z⟩
   .rintro (⟨rfl,h⟩|⟨h,Z⟩)
    .rcases h with h|h
     .exact absurd h.symm O
     .right;left;exact⟨rfl,h⟩
    .rcases h with rfl|h
     .left;rfl
     .right;right;exact⟨h,Z⟩
def Mem.get_set_same{m:Mem}{x:bn}(h:x.key∈m.map (·.key)):Mem.get (Mem.set m x) x.key=some x:=by
 induction m with
 |nil=>simp at h
 |cons y r ih=>
  simp only[Mem.set];split
  .simp[Mem.get]
  .rename_i O;simp only[Mem.get,O,Xw];exact ih (by simp only[Xn,WK]at h;rcases h with h|h;exact absurd h.symm O;exact h)
def Mem.j2{m:Mem}{x:bn}{k:Nat}(h:x.key≠k):Mem.get (Mem.set m x) k=Mem.get m k:=by
 induction m with
 |nil=>rfl
 |cons y r ih=>
  simp only[Mem.set];split
  .rename_i O;have:y.key≠k:=by rw[O];exact h
   simp[Mem.get,h,this]
  .simp only[Mem.get,ih]
def ax.bg(L:Loc):ax->Nat->Prop
 | .dead,_=>False
 | .box _,b=>L.ba=b
 | .vec _ _,b=>0<L.cap/\L.ba=b
 | .vv _ _,b=>(0<L.cap/\L.ba=b)\/some b∈L.bL
 | .buf _ _,b=>0<L.cap/\L.ba=b
 | .eP _ _,b=>L.ba=b
def ei(φ:aR)(m:Mem)(b:Nat):Prop:=∃e∈m,∃L,φ e.key=some L/\e.cont.bg L b
structure Fr where
 g:Nat->Prop
 dv:List Deferred
instance:CoeFun Fr (λ_=>Nat->Prop):=⟨Fr.g⟩
def Fo(G:Fr)(φ:aR)(m:Mem)(b:Nat):Prop:=G b\/ei φ m b
def cy(w:World)(b:Nat)(arr:Array Value)(elem:TypeId):Prop:=∃fr:Nat×Nat,w.heap[b]?=some (.cells arr elem fr)/\(fr=(0,0)\/arr.size<=fr.1)
def cy.same{w w':World}{b:Nat}{arr:Array Value}{elem:TypeId}(h:cy w b arr elem)(T:w'.heap[b]?=w.heap[b]?):cy w' b arr elem:=by
 obtain⟨fr,V,q⟩:=h;exact⟨fr,by rw[T];exact V,q⟩
def cy.lt{w:World}{b:Nat}{arr:Array Value}{elem:TypeId}(h:cy w b arr elem):b<w.heap.size:=by
 obtain⟨fr,V,q⟩:=h;exact (WU.1 V).1
def cy.new{w:World}{b:Nat}{arr:Array Value}{elem:TypeId}(h:w.heap[b]?=some (.cells arr elem (0,0))):cy w b arr elem:=⟨(0,0),h,.inl rfl⟩
def qR(w:World)(F:Nat->Prop)(v:Option Value)(xs:List D)(o:Option Nat):Prop:=
 match o with
 |none=>xs=[]/\∃a,v=some (.slice a 0 0)
 |some b=>∃(row:Array Value)(AG:TypeId)(off cap:Nat),v=some (.slice (some ⟨b,off,none⟩) xs.length cap)/\0<cap/\xs.length<=cap/\off+cap<=row.size/\cy w b row AG/\(∀u∈row,bd u=true)/\
  ∀(i:Nat)(d:D),xs[i]?=some d->d.size=1/\∃u,ar w F d u/\∀(j:Nat)(c:Value),u.cells[j]?=some c->row[off+i*1+j]?=some c
def qR.mono{w w':World}{F F':Nat->Prop}{v xs o}(h:qR w F v xs o)(A0:∀d u,d∈xs->ar w F d u->ar w' F' d u)
 (Y:∀b,o=some b->w'.heap[b]?=w.heap[b]?):qR w' F' v xs o:=by
 cases o with
 |none=>exact h
 |some b=>
  obtain⟨row,AG,off,cap,V,q,A4,A9,AL,Af,Ag⟩:=h;exact⟨row,AG,off,cap,V,q,A4,A9,AL.same (Y b rfl),Af,λj d AH=>let ⟨g1,u,g2,g3⟩:=Ag j d AH;⟨g1,u,A0 d u (WI AH) g2,g3⟩⟩
def fV(φ:aR)(w:World)(F:Nat->Prop)(L:Loc)(rows:List (List D))(y:Option AV):Prop:=
 (L.sz=1/\rows.length+y.toList.length<=L.cap/\L.bL.length=rows.length)/\
  (∀(i j:Nat)(b:Nat),L.bL[i]?=some (some b)->L.bL[j]?=some (some b)->i=j)/\(∀b,some b∈L.bL->0<L.cap/\b≠L.ba)/\
  (0<L.cap->∃(arr:Array Value)(elem:TypeId),cy w L.ba arr elem/\arr.size=L.base+L.cap/\(∀v∈arr,bd v=true)/\
   (∀(i:Nat)(xs:List D)(o:Option Nat),rows[i]?=some xs->L.bL[i]?=some o->qR w F arr[L.base+i]? xs o)/\
   ∀x,y=some x->∃v,arr[L.base+rows.length]?=some v/\ai φ w F x v)
def fV.mono{φ φ':aR}{w w':World}{F F':Nat->Prop}{L rows y}(f:AV->AV)(h:fV φ w F L rows y)
 (A0:∀xs∈rows,∀d∈xs,∀u,ar w F d u->ar w' F' d u) (AM:∀x,y=some x->∀v,ai φ w F x v->ai φ' w' F' (f x) v)
 (Y:∀b,((0<L.cap/\L.ba=b)\/some b∈L.bL)->w'.heap[b]?=w.heap[b]?):fV φ' w' F' L rows (y.map f):=by
 obtain⟨A',V,q,h⟩:=h;refine⟨by cases y<;>exact A',V,q,λH=>?_⟩;obtain⟨arr,elem,g1,g2,g3,g4,g5⟩:=h H;refine⟨arr,elem,g1.same (Y _ (.inl ⟨H,rfl⟩)),g2,g3,λi xs o hi E=>(g4 i xs o hi E).mono (λd u hm=>A0 xs (WI hi) d hm u) (λb e=>Y b (.inr (by subst e;exact WI E))),λx I=>?_⟩;cases y with
 |none=>cases I
 |some z=>
  cases I;obtain⟨v,q1,q2⟩:=g5 z rfl;exact⟨v,q1,AM z rfl v q2⟩
def fV.MB{φ φ':aR}{w w':World}{F F':Nat->Prop}{L rows y}(h:fV φ w F L rows y)
 (A0:∀xs∈rows,∀d∈xs,∀u,ar w F d u->ar w' F' d u) (AM:∀x,y=some x->∀v,ai φ w F x v->ai φ' w' F' x v)
 (Y:∀b,((0<L.cap/\L.ba=b)\/some b∈L.bL)->w'.heap[b]?=w.heap[b]?):fV φ' w' F' L rows y:=by
 have:=h.mono id A0 AM Y;cases y<;>exact this
def fV.U{φ w F L rows y}(h:fV φ w F L rows y)(v:Nat):fV φ w F {L with U:=v} rows y:=h
def eQ(w:World)(F:Nat->Prop)(L:Loc)(sz:Nat)(rows:List D):Prop:=
 L.sz=sz/\rows.length<=L.cap/\(∀d∈rows,d.size=L.sz)/\(0<L.cap->∃(arr:Array Value)(elem:TypeId),cy w L.ba arr (L.ty.getD elem)/\
  arr.size=L.base+L.cap*L.sz/\(∀v∈arr,bd v=true)/\
  ∀(i:Nat)(d:D),rows[i]?=some d->∃v,ar w F d v/\∀(j:Nat)(c:Value),v.cells[j]?=some c->arr[L.base+i*L.sz+j]?=some c)
def eQ.BX{w w':World}{F F':Nat->Prop}{L sz rows}(h:eQ w F L sz rows)(A0:∀x∈rows,∀v,ar w F x v->ar w' F' x v)
 (Y:∀b,0<L.cap/\L.ba=b->w'.heap[b]?=w.heap[b]?:=by exact λ_ _=>rfl):eQ w' F' L sz rows:=by
 obtain⟨Ah,A',Ai,h⟩:=h;refine⟨Ah,A',Ai,λH=>?_⟩;obtain⟨arr,elem,V,q,A4,A9⟩:=h H;exact⟨arr,elem,V.same (Y _ ⟨H,rfl⟩),q,A4,λi d AT=>let ⟨v,AA,AH⟩:=A9 i d AT;⟨v,A0 _ (WI AT) _ AA,AH⟩⟩
def eQ.mono{w w':World}{F F':Nat->Prop}{L sz rows}(h:eQ w F L sz rows)(A0:∀x v,ar w F x v->ar w' F' x v)
 (Y:∀b,0<L.cap/\L.ba=b->w'.heap[b]?=w.heap[b]?):eQ w' F' L sz rows:=h.BX (λx _=>A0 x) Y
def iS(bs:List UInt8):List D:=bs.map λb=>.int .u8 b.toNat
def bw(φ:aR)(w:World)(F:Nat->Prop)(L:Loc):ax->Prop
 | .dead=>True
 | .box cs=>(L.sz=1/\L.base=0/\L.cap=cs.length)/\∃(arr:Array Value)(elem:TypeId),cy w L.ba arr (L.ty.getD elem)/\arr.size=cs.length/\(∀v∈arr,bd v=true)/\
  ∀(i:Nat)(c:AV)(v:Value),cs[i]?=some c->arr[i]?=some v->ai φ w F c v
 | .vec sz rows=>eQ w F L sz rows
 | .vv rows y=>fV φ w F L rows y
 | .buf t bs=>(L.base=0/\(0<L.cap->L.ty=some t))/\eQ w F L 1 (iS bs)
 | .eP s pos=>w.heap[L.ba]?=some (.stringIter ⟨s.toArray⟩ pos)
def JB(φ:aR)(w:World)(F:Nat->Prop)(e:bn):Prop:=∃L,φ e.key=some L/\L.U=e.U/\bw φ w F L e.cont
def bw.lt{φ w F L c b}(h:bw φ w F L c)(E:c.bg L b):b<w.heap.size:=by
 cases c with
 |dead=>exact E.elim
 |box cs=>obtain⟨_,arr,elem,h,_⟩:=h;have:L.ba=b:=E;subst this;exact h.lt
 |vec sz rows=>obtain⟨H,rfl⟩:=E;obtain⟨_,_,_,h⟩:=h;obtain⟨arr,elem,h,_⟩:=h H;exact h.lt
 |eP s pos=>cases E;exact (WU.1 h).1
 |buf t bs=>obtain⟨H,rfl⟩:=E;obtain⟨_,_,_,_,h⟩:=h;obtain⟨arr,elem,h,_⟩:=h H;exact h.lt
 |vv rows y=>
  obtain⟨⟨_,_,As⟩,_,A4,h⟩:=h;rcases E with ⟨H,rfl⟩|E
  .obtain⟨arr,elem,h,_⟩:=h H;exact h.lt
  .obtain⟨i,hi⟩:=Ya E;obtain⟨arr,elem,_,_,_,AL,_⟩:=h (A4 b E).1;have At:=(D1.1 hi).1;obtain⟨row,AG,_,_,_,_,_,_,g,_⟩:=AL i (rows[i]'(by omega)) (some b) (by simp[show i<rows.length by omega]) hi
   exact g.lt
def bw.mono{φ φ':aR}{w w':World}{F F':Nat->Prop}{L c}(h:bw φ w F L c)(AU:φ.le φ')
 (M:∀b,b<w.heap.size->¬F b->w'.heap[b]?=w.heap[b]?) (T:w.heap.size<=w'.heap.size) (A6:∀b,b<w.heap.size->F' b->F b)
 (Y:∀b,c.bg L b->w'.heap[b]?=w.heap[b]?):bw φ' w' F' L c:=by
 cases c with
 |dead=>trivial
 |box cs=>
  obtain⟨A',arr,elem,V,q,A4,A9⟩:=h;exact⟨A',arr,elem,V.same (Y _ rfl),q,A4,λi c v H AA=>(A9 i c v H AA).mono AU M T A6⟩
 |vec sz rows=>exact eQ.mono h (λ_ _ h=>h.mono M T A6) Y
 |eP s pos=>exact (Y _ rfl).trans h
 |buf t bs=>exact⟨h.1,h.2.mono (λ_ _ h=>h.mono M T A6) Y⟩
 |vv rows y=>exact fV.MB h (λ_ _ _ _ u hu=>hu.mono M T A6) (λx _ v I=>I.mono AU M T A6) Y
structure aI(φ:aR)(G:Fr)(m:Mem)(w:World):Prop where
 nodup:(m.map (·.key)).Nodup
 kG:∀k L,φ k=some L->k∈m.map (·.key)
 dk:∀e∈m,JB φ w (Fo G φ m) e
 apart:∀e∈m,∀e'∈m,∀L L',φ e.key=some L->φ e'.key=some L'->(∃b,e.cont.bg L b/\e'.cont.bg L' b)->e.key=e'.key
 fW:∀b,ei φ m b->¬G b
 bound:∀b,G b->b<w.heap.size
def aI.uH{φ G m w}(h:aI φ G m w){b}(A:ei φ m b):b<w.heap.size:=by
 obtain⟨e,he,L,A7,E⟩:=A;obtain⟨L',AW,_,H⟩:=h.dk e he;rw[A7]at AW;cases AW;exact H.lt E
structure aB(φ:aR)(m:Mem)(w:World)(φ':aR)(m':Mem)(w':World):Prop where
 le:φ.le φ'
 qT:∀b,b<w.heap.size->¬ei φ m b->w'.heap[b]?=w.heap[b]?
 own:∀b,b<w.heap.size->ei φ' m' b->ei φ m b
 size:w.heap.size<=w'.heap.size
 os:w'.os=w.os
 tape:w'.tape=w.tape
 output:w'.output=w.output
def aB.refl(φ m w):aB φ m w φ m w:=⟨aR.le_refl _,λ_ _ _=>rfl,λ_ _ h=>h,Ds _,rfl,rfl,rfl⟩
def aB.trans{φ m w AX m1 AY AZ m2 A_}(h:aB φ m w AX m1 AY)(k:aB AX m1 AY AZ m2 A_):aB φ m w AZ m2 A_ where
 le:=aR.le_trans h.le k.le
 qT:=λb A J=>by
  rw[k.qT b (XA A h.size) (λV=>J (h.own b A V)),h.qT b A J]
 own:=λb A J=>h.own b A (k.own b (XA A h.size) J)
 size:=X5 h.size k.size
 os:=k.os.trans h.os
 tape:=k.tape.trans h.tape
 output:=k.output.trans h.output
def aB.av{φ m w φ' m' w' G}(h:aB φ m w φ' m' w'){x v}(I:ai φ w (Fo G φ m) x v):ai φ' w' (Fo G φ' m') x v:=
 I.mono h.le (λb A J=>h.qT b A (λE=>J (.inr E))) h.size (λb A=>Or.imp id (h.own b A))
def aI.bo{φ G m w w'}(h:aI φ G m w){e e':bn}(he:e∈m){L L':Loc}(A7:φ e.key=some L)(A3:e'.key=e.key)
 (Aj:L.U<=L'.U) (Ak:L'.U=L.U->L'={L with bL:=L'.bL})
 (AA:L'.U=e'.U)
 (hold:∀b,b<w.heap.size->¬e.cont.bg L b->w'.heap[b]?=w.heap[b]?) (T:w.heap.size<=w'.heap.size)
 (AN:∀b,e'.cont.bg L' b->e.cont.bg L b\/w.heap.size<=b)
 (AO:w'.os=w.os) (Al:w'.tape=w.tape) (An:w'.output=w.output)
 (H:∀φ':aR,φ'=(λk=>if k=e.key then some L' else φ k)->φ.le φ'->bw φ' w' (Fo G φ' (Mem.set m e')) L' e'.cont):
 ∃φ',aI φ' G (Mem.set m e') w'/\aB φ m w φ' (Mem.set m e') w'/\φ' e.key=some L'/\∀k,k≠e.key->φ' k=φ k:=by
 have hle:φ.le (λk=>if k=e.key then some L' else φ k):=by
  intro k AP A';by_cases M:k=e.key
  .subst M;rw[A7]at A';cases A';exact⟨L',by simp,Aj,Ak⟩
  .exact⟨AP,by simp[M,A'],Ds _,λ_=>rfl⟩
 have Au:e'.key∈m.map (·.key):=by rw[A3];exact WW he
 have AQ:∀x∈m,x.key≠e.key->∀A1,φ x.key=some A1->∀b,x.cont.bg A1 b->e.cont.bg L b->False:=
  λx I Z A1 W b A2 A5=>Z (h.apart x I e he A1 L W A7 ⟨b,A2,A5⟩)
 have AR:∀b,b<w.heap.size->ei (λk=>if k=e.key then some L' else φ k) (Mem.set m e') b->ei φ m b:=by
  rintro b A ⟨x,I,A1,W,A2⟩;rcases (Mem.mem_set h.nodup).1 I with ⟨rfl,_⟩|⟨A8,Z⟩
  .simp[A3]at W;subst W;rcases AN b A2 with A5|Aa
   .exact⟨e,he,L,A7,A5⟩
   .omega
  .rw[A3]at Z;simp[Z]at W;exact⟨x,A8,A1,W,A2⟩
 have Ab:∀b,b<w.heap.size->¬ei φ m b->w'.heap[b]?=w.heap[b]?:=λb A J=>
  hold b A λE=>J ⟨e,he,L,A7,E⟩
 refine⟨_,⟨by rw[Mem.dy];exact h.nodup,?_,?_,?_,?_,?_⟩,⟨hle,Ab,AR,T,AO,Al,An⟩,by simp,λk M=>by simp[M]⟩
 .intro k AP A';rw[Mem.dy];by_cases M:k=e.key
  .subst M;exact WW he
  .simp[M]at A';exact h.kG k AP A'
 .intro x I;rcases (Mem.mem_set h.nodup).1 I with ⟨rfl,_⟩|⟨A8,Z⟩
  .exact⟨L',by simp[A3],AA,H _ rfl hle⟩
  .rw[A3]at Z;obtain⟨A1,W,Ao,AI⟩:=h.dk x A8;refine⟨A1,by simp[Z,W],Ao,AI.mono hle (λb A J=>Ab b A (λE=>J (.inr E))) T (λb A=>Or.imp id (AR b A)) (λb A2=>?_)⟩;exact hold _ (AI.lt A2) (λA5=>AQ x A8 Z A1 W b A2 A5)
 .rintro x I y O A1 Ac W AB ⟨b,A2,AJ⟩;rcases (Mem.mem_set h.nodup).1 I with ⟨rfl,_⟩|⟨A8,AD⟩<;>rcases (Mem.mem_set h.nodup).1 O with ⟨rfl,_⟩|⟨AS,AE⟩
  .rfl
  .rw[A3]at AE;simp[A3]at W;subst W;simp[AE]at AB;obtain⟨Av,Ad,_,Ap⟩:=h.dk y AS;rw[AB]at Ad;cases Ad;rcases AN b A2 with A5|Aa
   .exact (AQ y AS AE Ac AB b AJ A5).elim
   .have:=Ap.lt AJ;omega
  .rw[A3]at AD;simp[A3]at AB;subst AB;simp[AD]at W;obtain⟨Aw,Ae,_,AI⟩:=h.dk x A8;rw[W]at Ae;cases Ae;rcases AN b AJ with A5|Aa
   .exact (AQ x A8 AD A1 W b A2 A5).elim
   .have:=AI.lt A2;omega
  .rw[A3]at AD AE;simp[AD]at W;simp[AE]at AB;exact h.apart x A8 y AS A1 Ac W AB ⟨b,A2,AJ⟩
 .intro b A AC;exact h.fW b (AR b (h.bound b AC) A) AC
 .intro b AC;exact XA (h.bound b AC) T
def aI.grow{φ G m w w'}(h:aI φ G m w)(hold:∀b,b<w.heap.size->w'.heap[b]?=w.heap[b]?)(T:w.heap.size<=w'.heap.size):aI φ G m w' where
 nodup:=h.nodup
 kG:=h.kG
 dk:=λe he=>by
  obtain⟨L,A7,AA,H⟩:=h.dk e he;exact⟨L,A7,AA,H.mono (aR.le_refl _) (λb A _=>hold b A) T (λ_ _ h=>h) (λb E=>hold _ (H.lt E))⟩
 apart:=h.apart
 fW:=h.fW
 bound:=λb AC=>XA (h.bound b AC) T
def aB.grow{φ m w w'}(hold:∀b,b<w.heap.size->w'.heap[b]?=w.heap[b]?)(T:w.heap.size<=w'.heap.size)(AO:w'.os=w.os)(AF:w'.tape=w.tape)(E:w'.output=w.output):aB φ m w φ m w':=
 ⟨aR.le_refl _,λb A _=>hold b A,λ_ _ h=>h,T,AO,AF,E⟩
abbrev Env:=List (Nat×Bool×AV)
def Env.lk:Env->Nat->Option (Bool×AV)
 |[],_=>none
 |(t,x)::r,u=>if t=u then some x else Env.lk r u
structure St where
 n:Nat
 gl:List (Nat×D)
 env:Env
 mem:Mem
def bY(w:World)(F:Nat->Prop)(gl:List (Nat×D)):Prop:=
 ∀x∈gl,(x.1<w.heap.size/\∀cs,x.2=.agg cs->∃cur e Aq,w.heap[x.1]?=some (.cells cur e Aq)/\cur.size=cs.length)/\¬F x.1/\∃AK,ar w F x.2 AK/\∀(i:Nat)(c:Value),AK.cells[i]?=some c->w.cell? ⟨x.1,i,none⟩=some c
def bY.mono{w w':World}{F F':Nat->Prop}{gl}(h:bY w F gl)(M:∀b,b<w.heap.size->¬F b->w'.heap[b]?=w.heap[b]?)(T:w.heap.size<=w'.heap.size)
 (A6:∀b,b<w.heap.size->F' b->F b):bY w' F' gl:=λx I=>by
 obtain⟨⟨V,A'⟩,q,AK,A4,A9⟩:=h x I;exact⟨⟨by omega,by rw[M _ V q];exact A'⟩,λAr=>q (A6 _ V Ar),AK,A4.mono M T A6,λi c H=>by rw[fK (M _ V q)];exact A9 i c H⟩
def aB.fX{φ m w φ' m' w' G gl}(h:aB φ m w φ' m' w')(I:bY w (Fo G φ m) gl):bY w' (Fo G φ' m') gl:=
 I.mono (λb A J=>h.qT b A (λE=>J (.inr E))) h.size (λb A=>Or.imp id (h.own b A))
structure Rel(φ:aR)(G:Fr)(S:St)(a:Act)(w:World):Prop where
 size:a.tmps.size=S.n
 defers:a.defers=G.dv
 env:∀t x,Env.lk S.env t=some (true,x)->ai φ w (Fo G φ S.mem) x (a.tmps.getD t undef)
 mem:aI φ G S.mem w
 fX:bY w (Fo G φ S.mem) S.gl
def St.put(S:St)(d:Option Nat)(g:Bool)(x:AV):St:=
 match d with
 |some d=>{S with env:=(d,g,x)::S.env}
 |none=>S
def Rel.put{φ G S a w}(h:Rel φ G S a w)(d:Option Nat)(A0:∀t,d=some t->t<S.n)(g:Bool)(x:AV)(v:Value)
 (I:g=true->ai φ w (Fo G φ S.mem) x v):Rel φ G (S.put d g x) (a.put d v) w:=by
 cases d with
 |none=>exact h
 |some d=>
  have A0:=A0 d rfl;refine⟨by simp[Act.put,St.put,h.size],by simp[Act.put,h.defers],?_,h.mem,h.fX⟩;intro t y O;simp only[St.put,Env.lk]at O;by_cases AF:d=t
  .subst AF;simp only[XO,WR,W0]at O;obtain⟨rfl,rfl⟩:=O;have:d<a.tmps.size:=by rw[h.size];exact A0
   have e:(a.put (some d) v).tmps.getD d undef=v:=by simp[Act.put,this]
   rw[e];exact I rfl
  .simp only[AF,Xw]at O;have e:(a.put (some d) v).tmps.getD t undef=a.tmps.getD t undef:=by simp[Act.put,AF]
   rw[e];exact h.env t y O
def Rel.qU{φ G S a w φ' m' w'}(h:Rel φ G S a w)(hm:aI φ' G m' w')(M:aB φ S.mem w φ' m' w'):Rel φ' G {S with mem:=m'} a w':=
 ⟨h.size,h.defers,λt x I=>M.av (h.env t x I),hm,M.fX h.fX⟩
def jD{v:Value}(h:bd v=true):v.oneCell'=true:=by cases v<;>simp_all [bd,Value.oneCell']
inductive TK where
 |int (k:IntKind)
 |bool
 |str
 |slice (e:TypeId)
 |arr (n:Nat) (e:TypeId)
 |struct
 |iface
 |ptr (e:TypeId)
 |func
 |other
 deriving DecidableEq
def tk(P:Program)(t:TypeId):TK:=
 match P.underlying t with
 |some (.int k)=>.int k
 |some .bool=>.bool
 |some .string=>.str
 |some (.slice e)=>.slice e
 |some (.array n e)=>.arr n e
 |some (.struct _)=>.struct
 |some (.interface _)=>.iface
 |some (.pointer e)=>.ptr e
 |some (.func _ _ _)=>.func
 |_=>.other
def b5(P:Program)(t:TypeId):Option Nat:=(P.info? t).map (·.size)
def pF(P:Program)(s:TypeId)(f:Nat):Option Nat:=
 match P.underlying s with
 |some (.struct fs)=>match fs[f]? with
  |some fl=>match P.info? fl.type with
   |some i=>if i.size=0 then none else some fl.offset
   |none=>none
  |none=>none
 |_=>none
def TK.agg:TK->Bool
 | .arr _ _=>true
 | .struct=>true
 |_=>false
def lB{P:Program}{t:TypeId}{w:World}(h:tk P t≠.other):(isAgg t).run P w=.ok (tk P t).agg w:=by
 unfold isAgg;cases hu:P.underlying t with
 |none=>simp[tk,hu]at h
 |some d=>
  rw[Sem.run_bind,run_underlying hu];cases d<;>simp_all [tk,TK.agg]
def run_sizeOf{P:Program}{t:TypeId}{n:Nat}{w:World}(h:b5 P t=some n):(sizeOf t).run P w=.ok n w:=by
 unfold b5 at h;cases hi:P.info? t with
 |none=>simp[hi]at h
 |some i=>simp[hi]at h;simp[sizeOf,typeInfo,hi,h]
def cF(b o j:Nat):(⟨b,o,none⟩:Addr).add j=⟨b,o+j,none⟩:=by unfold Addr.add;split<;>simp_all
def nP{P:Program}{t:TypeId}{w:World}{a:Addr}{v:Value}(AG:(tk P t).agg=false)(AH:tk P t≠.other)(I:w.cell? a=some v):
 (Instr.loadAt t (.pointer (some a))).run P w=.ok v w:=by
 simp[Instr.loadAt,Instr.sureAddr,loadVar,Sem.run_bind,lB AH,AG,load,Sem.run,I]
def nQ{P:Program}{t:TypeId}{w:World}{b o:Nat}{vs:List Value}(AG:(tk P t).agg=true)(AU:b5 P t=some vs.length)
 (I:∀j v,vs[j]?=some v->w.cell? ⟨b,o+j,none⟩=some v):
 (Instr.loadAt t (.pointer (some ⟨b,o,none⟩))).run P w=.ok (.agg vs.toArray) w:=by
 have AH:tk P t≠.other:=by intro h;rw[h]at AG;cases AG
 have T:=run_loadCells_list (P:=P) w ⟨b,o,none⟩ vs (λj v h=>by rw[cF];exact I j v h);simp[Instr.loadAt,Instr.sureAddr,loadVar,Sem.run_bind,lB AH,AG,run_sizeOf AU,T]
def fw{P:Program}(g o:Nat)(t:TypeId)(A3:Nat×Nat):∀(vs:List Value)(i:Nat)(cur:Array Value)(w:World),w.heap[g]?=some (.cells cur t A3)->(A3=(0,0)\/cur.size<=A3.1)->o+i+vs.length<=cur.size->(∀v∈vs,v.oneCell'=true)->
 (storeCells ⟨g,o,none⟩ vs i).run P w=.ok () (w.setRow g (cur.toList.take (o+i)++vs++cur.toList.drop (o+i+vs.length)).toArray)
 |[],i,cur,w,V,_,_,_=>by
  simp only[storeCells,XF,XU,Xq,XV,Yb];rw[setRow_self w g cur t A3 V];rfl
 |v::rest,i,cur,w,V,AP,T,H=>by
  have hi:o+i<cur.size:=by simp at T;omega
  have Ag:(⟨g,o,none⟩:Addr).add i=⟨g,o+i,none⟩:=by unfold Addr.add;split<;>simp_all
  have Ah:w.cell? ⟨g,o+i,none⟩=some cur[o+i]:=by simp[World.cell?,V,hi]
  have Ai:w.frozen? ⟨g,o+i,none⟩=false:=by
   obtain⟨lo,AC⟩:=A3;simp only[World.frozen?,V,Bool.and_eq_false_iff,X2];rcases AP with h|h
   .cases h;omega
   .simp only at h;omega
  have Aj:(store ((⟨g,o,none⟩:Addr).add i) v).run P w=.ok () (w.setRow g (cur.setIfInBounds (o+i) v)):=by
   rw[Ag,run_store P w _ v _ (H v (by simp)),Ah];simp[Ai,setCell_eq_setRow w g (o+i) cur t A3 v V]
  have ih:=fw (P:=P) g o t A3 rest (i+1) (cur.setIfInBounds (o+i) v) (w.setRow g (cur.setIfInBounds (o+i) v)) (setRow_heap w g cur _ t _ V) (by simpa using AP) (by simp at T⊢;omega) (λx M=>H x (by simp[M]));simp only[storeCells,Sem.run_bind,Aj,Result.andThen_ok,ih,setRow_setRow];congr 3;have e:=list_seg_step cur.toList (o+i) v rest (by simp at T⊢;omega);simpa [Array.toList_setIfInBounds,W1]using e
def AF{P:Program}{t:TypeId}{w:World}{b o:Nat}{arr:Array Value}{elem:TypeId}{v:Value}(AU:b5 P t=some v.cells.size)
 (V:cy w b arr elem) (T:o+v.cells.size<=arr.size) (H:∀x∈v.cells,bd x=true):
 (Instr.storeAt t (.pointer (some ⟨b,o,none⟩)) v).run P w=.ok () (w.setRow b (arr.toList.take o++v.cells.toList++arr.toList.drop (o+v.cells.size)).toArray):=by
 obtain⟨A3,V,AP⟩:=V;have h:=fw (P:=P) b o elem A3 v.cells.toList 0 arr w V AP (by simpa using T) (λx M=>jD (H x (by simpa using M)));simp only[Xq,WQ]at h;simp[Instr.storeAt,Instr.sureAddr,storeVar,Sem.run_bind,run_sizeOf AU,h]
def D.cells:D->List D
 | .agg cs=>cs
 |x=>[x]
def D.at(xs:List D)(i:Nat):D:=xs[i]?.getD (.bool false)
def D.cell(x:D)(j:Nat):D:=x.cells[j]?.getD (.bool false)
def toD1:AV->Option D
 | .d x=>some x
 | .lit (.slice none 0 0)=>some (.list [])
 | .nn=>some (.list [])
 |_=>none
def toDs:List AV->Option (List D)
 |[]=>some []
 |x::r=>match x,toDs r with
  | .d y,some AI=>some (y::AI)
  |_,_=>none
def toDsN:List AV->Option (List D)
 |[]=>some []
 |x::r=>match toD1 x,toDsN r with
  |some y,some AI=>some (y::AI)
  |_,_=>none
def sA(cs:List AV):AV:=match toDs cs with|some Y=>.d (.agg Y)|none=>.agg cs
def AV.norm:AV->AV
 | .agg cs=>match toDsN cs with|some Y=>.d (.agg Y)|none=>.agg cs
 | .lit (.slice none 0 0)=>.d (.list [])
 | .nn=>.d (.list [])
 |x=>x
def AV.cells:AV->List AV
 | .agg cs=>cs
 | .d (.agg Y)=>Y.map .d
 |x=>[x]
def D.db(x:D):x.cells.length=x.size:=by cases x<;>rfl
def BZ{w:World}{F:Nat->Prop}{x:D}{v:Value}(A':x.flat=true)(h:ar w F x v)(M:x.cells=[x])(J:v.cells=#[v]):
 v.cells.toList.length=x.cells.length/\(∀u∈v.cells,bd u=true)/\∀(i:Nat)(c:D)(u:Value),x.cells[i]?=some c->v.cells[i]?=some u->ar w F c u/\c.flat=true:=by
 rw[M,J];refine⟨rfl,λu hu=>by simp at hu;subst hu;exact h.one A',λi c u H A=>?_⟩;cases i with
 |zero=>simp at H A;subst H;subst A;exact⟨h,A'⟩
 |succ i=>simp at H
def ar.cells{w F x v}(h:ar w F x v):v.cells.toList.length=x.cells.length/\(∀u∈v.cells,bd u=true)/\∀(i:Nat)(c:D)(u:Value),x.cells[i]?=some c->v.cells[i]?=some u->ar w F c u/\c.flat=true:=by
 cases AD:x with
 |agg cs=>
  subst AD;cases h with
  |agg cs a T A' I=>
   refine⟨by simp[D.cells,Value.cells,T],?_,λi c u H A=>⟨I i c u H A,A' c (WI H)⟩⟩;intro u hu;have hu:u∈a:=hu;obtain⟨i,hi,rfl⟩:=Array.mem_iff_getElem.1 hu;have AC:i<cs.length:=by rw[T];exact hi
   exact (I i cs[i] a[i] (by simp[AC]) (by simp[hi])).one (A' _ (Xf AC))
 |_=>subst AD;exact BZ rfl h rfl (bV (h.one rfl))
def ar.jM{w F}{cs:List D}{vs:List Value}(T:cs.length=vs.length)(H:∀v∈vs,bd v=true)
 (I:∀(i:Nat) c v,cs[i]?=some c->vs[i]?=some v->ar w F c v):ar w F (.agg cs) (.agg vs.toArray):=by
 refine .agg cs vs.toArray (by simpa using T) ?_ (λi d v h AJ=>I i d v h (by simpa using AJ));intro d AD;obtain⟨i,hi,rfl⟩:=X0.1 AD;have AC:i<vs.length:=by omega
 have A1:=I i cs[i] vs[i] (by simp[hi]) (by simp[AC]);have A:=H vs[i] (Xf AC);revert A1 A
 generalize vs[i]=v;generalize cs[i]=c;intro A1 A;cases A1<;>simp_all [D.flat,bd]
def toDs_rel{φ w F}:∀{cs:List AV}{Y:List D}{vs:List Value},toDs cs=some Y->(∀(i:Nat) c v,cs[i]?=some c->vs[i]?=some v->ai φ w F c v)->
 cs.length=Y.length/\∀(i:Nat) d v,Y[i]?=some d->vs[i]?=some v->ar w F d v
 |[],Y,vs,h,_=>by simp[toDs]at h;subst h;simp
 |x::r,Y,vs,h,I=>by
  simp only[toDs]at h;split at h<;>simp at h;rename_i y AI A8;subst h;cases vs with
  |nil=>
   have ih:=toDs_rel (φ:=φ) (w:=w) (F:=F) (vs:=[]) A8 (λi c v _ A=>by simp at A);exact⟨by simp[ih.1],λi d v _ A=>by simp at A⟩
  |cons v0 vs=>
   have ih:=toDs_rel (vs:=vs) A8 (λi c v H A=>I (i+1) c v (by simpa using H) (by simpa using A));refine⟨by simp[ih.1],λi d v H A=>?_⟩;cases i with
   |zero=>
    simp at H A;subst H;subst A;have:=I 0 (.d y) v0 (by simp) (by simp);cases this with|d _ _ h=>exact h
   |succ i=>exact ih.2 i d v (by simpa using H) (by simpa using A)
def toD1_rel{φ w F x d v}(h:toD1 x=some d)(M:ai φ w F x v):ar w F d v:=by
 unfold toD1 at h;split at h<;>simp at h
 .subst h;cases M with|d _ _ h=>exact h
 .subst h;cases M;exact .nil none 0 λ_=>rfl
 .subst h;cases M;exact .nil _ _ (by simp)
def toDsN_rel{φ w F}:∀{cs:List AV}{Y:List D}{vs:List Value},toDsN cs=some Y->(∀(i:Nat) c v,cs[i]?=some c->vs[i]?=some v->ai φ w F c v)->
 cs.length=Y.length/\∀(i:Nat) d v,Y[i]?=some d->vs[i]?=some v->ar w F d v
 |[],Y,vs,h,_=>by simp[toDsN]at h;subst h;simp
 |x::r,Y,vs,h,I=>by
  simp only[toDsN]at h;split at h<;>simp at h;rename_i y AI M A8;subst h;cases vs with
  |nil=>
   have ih:=toDsN_rel (φ:=φ) (w:=w) (F:=F) (vs:=[]) A8 (λi c v _ A=>by simp at A);exact⟨by simp[ih.1],λi d v _ A=>by simp at A⟩
  |cons v0 vs=>
   have ih:=toDsN_rel (vs:=vs) A8 (λi c v H A=>I (i+1) c v (by simpa using H) (by simpa using A));refine⟨by simp[ih.1],λi d v H A=>?_⟩;cases i with
   |zero=>
    simp at H A;subst H;subst A;exact toD1_rel M (I 0 x v0 (by simp) (by simp))
   |succ i=>exact ih.2 i d v (by simpa using H) (by simpa using A)
def qV{φ w F}{cs:List AV}{vs:List Value}(T:cs.length=vs.length)(H:∀v∈vs,bd v=true)
 (I:∀(i:Nat) c v,cs[i]?=some c->vs[i]?=some v->ai φ w F c v):ai φ w F (sA cs) (.agg vs.toArray):=by
 unfold sA;split
 .rename_i Y AW;have:=toDs_rel AW I;exact .d _ _ (.jM (by omega) H this.2)
 .exact .agg cs vs.toArray (by simpa using T) (λv J=>H v (by simpa using J)) (λi c v h AJ=>I i c v h (by simpa using AJ))
def ai.norm{φ w F x v}(h:ai φ w F x v):ai φ w F x.norm v:=by
 unfold AV.norm;split
 .rename_i cs;split
  .rename_i Y AW;cases h with
   |agg _ a T H I=>
    have:=toDsN_rel (vs:=a.toList) AW (λi c v h AJ=>I i c v h (by simpa using AJ));have A:=ar.jM (w:=w) (F:=F) (cs:=Y) (vs:=a.toList) (by simp;omega) (λv J=>H v (by simpa using J)) this.2;rw[Yb]at A;exact .d _ _ A
  .exact h
 .cases h;exact .d _ _ (.nil none 0 λ_=>rfl)
 .cases h;exact .d _ _ (.nil _ _ (by simp))
 .exact h
def ai.cells{φ w F x v}(h:ai φ w F x v)(H:∀u∈v.cells,bd u=true)(T:v.cells.size=x.cells.length):
 ∀(i:Nat) c u,x.cells[i]?=some c->v.cells[i]?=some u->ai φ w F c u:=by
 cases h with
 |agg cs a T H I=>exact λi c u E hu=>I i c u E hu
 |d x v h=>
  intro i c u E hu;have:=h.cells;cases x with
  |agg cs=>
   simp only[AV.cells,WZ,WH]at E;obtain⟨y,A8,rfl⟩:=E;exact .d _ _ (this.2.2 i y u A8 hu).1
  |_=>
   simp only[AV.cells]at E;cases i with
   |zero=>simp at E;subst E;exact .d _ _ (this.2.2 0 _ u rfl hu).1
   |succ i=>simp at E
 |aC v=>
  intro i c u E hu;cases i with
  |zero=>simp[AV.cells]at E;subst E;exact .aC _
  |succ i=>simp[AV.cells]at E
 |ptr k U off v L W J h A=>
  intro i c u E hu;rw[bV A]at hu;cases i with
  |zero=>simp[AV.cells]at E hu;subst E;subst hu;exact .ptr k U off v L W J h A
  |succ i=>simp[AV.cells]at E
 |tn k U t L W J h=>
  intro i c u E hu;cases i with
  |zero=>simp[AV.cells,Value.cells]at E hu;subst E;subst hu;exact .tn k U t L W J h
  |succ i=>simp[AV.cells]at E
 |vec k U off len v L W J h A=>
  intro i c u E hu;rw[bV A]at hu;cases i with
  |zero=>simp[AV.cells]at E hu;subst E;subst hu;exact .vec k U off len v L W J h A
  |succ i=>simp[AV.cells]at E
 |bb k U p j v L W J h A=>
  intro i c u E hu;rw[bV A]at hu;cases i with
  |zero=>simp[AV.cells]at E hu;subst E;subst hu;exact .bb k U p j v L W J h A
  |succ i=>simp[AV.cells]at E
 |bR x j b off A0 AQ AR M I=>
  intro i c u E hu;cases i with
  |zero=>simp[AV.cells,Value.cells]at E hu;subst E;subst hu;exact .bR x j b off A0 AQ AR M I
  |succ i=>simp[AV.cells]at E
 |fn f cap a A' AX I=>
  intro i c u E hu;cases i with
  |zero=>simp[AV.cells,Value.cells]at E hu;subst E;subst hu;exact .fn f cap a A' AX I
  |succ i=>simp[AV.cells]at E
 |lA f cap a AX I=>
  intro i c u E hu;cases i with
  |zero=>simp[AV.cells,Value.cells]at E hu;subst E;subst hu;exact .lA f cap a AX I
  |succ i=>simp[AV.cells]at E
 |bk vs a T I=>
  have:=H (.tuple a) (by simp[Value.cells]);simp[bd]at this
 |dJ t x v h=>
  intro i c u E hu;cases i with
  |zero=>simp[AV.cells,Value.cells]at E hu;subst E;subst hu;exact .dJ t x v h
  |succ i=>simp[AV.cells]at E
 |lit v A=>
  intro i c u E hu;rw[bV A]at hu;cases i with
  |zero=>simp[AV.cells]at E hu;subst E;subst hu;exact .lit _ A
  |succ i=>simp[AV.cells]at E
 |nn a cap=>
  intro i c u E hu;cases i with
  |zero=>simp[AV.cells,Value.cells]at E hu;subst E;subst hu;exact .nn a cap
  |succ i=>simp[AV.cells]at E
 |err t v=>
  intro i c u E hu;cases i with
  |zero=>simp[AV.cells,Value.cells]at E hu;subst E;subst hu;exact .err t v
  |succ i=>simp[AV.cells]at E
def iE:Value->AV
 | .int k n=>.d (.int k n)
 | .bool b=>.d (.bool b)
 | .string s=>.d (.str s.data.toList)
 | .agg _=>.aC
 | .tuple _=>.aC
 |v=>.lit v
def s5(φ w F v):ai φ w F (iE v) v:=by
 cases v<;>first|exact .d _ _ (.int _ _)|exact .d _ _ (.bool _)|exact .d _ _ (.str _ _ rfl)|exact .aC _|exact .lit _ rfl
def uK:List (Nat×D)->Nat->Option D
 |[],_=>none
 |(g,d)::r,k=>if g=k then some d else uK r k
def Bf:∀{l:List (Nat×D)}{g d},uK l g=some d->(g,d)∈l
 |[],g,d,h=>by simp[uK]at h
 |(Ao,Ap)::r,g,d,h=>by
  simp only[uK]at h;split at h
  .rename_i V;subst V;cases h;simp
  .have:=Bf h;simp[this]
def St.ag(S:St):Operand->Bool×AV
 | .tmp t=>(Env.lk S.env t).getD (true,.aC)
 | .const v=>(true,iE v)
 | .global g=>match uK S.gl g with
  |some d=>(true,.bR d 0)
  |none=>(true,.lit (.pointer (some ⟨g,0,none⟩)))
 | .func f=>(decide (f<mg),.fn f [])
def Rel.ag{φ G S a w}(h:Rel φ G S a w)(x:Operand)(M:(S.ag x).1=true):ai φ w (Fo G φ S.mem) (S.ag x).2 (a.eval x):=by
 cases x with
 |tmp t=>
  simp only[St.ag]at M⊢;cases T:Env.lk S.env t with
  |none=>exact .aC _
  |some y=>
   obtain⟨g,x⟩:=y;rw[T]at M;simp only[Xy]at M⊢;subst M;exact h.env t x T
 |const v=>exact s5 ..
 |global g=>
  simp only[St.ag]at M⊢;split
  .rename_i d AD;obtain⟨⟨H,_⟩,A,A0,A1,Ak⟩:=h.fX _ (Bf AD);have e:a.eval (.global g)=.pointer (some ⟨g,0+0,none⟩):=rfl;rw[e];exact .bR d 0 g 0 A0 H A A1 (λi c hi=>by simpa using Ak i c hi)
  .exact .lit _ rfl
 |func f=>exact .fn f [] #[] (by simpa [St.ag]using M) rfl (by simp)
inductive br where
 |no
 |val (c:Bool) (x:AV)
 |bo (c:Bool) (x:AV) (e:bn)
def s6(P:Program)(o:Oper)(a:Act)(w:World)(v:Value)(w':World):Prop:=
 (execOp a.eval o).run P w=.ok (.value v) w'\/((execOp a.eval o).run P w=.ok .skip w'/\v=undef)
def aj(P:Program)(S:St)(o:Oper):br->Prop
 | .no=>True
 | .val c x=>c=true->∀φ G a w,Rel φ G S a w->∃v w',s6 P o a w v w'/\ai φ w' (Fo G φ S.mem) x v/\
  (∀b,b<w.heap.size->w'.heap[b]?=w.heap[b]?)/\w.heap.size<=w'.heap.size/\w'.os=w.os/\w'.tape=w.tape/\w'.output=w.output
 | .bo c x e=>c=true->∀φ G a w,Rel φ G S a w->∃v w' φ',s6 P o a w v w'/\ai φ' w' (Fo G φ' (Mem.set S.mem e)) x v/\
  aI φ' G (Mem.set S.mem e) w'/\aB φ S.mem w φ' (Mem.set S.mem e) w'/\∀k,k≠e.key->φ' k=φ k
def aj.pure{P S o x}{c:Prop}[Decidable c](h:c->∀φ G a w,Rel φ G S a w->∃v,(execOp a.eval o).run P w=.ok (.value v) w/\ai φ w (Fo G φ S.mem) x v):aj P S o (.val (decide c) x):=by
 intro I φ G a w O;obtain⟨v,H,A⟩:=h (Xk I) φ G a w O;exact⟨v,w,.inl H,A,λ_ _=>rfl,Ds _,rfl,rfl,rfl⟩
def aj.jE{P S o x e}{c:Prop}[Decidable c](h:c->∀φ G a w,Rel φ G S a w->∃v w' φ',s6 P o a w v w'/\ai φ' w' (Fo G φ' (Mem.set S.mem e)) x v/\
 aI φ' G (Mem.set S.mem e) w'/\aB φ S.mem w φ' (Mem.set S.mem e) w'/\∀k,k≠e.key->φ' k=φ k):aj P S o (.bo (decide c) x e):=λI=>h (Xk I)
def aj.OX{P S o x}{c:Prop}[Decidable c](h:c->∀φ G a w,Rel φ G S a w->∃v w',s6 P o a w v w'/\ai φ w' (Fo G φ S.mem) x v/\
 (∀b,b<w.heap.size->w'.heap[b]?=w.heap[b]?)/\w.heap.size<=w'.heap.size/\w'.os=w.os/\w'.tape=w.tape/\w'.output=w.output):aj P S o (.val (decide c) x):=λI=>h (Xk I)
def aj.j3{P S o x}{c:Bool}(h:c=true->∀φ G a w,Rel φ G S a w->∃v,(execOp a.eval o).run P w=.ok (.value v) w/\ai φ w (Fo G φ S.mem) x v):aj P S o (.val c x):=by
 intro I φ G a w O;obtain⟨v,H,A⟩:=h I φ G a w O;exact⟨v,w,.inl H,A,λ_ _=>rfl,Ds _,rfl,rfl,rfl⟩
def fY(P:Program)(S:St)(o:Oper):br->Prop
 | .no=>True
 | .val c x=>c=true->∀φ G a w,Rel φ G S a w->∃v,(execOp a.eval o).run P w=.ok (.value v) w/\ai φ w (Fo G φ S.mem) x v
 | .bo _ _ _=>False
def fY.of{P S o x}{c:Prop}[Decidable c](h:c->∀φ G a w,Rel φ G S a w->∃v,(execOp a.eval o).run P w=.ok (.value v) w/\ai φ w (Fo G φ S.mem) x v):fY P S o (.val (decide c) x):=λI=>h (Xk I)
def fY.res{P S o r}(h:fY P S o r):aj P S o r:=by
 cases r with
 |no=>trivial
 |val c x=>
  intro I φ G a w O;obtain⟨v,H,A⟩:=h I φ G a w O;exact⟨v,w,.inl H,A,λ_ _=>rfl,Ds _,rfl,rfl,rfl⟩
 |bo c x e=>exact h.elim
def gV(P:Program)(m:Mem)(t:TypeId)(p:AV):br:=
 match p with
 | .ptr k U off=>match Mem.get m k with
  |some ⟨_,v,.box cs⟩=>match (tk P t).agg with
   |true=>match b5 P t with
    |some n=>.val (v=U/\off+n<=cs.length) (sA ((cs.drop off).take n))
    |none=>.no
   |false=>.val (v=U/\tk P t≠.other/\off<cs.length) (cs[off]?.getD .aC)
  |_=>.no
 | .bb k U i j=>match Mem.get m k with
  |some ⟨_,v,.vec sz rows⟩=>match (tk P t).agg with
   |true=>.val (v=U/\i<rows.length/\b5 P t=some sz/\j=0/\(D.at rows i).flat=false) (.d (D.at rows i))
   |false=>.val (v=U/\tk P t≠.other/\i<rows.length/\j<sz) (.d (D.cell (D.at rows i) j))
  |some ⟨_,v,.vv rows (some y)⟩=>match (tk P t).agg with
   |true=>.no
   |false=>.val (v=U/\tk P t≠.other/\i=rows.length/\j=0) y
  |_=>.no
 | .bR x j=>match (tk P t).agg with
  |true=>match j with
   |0=>.val (b5 P t=some x.size/\x.flat=false) (.d x)
   |j=>match b5 P t with
    |some n=>.val (j+n<=x.size) (.d (.agg ((x.cells.drop j).take n)))
    |none=>.no
  |false=>.val (tk P t≠.other/\j<x.size) (.d (x.cell j))
 |_=>.no
def aI.get{φ G m w}(h:aI φ G m w){k e}(V:Mem.get m k=some e):e∈m/\e.key=k/\∃L,φ k=some L/\L.U=e.U/\bw φ w (Fo G φ m) L e.cont:=by
 obtain⟨hm,A9⟩:=Mem.get_mem V;obtain⟨L,H,A,A1⟩:=h.dk e hm;rw[A9]at H;exact⟨hm,A9,L,H,A,A1⟩
def ai.fZ{φ w F k U off v L}(h:ai φ w F (.ptr k U off) v)(W:φ k=some L)(J:L.U=U):v=.pointer (some ⟨L.ba,off,none⟩):=by
 cases h with|ptr _ _ _ _ L' AK _ h _=>rw[W]at AK;cases AK;exact h J.symm
def ai.ft{φ w F k U i j v L}(h:ai φ w F (.bb k U i j) v)(W:φ k=some L)(J:L.U=U):v=.pointer (some ⟨L.ba,L.base+i*L.sz+j,none⟩):=by
 cases h with|bb _ _ _ _ _ L' AK _ h _=>rw[W]at AK;cases AK;exact h J.symm
def qW{w:World}{b:Nat}{arr:Array Value}{e:TypeId}{fr}(h:w.heap[b]?=some (.cells arr e fr))(o:Nat):w.cell? ⟨b,o,none⟩=arr[o]?:=by
 simp[World.cell?,h]
def dz{w:World}{b:Nat}{arr:Array Value}{e:TypeId}(h:cy w b arr e)(o:Nat):w.cell? ⟨b,o,none⟩=arr[o]?:=by
 obtain⟨fr,h,_⟩:=h;exact qW h o
def getD_at{xs:List D}{i:Nat}(h:i<xs.length):xs[i]?=some (D.at xs i):=by simp[D.at,h]
def oA{w F x v}(h:ar w F x v)(A':x.flat=false):∃arr,v=.agg arr:=by
 cases h<;>simp_all [D.flat]
def Bg(P:Program)(S:St)(o:Oper)(t:TypeId)(x:Operand)(AH:o.op=.load t x)(M:(S.ag x).1=true):fY P S o (gV P S.mem t (S.ag x).2):=by
 have A6:∀(a:Act)(w:World)(v:Value),(Instr.loadAt t (a.eval x)).run P w=.ok v w->(execOp a.eval o).run P w=.ok (.value v) w:=by
  intro a w v h;simp[execOp,AH,h]
 unfold gV;split
 .rename_i k U off A2;split
  .rename_i key v cs V;split
   .rename_i Z;split
    .rename_i n AY;refine fY.of ?_;rintro ⟨rfl,hle⟩ φ G a w O;have J:=O.ag x M;rw[A2]at J;obtain⟨hm,A9,L,W,A4,_,arr,elem,hh,AS,H,A5⟩:=O.mem.get V;have e:=J.fZ W A4;have AL:((arr.toList.drop off).take n).length=n:=by simp;omega
     refine⟨.agg ((arr.toList.drop off).take n).toArray,A6 a w _ ?_,?_⟩
     .rw[e];refine nQ Z (by rw[AL];exact AY) (λj v q=>?_);rw[dz hh];rw[WM]at q;split at q
      .simpa using q
      .cases q
     .refine qV (by rw[AL];simp;omega) (λv J=>H v ?_) (λi c v I J=>?_)
      .have:=W3 J;simpa using WX this
      .rw[WM]at I J;split at I
       .rename_i hi;simp only[hi,XO]at J;exact A5 (off+i) c v (by simpa using I) (by simpa using J)
       .cases I
    .trivial
   .rename_i Z;refine fY.of ?_;rintro ⟨rfl,AA,AB⟩ φ G a w O;have J:=O.ag x M;rw[A2]at J;obtain⟨hm,A9,L,W,A4,_,arr,elem,hh,AS,H,A5⟩:=O.mem.get V;have e:=J.fZ W A4;have Af:off<arr.size:=by omega
    refine⟨arr[off],A6 a w _ ?_,A5 off _ _ ?_ (by simp[Af])⟩
    .rw[e];exact nP Z AA (by rw[dz hh];simp[Af])
    .simp[AB]
  .trivial
 .rename_i k U i j A2;split
  .rename_i key v sz rows V;split
   .rename_i Z;refine fY.of ?_;rintro ⟨rfl,AB,AZ,rfl,A'⟩ φ G a w O;have J:=O.ag x M;rw[A2]at J;obtain⟨hm,A9,L,W,A4,A_,Aa,Ab,AM⟩:=O.mem.get V;have e:=J.ft W A4;obtain⟨arr,elem,hh,AS,H,A5⟩:=AM (by omega);obtain⟨u,hu,Ac⟩:=A5 i _ (getD_at AB);obtain⟨AE,rfl⟩:=oA hu A';refine⟨.agg AE,A6 a w _ ?_,.d _ _ hu⟩;rw[e];have AT:AE.toList.length=sz:=by
     have A1:=hu.size;rw[Ab _ (WI (getD_at AB)),A_]at A1;simpa [Value.cells]using A1
    have:=nQ (P:=P) (t:=t) (w:=w) (b:=L.ba) (o:=L.base+i*L.sz+0) (vs:=AE.toList) Z (by rw[AT];exact AZ) (λj v q=>by
     rw[dz hh];exact Ac j v (by simpa [Value.cells]using q))
    simpa using this
   .rename_i Z;refine fY.of ?_;rintro ⟨rfl,AA,AB,q⟩ φ G a w O;have J:=O.ag x M;rw[A2]at J;obtain⟨hm,A9,L,W,A4,A_,Aa,Ab,AM⟩:=O.mem.get V;have e:=J.ft W A4;obtain⟨arr,elem,hh,AS,H,A5⟩:=AM (by omega);obtain⟨u,hu,Ac⟩:=A5 i _ (getD_at AB);have AT:(D.at rows i).size=sz:=by rw[Ab _ (WI (getD_at AB)),A_]
    have AN:j<u.cells.size:=by rw[hu.size,AT];exact q
    have Ad:j<(D.at rows i).cells.length:=by rw[D.db,AT];exact q
    refine⟨u.cells[j],A6 a w _ ?_,.d _ _ (hu.cells.2.2 j _ _ (by simp[D.cell,Ad]) (by simp[AN])).1⟩;rw[e];exact nP Z AA (by rw[dz hh];exact Ac j _ (by simp[AN]))
  .rename_i key v rows y V;split
   .trivial
   .rename_i Z;refine fY.of ?_;rintro ⟨rfl,AA,rfl,rfl⟩ φ G a w O;have J:=O.ag x M;rw[A2]at J;obtain⟨hm,A9,L,W,A4,⟨Al,Aa,_⟩,_,_,AM⟩:=O.mem.get V;have e:=J.ft W A4;simp only[Option.toList_some,Xo]at Aa;obtain⟨arr,elem,hh,AS,H,_,A5⟩:=AM (by omega);obtain⟨u,hu,An⟩:=A5 y rfl;refine⟨u,A6 a w _ ?_,An⟩;rw[e];exact nP Z AA (by rw[dz hh,Al,XR,Xq];exact hu)
  .trivial
 .rename_i d j A2;split
  .rename_i Z;split
   .refine fY.of ?_;rintro ⟨AZ,A'⟩ φ G a w O;have J:=O.ag x M;rw[A2]at J;generalize AO:a.eval x=av at J;cases J with
    |bR _ _ b off A0 AQ AR A7 I=>
     obtain⟨AE,rfl⟩:=oA A7 A';refine⟨.agg AE,A6 a w _ ?_,.d _ _ A7⟩;rw[AO];exact nQ (vs:=AE.toList) Z (by rw[AZ];have:=A7.size;simp[Value.cells]at this;simp[this]) (λj v q=>I j v (by simpa [Value.cells]using q))
   .split
    .rename_i n AY;refine fY.of ?_;intro hle φ G a w O;have J:=O.ag x M;rw[A2]at J;generalize AO:a.eval x=av at J;cases J with
     |bR _ _ b off A0 AQ AR A7 I=>
      have Ae:=A7.cells;have T:A0.cells.toList.length=d.size:=by rw[Ae.1,D.db]
      have AL:((A0.cells.toList.drop j).take n).length=n:=by simp at T⊢;omega
      refine⟨.agg ((A0.cells.toList.drop j).take n).toArray,A6 a w _ ?_,.d _ _ (.jM ?_ ?_ ?_)⟩
      .rw[AO];refine nQ Z (by rw[AL];exact AY) (λi v hi=>?_);rw[WM]at hi;split at hi
       .rw[show off+j+i=off+(j+i) by omega];exact I (j+i) v (by simpa using hi)
       .cases hi
      .rw[AL];simp[D.db];omega
      .intro v J;exact Ae.2.1 v (by simpa using WX (W3 J))
      .intro i c v H A;rw[WM]at H A;split at H
       .rename_i hi;simp only[hi,XO]at A;exact (Ae.2.2 (j+i) c v (by simpa using H) (by simpa using A)).1
       .cases H
    .trivial
  .rename_i Z;refine fY.of ?_;rintro ⟨AA,q⟩ φ G a w O;have J:=O.ag x M;rw[A2]at J;generalize AO:a.eval x=av at J;cases J with
   |bR _ _ b off A0 AQ AR A7 I=>
    have AN:j<A0.cells.size:=by rw[A7.size];exact q
    have Ad:j<d.cells.length:=by rw[D.db];exact q
    refine⟨A0.cells[j],A6 a w _ ?_,.d _ _ (A7.cells.2.2 j _ _ (by simp[D.cell,Ad]) (by simp[AN])).1⟩;rw[AO];exact nP Z AA (I j _ (by simp[AN]))
 .trivial
def AV.gz:AV->Bool
 | .aC=>false
 | .bk _=>false
 |_=>true
def ai.gz{φ w F x v}(h:ai φ w F x v)(A3:x.gz=true):v.cells.size=x.cells.length/\∀u∈v.cells,bd u=true:=by
 have one:∀{v:Value}{x:AV},bd v=true->x.cells.length=1->v.cells.size=x.cells.length/\∀u∈v.cells,bd u=true:=by
  intro v x A A2;rw[bV A,A2];exact⟨rfl,λu hu=>by simp at hu;subst hu;exact A⟩
 cases h with
 |aC=>simp[AV.gz]at A3
 |bk=>simp[AV.gz]at A3
 |d x v h=>
  have W:=h.cells;refine⟨?_,W.2.1⟩;have:=W.1;cases x<;>simp_all [AV.cells,D.cells]
 |agg cs a A2 A W=>exact⟨by simp[Value.cells,AV.cells,A2],A⟩
 |ptr _ _ _ _ _ _ _ _ A=>exact one A rfl
 |tn=>exact one rfl rfl
 |vec _ _ _ _ _ _ _ _ _ A=>exact one A rfl
 |bb _ _ _ _ _ _ _ _ _ A=>exact one A rfl
 |bR=>exact one rfl rfl
 |fn=>exact one rfl rfl
 |lA=>exact one rfl rfl
 |dJ=>exact one rfl rfl
 |lit _ A=>exact one A rfl
 |nn=>exact one rfl rfl
 |err=>exact one rfl rfl
def putCells{α:Type}(cs:List α)(off:Nat)(E:List α):List α:=
 match E with
 |[y]=>cs.set off y
 |E=>cs.take off++E++cs.drop (off+E.length)
def bE{α:Type}(cs:List α)(off:Nat)(E:List α)(h:off+E.length<=cs.length):putCells cs off E=cs.take off++E++cs.drop (off+E.length):=by
 unfold putCells;split
 .rename_i y;simp at h;rw[List.set_eq_take_append_cons_drop,W2 (by omega)];simp
 .rfl
def aV{α:Type}(cs:List α)(off:Nat)(E:List α)(h:off+E.length<=cs.length):(putCells cs off E).length=cs.length:=by
 rw[bE cs off E h];simp;omega
def dA{α:Type}(cs:List α)(off:Nat)(E:List α)(h:off+E.length<=cs.length)(i:Nat):
 (putCells cs off E)[i]?=if i<off then cs[i]? else if i<off+E.length then E[i-off]? else cs[i]?:=by
 rw[bE cs off E h];by_cases A:i<off
 .rw[W2 A,XY,WN (by simp;omega),WM,W2 A]
 .rw[WO A,XY,WT (by simp;omega)];simp only[Xj,XC (show off<=cs.length by omega)];by_cases Y:i<off+E.length
  .rw[W2 Y,WN (by omega)]
  .rw[WO Y,WT (by omega),W6];congr 1;omega
def mP{α β:Type}{R:α->β->Prop}{cs E:List α}{vs us:List β}{off:Nat}(A2:cs.length=vs.length)(BC:E.length=us.length)(h:off+E.length<=cs.length)
 (W:∀(i:Nat) c v,cs[i]?=some c->vs[i]?=some v->R c v) (A8:∀(i:Nat) c v,E[i]?=some c->us[i]?=some v->R c v):
 ∀(i:Nat) c v,(putCells cs off E)[i]?=some c->(putCells vs off us)[i]?=some v->R c v:=by
 intro i c v;rw[dA cs off E h,dA vs off us (by omega),<-BC];split
 .exact W i c v
 .split
  .exact A8 _ c v
  .exact W i c v
def tO{φ G m w}(h:aI φ G m w):∀b,Fo G φ m b->b<w.heap.size:=λb J=>J.elim (h.bound b) (λA5=>h.uH A5)
def jt(w:World)(g k:Nat)(cs:Array Value)(h:k≠g):(w.setRow g cs).heap[k]?=w.heap[k]?:=by
 simp only[World.setRow,XW];rw[WO (λe=>h e.symm)]
def aI.yw{φ G m w}(h:aI φ G m w){e:bn}(he:e∈m){L:Loc}(T:φ e.key=some L)(Z:L.U=e.U){b0:Nat}(A5:e.cont.bg L b0)(M:Array Value)
 (L':Loc) (V:e.U<=L'.U) (BD:L'.U=L.U->L'={L with bL:=L'.bL}) (c':ax) (AH:∀b,c'.bg L' b->e.cont.bg L b)
 (W:∀φ':aR,φ.le φ'->(∀x v,ai φ w (Fo G φ m) x v->ai φ' (w.setRow b0 M) (Fo G φ' (Mem.set m ⟨e.key,L'.U,c'⟩)) x v)->
  (∀x v,ar w (Fo G φ m) x v->ar (w.setRow b0 M) (Fo G φ' (Mem.set m ⟨e.key,L'.U,c'⟩)) x v)->
  bw φ' (w.setRow b0 M) (Fo G φ' (Mem.set m ⟨e.key,L'.U,c'⟩)) L' c'):
 ∃φ',aI φ' G (Mem.set m ⟨e.key,L'.U,c'⟩) (w.setRow b0 M)/\aB φ m w φ' (Mem.set m ⟨e.key,L'.U,c'⟩) (w.setRow b0 M)/\φ' e.key=some L'/\∀k,k≠e.key->φ' k=φ k:=by
 have BE:ei φ m b0:=⟨e,he,L,T,A5⟩;refine h.bo (e':=⟨e.key,L'.U,c'⟩) he T rfl (L':=L') (by rw[Z];exact V) BD rfl
  (λb J A9=>jt w b0 b M (λheq=>A9 (heq▸A5))) (by simp) (λb J=>.inl (AH b J)) rfl rfl rfl ?_
 intro φ' AR hle;have AZ:∀b,b<w.heap.size->Fo G φ' (Mem.set m ⟨e.key,L'.U,c'⟩) b->Fo G φ m b:=by
  rintro b BS (Ar|⟨x,H,As,AI,A_⟩)
  .exact .inl Ar
  .right;rcases (Mem.mem_set h.nodup).1 H with ⟨rfl,_⟩|⟨At,AL⟩
   .subst AR;simp at AI;subst AI;exact⟨e,he,L,T,AH b A_⟩
   .subst AR;simp at AL;simp[AL]at AI;exact⟨x,At,As,AI,A_⟩
 have AA:∀b,b<w.heap.size->¬Fo G φ m b->(w.setRow b0 M).heap[b]?=w.heap[b]?:=
  λb J A9=>jt w b0 b M (λheq=>A9 (.inr (heq▸BE)))
 exact W φ' hle (λx v H=>H.mono hle AA (by simp) AZ) (λx v H=>H.mono AA (by simp) AZ)
def aI.store{φ G m w}(h:aI φ G m w){e:bn}(he:e∈m){L:Loc}(T:φ e.key=some L)(Z:L.U=e.U){b0:Nat}(A5:e.cont.bg L b0)(M:Array Value)
 (AB:Nat) (V:e.U<=AB) (c':ax) (AH:∀b,c'.bg {L with U:=AB} b->e.cont.bg L b)
 (W:∀φ':aR,φ.le φ'->(∀x v,ai φ w (Fo G φ m) x v->ai φ' (w.setRow b0 M) (Fo G φ' (Mem.set m ⟨e.key,AB,c'⟩)) x v)->
  (∀x v,ar w (Fo G φ m) x v->ar (w.setRow b0 M) (Fo G φ' (Mem.set m ⟨e.key,AB,c'⟩)) x v)->
  bw φ' (w.setRow b0 M) (Fo G φ' (Mem.set m ⟨e.key,AB,c'⟩)) {L with U:=AB} c'):
 ∃φ',aI φ' G (Mem.set m ⟨e.key,AB,c'⟩) (w.setRow b0 M)/\aB φ m w φ' (Mem.set m ⟨e.key,AB,c'⟩) (w.setRow b0 M)/\φ' e.key=some {L with U:=AB}/\∀k,k≠e.key->φ' k=φ k:=
 h.yw he T Z A5 M {L with U:=AB} V (λhh=>by simp at hh;cases L;simp_all) c' AH W
def aI.yy{φ G m w}(h:aI φ G m w){e:bn}(he:e∈m){L:Loc}(T:φ e.key=some L)(Z:L.U=e.U)(I:World)(AS:I.heap=w.heap)(Au:I.os=w.os)(Av:I.tape=w.tape)(Aw:I.output=w.output)
 (arr:Array Value) (elem:TypeId) (c':ax) (L':Loc) (V:L'.U=e.U+1) (AH:∀b,c'.bg L' b->e.cont.bg L b\/w.heap.size=b)
 (W:∀φ':aR,φ.le φ'->(∀x v,ai φ w (Fo G φ m) x v->ai φ' (I.alloc (.cells arr elem)) (Fo G φ' (Mem.set m ⟨e.key,e.U+1,c'⟩)) x v)->
  (∀x v,ar w (Fo G φ m) x v->ar (I.alloc (.cells arr elem)) (Fo G φ' (Mem.set m ⟨e.key,e.U+1,c'⟩)) x v)->
  (I.alloc (.cells arr elem)).heap[w.heap.size]?=some (.cells arr elem (0,0))->(∀b,b<w.heap.size->(I.alloc (.cells arr elem)).heap[b]?=w.heap[b]?)->φ' e.key=some L'->
  bw φ' (I.alloc (.cells arr elem)) (Fo G φ' (Mem.set m ⟨e.key,e.U+1,c'⟩)) L' c'):
 ∃φ',aI φ' G (Mem.set m ⟨e.key,e.U+1,c'⟩) (I.alloc (.cells arr elem))/\aB φ m w φ' (Mem.set m ⟨e.key,e.U+1,c'⟩) (I.alloc (.cells arr elem))/\
  φ' e.key=some L'/\∀k,k≠e.key->φ' k=φ k:=by
 have hold:∀b,b<w.heap.size->(I.alloc (.cells arr elem)).heap[b]?=w.heap[b]?:=λb J=>by rw[RowKit.Below.heap_alloc I _ b (by rw[AS];exact J),AS]
 have A6:w.heap.size<=(I.alloc (.cells arr elem)).heap.size:=by simp[AS]
 refine h.bo (e':=⟨e.key,e.U+1,c'⟩) he T rfl (L':=L') (by rw[Z,V];simp) (λhh=>by simp[Z,V]at hh) V
  (λb J _=>hold b J) A6 (λb J=>(AH b J).imp id (λe=>by omega)) Au Av Aw ?_
 intro φ' AR hle;have AZ:∀b,b<w.heap.size->Fo G φ' (Mem.set m ⟨e.key,e.U+1,c'⟩) b->Fo G φ m b:=by
  rintro b J (Ar|⟨x,H,As,AI,A_⟩)
  .exact .inl Ar
  .right;rcases (Mem.mem_set h.nodup).1 H with ⟨rfl,_⟩|⟨At,AL⟩
   .subst AR;simp at AI;subst AI;rcases AH b A_ with AC|AC
    .exact⟨e,he,L,T,AC⟩
    .omega
   .subst AR;simp at AL;simp[AL]at AI;exact⟨x,At,As,AI,A_⟩
 refine W φ' hle (λx v H=>H.mono hle (λb J _=>hold b J) A6 AZ) (λx v H=>H.mono (λb J _=>hold b J) A6 AZ) ?_ hold (by simp[AR]);have:=heap_alloc_new I (.cells arr elem);rwa [AS]at this
def aI.fresh{φ G m w}(h:aI φ G m w){e:bn}(he:e∈m){L:Loc}(T:φ e.key=some L)(Z:L.U=e.U)(I:World)(AS:I.heap=w.heap)(Au:I.os=w.os)(Av:I.tape=w.tape)(Aw:I.output=w.output)
 (arr:Array Value) (elem:TypeId) (sz cap:Nat) (c':ax) (AH:∀b,c'.bg ⟨e.U+1,w.heap.size,sz,cap,0,[],some elem⟩ b->w.heap.size=b)
 (W:∀φ':aR,φ.le φ'->(∀x v,ai φ w (Fo G φ m) x v->ai φ' (I.alloc (.cells arr elem)) (Fo G φ' (Mem.set m ⟨e.key,e.U+1,c'⟩)) x v)->
  (∀x v,ar w (Fo G φ m) x v->ar (I.alloc (.cells arr elem)) (Fo G φ' (Mem.set m ⟨e.key,e.U+1,c'⟩)) x v)->
  (I.alloc (.cells arr elem)).heap[w.heap.size]?=some (.cells arr elem (0,0))->
  bw φ' (I.alloc (.cells arr elem)) (Fo G φ' (Mem.set m ⟨e.key,e.U+1,c'⟩)) ⟨e.U+1,w.heap.size,sz,cap,0,[],some elem⟩ c'):
 ∃φ',aI φ' G (Mem.set m ⟨e.key,e.U+1,c'⟩) (I.alloc (.cells arr elem))/\aB φ m w φ' (Mem.set m ⟨e.key,e.U+1,c'⟩) (I.alloc (.cells arr elem))/\
  φ' e.key=some ⟨e.U+1,w.heap.size,sz,cap,0,[],some elem⟩/\∀k,k≠e.key->φ' k=φ k:=
 h.yy he T Z I AS Au Av Aw arr elem c' _ rfl (λb J=>.inr (AH b J)) (λφ' A Y AN A4 _ _=>W φ' A Y AN A4)
def D.setCells(r:D)(j:Nat)(y:D):D:=.agg (putCells r.cells j y.cells)
def uL(P:Program)(t:TypeId)(k U i j:Nat)(x:AV):Option bn->br
 |some ⟨_,v,.vv rows (some _)⟩=>match x with
  | .vec a b c d=>.bo (v=U/\i=rows.length/\j=0/\b5 P t=some 1) .aC ⟨k,U,.vv rows (some (.vec a b c d))⟩
  |_=>.no
 |_=>.no
def j4(P:Program)(m:Mem)(t:TypeId)(p x:AV):br:=
 match p with
 | .ptr k U off=>match Mem.get m k with
  |some ⟨_,v,.box cs⟩=>.bo (v=U/\x.gz=true/\b5 P t=some x.cells.length/\off+x.cells.length<=cs.length) .aC ⟨k,U,.box (putCells cs off x.cells)⟩
  |_=>.no
 | .bb k U i j=>match Mem.get m k,x.norm with
  |some ⟨_,v,.vec sz rows⟩,.d y=>match tk P t with
   | .struct=>.bo (v=U/\i<rows.length/\b5 P t=some sz/\y.size=sz/\j=0) .aC ⟨k,U,.vec sz (rows.set i y)⟩
   |_=>match sz with
    |1=>.bo (v=U/\i<rows.length/\b5 P t=some 1/\y.size=1/\j=0) .aC ⟨k,U,.vec 1 (rows.set i y)⟩
    |sz=>.bo (v=U/\i<rows.length/\b5 P t=some y.size/\j+y.size<=sz/\(D.at rows i).flat=false) .aC ⟨k,U,.vec sz (rows.set i ((D.at rows i).setCells j y))⟩
  |e,_=>uL P t k U i j x e
 |_=>.no
def xX{w w':World}{F F':Nat->Prop}{arr:Array Value}{rows:List D}{base sz cap i o:Nat}{us:List Value}{AD:D}{AE:Value}(A3:arr.size=base+cap*sz)(AT:rows.length<=cap)(hi:i<rows.length)
 (A5:base+i*sz<=o) (BT:o+us.length<=base+i*sz+sz)
 (AU:∀(n:Nat)(d:D),rows[n]?=some d->∃v,ar w F d v/\∀(j:Nat)(c:Value),v.cells[j]?=some c->arr[base+n*sz+j]?=some c)
 (BF:∀d∈rows,d.size=sz)
 (hm:∀x v,ar w F x v->ar w' F' x v) (AM:ar w' F' AD AE) (AW:AD.size=sz)
 (Ax:∀(j:Nat)(c:Value),AE.cells[j]?=some c->(putCells arr.toList o us)[base+i*sz+j]?=some c):
 ∀(n:Nat)(d:D),(rows.set i AD)[n]?=some d->∃v,ar w' F' d v/\∀(j:Nat)(c:Value),v.cells[j]?=some c->(putCells arr.toList o us).toArray[base+n*sz+j]?=some c:=by
 have BG:base+i*sz+sz<=arr.size:=by
  have:i*sz+sz<=cap*sz:=by rw[<-Xu];exact WL _ (by omega)
  omega
 intro n d A7;by_cases A9:n=i
 .subst A9;simp[hi]at A7;subst A7;exact⟨AE,AM,λj c Aa=>by simpa using Ax j c Aa⟩
 .rw[List.getElem?_set_ne (λh=>A9 h.symm)]at A7;obtain⟨v,V,BH⟩:=AU n d A7;refine⟨v,hm d v V,λj c Aa=>?_⟩;have BU:j<sz:=by
   have A:=V.size;rw[BF d (WI A7)]at A;have:=(WU.1 Aa).1;omega
  rw[Xl,dA arr.toList o us (by simp;omega)];have key:¬(o<=base+n*sz+j/\base+n*sz+j<o+us.length):=by
   rintro ⟨A,Y⟩;rcases Nat.lt_or_gt_of_ne A9 with AO|BI
   .have:n*sz+sz<=i*sz:=by rw[<-Xu];exact WL _ AO
    omega
   .have:i*sz+sz<=n*sz:=by rw[<-Xu];exact WL _ BI
    omega
  have hh:=BH j c Aa;split
  .simpa using hh
  .rw[WO (by omega)];simpa using hh
def mS{P:Program}{t:TypeId}{w:World}{b o:Nat}{arr:Array Value}{elem:TypeId}{v:Value}(A3:b5 P t=some v.cells.size)
 (A':cy w b arr elem) (A2:o+v.cells.size<=arr.size) (A:∀x∈v.cells,bd x=true):
 (Instr.storeAt t (.pointer (some ⟨b,o,none⟩)) v).run P w=.ok () (w.setRow b (putCells arr.toList o v.cells.toList).toArray):=by
 rw[AF A3 A' A2 A,bE _ _ _ (by simpa using A2)];simp
def AG{w:World}{b:Nat}{arr:Array Value}{elem:TypeId}{fr}(A':w.heap[b]?=some (.cells arr elem fr))(M:Array Value):(w.setRow b M).heap[b]?=some (.cells M elem fr):=setRow_heap w b arr M elem fr A'
def cy.setRow{w:World}{b:Nat}{arr:Array Value}{elem:TypeId}(A':cy w b arr elem)(M:Array Value)(A3:M.size=arr.size):cy (w.setRow b M) b M elem:=by
 obtain⟨fr,A,Y⟩:=A';exact⟨fr,AG A M,by rw[A3];exact Y⟩
def ga{α:Type}{cs E:List α}{off:Nat}{x:α}(h:off+E.length<=cs.length)(H:x∈putCells cs off E):x∈cs\/x∈E:=by
 rw[bE cs off E h]at H;simp only[Xe]at H;rcases H with (H|H)|H
 .exact .inl (W3 H)
 .exact .inr H
 .exact .inl (WX H)
def DH(P:Program)(S:St)(o:Oper)(t:TypeId)(p x:Operand)(A5:o.op=.store t p x)(Ab:(S.ag p).1=true)(H:(S.ag x).1=true){k U i j:Nat}(AX:(S.ag p).2=.bb k U i j):
 aj P S o (uL P t k U i j (S.ag x).2 (Mem.get S.mem k)):=by
 unfold uL;split
 .rename_i key v rows y A';split
  .rename_i a b c d AP;refine aj.jE ?_;rintro ⟨rfl,rfl,rfl,Ac⟩ φ G BJ w A0;have AA:key=k:=(Mem.get_mem A').2;subst AA;have V:=A0.ag p Ab;have hu:=A0.ag x H;rw[AX]at V;rw[AP]at hu;obtain⟨hm,_,L,T,Z,AQ⟩:=A0.mem.get A';obtain⟨⟨B4,AT,A2⟩,BK,AL,Ay⟩:=AQ;have e:=V.ft T Z;simp only[Option.toList_some,Xo]at AT;have Ad:0<L.cap:=by omega
   obtain⟨arr,elem,hh,A6,A,BL,_⟩:=Ay Ad;generalize Az:BJ.eval x=u at hu;have B':bd u=true:=by cases hu;assumption
   have An:u.cells=#[u]:=bV B';have A1:L.base+rows.length+[u].length<=arr.toList.length:=by simp;omega
   obtain⟨φ',Ae,Af,B5,Ag⟩:=A0.mem.store (e:=⟨key,v,.vv rows (some y)⟩) hm T Z (b0:=L.ba) (.inl ⟨Ad,rfl⟩) (putCells arr.toList (L.base+rows.length) [u]).toArray v (Ds _) (.vv rows (some (.vec a b c d))) (λ_ J=>J) (λφ' B6 Ao AY=>by
    refine⟨⟨B4,by simpa using AT,A2⟩,BK,AL,λ_=>⟨_,elem,hh.setRow _ (by rw[Xg,aV _ _ _ A1];simp),?_,?_,?_,?_⟩⟩
    .rw[Xg,aV _ _ _ A1];simpa using A6
    .intro z O;rcases ga A1 (by simpa using O)with O|O
     .exact A z (by simpa using O)
     .simp at O;subst O;exact B'
    .intro n xs q A9 Ap;have BV:=(D1.1 A9).1;have:=BL n xs q A9 Ap;rw[show (putCells arr.toList (L.base+rows.length) [u]).toArray[L.base+n]?=arr[L.base+n]? by
      rw[Xl,dA _ _ _ A1,W2 (by omega)];simp]
     refine this.mono (λd u _ A7=>AY d u A7) (λb J=>?_);subst J;exact jt w L.ba b _ (λheq=>(AL b (WI Ap)).2 heq)
    .intro z O;cases O;refine⟨u,?_,Ao _ _ hu⟩;show (putCells arr.toList (L.base+rows.length) [u]).toArray[L.base+rows.length]?=some u;rw[Xl,dA _ _ _ A1,WO (by omega),W2 (by simp)];simp)
   refine⟨undef,_,φ',?_,.aC _,Ae,Af,Ag⟩;have B7:=mS (P:=P) (t:=t) (w:=w) (b:=L.ba) (o:=L.base+rows.length) (v:=u) (by rw[An];exact Ac) hh (by rw[An];simpa using A1) (by rw[An];simpa using B');rw[An]at B7;refine .inr ⟨?_,rfl⟩;rw[B4,XR,Xq]at e;simp[execOp,A5,e,Az,B7]
  .trivial
 .trivial
def FO(P:Program)(S:St)(o:Oper)(t:TypeId)(p x:Operand)(A5:o.op=.store t p x)(Ab:(S.ag p).1=true)(H:(S.ag x).1=true):aj P S o (j4 P S.mem t (S.ag p).2 (S.ag x).2):=by
 have B8:∀(a:Act)(w w':World),(Instr.storeAt t (a.eval p) (a.eval x)).run P w=.ok () w'->s6 P o a w undef w':=by
  intro a w w' h;exact .inr ⟨by simp[execOp,A5,h],rfl⟩
 unfold j4;split
 .rename_i k U off AX;split
  .rename_i key v cs A';refine aj.jE ?_;rintro ⟨rfl,BM,Ac,hle⟩ φ G a w A0;have V:=A0.ag p Ab;have AP:=A0.ag x H;rw[AX]at V;obtain⟨hm,AA,L,T,Z,B0,arr,elem,hh,A6,A,AU⟩:=A0.mem.get A';have e:=V.fZ T Z;obtain⟨Aq,B1⟩:=AP.gz BM;simp only at AA;subst AA;have A1:off+(a.eval x).cells.toList.length<=arr.toList.length:=by simp only[WQ,Aq,A6];exact hle
   obtain⟨φ',Ae,Af,B5,Ag⟩:=A0.mem.store (e:=⟨key,v,.box cs⟩) hm T Z rfl (putCells arr.toList off (a.eval x).cells.toList).toArray v (Ds _) (.box (putCells cs off (S.ag x).2.cells)) (λ_ J=>J) (λφ' B6 Ao AY=>by
    refine⟨⟨B0.1,B0.2.1,by rw[aV _ _ _ hle];exact B0.2.2⟩,_,elem,hh.setRow _ (by show (putCells arr.toList _ _).length=_;rw[aV _ _ _ A1];simp),?_,?_,?_⟩
    .rw[aV _ _ _ hle,<-A6];show (putCells arr.toList off _).length=_;rw[aV _ _ _ A1];simp
    .intro u hu;rcases ga A1 (by simpa using hu)with hu|hu
     .exact A u (by simpa using hu)
     .exact B1 u (by simpa using hu)
    .intro i c u W hu;refine Ao c u ?_;exact mP (vs:=arr.toList) (us:=(a.eval x).cells.toList) (by simp[A6]) (by simpa using Aq.symm) hle (λi c v h AC=>AU i c v h (by simpa using AC))
      (λi c v h AC=>AP.cells B1 Aq i c v h (by simpa using AC)) i c u W (by simpa using hu))
   refine⟨undef,_,φ',B8 a w _ ?_,.aC _,Ae,Af,Ag⟩;rw[e];exact mS (by rw[Aq];exact Ac) hh (by omega) B1
  .trivial
 .rename_i k U i j AX;have vec:∀(c:Prop)[Decidable c](sz:Nat)(rows:List D)(y AD:D)(v:Nat),Mem.get S.mem k=some ⟨k,v,.vec sz rows⟩->(S.ag x).2.norm=.d y->
   (c->v=U/\i<rows.length/\b5 P t=some y.size/\j+y.size<=sz/\((D.at rows i).size=sz->AD.size=sz)/\
    ∀w F (u v:Value),(D.at rows i).size=sz->ar w F (D.at rows i) v->ar w F y u->∃AE,ar w F AD AE/\AE.cells.toList=putCells v.cells.toList j u.cells.toList)->
   aj P S o (.bo (decide c) .aC ⟨k,U,.vec sz (rows.set i AD)⟩):=by
   intro c _ sz rows y AD v A' A8 BN;refine aj.jE λW φ G a w A0=>?_;obtain⟨rfl,AO,Ac,Aa,BO,BP⟩:=BN W;have V:=A0.ag p Ab;have AP:=(A0.ag x H).norm;rw[A8]at AP;rw[AX]at V;obtain⟨hm,AA,L,T,Z,Ah,AT,AW,Ay⟩:=A0.mem.get A';have e:=V.ft T Z;have Ad:0<L.cap:=by omega
   obtain⟨arr,elem,hh,A6,A,AU⟩:=Ay Ad;have B9:AD.size=sz:=BO (by rw[AW _ (WI (getD_at AO)),Ah]);cases AP with
   |d _ u hu=>
    generalize Az:a.eval x=u at hu;have Ai:u.cells.size=y.size:=hu.size;have BG:L.base+i*L.sz+L.sz<=arr.size:=by
     have:i*L.sz+L.sz<=L.cap*L.sz:=by rw[<-Xu];exact WL _ (by omega)
     omega
    obtain⟨B2,BA,BB⟩:=AU i _ (getD_at AO);have B3:B2.cells.size=L.sz:=by rw[BA.size];exact AW _ (WI (getD_at AO))
    have A1:L.base+i*L.sz+j+u.cells.toList.length<=arr.toList.length:=by simp[Ai];omega
    obtain⟨φ',Ae,Af,B5,Ag⟩:=A0.mem.store (e:=⟨k,v,.vec sz rows⟩) hm T Z ⟨Ad,rfl⟩ (putCells arr.toList (L.base+i*L.sz+j) u.cells.toList).toArray v (Ds _) (.vec sz (rows.set i AD)) (λ_ J=>J) (λφ' B6 Ao AY=>by
     refine⟨Ah,by simpa using AT,?_,λ_=>⟨_,elem,hh.setRow _ (by show (putCells arr.toList _ _).length=_;rw[aV _ _ _ A1];simp),?_,?_,?_⟩⟩
     .intro d A7;rcases List.mem_or_eq_of_mem_set A7 with A7|rfl
      .exact AW d A7
      .show _=L.sz;rw[Ah];exact B9
     .show (putCells arr.toList _ _).length=_;rw[aV _ _ _ A1];simpa using A6
     .intro z O;rcases ga A1 (by simpa using O)with O|O
      .exact A z (by simpa using O)
      .exact hu.cells.2.1 z (by simpa using O)
     .obtain⟨AE,Ax,BQ⟩:=BP _ _ u B2 (by rw[AW _ (WI (getD_at AO)),Ah]) (AY _ _ BA) (AY _ _ hu);refine xX (F:=Fo G φ S.mem) (base:=L.base) (cap:=L.cap) (sz:=L.sz) A6 AT AO (by omega) (by simp[Ai];omega) AU AW AY Ax (by rw[B9,Ah]) ?_;intro q c Ap;have AJ:(putCells B2.cells.toList j u.cells.toList)[q]?=some c:=by rw[<-BQ];simpa using Ap
      have BW:q<L.sz:=by
       have:=(D1.1 AJ).1;rw[aV _ _ _ (by simp[Ai,B3];omega)]at this;simpa [B3]using this
      rw[dA _ _ _ (by simp[Ai,B3];omega)]at AJ;rw[dA _ _ _ A1];by_cases A:q<j
      .rw[W2 A]at AJ;rw[W2 (by omega)];simpa using BB q c (by simpa using AJ)
      .rw[WO A]at AJ;rw[WO (by omega)];by_cases Y:q<j+u.cells.toList.length
       .rw[W2 Y]at AJ;rw[W2 (by omega)];rw[show L.base+i*L.sz+q-(L.base+i*L.sz+j)=q-j by omega];exact AJ
       .rw[WO Y]at AJ;rw[WO (by omega)];simpa using BB q c (by simpa using AJ))
    refine⟨undef,_,φ',B8 a w _ ?_,.aC _,Ae,Af,Ag⟩;rw[e,Az];exact mS (by rw[Ai];exact Ac) hh (by simpa using A1) hu.cells.2.1
  have whole:∀(y r:D),y.size=r.size->∀w F (u v:Value),ar w F r v->ar w F y u->∃AE,ar w F y AE/\AE.cells.toList=putCells v.cells.toList 0 u.cells.toList:=by
   intro y r BX w F u v A0 A8;refine⟨u,A8,?_⟩;have A:=A0.size;have Y:=A8.size;rw[bE _ _ _ (by simp;omega)];simp;omega
  split
  .rename_i key v sz rows y A' A8;have AA:key=k:=(Mem.get_mem A').2;subst AA;split
   .exact vec _ sz rows y y v A' A8 (λ⟨A,Y,AN,A4,Aj⟩=>⟨A,Y,by rw[A4];exact AN,by omega,λ_=>A4,by
     subst Aj;intro w F u v A3 AM Ak;exact whole y _ (by rw[A3,A4]) w F u v AM Ak⟩)
   .split
    .exact vec _ 1 rows y y v A' A8 (λ⟨A,Y,AN,A4,Aj⟩=>⟨A,Y,by rw[A4];exact AN,by omega,λ_=>A4,by
      subst Aj;intro w F u v A3 AM Ak;exact whole y _ (by rw[A3,A4]) w F u v AM Ak⟩)
    .refine vec _ sz rows y _ v A' A8 (λ⟨A,Y,AN,A4,Aj⟩=>⟨A,Y,AN,A4,?_,?_⟩)
     .intro AK;show (putCells _ _ _).length=sz;rw[aV _ _ _ (by rw[D.db,D.db,AK];exact A4),D.db,AK]
     .intro w F u v A3 AM Ak;obtain⟨BR,rfl⟩:=oA AM Aj;have AQ:=AM.cells;have Al:=Ak.cells;have A2:j+y.cells.length<=(D.at rows i).cells.length:=by rw[D.db,D.db,A3];exact A4
      refine⟨.agg (putCells BR.toList j u.cells.toList).toArray,.jM ?_ ?_ ?_,by simp[Value.cells]⟩
      .have AK:=AQ.1;simp only[Value.cells]at AK;rw[aV _ _ _ A2,aV _ _ _ (by rw[Al.1,AK];exact A2),<-AK]
      .intro z O;have AK:=AQ.1;simp only[Value.cells]at AK;rcases ga (by rw[Al.1,AK];exact A2) O with O|O
       .exact AQ.2.1 z (by simpa [Value.cells]using O)
       .exact Al.2.1 z (by simpa using O)
      .exact mP (by simpa [Value.cells]using AQ.1.symm) (by simpa using Al.1.symm) A2 (λi c v h AC=>(AQ.2.2 i c v h (by simpa [Value.cells]using AC)).1) (λi c v h AC=>(Al.2.2 i c v h (by simpa using AC)).1)
  .exact DH P S o t p x A5 Ab H AX
 .trivial
def dB(P:Program)(w:World)(e:TypeId)(cs:Array Value):(newRow e cs).run P w=.ok ⟨w.heap.size,0,none⟩ (w.alloc (.cells cs e)):=rfl
def keyOf(o:Oper):Nat:=100+50*o.dst.getD 100000
def j5(P:Program)(t:TypeId):Option (List AV):=
 match P.info? t with
 |some i=>match i.zero with
  |some z=>if z.cells.all bd then some (z.cells.toList.map iE)else none
  |none=>none
 |none=>none
def ig{P:Program}{t:TypeId}{zs:List AV}(h:j5 P t=some zs)(w:World):∃z,(zeroValue t).run P w=.ok z w/\z.cells.size=zs.length/\(∀v∈z.cells,bd v=true)/\
 ∀φ w' F (i:Nat) c v,zs[i]?=some c->z.cells[i]?=some v->ai φ w' F c v:=by
 unfold j5 at h;split at h
 .rename_i i hi;split at h
  .rename_i z Z;split at h
   .rename_i AT;simp at h;subst h;refine⟨z,by simp[zeroValue,typeInfo,hi,Z],by simp,?_,?_⟩
    .intro v A;exact Array.all_eq_true'.1 AT v A
    .intro φ w' F i c v J A;simp only[WZ,Xp,WH]at J;obtain⟨u,hu,rfl⟩:=J;rw[A]at hu;cases hu;exact s5 ..
   .cases h
  .cases h
 .cases h
def kM(m:Mem)(k:Nat)(c:Bool)(cs:List AV):br:=
 match Mem.get m k with
 |some ⟨_,v,_⟩=>.bo c (.ptr k (v+1) 0) ⟨k,v+1,.box cs⟩
 |none=>.no
def Bj{P:Program}{S:St}{o:Oper}{k:Nat}{c:Bool}{cs:List AV}
 (h:c=true->∀φ G a w,Rel φ G S a w->∃(arr:Array Value)(elem:TypeId),(execOp a.eval o).run P w=.ok (.value (.pointer (some ⟨w.heap.size,0,none⟩))) (w.alloc (.cells arr elem))/\
  arr.size=cs.length/\(∀v∈arr,bd v=true)/\∀(i:Nat) c v,cs[i]?=some c->arr[i]?=some v->ai φ w (Fo G φ S.mem) c v):aj P S o (kM S.mem k c cs):=by
 unfold kM;split
 .rename_i key v cont AA;intro J φ G a w U;obtain⟨arr,elem,q,O,H,V⟩:=h J φ G a w U;obtain⟨hm,y,L,AB,A5,_⟩:=U.mem.get AA;simp only at y A5;subst y;obtain⟨φ',AC,AD,AE,AF⟩:=U.mem.fresh (e:=⟨key,v,cont⟩) hm AB A5 w rfl rfl rfl rfl arr elem 1 cs.length (.box cs) (λ_ A1=>A1) (λφ' hle AG AU AH=>
   ⟨⟨rfl,rfl,rfl⟩,arr,elem,cy.new AH,O,H,λi c u J hu=>AG c u (V i c u J hu)⟩)
  exact⟨_,_,φ',.inl q,.ptr key (v+1) 0 _ _ AE (Ds _) (λ_=>rfl) rfl,AC,AD,AF⟩
 .trivial
def JH(P:Program)(S:St)(o:Oper)(t:TypeId)(x:Operand)(A6:o.op=.box t x)(A2:(S.ag x).1=true):aj P S o (kM S.mem (keyOf o) (S.ag x).2.gz (S.ag x).2.cells):=by
 refine Bj λA' φ G a w U=>?_;have A:=U.ag x A2;obtain⟨H,T⟩:=A.gz A';refine⟨(a.eval x).cells,t,?_,H,T,A.cells T H⟩;simp[execOp,A6,Instr.box,newVar,dB]
def tP(P:Program)(S:St)(o:Oper)(t:TypeId)(A6:o.op=.alloc t)(zs:List AV)(Z:j5 P t=some zs):aj P S o (kM S.mem (keyOf o) true zs):=by
 refine Bj λ_ φ G a w U=>?_;obtain⟨z,q,O,H,V⟩:=ig Z w;refine⟨z.cells,t,?_,O,H,λi c v J A=>V _ _ _ i c v J A⟩;simp[execOp,A6,Instr.alloc,newVar,dB,q]
def yA(m:Mem)(k:Nat)(t:TypeId)(cs:List AV):br:=
 match Mem.get m k with
 |some ⟨_,v,_⟩=>.bo true (.ptr k (v+1) 0) ⟨k,v+1,.box (.tn k (v+1) t::cs)⟩
 |none=>.no
def DJ(P:Program)(S:St)(o:Oper)(t:TypeId)(A6:o.op=.alloc t)(zs:List AV)(Z:j5 P t=some (.lit (.pointer none)::zs)):aj P S o (yA S.mem (keyOf o) t zs):=by
 unfold yA;split
 .rename_i key v cont AA;intro J φ G a w U;obtain⟨z,q,O,H,V⟩:=ig Z w;obtain⟨hm,y,L,AB,A5,_⟩:=U.mem.get AA;simp only at y A5;subst y;obtain⟨φ',AC,AD,AE,AF⟩:=U.mem.yy (e:=⟨keyOf o,v,cont⟩) hm AB A5 w rfl rfl rfl rfl z.cells t (.box (.tn (keyOf o) (v+1) t::zs)) ⟨v+1,w.heap.size,1,zs.length+1,0,[],some t⟩ rfl (λ_ A1=>.inr A1) (λφ' hle AG AU AH _ AW=>
   ⟨⟨rfl,rfl,rfl⟩,z.cells,t,cy.new AH,O,H,λi c u J hu=>by
    cases i with
    |zero=>
     have T:=V φ w (Fo G φ S.mem) 0 _ u rfl hu;cases T;cases J;exact .tn _ _ t _ AW (Ds _) (λ_=>rfl)
    |succ i=>exact AG c u (V _ _ _ (i+1) c u J hu)⟩)
  refine⟨_,_,φ',.inl ?_,.ptr (keyOf o) (v+1) 0 _ _ AE (Ds _) (λ_=>rfl) rfl,AC,AD,AF⟩;simp[execOp,A6,Instr.alloc,newVar,dB,q]
 .trivial
def gG(P:Program)(t:TypeId):Option D:=
 match j5 P t,(tk P t).agg with
 |some zs,true=>(toDsN zs).map .agg
 |some [z],false=>toD1 z
 |_,_=>none
def oY(P:Program)(t:TypeId):Option Nat:=(P.info? t).map (·.bytes)
def uM{P:Program}{t:TypeId}{d:D}(h:gG P t=some d)(w:World):∃z,(zeroValue t).run P w=.ok z w/\z.cells.size=d.size/\(∀v∈z.cells,bd v=true)/\
 ∀w' F,∃v,ar w' F d v/\v.cells=z.cells:=by
 unfold gG at h;split at h
 .rename_i zs Z AX;simp only[WH]at h;obtain⟨AI,AY,rfl⟩:=h;obtain⟨z,q,O,H,V⟩:=ig Z w;have A3:∀w' F,zs.length=AI.length/\∀(i:Nat) d v,AI[i]?=some d->z.cells.toList[i]?=some v->ar w' F d v:=λw' F=>
   toDsN_rel (φ:=λ_=>none) (w:=w') (F:=F) (vs:=z.cells.toList) AY (λi c v J A=>V _ _ _ i c v J (by simpa using A))
  refine⟨z,q,by rw[O,(A3 w (λ_=>False)).1];rfl,H,λw' F=>⟨.agg z.cells,?_,rfl⟩⟩;have:=ar.jM (w:=w') (F:=F) (cs:=AI) (vs:=z.cells.toList) (by rw[<-(A3 w' F).1];simpa using O.symm) (λv A=>H v (by simpa using A)) (A3 w' F).2;simpa using this
 .rename_i z0 Z AX;obtain⟨z,q,O,H,V⟩:=ig Z w;obtain⟨u,hu⟩:∃u,z.cells=#[u]:=by
   have:z.cells.size=1:=O;exact⟨z.cells[0],by apply Array.ext<;>simp_all⟩
  have E:∀w' F,ar w' F d u:=λw' F=>toD1_rel (φ:=λ_=>none) h (V _ _ _ 0 z0 u (by simp) (by simp[hu]));have AO:bd u=true:=H u (by simp[hu]);refine⟨z,q,by rw[hu,<-(E w (λ_=>False)).size,bV AO],H,λw' F=>⟨u,E w' F,by rw[bV AO,hu]⟩⟩
 .cases h
def bc(w:World)(F:Nat->Prop)(sz:Nat)(rows:List D)(cs:List Value):Prop:=
 cs.length=rows.length*sz/\(∀v∈cs,bd v=true)/\(∀d∈rows,d.size=sz)/\∀(i:Nat) d,rows[i]?=some d->∃v,ar w F d v/\∀(j:Nat) c,v.cells[j]?=some c->cs[i*sz+j]?=some c
def oZ{sz:Nat}{w:World}{F:Nat->Prop}{d:D}{v:Value}(h:ar w F d v)(A':d.size=sz){j:Nat}{c:Value}(I:v.cells[j]?=some c):j<sz:=by
 have H:=h.size;have:=(WU.1 I).1;omega
def bc.append{w F sz xs AJ cs AP}(h:bc w F sz xs cs)(AZ:bc w F sz AJ AP):bc w F sz (xs++AJ) (cs++AP):=by
 obtain⟨Y,a2,a3,a4⟩:=h;obtain⟨A_,Aa,Ab,Ac⟩:=AZ;refine⟨by simp[Y,A_,Xa],?_,?_,?_⟩
 .intro v A;rcases Xe.1 A with A|A;exact a2 v A;exact Aa v A
 .intro v A;rcases Xe.1 A with A|A;exact a3 v A;exact Ab v A
 .intro i d E;by_cases hi:i<xs.length
  .rw[WN hi]at E;obtain⟨v,A,W⟩:=a4 i d E;refine⟨v,A,λj c I=>?_⟩;have A7:=oZ A (a3 d (WI E)) I;rw[WN]
   .exact W j c I
   .rw[Y];have:i*sz+sz<=xs.length*sz:=by rw[<-Xu];exact WL _ hi
    omega
  .rw[WT (by omega)]at E;obtain⟨v,A,W⟩:=Ac _ d E;refine⟨v,A,λj c I=>?_⟩;have e:xs.length*sz+(i-xs.length)*sz=i*sz:=by rw[<-Xa];congr 1;omega
   rw[WT (by rw[Y];omega),Y,show i*sz+j-xs.length*sz=(i-xs.length)*sz+j by omega];exact W j c I
def bc.take{w F sz xs cs}(h:bc w F sz xs cs)(n:Nat)(AQ:n<=xs.length):bc w F sz (xs.take n) (cs.take (n*sz)):=by
 obtain⟨Y,a2,a3,a4⟩:=h;have hle:n*sz<=xs.length*sz:=WL _ AQ;refine⟨by simp only[Xj,Y];rw[XC AQ,XC hle],λv A=>a2 v (W3 A),λv A=>a3 v (W3 A),?_⟩;intro i d E;rw[WM]at E;split at E
 .rename_i hi;obtain⟨v,A,W⟩:=a4 i d E;refine⟨v,A,λj c I=>?_⟩;have A7:=oZ A (a3 d (WI E)) I;have:i*sz+sz<=n*sz:=by rw[<-Xu];exact WL _ hi
  rw[WM,W2 (by omega)];exact W j c I
 .cases E
def bc.drop{w F sz xs cs}(h:bc w F sz xs cs)(n:Nat):bc w F sz (xs.drop n) (cs.drop (n*sz)):=by
 obtain⟨Y,a2,a3,a4⟩:=h;refine⟨by simp[Y,Nat.sub_mul],λv A=>a2 v (WX A),λv A=>a3 v (WX A),?_⟩;intro i d E;rw[W6]at E;obtain⟨v,A,W⟩:=a4 _ d E;refine⟨v,A,λj c I=>?_⟩;rw[W6,show n*sz+(i*sz+j)=(n+i)*sz+j by rw[Xa];omega];exact W j c I
def bc.mono{w F w' F' sz xs cs}(h:bc w F sz xs cs)(hm:∀x v,ar w F x v->ar w' F' x v):bc w' F' sz xs cs:=
 ⟨h.1,h.2.1,h.2.2.1,λi d E=>let ⟨v,A,J⟩:=h.2.2.2 i d E;⟨v,hm _ _ A,J⟩⟩
def bc.nil(w F sz):bc w F sz [] []:=⟨by simp,by simp,by simp,by simp⟩
def mW{φ w F}{L:Loc}{rows:List D}{pre cs rest:List Value}{sz:Nat}{elem:TypeId}(O:L.sz=sz)(U:bc w F sz rows cs)(Ad:pre.length=L.base)(A0:∀v∈pre,bd v=true)(H:∀v∈rest,bd v=true)
 (A4:rows.length<=L.cap) (A3:(cs++rest).length=L.cap*sz) (hh:0<L.cap->cy w L.ba (pre++(cs++rest)).toArray (L.ty.getD elem)):bw φ w F L (.vec sz rows):=by
 obtain⟨Y,a2,a3,a4⟩:=U;subst O;refine⟨rfl,A4,a3,λJ=>⟨_,elem,hh J,by simp only[Xg,WY]at A3⊢;omega,?_,?_⟩⟩
 .intro v A;simp at A;rcases A with A|A|A
  .exact A0 v A
  .exact a2 v A
  .exact H v A
 .intro i d E;obtain⟨v,A,W⟩:=a4 i d E;refine⟨v,A,λj c I=>?_⟩;have A7:=oZ A (a3 d (WI E)) I;have AK:i<rows.length:=(D1.1 E).1;have:i*L.sz+L.sz<=rows.length*L.sz:=by rw[<-Xu];exact WL _ AK
  rw[Xl,WT (by omega),Ad,show L.base+i*L.sz+j-L.base=i*L.sz+j by omega,WN (by rw[Y];omega)];exact W j c I
def oC{φ w F}{L:Loc}{rows:List D}{cs rest:List Value}{sz:Nat}{elem:TypeId}(O:L.sz=sz)(A1:L.base=0)(U:bc w F sz rows cs)(H:∀v∈rest,bd v=true)
 (A4:rows.length<=L.cap) (A3:(cs++rest).length=L.cap*sz) (hh:0<L.cap->cy w L.ba (cs++rest).toArray (L.ty.getD elem)):bw φ w F L (.vec sz rows):=
 mW (pre:=[]) O U (by simp[A1]) (by simp) H A4 A3 hh
def jc{φ w F}{L:Loc}{rows:List D}{sz:Nat}(h:bw φ w F L (.vec sz rows))(J:0<L.cap):∃(arr:Array Value)(elem:TypeId),cy w L.ba arr (L.ty.getD elem)/\arr.size=L.base+L.cap*sz/\
 (∀v∈arr,bd v=true)/\bc w F sz rows ((arr.toList.drop L.base).take (rows.length*sz)):=by
 obtain⟨A',A4,AR,A8⟩:=h;obtain⟨arr,elem,hh,O,H,V⟩:=A8 J;subst A';refine⟨arr,elem,hh,O,H,?_,λv A=>H v (by simpa using WX (W3 A)),AR,?_⟩
 .simp only[Xj,XP,WQ,O];exact XC (by rw[Nat.add_sub_cancel_left];exact WL _ A4)
 .intro i d E;obtain⟨v,A,W⟩:=V i d E;refine⟨v,A,λj c I=>?_⟩;have A7:=oZ A (AR d (WI E)) I;have AK:i<rows.length:=(D1.1 E).1;have:i*L.sz+L.sz<=rows.length*L.sz:=by rw[<-Xu];exact WL _ AK
  rw[WM,W2 (by omega),W6,<-W1];simpa using W j c I
def yB{w F}{xs:List D}{ao:Option Addr}{m cap sz:Nat}(h:ar w F (.list xs) (.slice ao m cap))(A':∀d∈xs,d.size=sz):
 m=xs.length/\∃cs,bc w F sz xs cs/\(xs≠[]->∃b off,ao=some ⟨b,off,none⟩/\b<w.heap.size/\¬F b/\∀(j:Nat) v,cs[j]?=some v->w.cell? ⟨b,off+j,none⟩=some v):=by
 generalize A2:D.list xs=x at h;generalize A:Value.slice ao m cap=v at h;cases h with
 |nil a c=>
  simp at A2 A;subst A2;exact⟨by simp[A.2.1],[],bc.nil ..,λh=>absurd rfl h⟩
 |list AJ b off Ag M vs A4 A1 Ae O AL J=>
  simp at A2 A;obtain⟨rfl,rfl,rfl⟩:=A;subst A2;refine⟨rfl,?_⟩
  --Ah cells,row by row
  have AM:xs≠[]->M=sz:=λA9=>by
   cases xs with
   |nil=>exact absurd rfl A9
   |cons d r=>rw[<-O d (by simp),A' d (by simp)]
  by_cases A9:xs=[]
  .subst A9;exact⟨[],bc.nil ..,λh=>absurd rfl h⟩
  have AM:=AM A9;subst AM;have A8:∀(i j:Nat),i<xs.length->j<M->∃c,(vs i).cells[j]?=some c/\w.cell? ⟨b,off+(i*M+j),none⟩=some c/\bd c=true:=by
   intro i j hi I;have H:=AL i xs[i] (by simp[hi]);have T:=H.size;rw[A' _ (Xf hi)]at T;have AS:j<(vs i).cells.size:=by omega
   refine⟨(vs i).cells[j],by simp[AS],?_,H.cells.2.1 _ (by simp)⟩;have:=J i j _ hi (show (vs i).cells[j]?=some (vs i).cells[j] by simp[AS]);rw[<-W1];exact this
  refine⟨(List.range (xs.length*M)).map (λj=>(w.cell? ⟨b,off+j,none⟩).getD undef),⟨by simp,?_,A',?_⟩,λ_=>⟨b,off,rfl,A1,Ae,?_⟩⟩
  .intro v A;simp only[WS,W5]at A;obtain⟨j,I,rfl⟩:=A;have AN:0<M:=by rcases Nat.eq_zero_or_pos M with A0|A0;simp[A0]at I;exact A0
   obtain⟨c,_,T,Af⟩:=A8 (j/M) (j%M) (Nat.div_lt_of_lt_mul (by rw[Nat.mul_comm];exact I)) (Nat.mod_lt _ AN);rw[Nat.mul_comm,Nat.div_add_mod]at T;simp[T,Af]
  .intro i d E;have hi:i<xs.length:=(D1.1 E).1;refine⟨vs i,AL i d E,λj c I=>?_⟩;have A7:=oZ (AL i d E) (A' d (WI E)) I;obtain⟨c',H,T,_⟩:=A8 i j hi A7;rw[I]at H;cases H;have:i*M+M<=xs.length*M:=by rw[<-Xu];exact WL _ hi
   simp[T,show i*M+j<xs.length*M by omega]
  .intro j v A;simp only[WZ,WH]at A;obtain⟨k,y,rfl⟩:=A;have I:j<xs.length*M:=by
    rcases Nat.lt_or_ge j (xs.length*M)with h|h
    .exact h
    .simp[Xx (l:=List.range (xs.length*M)) (by simpa using h)]at y
   simp[I]at y;subst y;have AN:0<M:=by rcases Nat.eq_zero_or_pos M with A0|A0;simp[A0]at I;exact A0
   obtain⟨c,_,T,_⟩:=A8 (j/M) (j%M) (Nat.div_lt_of_lt_mul (by rw[Nat.mul_comm];exact I)) (Nat.mod_lt _ AN);rw[Nat.mul_comm,Nat.div_add_mod]at T;simp[T]
 |_=>simp at A2
def dq(m:Mem)(sz:Nat):AV->Option (Bool×List D)
 | .d (.list H)=>some (true,H)
 | .d (.str s)=>some (sz=1,s.map λb=>.int .u8 b.toNat)
 | .lit (.slice none 0 0)=>some (true,[])
 | .nn=>some (true,[])
 | .vec k U off len=>match Mem.get m k with
  |some ⟨_,v,.vec _ rows⟩=>some (v=U/\off+len<=rows.length,(rows.drop off).take len)
  |_=>none
 |_=>none
structure x9(P:Program)(w:World)(F:Nat->Prop)(sz:Nat)(H:List D)(x:Value)(J:List Value):Prop where
 len:∀w',(Builtin.lenOf x).run P w'=.ok H.length w'
 DL:∀n,n<=H.length->∀w',(∀b,b<w.heap.size->w'.heap[b]?=w.heap[b]?)->(Builtin.firstCells sz n x).run P w'=.ok (J.take (n*sz)).toArray w'
 rows:bc w F sz H J
def x9.first{P w F sz H x J}(h:x9 P w F sz H x J)(w':World)(hw:∀b,b<w.heap.size->w'.heap[b]?=w.heap[b]?):(Builtin.firstCells sz H.length x).run P w'=.ok J.toArray w':=by
 rw[h.DL _ (Ds _) w' hw,XS (by rw[h.rows.1];exact Ds _)]
def yC{P:Program}{S:St}{φ G w}(hm:aI φ G S.mem w){x:AV}{v:Value}(O:ai φ w (Fo G φ S.mem) x v){c H}{sz:Nat}(E:dq S.mem sz x=some (c,H))(W:c=true)(q:∀d∈H,d.size=sz):
 ∃J,x9 P w (Fo G φ S.mem) sz H v J:=by
 unfold dq at E;split at E
 .rename_i A0;simp at E;obtain⟨_,rfl⟩:=E;cases O with
  |d _ _ h=>
   have Y:∃ao m cap,v=.slice ao m cap:=by cases h<;>exact⟨_,_,_,rfl⟩
   obtain⟨ao,m,cap,rfl⟩:=Y;obtain⟨rfl,cs,M,A6⟩:=yB h q;refine⟨cs,⟨λw'=>by simp[Builtin.lenOf],λn I w' hw=>?_,M⟩⟩;by_cases A1:A0=[]
   .subst A1;have:cs=[]:=W9 (by simpa using M.1);subst this;have T:n=0:=by simpa using I
    subst T;cases ao with
    |none=>simp[Builtin.firstCells]
    |some a=>simp[Builtin.firstCells,loadCells,loadCellsFrom]
   .obtain⟨b,off,rfl,V,_,A7⟩:=A6 A1;exact run_firstCells_some (P:=P) w' sz n ⟨b,off,none⟩ A0.length cap _ (M.take n I |>.1.trans (by simp[I])) (λj u A=>by
     rw[cF,fK (hw b V)];rw[WM]at A;split at A
     .exact A7 j u A
     .cases A)
 .rename_i s;simp only[WR,W0]at E;obtain⟨rfl,rfl⟩:=E;simp only[WV]at W;subst W;cases O with
  |d _ _ h=>
   cases h with
   |str b _ V=>
    subst V;have A8:b.size=b.data.toList.length:=by rw[WQ];rfl
    refine⟨b.data.toList.map λx=>Value.int .u8 x.toNat,⟨λw'=>by simp only[Builtin.lenOf,List.length_map,<-A8];rfl,λn I w' _=>?_,?_,?_,?_,?_⟩⟩
    .simp only[Builtin.firstCells,Sem.run_pure];congr 1;apply Array.ext';simp
    .simp
    .intro v Y;simp only[WS]at Y;obtain⟨y,_,rfl⟩:=Y;rfl
    .exact q
    .intro i d A2;simp only[WZ,WH]at A2;obtain⟨y,A9,rfl⟩:=A2;refine⟨.int .u8 y.toNat,.int _ _,λj c A=>?_⟩;cases j with
     |zero=>simp only[Value.cells]at A;simp at A;subst A;simp only[WZ,XR,Xq,A9];rfl
     |succ j=>simp[Value.cells]at A
 .simp at E;obtain⟨_,rfl⟩:=E;cases O with
  |lit=>exact⟨[],⟨λw'=>by simp[Builtin.lenOf],λn _ w' _=>by simp[Builtin.firstCells],bc.nil ..⟩⟩
 .simp at E;obtain⟨_,rfl⟩:=E;cases O with
  |nn a cap=>exact⟨[],⟨λw'=>by simp[Builtin.lenOf],λn I w' _=>by
   have T:n=0:=by simpa using I
   subst T;simp[Builtin.firstCells,loadCells,loadCellsFrom],bc.nil ..⟩⟩
 .rename_i k U off len;split at E
  .rename_i key AL A' rows AA;simp only[WR,W0]at E;obtain⟨rfl,rfl⟩:=E;simp only[WV]at W;obtain⟨rfl,hle⟩:=W;obtain⟨AM,AN,L,AB,AC,A3⟩:=hm.get AA;have AD:((rows.drop off).take len).length=len:=by simp;omega
   cases O with
   |vec _ _ _ _ _ L' A4 _ h AE=>
    rw[AB]at A4;cases A4;obtain⟨ao,cap,rfl,AO,AF⟩:=h AC.symm;clear h AE;by_cases AG:len=0
    .subst AG;refine⟨[],⟨λw'=>by simp[Builtin.lenOf],λn I w' _=>?_,by simpa using bc.nil ..⟩⟩;have T:n=0:=by simpa using I
     subst T;cases ao with
     |none=>simp[Builtin.firstCells]
     |some a=>simp[Builtin.firstCells,loadCells,loadCellsFrom]
    .obtain⟨rfl,AP⟩:=AF (by omega);obtain⟨arr,elem,hh,AQ,AR,M⟩:=jc A3 (by omega);have AH:A'=sz:=by
      have Z:0<((rows.drop off).take len).length:=by omega
      have AI:=q (((rows.drop off).take len)[0]'Z) (Xf Z)
      have AJ:=M.2.2.1 (((rows.drop off).take len)[0]'Z) (WX (W3 (Xf Z)))
      rw[<-AI,<-AJ]
     subst AH;have AK:L.sz=A':=A3.1;have A5:=(M.drop off).take len (by simp;omega);refine⟨_,⟨λw'=>by simp[Builtin.lenOf,AD],λn I w' hw=>?_,A5⟩⟩;have V:L.ba<w.heap.size:=hh.lt;exact run_firstCells_some (P:=P) w' A' n ⟨L.ba,L.base+off*L.sz,none⟩ len cap _ ((A5.take n I).1.trans (by rw[Xj,XC I])) (λj u A=>by
      rw[cF,fK (hw L.ba V),dz hh,AK];rw[WM]at A;split at A
      .rw[WM]at A;split at A
       .rw[W6,WM]at A;split at A
        .rw[W6]at A;rw[W1];simpa using A
        .cases A
       .cases A
      .cases A)
  .cases E
 .cases E
section
variable {P:Program}
def cV(P:Program)(u:TypeId):Bool:=
 match P.underlying u with
 |some (.slice _)=>true
 |some .string=>true
 |_=>false
theorem qY{u:TypeId}(h:cV P u=true):(∃e,P.underlying u=some (.slice e))\/P.underlying u=some .string:=by
 unfold cV at h;grind
structure wg(P:Program)(w:World)(F:Nat->Prop)(u:TypeId)(sz:Nat)(z:Value)(A:List D)(x:Value)(J:List Value):Prop where
 rows:bc w F sz A J
 kind:(cV P u=true/\x9 P w F sz A x J)\/((∃k,P.underlying u=some (.int k))/\(∃AY,x=.int AY A.length)/\A.length<=4611686018427387904/\z.cells.size=sz/\J=(Builtin.zeroCells z.cells A.length).toList)
theorem yD{n:Nat}(h:n<=4611686018427387904):IntKind.i64.wrap (n:Int)=(n:Int):=IntWalk.i64_in _ (by omega)
theorem o4{z:Array Value}{n:Nat}(h:n*z.size=0):Builtin.zeroCells z n=#[]:=by
 apply Array.eq_empty_of_size_eq_zero;rw[size_zeroCells];exact h
theorem lC{w:World}{t u ty e:TypeId}{i:TypeInfo}{z:Value}(A4:P.underlying t=some (.slice e))(hi:P.info? e=some i)(T:i.zero=some z)
 {ao:Option Addr} {len cap:Nat} {F x J} (I:wg P w F u i.size z [] x J) (hle:len<=cap):
 (Builtin.append_ #[t,u] ty #[.slice ao len cap,x]).run P w=.ok (.slice ao len cap) w:=by
 rcases I.kind with ⟨hu,I⟩|⟨⟨k,A'⟩,⟨AY,rfl⟩,_,AE,rfl⟩
 .have A0:J=[]:=W9 (by simpa using I.rows.1);subst A0;have BL:=I.len w;have AZ:=I.first w (λ_ _=>rfl);simp at BL AZ;rcases qY hu with ⟨B',A'⟩|A'<;>cases ao<;>
   simp[Builtin.append_,run_underlying A4,run_underlying A',sizeOf,typeInfo,hi,BL,AZ,hle,storeCells]
 .have w0:=yD (n:=0) (by omega);simp at w0;cases ao<;>simp[Builtin.append_,run_underlying A4,run_underlying A',sizeOf,typeInfo,hi,w0,asInt,asIntOf,hle,storeCells]
theorem run_append_fits{w:World}{t u ty e:TypeId}{i:TypeInfo}{z:Value}(A4:P.underlying t=some (.slice e))(hi:P.info? e=some i)(T:i.zero=some z)
 {g b len cap:Nat} {F A x J} (I:wg P w F u i.size z A x J) {cur:Array Value} {e':TypeId} (AG:cy w g cur e')
 (A5:len+A.length<=cap) (Bh:b+len*i.size+J.length<=cur.size) (Bi:A.length*i.bytes<=140737488355328):
 (Builtin.append_ #[t,u] ty #[.slice (some ⟨g,b,none⟩) len cap,x]).run P w=.ok (.slice (some ⟨g,b,none⟩) (len+A.length) cap) (w.setRow g (putCells cur.toList (b+len*i.size) J).toArray):=by
 obtain⟨Bj,AG,Bk⟩:=AG;have At:=fw (P:=P) g (b+len*i.size) e' Bj J 0 cur w AG Bk (by grind) (λx A7=>jD (I.rows.2.1 x A7));rw[bE _ _ _ (by grind)];rcases I.kind with ⟨hu,I⟩|⟨⟨k,A'⟩,⟨AY,rfl⟩,B0,AE,rfl⟩
 .have AZ:=I.first w (λ_ _=>rfl);rcases qY hu with ⟨B',A'⟩|A'<;>simp[Builtin.append_,run_underlying A4,run_underlying A',sizeOf,typeInfo,hi,I.len,A5,AZ,cF,At]
 .have wn:=yD B0;have O:¬((A.length:Int)<0):=by omega
  have Z:¬(281474976710656<(A.length:Int)*(i.bytes:Int)):=by
   grind
  by_cases AB:A.length*i.size=0
  .have B1:=o4 (z:=z.cells) (n:=A.length) (by grind);rw[B1]at At⊢;simp[Builtin.append_,run_underlying A4,run_underlying A',sizeOf,typeInfo,hi,wn,asInt,asIntOf,O,Z,AB,A5,cF,At]
  .simp[Builtin.append_,run_underlying A4,run_underlying A',sizeOf,typeInfo,zeroValue,hi,T,wn,asInt,asIntOf,O,Z,AB,A5,cF,At]
theorem mX{w:World}{t u ty e:TypeId}{i:TypeInfo}{z:Value}(A4:P.underlying t=some (.slice e))(hi:P.info? e=some i)(T:i.zero=some z)
 {ao:Option Addr} {len cap:Nat} {F A x J} (I:wg P w F u i.size z A x J) (A6:List Value)
 (hold:∀w',w'.heap=w.heap->(Builtin.firstCells i.size len (.slice ao len cap)).run P w'=.ok A6.toArray w')
 (A5:cap<len+A.length) (CP:len+A.length<=9223372036854775807) (Bh:Builtin.nextslicecap (len+A.length) cap*i.bytes<=281474976710656) (Bi:A.length*i.bytes<=140737488355328):
 (Builtin.append_ #[t,u] ty #[.slice ao len cap,x]).run P w=
  .ok (.slice (some ⟨w.heap.size,0,none⟩) (len+A.length) (grownCap w (len+A.length) cap e))
   (w.drew.alloc (.cells (A6.toArray++J.toArray++Builtin.zeroCells z.cells (grownCap w (len+A.length) cap e-(len+A.length))) e)):=by
 have A0:¬(len+A.length<=cap):=by omega
 have BM:¬(9223372036854775807<((len:Int)+(A.length:Int))):=by omega
 have BN:¬(281474976710656<Builtin.nextslicecap (len+A.length) cap*i.bytes):=by omega
 have B4:=hold w.drew rfl;rcases I.kind with ⟨hu,I⟩|⟨⟨k,A'⟩,⟨AY,rfl⟩,B0,AE,rfl⟩
 .have AZ:=I.first w.drew (λ_ _=>rfl);rcases qY hu with ⟨B',A'⟩|A'<;>
   (simp[Builtin.append_,run_underlying A4,run_underlying A',sizeOf,typeInfo,zeroValue,hi,T,I.len,Question.forced,AZ,B4,dB,grownCap]
    grind)
 .have wn:=yD B0;have O:¬((A.length:Int)<0):=by omega
  have Z:¬(281474976710656<(A.length:Int)*(i.bytes:Int)):=by
   grind
  by_cases AB:A.length*i.size=0
  .have B1:=o4 (z:=z.cells) (n:=A.length) (by grind);rw[B1];simp[Builtin.append_,run_underlying A4,run_underlying A',sizeOf,typeInfo,zeroValue,hi,T,wn,asInt,asIntOf,O,Z,AB,A0,BM,BN,Question.forced,B4,dB,grownCap]
  .simp[Builtin.append_,run_underlying A4,run_underlying A',sizeOf,typeInfo,zeroValue,hi,T,wn,asInt,asIntOf,O,Z,AB,A0,BM,BN,Question.forced,B4,dB,grownCap]
end
def l5{z:Array Value}{n:Nat}(h:∀v∈z,bd v=true):∀v∈Builtin.zeroCells z n,bd v=true:=by
 intro v A2;simp[Builtin.zeroCells]at A2;obtain⟨i,hi,rfl⟩:=A2;have BO:0<z.size:=by
  grind
 have Bn:i%z.size<z.size:=Nat.mod_lt _ BO;grind
def Ih{P:Program}{t:TypeId}{k}(h:tk P t=.int k):P.underlying t=some (.int k):=by
 unfold tk at h;grind
def B2(M:D):AV->Option (Bool×List D)
 | .d (.int _ n)=>some (decide (0<=n)&&decide (n<=4611686018427387904),List.replicate n.toNat M)
 |_=>none
def B3(b:Bool):Option (Bool×List D)->Option (Bool×List D)
 |some (c,A)=>some (c&&b,A)
 |none=>none
def mY(P:Program)(m:Mem)(sz:Nat)(M:D)(u:TypeId)(x:AV):Option (Bool×List D):=
 match tk P u with
 | .int _=>B2 M x
 |_=>B3 (cV P u) (dq m sz x)
def bc.MD{w:World}{F:Nat->Prop}{z:Array Value}{sz:Nat}{M:D}(AO:∀v∈z,bd v=true)(AE:z.size=sz)(A':M.size=sz)(A2:∃v,ar w F M v/\v.cells=z)(n:Nat):
 bc w F sz (List.replicate n M) (Builtin.zeroCells z n).toList:=by
 refine⟨by simp[size_zeroCells,AE],λv A2=>l5 AO v (by simpa using A2),λd CQ=>by grind,λi d hi=>?_⟩;obtain⟨BP,rfl⟩:=D1.1 hi;obtain⟨v,O,Z⟩:=A2;refine⟨v,by grind,λj c V=>?_⟩;have Bo:j<z.size:=by grind
 simp at BP;have Bn:i*sz+j<n*z.size:=by
  rw[AE];have:i*sz+sz<=n*sz:=by rw[<-Xu];exact WL _ BP
  omega
 simp only[Builtin.zeroCells,Array.getElem?_map];have e:(i*sz+j)%z.size=j:=by rw[<-AE,Nat.mul_comm,Nat.mul_add_mod,Nat.mod_eq_of_lt Bo]
 grind
def Bl{P:Program}{S:St}{φ G w}(hm:aI φ G S.mem w){u:TypeId}{i:TypeInfo}{z:Value}{M:D}(AO:∀v∈z.cells,bd v=true)(AE:z.cells.size=i.size)(Au:M.size=i.size)(Bp:∃v,ar w (Fo G φ S.mem) M v/\v.cells=z.cells)
 {x:AV} {v:Value} (A7:ai φ w (Fo G φ S.mem) x v) {c A} (I:mY P S.mem i.size M u x=some (c,A)) (A8:c=true) (B5:∀d∈A,d.size=i.size):
 ∃J,wg P w (Fo G φ S.mem) u i.size z A v J:=by
 unfold mY at I;split at I
 .rename_i k AF;unfold B2 at I;split at I
  .rename_i AY n;cases I;cases A7 with
   |d _ _ A7=>
    cases A7;have A0:((List.replicate n.toNat M).length:Int)=n:=by grind
    refine⟨_,bc.MD AO AE Au Bp n.toNat,.inr ⟨⟨k,Ih AF⟩,⟨AY,by rw[A0]⟩,by grind,AE,by simp⟩⟩
  grind
 .cases H:dq S.mem i.size x with
  |none=>rw[H]at I;cases I
  |some y=>
   rw[H]at I;cases I;simp at A8;obtain⟨J,A0⟩:=yC (P:=P) hm A7 H A8.1 B5;exact⟨J,A0.rows,.inl ⟨A8.2,A0⟩⟩
def pL(P:Program)(m:Mem)(u:TypeId)(sz AP:Nat)(M:D)(s x:AV):br:=
 match s,x with
 | .vec k U off len,.vec BQ BR 0 1=>match Mem.get m k,Mem.get m BQ with
  |some ⟨_,v,.vv rows none⟩,some ⟨_,BS,.box [.lit (.slice none 0 0)]⟩=>
   .bo (cV P u=true/\BS=BR/\v=U/\sz=1/\M.size=1/\off+len<=rows.length/\(len+1)*AP<=140737488355328/\len+1<=4611686018427387904) (.vec k (U+1) 0 (len+1)) ⟨k,U+1,.vv ((rows.drop off).take len++[[]]) none⟩
  |_,_=>.no
 |_,_=>.no
def yE{φ φ':aR}{w w':World}{F F':Nat->Prop}{L:Loc}{rows:List (List D)}(h:fV φ w F L rows none){off len:Nat}(hle:off+len<=rows.length)
 (L':Loc) (T:L'.sz=1) (I:L'.bL=(L.bL.drop off).take len++[none]) (B6:len+1<=L'.cap) (E:∀b,some b∈L.bL->b≠L'.ba) {A_:Array Value} {BT:TypeId} (H:cy w' L'.ba A_ BT) (B5:A_.size=L'.base+L'.cap) (O:∀v∈A_,bd v=true)
 (hold:∀i,i<len->∃(arr:Array Value)(elem:TypeId),0<L.cap/\cy w L.ba arr elem/\A_[L'.base+i]?=arr[L.base+off+i]?) (Ag:A_[L'.base+len]?=some (.slice none 0 0))
 (A':∀d u,ar w F d u->ar w' F' d u) (hw:∀b,some b∈L.bL->w'.heap[b]?=w.heap[b]?):fV φ' w' F' L' ((rows.drop off).take len++[[]]) none:=by
 obtain⟨⟨g1,g2,g3⟩,g4,g5,g6⟩:=h;have Bq:((rows.drop off).take len).length=len:=by grind
 have Br:((L.bL.drop off).take len).length=len:=by grind
 have Bs:∀b,some b∈L'.bL->some b∈L.bL:=by
  grind
 refine⟨⟨T,by grind,by grind⟩,λi j b hi V=>?_,λb Bt=>⟨by omega,E b (Bs b Bt)⟩,λ_=>?_⟩
 .grind
 .refine⟨A_,BT,H,B5,O,λi xs o hi AC=>?_,λx A7=>by cases A7⟩;by_cases B8:i<len
  .rw[WN (by omega),WM,W2 B8,W6]at hi;rw[I,WN (by omega),WM,W2 B8,W6]at AC;obtain⟨arr,elem,W,Bu,hold⟩:=hold i B8;obtain⟨Bv,CS,q1,q2,q3,Bw,_⟩:=g6 W;have Bx:Bv=arr:=by
    obtain⟨f1,BU,_⟩:=q1;obtain⟨f2,B',_⟩:=Bu;grind
   subst Bx;rw[hold,W1];exact (Bw (off+i) xs o hi AC).mono (λd u _ By=>A' d u By) (λb e=>hw b (by grind))
  .have Bz:i=len:=by
    grind
   subst Bz;rw[WT (by omega),Bq]at hi;rw[I,WT (by omega),Br]at AC;simp at hi AC;subst hi;subst AC;exact⟨rfl,none,Ag⟩
def Ii(P:Program)(S:St)(o:Oper)(s x:Operand)(t u:TypeId)(AC:o.op=.call {callee:=.builtin .append,args:=#[s,x],argTypes:=#[t,u]})
 (I:(S.ag s).1=true) (A7:(S.ag x).1=true) {e:TypeId} (A4:P.underlying t=some (.slice e)) {i:TypeInfo} {z:Value} (hi:P.info? e=some i) (T:i.zero=some z) {M:D} (Aa:z.cells.size=M.size) (AO:∀v∈z.cells,bd v=true):
 aj P S o (pL P S.mem u i.size i.bytes M (S.ag s).2 (S.ag x).2):=by
 have AH:∀(a:Act)(w w':World)(v:Value),(Builtin.append_ #[t,u] o.type #[a.eval s,a.eval x]).run P w=.ok v w'->(execOp a.eval o).run P w=.ok (.value v) w':=by
  intro a w w' v h;simp[execOp,AC,resolve,invoke,builtin,h]
 unfold pL;split
 .rename_i k U off len BQ BR AQ Ah;split
  .rename_i key v rows CT BS AG C';refine aj.jE ?_;rintro ⟨Ai,rfl,rfl,Ab,AE,hle,E,AI⟩ φ G a w H;obtain⟨hm,AF,L,W,A1,Y⟩:=H.mem.get AG;simp only at AF A1 Y;subst AF;obtain⟨CU,BV,B9,C0,BW,⟨C1,C2,CV⟩,Av,CW,BX,C3,_,C4⟩:=H.mem.get C';simp only at BV BW;subst BV;have A2:=H.ag s I;have BA:=H.ag x A7;rw[AQ]at A2;rw[Ah]at BA;have C5:Av[0]?=some (.slice none 0 0):=by
    have AB:0<Av.size:=by rw[C3];simp
    have:=C4 0 _ Av[0] rfl (by simp[AB]);generalize A3:Av[0]=q at this;cases this;simp[AB,A3]
   generalize hex:a.eval x=CX at BA;cases BA with
   |vec _ _ _ _ _ L' AR _ h _=>
    rw[C0]at AR;cases AR;obtain⟨CY,BY,rfl,CZ,C6⟩:=h BW.symm;clear h;obtain⟨rfl,_⟩:=C6 (by omega);have A9:wg P w (Fo G φ S.mem) u i.size z [.list []] (.slice (some ⟨B9.ba,B9.base+0*B9.sz,none⟩) 1 BY) [.slice none 0 0]:=by
     have Aj:bc w (Fo G φ S.mem) i.size [.list []] [.slice none 0 0]:=by
      refine⟨by simp[Ab],by simp[bd],by simp[Ab,D.size],λn d A0=>?_⟩;cases n with
      |zero=>simp at A0;subst A0;exact⟨.slice none 0 0,.nil none 0 (λ_=>rfl),λj c V=>by simpa [Value.cells]using V⟩
      |succ n=>simp at A0
     refine⟨Aj,.inl ⟨Ai,λw'=>by simp[Builtin.lenOf],λn A0 w' Ac=>?_,Aj⟩⟩;refine run_firstCells_some (P:=P) w' i.size n _ 1 BY _ (by have:n<=1:=A0;simp[Ab];omega) (λj c V=>?_);rw[cF,fK (Ac _ BX.lt),dz BX,C1,C2];rw[WM]at V;split at V
     .cases j with
      |zero=>simp at V;subst V;simpa using C5
      |succ j=>simp at V
     .cases V
    generalize AD:a.eval s=BZ at A2;cases A2 with
    |vec _ _ _ _ _ L' AR _ h _=>
     rw[W]at AR;cases AR;obtain⟨ao,cap,rfl,B_,Ad⟩:=h A1.symm;clear h;have Ba:∀b,some b∈L.bL->b<w.heap.size:=λb E=>H.mem.uH ⟨_,hm,L,W,.inr E⟩;have C7:∀b,some b∈(L.bL.drop off).take len++[none]->some b∈L.bL:=by
      intro b E;rcases Xe.1 E with E|E
      .exact WX (W3 E)
      .simp at E
     have grow:∀(A6:List Value),A6.length=len->(∀q∈A6,bd q=true)->(∀n,n<len->∃(arr:Array Value)(elem:TypeId),0<L.cap/\cy w L.ba arr elem/\A6[n]?=arr[L.base+off+n]?)->
      (∀w',w'.heap=w.heap->(Builtin.firstCells i.size len (.slice ao len cap)).run P w'=.ok A6.toArray w')->cap<len+1->
      ∃vv w' φ',s6 P o a w vv w'/\ai φ' w' (Fo G φ' (Mem.set S.mem ⟨key,v+1,.vv ((rows.drop off).take len++[[]]) none⟩)) (.vec key (v+1) 0 (len+1)) vv/\
       aI φ' G (Mem.set S.mem ⟨key,v+1,.vv ((rows.drop off).take len++[[]]) none⟩) w'/\aB φ S.mem w φ' (Mem.set S.mem ⟨key,v+1,.vv ((rows.drop off).take len++[[]]) none⟩) w'/\∀k,k≠key->φ' k=φ k:=by
      intro A6 Ak C8 hold C9 A5;have BB:=grownCap_ge w (len+1) cap e;have CA:z.cells.size=1:=by rw[Aa];exact AE
      have Aw:=mX (P:=P) (ty:=o.type) A4 hi T A9 A6 C9 (by simpa using A5) (by simp;omega) (growslice_fits (by simpa using A5) (by simpa using E)) (by simp;have:=WL i.bytes (XM 1 len);omega);simp only[Xo]at Aw;obtain⟨φ',AJ,AK,AL,AM⟩:=H.mem.yy (e:=⟨key,v,.vv rows none⟩) hm W A1 w.drew rfl rfl rfl rfl
       (A6.toArray++[Value.slice none 0 0].toArray++Builtin.zeroCells z.cells (grownCap w (len+1) cap e-(len+1))) e (.vv ((rows.drop off).take len++[[]]) none)
       ⟨v+1,w.heap.size,1,grownCap w (len+1) cap e,0,(L.bL.drop off).take len++[none],none⟩ rfl
       (λb E=>by
        rcases E with ⟨_,E⟩|E
        .exact .inr E
        .exact .inl (.inr (C7 b E))) (λφ' Ax BC AU Ag CB _=>by
       refine yE Y hle _ rfl rfl (by simp only;omega) (λb E=>by have:=Ba b E;simp only;omega) (.new Ag) ?_ ?_ ?_ ?_ AU (λb E=>CB b (Ba b E))
       .simp only[Array.size_append,Xg,Ak,Xo,size_zeroCells,CA];omega
       .intro q A3;simp only[Array.mem_append]at A3;rcases A3 with (A3|A3)|A3
        .exact C8 q (by simpa using A3)
        .simp at A3;subst A3;rfl
        .exact l5 AO q A3
       .intro n A0;obtain⟨arr,elem,O,Z,AN⟩:=hold n A0;refine⟨arr,elem,O,Z,?_⟩;rw[<-AN];simp only[Xt];rw[Xm (by simp;omega),Xm (by simp;omega),Xl]
       .simp only[Xt];rw[Xm (by simp;omega),Array.getElem?_append_right (by simp;omega)];simp[Ak])
      refine⟨_,_,φ',.inl (AH a w _ _ (by rw[AD,hex];exact Aw)),?_,AJ,AK,AM⟩;exact .vec key (v+1) 0 _ _ _ AL (Ds _) (λ_=>⟨_,_,rfl,BB,λ_=>⟨by simp,by simp⟩⟩) rfl
     by_cases Al:0<L.cap
     .obtain⟨arr,elem,hh,Ay,Ae,_,_⟩:=Y.2.2.2 Al;have Bb:∀b,some b∈L.bL->b≠L.ba:=λb E=>(Y.2.2.1 b E).2;have C_:∀b,some b∈L.bL->ax.bg L (.vv rows none) b:=λb E=>.inr E;have CC:∀b,some b∈(L.bL.drop off).take len++[none]->some b∈L.bL:=by
       intro b E;rcases Xe.1 E with E|E
       .exact WX (W3 E)
       .simp at E
      by_cases A5:len+[D.list []].length<=cap
      .simp only[Xo]at A5;obtain⟨rfl,BD⟩:=Ad (by omega);have AS:L.base+off*L.sz+len*i.size+[Value.slice none 0 0].length<=arr.size:=by rw[Ay,Y.1.1,Ab];simp;omega
       have AW:=run_append_fits (P:=P) (ty:=o.type) A4 hi T A9 hh (by simpa using A5) AS (by simp;have:=WL i.bytes (XM 1 len);omega);have Bc:=AH a w _ _ (by rw[AD,hex];exact AW);rw[Y.1.1,Ab,XR,XR]at Bc AS;have An:L.base+off+len+[Value.slice none 0 0].length<=arr.toList.length:=by simpa using AS
       obtain⟨φ',AJ,AK,AL,AM⟩:=H.mem.yw (e:=⟨key,v,.vv rows none⟩) hm W A1 (b0:=L.ba) (.inl ⟨Al,rfl⟩) (putCells arr.toList (L.base+off+len) [Value.slice none 0 0]).toArray ⟨v+1,L.ba,1,L.cap-off,L.base+off,(L.bL.drop off).take len++[none],none⟩ (X3 _) (λhh=>by simp only at A1 hh;omega) (.vv ((rows.drop off).take len++[[]]) none)
        (λb E=>by
         rcases E with ⟨_,E⟩|E
         .exact .inl ⟨Al,E⟩
         .exact .inr (CC b E)) (λφ' Ax BC AU=>by
        refine yE Y hle _ rfl rfl (by simp only;omega) Bb (hh.setRow _ (by rw[Xg,aV _ _ _ An];simp)) ?_ ?_ ?_ ?_ AU ?_
        .rw[Xg,aV _ _ _ An];simp only[WQ,Ay];omega
        .intro q A3;rcases ga An (by simpa using A3)with A3|A3
         .exact Ae q (by simpa using A3)
         .simp at A3;subst A3;rfl
        .intro n A0;refine⟨arr,elem,Al,hh,?_⟩;simp only
         rw[Xl,dA _ _ _ An,W2 (by omega)];simp
        .simp only
         rw[Xl,dA _ _ _ An,WO (by omega),W2 (by simp)];simp
        .intro b E;exact jt w L.ba b _ (Bb b E))
       refine⟨_,_,φ',.inl Bc,?_,AJ,AK,AM⟩;exact .vec key (v+1) 0 _ _ _ AL (Ds _) (λ_=>⟨_,_,rfl,by simpa using A5,λ_=>⟨by simp,by simp only;omega⟩⟩) rfl
      .have CD:cap<len+1:=by simpa using A5
       have BE:=Y.1.2.1;simp only[Option.toList_none,XU,Xq]at BE;refine grow ((arr.toList.drop (L.base+off)).take len) (by simp;omega) (λq A3=>Ae q (by simpa using WX (W3 A3))) (λn A0=>⟨arr,elem,Al,hh,?_⟩) (λw' Ac=>?_) CD
       .rw[WM,W2 A0,W6];simp
       .by_cases AX:len=0
        .subst AX;cases ao with
         |none=>simp[Builtin.firstCells]
         |some a=>simp[Builtin.firstCells,loadCells,loadCellsFrom]
        .obtain⟨rfl,BD⟩:=Ad (by omega);refine run_firstCells_some (P:=P) w' i.size len _ len cap _ (by simp[Ab];omega) (λj c V=>?_);rw[cF,fK (w:=w) (w':=w') (by rw[Ac]),dz hh,Y.1.1,XR];rw[WM]at V;split at V
         .rw[W6]at V;simpa using V
         .cases V
     .have BE:=Y.1.2.1;simp only[Option.toList_none,XU,Xq]at BE;have AX:len=0:=by omega
      have CE:cap=0:=by
       rcases Nat.eq_zero_or_pos cap with AB|AB
       .exact AB
       .have:=(Ad AB).2;omega
      subst AX;subst CE;refine grow [] rfl (by simp) (λn A0=>by omega) (λw' Ac=>?_) (by omega);cases ao with
      |none=>simp[Builtin.firstCells]
      |some a=>simp[Builtin.firstCells,loadCells,loadCellsFrom]
  .trivial
 .trivial
def l6(P:Program)(m:Mem)(BF:Nat)(t:TypeId)(u:TypeId)(s x:AV):br:=
 match tk P t with
 | .slice e=>match b5 P e,oY P e,gG P e with
  |some sz,some AP,some M=>match mY P m sz M u x with
   |some (c,A)=>match s with
    | .vec k U off len=>match Mem.get m k with
     |some ⟨_,v,.vec Bd rows⟩=>.bo (c/\M.size=sz/\v=U/\off+len<=rows.length/\Bd=sz/\(∀d∈A,d.size=sz)/\(len+A.length)*AP<=140737488355328/\len+A.length<=4611686018427387904)
      (.vec k (U+1) 0 (len+A.length)) ⟨k,U+1,.vec sz ((rows.drop off).take len++A)⟩
     |some ⟨_,v,.buf tb bs⟩=>match x with
      | .d (.str s)=>.bo (c/\M.size=sz/\v=U/\off=0/\len=bs.length/\tb=e/\sz=1/\(len+s.length)*AP<=140737488355328/\len+s.length<=4611686018427387904)
       (.vec k (U+1) 0 (len+s.length)) ⟨k,U+1,.buf tb (bs++s)⟩
      |_=>.no
     |_=>.no
    | .lit (.slice none 0 0)=>match Mem.get m BF with
     |some ⟨_,v,_⟩=>.bo (c/\M.size=sz/\(∀d∈A,d.size=sz)/\A.length*AP<=140737488355328/\A.length<=4611686018427387904)
      (.vec BF (v+1) 0 A.length) ⟨BF,v+1,.vec sz A⟩
     |_=>.no
    |_=>.no
   |none=>pL P m u sz AP M s x
  |_,_,_=>.no
 |_=>.no
def cY{P:Program}{t e:TypeId}(h:tk P t=.slice e):P.underlying t=some (.slice e):=by
 unfold tk at h;split at h<;>simp_all
def Bm{P:Program}{e:TypeId}{sz AP:Nat}{M:D}(O:b5 P e=some sz)(Z:oY P e=some AP)(AN:gG P e=some M):
 ∃i z,P.info? e=some i/\i.size=sz/\i.bytes=AP/\i.zero=some z/\z.cells.size=M.size/\(∀v∈z.cells,bd v=true)/\∀w' F,∃v,ar w' F M v/\v.cells=z.cells:=by
 unfold b5 at O;unfold oY at Z;cases hi:P.info? e with
 |none=>simp[hi]at O
 |some i=>
  simp[hi]at O Z;obtain⟨z,AH,CF,CG,CH⟩:=uM AN default;cases T:i.zero with
  |none=>simp[zeroValue,typeInfo,hi,T,unsupported]at AH
  |some CI=>
   simp[zeroValue,typeInfo,hi,T]at AH;subst AH;exact⟨i,CI,rfl,O,Z,T,CF,CG,CH⟩
def B7{P:Program}{m:Mem}{sz:Nat}{M:D}{u:TypeId}{x:AV}{c:Bool}{A:List D}{s:List UInt8}(h:mY P m sz M u x=some (c,A))(A7:x=.d (.str s)):A=iS s:=by
 subst A7;unfold mY at h;split at h
 .cases h
 .simp[B3,dq]at h;exact h.2.symm
def JU(P:Program)(S:St)(o:Oper)(s x:Operand)(t u:TypeId)(AC:o.op=.call {callee:=.builtin .append,args:=#[s,x],argTypes:=#[t,u]})
 (I:(S.ag s).1=true) (A7:(S.ag x).1=true):aj P S o (l6 P S.mem (keyOf o) t u (S.ag s).2 (S.ag x).2):=by
 have AH:∀(a:Act)(w w':World)(v:Value),(Builtin.append_ #[t,u] o.type #[a.eval s,a.eval x]).run P w=.ok v w'->(execOp a.eval o).run P w=.ok (.value v) w':=by
  intro a w w' v h;simp[execOp,AC,resolve,invoke,builtin,h]
 unfold l6;split
 .rename_i e CJ;have A4:=cY CJ;split
  .rename_i sz AP M O Z AN;obtain⟨i,z,hi,rfl,rfl,T,Aa,AO,Au⟩:=Bm O Z AN;split
   .rename_i c A Ai
    --Ca Cb a new block
    have grow:∀{φ G}{a:Act}{w:World}(H:Rel φ G S a w){J:List Value}(A9:wg P w (Fo G φ S.mem) u i.size z A (a.eval x) J){key U:Nat}{cont:ax}(hm:(⟨key,U,cont⟩:bn)∈S.mem){L:Loc}(W:φ key=some L)(A1:L.U=U)
     (ao:Option Addr) (len cap:Nat) (AD:a.eval s=.slice ao len cap) (A6:List Value) (Ao:List D) (Be:bc w (Fo G φ S.mem) i.size Ao A6) (Ak:Ao.length=len)
     (hold:∀w',w'.heap=w.heap->(Builtin.firstCells i.size len (.slice ao len cap)).run P w'=.ok A6.toArray w')
     (A5:cap<len+A.length) (E:(len+A.length)*i.bytes<=140737488355328) (AI:len+A.length<=4611686018427387904) (AA:M.size=i.size),
     ∀(c':ax),(∀L' b,c'.bg L' b->L'.ba=b)->(∀φ' w' F' L',L'.ty=some e->L'.base=0->bw φ' w' F' L' (.vec i.size (Ao++A))->bw φ' w' F' L' c')->∃v w' φ',s6 P o a w v w'/\ai φ' w' (Fo G φ' (Mem.set S.mem ⟨key,U+1,c'⟩)) (.vec key (U+1) 0 (len+A.length)) v/\
      aI φ' G (Mem.set S.mem ⟨key,U+1,c'⟩) w'/\aB φ S.mem w φ' (Mem.set S.mem ⟨key,U+1,c'⟩) w'/\∀k,k≠key->φ' k=φ k:=by
     intro φ G a w H J A9 key U cont hm L W A1 ao len cap AD A6 Ao Be Ak hold A5 E AI AA c' Af Bf;have BB:=grownCap_ge w (len+A.length) cap e;have Aw:=mX (P:=P) (ty:=o.type) A4 hi T A9 A6 hold A5 (by omega) (growslice_fits A5 E) (by have:=WL i.bytes (XM A.length len);omega);have Aj:bc w (Fo G φ S.mem) i.size (Ao++A) (A6++J):=Be.append A9.rows;obtain⟨φ',AJ,AK,AL,AM⟩:=H.mem.fresh (e:=⟨key,U,cont⟩) hm W A1 w.drew rfl rfl rfl rfl
      (A6.toArray++J.toArray++Builtin.zeroCells z.cells (grownCap w (len+A.length) cap e-(len+A.length))) e i.size (grownCap w (len+A.length) cap e) c' (λ_ E=>Af _ _ E) (λφ' hle BC AU Ag=>by
       refine Bf _ _ _ _ rfl rfl (oC (cs:=A6++J) (rest:=(Builtin.zeroCells z.cells (grownCap w (len+A.length) cap e-(len+A.length))).toList) (elem:=e) rfl rfl (Aj.mono AU) ?_ (by simp;omega) ?_ (λ_=>?_))
       .intro v A2;exact l5 AO v (by simpa using A2)
       .have AE:z.cells.size=i.size:=by
         rw[Aa];exact AA
        rw[WY,Aj.1];simp only[WQ,size_zeroCells,AE,WY,Ak,<-Xa];congr 1;omega
       .refine cy.new ?_;rw[Ag];congr 2;apply Array.ext';simp)
     refine⟨_,_,φ',.inl (AH a w _ _ (by rw[AD];exact Aw)),?_,AJ,AK,AM⟩;exact .vec key (U+1) 0 _ _ _ AL (Ds _) (λ_=>⟨_,_,rfl,BB,λ_=>⟨by simp,by simp⟩⟩) rfl
    have core:∀{key v off len:Nat}{rows:List D}{cont c':ax}{φ G}{a:Act}{w:World}(H:Rel φ G S a w)(hm:(⟨key,v,cont⟩:bn)∈S.mem){L:Loc}(W:φ key=some L)(A1:L.U=v)
     (Y:bw φ w (Fo G φ S.mem) L (.vec i.size rows)) (Af:∀b,cont.bg L b↔0<L.cap/\L.ba=b) (Ap:∀L' b,c'.bg L' b->0<L'.cap/\L'.ba=b)
     (Aq:∀φ' w' F' L',(L'.ty=some e/\L'.base=0\/L'.ty=L.ty/\(off=0->L'.base=L.base)/\(0<L'.cap->0<L.cap))->bw φ' w' F' L' (.vec i.size ((rows.drop off).take len++A))->bw φ' w' F' L' c')
     (AQ:(S.ag s).2=.vec key v off len) (A8:c=true) (AA:M.size=i.size) (hle:off+len<=rows.length) (AT:∀d∈A,d.size=i.size) (E:(len+A.length)*i.bytes<=140737488355328) (AI:len+A.length<=4611686018427387904),
     ∃vv w' φ',s6 P o a w vv w'/\ai φ' w' (Fo G φ' (Mem.set S.mem ⟨key,v+1,c'⟩)) (.vec key (v+1) 0 (len+A.length)) vv/\
      aI φ' G (Mem.set S.mem ⟨key,v+1,c'⟩) w'/\aB φ S.mem w φ' (Mem.set S.mem ⟨key,v+1,c'⟩) w'/\∀k,k≠key->φ' k=φ k:=by
     intro key v off len rows cont c' φ G a w H hm L W A1 Y Af Ap Aq AQ A8 AA hle AT E AI;have A2:=H.ag s I;have Ah:=H.ag x A7;rw[AQ]at A2;obtain⟨J,A9⟩:=Bl (P:=P) H.mem AO (by rw[Aa];exact AA) AA (Au _ _) Ah Ai A8 AT;generalize AD:a.eval s=BZ at A2;cases A2 with
     |vec _ _ _ _ _ L' AR _ h _=>
      rw[W]at AR;cases AR;obtain⟨ao,cap,rfl,B_,Ad⟩:=h A1.symm;clear h;have BG:L.sz=i.size:=Y.1;have BH:((rows.drop off).take len).length=len:=by simp;omega
      by_cases A5:len+A.length<=cap
      .by_cases B6:cap=0
       · --nothing Cc nothing
        have Az:A=[]:=W9 (by omega);have AX:len=0:=by omega
        subst Az;subst AX;have AW:=lC (P:=P) (ty:=o.type) (ao:=ao) A4 hi T A9 B_;obtain⟨φ',AJ,AK,AL,AM⟩:=H.mem.bo (e':=⟨key,v+1,c'⟩) hm W rfl (L':={L with U:=v+1}) (by simp only;omega) (λhh=>by simp only at hh;omega) rfl
         (w':=w) (λ_ _ _=>rfl) (Ds _) (λ_ AC=>.inl ((Af _).2 (Ap _ _ AC))) rfl rfl rfl (λφ' CK Ax=>by
          obtain⟨g1,g2,g3,g4⟩:=Y;refine Aq _ _ _ _ (.inr ⟨rfl,λ_=>rfl,id⟩) ⟨g1,by simp,by simp,λA8=>?_⟩;obtain⟨arr,elem,f1,f2,f3,f4⟩:=g4 A8;exact⟨arr,elem,f1,f2,f3,by simp⟩)
        refine⟨_,w,φ',.inl (AH a w w _ (by rw[AD];exact AW)),?_,AJ,AK,AM⟩;exact .vec key (v+1) 0 _ _ _ AL (Ds _) (λ_=>⟨_,_,rfl,by simp,λh=>by omega⟩) rfl
       .obtain⟨rfl,BD⟩:=Ad (by omega);obtain⟨arr,elem,hh,Ay,Ae,BI⟩:=jc Y (by omega);obtain⟨B,BJ⟩:∃B,B=L.base+off*i.size:=⟨_,rfl⟩;have Ar:=((BI.drop off).take len (by simp;omega));have CL:(((arr.toList.drop L.base).take (rows.length*i.size)).drop (off*i.size)).take (len*i.size)=(arr.toList.drop B).take (len*i.size):=by
         have:off*i.size+len*i.size<=rows.length*i.size:=by rw[<-Xa];exact WL _ hle
         rw[List.drop_take,List.take_take,XC (by omega),List.drop_drop,BJ]
        rw[CL]at Ar;have CM:=Ar.append A9.rows;have CN:=A9.rows.1;have Cd:len*i.size+J.length<=(L.cap-off)*i.size:=by
         rw[CN,<-Xa];exact WL _ (by omega)
        have Bf:off*i.size+(L.cap-off)*i.size=L.cap*i.size:=by rw[<-Xa];congr 1;omega
        have AS:B+len*i.size+J.length<=arr.size:=by omega
        rw[BG,<-BJ]at AD;have AW:=run_append_fits (P:=P) (ty:=o.type) A4 hi T A9 hh A5 AS (by have:=WL i.bytes (XM A.length len);omega);obtain⟨φ',AJ,AK,AL,AM⟩:=H.mem.yw (e:=⟨key,v,cont⟩) hm W A1 (b0:=L.ba) ((Af _).2 ⟨by omega,rfl⟩) (putCells arr.toList (B+len*i.size) J).toArray ⟨v+1,L.ba,L.sz,L.cap-off,B,[],L.ty⟩ (X3 _) (λhh=>by simp only at hh;omega) c' (λ_ E=>(Af _).2 ⟨by omega,(Ap _ _ E).2⟩) (λφ' Ax BC AU=>by
         refine Aq _ _ _ _ (.inr ⟨rfl,λAB=>by subst AB;simp[BJ],λ_=>by omega⟩) (mW (pre:=arr.toList.take B) (cs:=(arr.toList.drop B).take (len*i.size)++J) (rest:=arr.toList.drop (B+len*i.size+J.length)) (elem:=elem) BG (CM.mono AU) ?_ ?_ ?_ (by rw[WY,BH];simp only;omega) ?_ (λ_=>?_))
         .simp only[Xj,WQ];omega
         .intro z T;exact Ae z (by simpa using W3 T)
         .intro z T;exact Ae z (by simpa using WX T)
         .show _=(L.cap-off)*i.size;simp only[WY,Xj,XP,WQ];omega
         .have e:=hh.setRow (putCells arr.toList (B+len*i.size) J).toArray (by show (putCells arr.toList _ _).length=_;rw[aV _ _ _ (by simpa using AS)];simp);rw[bE _ _ _ (by simpa using AS),List.take_add]at e;rw[bE _ _ _ (by simpa using AS),List.take_add];simpa [XY]using e)
        refine⟨_,_,φ',.inl (AH a w _ _ (by rw[AD];exact AW)),?_,AJ,AK,AM⟩;exact .vec key (v+1) 0 _ _ _ AL (Ds _) (λ_=>⟨_,_,rfl,A5,λ_=>⟨by simp,by simp only;omega⟩⟩) rfl
      .by_cases B6:cap=0
       .subst B6;have AX:len=0:=by omega
        subst AX;have:=grow H A9 hm W A1 ao 0 0 AD [] [] (bc.nil ..) rfl (λw' _=>by cases ao<;>simp[Builtin.firstCells,loadCells,loadCellsFrom]) (by omega) E AI AA c' (λ_ _ h=>(Ap _ _ h).2) (λφ' w' F' L' O Z AN=>Aq φ' w' F' L' (.inl ⟨O,Z⟩) (by simpa using AN));simpa using this
       .obtain⟨rfl,BD⟩:=Ad (by omega);obtain⟨arr,elem,hh,Ay,Ae,BI⟩:=jc Y (by omega);have Ar:=((BI.drop off).take len (by simp;omega));exact grow H A9 hm W A1 _ len cap AD _ ((rows.drop off).take len) Ar BH (λw' Ac=>by
         refine run_firstCells_some (P:=P) w' i.size len _ len cap _ (by rw[Ar.1,BH]) (λj u V=>?_);rw[cF,show w'.cell? ⟨L.ba,L.base+off*L.sz+j,none⟩=w.cell? ⟨L.ba,L.base+off*L.sz+j,none⟩ by simp[World.cell?,Ac],dz hh,BG];rw[WM]at V;split at V
         .rw[W6,WM]at V;split at V
          .rw[W6]at V;rw[W1];simpa using V
          .cases V
         .cases V) (by omega) E AI AA c' (λ_ _ h=>(Ap _ _ h).2) (λφ' w' F' L' O Z AN=>Aq φ' w' F' L' (.inl ⟨O,Z⟩) AN)
    split
    .rename_i k U off len AQ;split
     .rename_i key v Bd rows AG;refine aj.jE ?_;rintro ⟨A8,AA,rfl,hle,rfl,AT,E,AI⟩ φ G a w H;obtain⟨hm,AF,L,W,A1,Y⟩:=H.mem.get AG;simp only at AF;subst AF;exact core H hm W A1 Y (λ_=>Iff.rfl) (λ_ _ h=>h) (λ_ _ _ _ _ h=>h) AQ A8 AA hle AT E AI
     .rename_i key v tb bs AG;split
      .rename_i As CO;refine aj.jE ?_;rintro ⟨A8,AA,rfl,rfl,rfl,rfl,BK,E,AI⟩ φ G a w H;obtain⟨hm,AF,L,W,A1,Y⟩:=H.mem.get AG;simp only at AF;subst AF;have AT:=B7 Ai CO;subst AT;have Bg:(iS As).length=As.length:=by simp[iS]
       have Ce:(iS bs).length=bs.length:=by simp[iS]
       have O:=core (cont:=.buf tb bs) (c':=.buf tb (bs++As)) (rows:=iS bs) (off:=0) (len:=bs.length) H hm W A1 (by rw[BK];exact Y.2) (λ_=>Iff.rfl) (λ_ _ h=>h) (λφ' w' F' L' hh h=>by
        refine⟨?_,?_⟩
        .rcases hh with ⟨O,Z⟩|⟨O,Z,AN⟩
         .exact⟨Z,λ_=>O⟩
         .exact⟨(Z rfl).trans Y.1.1,λh=>O.trans (Y.1.2 (AN h))⟩
        .rw[BK]at h;have BU:((iS bs).drop 0).take bs.length++iS As=iS (bs++As):=by rw[List.drop_zero,XS (by omega)];simp[iS]
         rw[BU]at h;exact h) AQ A8 AA (by omega) (λd A'=>by obtain⟨y,_,rfl⟩:=WS.1 A';rw[BK];rfl) (by rw[Bg];exact E) (by omega)
       rw[Bg]at O;exact O
      .trivial
     .trivial
    .rename_i AQ;split
     .rename_i key v cont AG;refine aj.jE ?_;rintro ⟨A8,AA,AT,E,AI⟩ φ G a w H;obtain⟨hm,AF,L,W,A1,Y⟩:=H.mem.get AG;simp only at AF A1;subst AF;have A2:=H.ag s I;have Ah:=H.ag x A7;rw[AQ]at A2;obtain⟨J,A9⟩:=Bl (P:=P) H.mem AO (by rw[Aa];exact AA) AA (Au _ _) Ah Ai A8 AT;generalize AD:a.eval s=BZ at A2;cases A2;by_cases Az:A=[]
      .subst Az;have AW:=lC (P:=P) (ty:=o.type) (ao:=none) (len:=0) (cap:=0) A4 hi T A9 (Ds _);obtain⟨φ',AJ,AK,AL,AM⟩:=H.mem.bo (e':=⟨keyOf o,v+1,.vec i.size []⟩) hm W rfl (L':=⟨v+1,0,i.size,0,0,[],none⟩) (by simp only;omega) (λhh=>by simp only at hh;omega) rfl
        (w':=w) (λ_ _ _=>rfl) (Ds _) (λ_ AC=>absurd AC.1 (by simp)) rfl rfl rfl (λφ' CK Ax=>
         ⟨rfl,by simp,by simp,λA8=>by simp at A8⟩)
       refine⟨_,w,φ',.inl (AH a w w _ (by rw[AD];exact AW)),?_,AJ,AK,AM⟩;exact .vec _ (v+1) 0 _ _ _ AL (Ds _) (λ_=>⟨_,_,rfl,by simp,λh=>by omega⟩) rfl
      .have BO:0<A.length:=List.length_pos_iff.2 Az;have:=grow H A9 hm W A1 none 0 0 AD [] [] (bc.nil ..) rfl (λw' _=>by simp[Builtin.firstCells]) (by omega) (by simpa using E) (by simpa using AI) AA (.vec i.size A) (λ_ _ h=>h.2) (λ_ _ _ _ _ _ h=>h);simpa using this
     .trivial
    .trivial
   .exact Ii P S o s x t u AC I A7 A4 hi T Aa AO
  .trivial
 .trivial
def pM(P:Program)(m:Mem)(AF:Nat)(t:TypeId)(l c:AV):br:=
 match tk P t with
 | .slice e=>match b5 P e,oY P e,gG P e,l,c,Mem.get m AF with
  |some sz,some AR,some A2,.d (.int .i64 n),.d (.int .i64 AS),some ⟨_,v,_⟩=>
   .bo (n=AS/\0<=n/\n*AR<=140737488355328/\n<=4611686018427387904/\A2.size=sz) (.vec AF (v+1) 0 n.toNat) ⟨AF,v+1,.vec sz (List.replicate n.toNat A2)⟩
  |_,_,_,_,_,_=>.no
 |_=>.no
def wrap_small{n:Int}(A8:0<=n)(h:n<=4611686018427387904):IntKind.i64.wrap n=n:=IntWalk.i64_in _ (by omega)
def B8(z:Array Value)(n sz:Nat)(O:z.size=sz)(d:D)(AG:d.size=sz)(J:∀v∈z,bd v=true)(w:World)(F:Nat->Prop)(Ae:∃v,ar w F d v/\v.cells=z):
 bc w F sz (List.replicate n d) ((Array.range (n*sz)).map (z[·%z.size]!)).toList:=by
 obtain⟨v,Y,BD⟩:=Ae;refine⟨by simp,?_,?_,?_⟩
 .intro x T;simp at T;obtain⟨i,hi,rfl⟩:=T;have Af:0<z.size:=by
   grind
  rw[getElem!_pos z _ (Nat.mod_lt _ Af)];grind
 .grind
 .intro i x T;have hi:i<n:=by grind
  have Ag:x=d:=by grind
  subst Ag;refine⟨v,Y,λj c Ah=>?_⟩;have Ai:=oZ Y AG Ah;have BE:i*sz+j<n*sz:=by
   have:i*sz+sz<=n*sz:=by rw[<-Xu];exact WL _ hi
   omega
  have hm:(i*sz+j)%sz=j:=by rw[Nat.mul_comm,Nat.mul_add_mod];exact Nat.mod_eq_of_lt Ai
  grind
def run_makeSlice{P:Program}{w:World}{t e:TypeId}{i:TypeInfo}{z:Value}{n:Int}(M:P.underlying t=some (.slice e))(hi:P.info? e=some i)(O:i.zero=some z)
 (A8:0<=n) (V:n*i.bytes<=140737488355328) (A9:n<=4611686018427387904):
 (Instr.makeSlice t (.int .i64 n) (.int .i64 n)).run P w=.ok (.slice (some ⟨w.heap.size,0,none⟩) n.toNat n.toNat) (w.alloc (.cells ((Array.range (n.toNat*i.size)).map (z.cells[·%z.cells.size]!)) e)):=by
 have hw:=wrap_small A8 A9;have J:¬n<0:=by omega
 have AH:¬((i.bytes:Int)*n>281474976710656):=by grind
 by_cases Aj:n.toNat*i.size=0
 .simp[Instr.makeSlice,run_underlying M,asInt,asIntOf,typeInfo,sizeOf,hi,hw,J,AH,Aj,dB,show Array.range 0=#[]from rfl]
 .simp[Instr.makeSlice,run_underlying M,asInt,asIntOf,typeInfo,sizeOf,zeroValue,hi,O,dB];grind
def Ij(P:Program)(S:St)(o:Oper)(t:TypeId)(l c:Operand)(Z:o.op=.makeSlice t l c)(Ak:(S.ag l).1=true)(AI:(S.ag c).1=true):aj P S o (pM P S.mem (keyOf o) t (S.ag l).2 (S.ag c).2):=by
 unfold pM;split
 .rename_i e AJ;have M:=cY AJ;split
  .rename_i sz AR A2 n AS key v cont J AH Al An Ao AK;refine aj.jE ?_;rintro ⟨rfl,A8,V,A9,Ap⟩ φ G a w I;obtain⟨i,z,hi,rfl,rfl,O,BF,Aq,Ar⟩:=Bm J AH Al;obtain⟨hm,AA,L,q,A3,A'⟩:=I.mem.get AK;subst AA;have A0:=I.ag l Ak;have AL:=I.ag c AI;rw[An]at A0;rw[Ao]at AL;have As:a.eval l=.int .i64 n:=by
    generalize a.eval l=x at A0;cases A0 with|d _ _ h=>cases h;rfl
   have AM:a.eval c=.int .i64 n:=by
    generalize a.eval c=x at AL;cases AL with|d _ _ h=>cases h;rfl
   have At:=run_makeSlice (P:=P) (w:=w) M hi O A8 V A9;obtain⟨φ',A4,A5,AN,A6⟩:=I.mem.fresh (e:=⟨keyOf o,v,cont⟩) hm q A3 w rfl rfl rfl rfl
    ((Array.range (n.toNat*i.size)).map (z.cells[·%z.cells.size]!)) e i.size n.toNat (.vec i.size (List.replicate n.toNat A2)) (λ_ V=>V.2) (λφ' hle Au AT Av=>by
     refine oC (cs:=((Array.range (n.toNat*i.size)).map (z.cells[·%z.cells.size]!)).toList) (rest:=[]) (elem:=e) rfl rfl (B8 z.cells n.toNat i.size (by grind) A2 Ap Aq _ _ (Ar _ _)) (by simp) (by simp) (by simp) (λ_=>?_);refine cy.new ?_;rw[Av,XF,Yb];rfl)
   refine⟨.slice (some ⟨w.heap.size,0,none⟩) n.toNat n.toNat,_,φ',.inl ?_,?_,A4,A5,A6⟩
   .simp[execOp,Z,As,AM,At]
   .exact .vec _ (v+1) 0 _ _ _ AN (Ds _) (λ_=>⟨_,_,rfl,Ds _,λ_=>⟨by simp,by simp⟩⟩) rfl
  .trivial
 .trivial
def pN(P:Program)(m:Mem)(t:TypeId)(s x:AV):br:=
 match tk P t with
 | .slice e=>match b5 P e with
  |some sz=>match dq m sz x with
   |some (c,A)=>match s with
    | .vec k U off len=>match Mem.get m k with
     |some ⟨_,v,.vec E rows⟩=>.bo (c/\v=U/\off+len<=rows.length/\E=sz/\(∀d∈A,d.size=sz))
      (.d (.int .i64 (min A.length len:Nat))) ⟨k,U,.vec sz (putCells rows off (A.take len))⟩
     |_=>.no
    |_=>.no
   |none=>.no
  |none=>.no
 |_=>.no
def sX{w F sz}{rows A:List D}{cs H:List Value}{off:Nat}(h:bc w F sz rows cs)(AO:bc w F sz A H)(hle:off+A.length<=rows.length):
 bc w F sz (putCells rows off A) (putCells cs (off*sz) H):=by
 have AB:off*sz+H.length<=cs.length:=by rw[h.1,AO.1,<-Xa];exact WL _ hle
 rw[bE _ _ _ hle,bE _ _ _ AB];have:=((h.take off (by omega)).append AO).append (h.drop (off+A.length));rw[Xa,<-AO.1]at this;grind
def xY{α:Type}{cs H:List α}{o n:Nat}(h:o+H.length<=n)(A9:n<=cs.length):putCells (cs.take n) o H++cs.drop n=putCells cs o H:=by
 rw[bE _ _ _ (by grind),bE _ _ _ (by omega),List.take_take,XC (by omega),XY (List.take _ _++_)];rw[List.drop_take];have AM:cs.drop n=(cs.drop (o+H.length)).drop (n-(o+H.length)):=by simp_all
 rw[AM,XV]
def yH{P:Program}{w w':World}{t u ty e:TypeId}{sz:Nat}(M:P.underlying t=some (.slice e))(J:b5 P e=some sz){ao:Option Addr}{len cap:Nat}{x:Value}{m:Nat}{H:List Value}
 (AU:(Builtin.lenOf x).run P w=.ok m w) (A1:(Builtin.firstCells sz (min m len) x).run P w=.ok H.toArray w)
 (W:(match ao with|some a=>storeCells a H|none=>pure ()).run P w=.ok () w'):
 (Builtin.copy_ #[t,u] ty #[.slice ao len cap,x]).run P w=.ok (.int .i64 (min m len:Nat)) w':=by
 cases ao with
 |none=>
  simp at W;subst W;simp[Builtin.copy_,run_underlying M,AU,run_sizeOf J,A1,goInt]
 |some a=>
  simp[Builtin.copy_,run_underlying M,AU,run_sizeOf J,A1,W,goInt]
def Ik(P:Program)(S:St)(o:Oper)(s x:Operand)(t u:TypeId)(Z:o.op=.call {callee:=.builtin .copy,args:=#[s,x],argTypes:=#[t,u]})
 (AG:(S.ag s).1=true) (T:(S.ag x).1=true):aj P S o (pN P S.mem t (S.ag s).2 (S.ag x).2):=by
 unfold pN;split
 .rename_i e AJ;have M:=cY AJ;split
  .rename_i sz J;split
   .rename_i c A Aw;split
    .rename_i k U off len Ax;split
     .rename_i key v E rows AK;refine aj.jE ?_;rintro ⟨AI,rfl,hle,rfl,Ay⟩ φ G a w I;obtain⟨hm,AA,L,q,A3,A'⟩:=I.mem.get AK;simp only at AA;subst AA;have Y:=I.ag s AG;have Az:=I.ag x T;rw[Ax]at Y;obtain⟨H,AC⟩:=yC (P:=P) I.mem Az Aw AI Ay;generalize A0:a.eval s=BG at Y;cases Y with
      |vec _ _ _ _ _ L' AW _ h _=>
       rw[q]at AW;cases AW;obtain⟨ao,cap,rfl,BH,B'⟩:=h A3.symm;clear h;have AX:L.sz=E:=A'.1;have AY:min A.length len<=A.length:=Nat.min_le_left _ _;have A1:=AC.DL (min A.length len) AY w (λ_ _=>rfl);have AZ:(A.take len).length=min A.length len:=by rw[Xj,Nat.min_comm]
       by_cases B0:len=0
       .subst B0;obtain⟨φ',A4,A5,AN,A6⟩:=I.mem.bo (e':=⟨key,v,.vec E (putCells rows off (A.take 0))⟩) hm q rfl (L':=L) (Ds _) (λ_=>rfl) A3
         (w':=w) (λ_ _ _=>rfl) (Ds _) (λ_ Z=>.inl Z) rfl rfl rfl (λφ' A_ AB=>by
          have e:putCells rows off (A.take 0)=rows:=by rw[bE _ _ _ (by simp;omega)];simp
          rw[e];refine A'.mono AB (λ_ _ _=>rfl) (Ds _) (λb V=>?_) (λ_ _=>rfl);rintro (B1|⟨y,B2,B3,AD,Aa⟩)
          .exact .inl B1
          .right;rcases (Mem.mem_set I.mem.nodup).1 B2 with ⟨rfl,_⟩|⟨B4,Ab⟩
           .subst A_;simp at AD;subst AD;exact⟨_,hm,L,q,Aa⟩
           .subst A_;simp at Ab;simp[Ab]at AD;exact⟨y,B4,B3,AD,Aa⟩)
        refine⟨_,w,φ',.inl ?_,.d _ _ (.int _ _),A4,A5,A6⟩;have B5:H.take (min A.length 0*E)=[]:=by simp
        rw[B5]at A1;have:=yH (P:=P) (ty:=o.type) (u:=u) (ao:=ao) (len:=0) (cap:=cap) M J (AC.len w) A1 (w':=w) (by cases ao<;>simp[storeCells]);simp[execOp,Z,resolve,invoke,builtin,A0,this]
       .obtain⟨rfl,BI⟩:=B' (by omega);obtain⟨arr,elem,hh,BJ,Ac,B6⟩:=jc A' (by omega);have AP:bc w (Fo G φ S.mem) E (A.take len) (H.take (min A.length len*E)):=by
         have:=AC.rows.take (min A.length len) AY;have e:A.take (min A.length len)=A.take len:=by
          rcases Nat.le_total A.length len with h|h
          .rw[XC h,XS (Ds _),XS h]
          .rw[Nat.min_eq_right h]
         rw[e]at this;exact this
        have Ad:off+(A.take len).length<=rows.length:=by rw[AZ];omega
        have B7:=sX B6 AP Ad;have A7:=AP.1;rw[AZ]at A7;have AQ:(off+min A.length len)*E<=rows.length*E:=WL _ (by omega);have BK:rows.length*E<=L.cap*E:=WL _ A'.2.1;have AE:L.base+off*E+(H.take (min A.length len*E)).length<=arr.toList.length:=by
         rw[Xa]at AQ;rw[A7];simp only[WQ];omega
        have ⟨B9,BA,BB⟩:=hh;have W:=fw (P:=P) L.ba (L.base+off*E) _ B9 (H.take (min A.length len*E)) 0 arr w BA BB (by simpa using AE) (λx T=>jD (AP.2.1 x T));simp only[Xq]at W;rw[<-bE _ _ _ AE]at W;have BC:arr.toList.take L.base++(putCells ((arr.toList.drop L.base).take (rows.length*E)) (off*E) (H.take (min A.length len*E))++(arr.toList.drop L.base).drop (rows.length*E))=putCells arr.toList (L.base+off*E) (H.take (min A.length len*E)):=by
         rw[xY (by rw[A7,<-Xa];exact AQ) (by simp only[XP,WQ];omega)];rw[bE _ _ _ (by rw[A7];rw[Xa]at AQ;simp only[XP,WQ];omega),bE _ _ _ AE,List.drop_drop,List.take_add];simp only[XY,W1]
        obtain⟨φ',A4,A5,AN,A6⟩:=I.mem.store (e:=⟨key,v,.vec E rows⟩) hm q A3 (b0:=L.ba) ⟨by omega,rfl⟩ (putCells arr.toList (L.base+off*E) (H.take (min A.length len*E))).toArray v (Ds _) (.vec E (putCells rows off (A.take len))) (λ_ V=>V) (λφ' AB Au AT=>by
         refine mW (pre:=arr.toList.take L.base) (cs:=putCells ((arr.toList.drop L.base).take (rows.length*E)) (off*E) (H.take (min A.length len*E))) (rest:=(arr.toList.drop L.base).drop (rows.length*E)) (elem:=elem) AX (B7.mono AT) ?_ ?_ ?_ ?_ ?_ (λ_=>?_)
         .simp only[Xj,WQ];omega
         .intro z O;exact Ac z (by simpa using W3 O)
         .intro z O;exact Ac z (by simpa using WX (WX O))
         .rw[aV _ _ _ Ad];exact A'.2.1
         .show _=L.cap*E;rw[WY,aV _ _ _ (by rw[A7,<-Xa];simp only[Xj,XP,WQ];omega),<-WY,XV];simp only[XP,WQ];omega
         .rw[BC];exact hh.setRow _ (by show (putCells arr.toList _ _).length=_;rw[aV _ _ _ AE];simp))
        refine⟨_,_,φ',.inl ?_,.d _ _ (.int _ _),A4,A5,A6⟩;have:=yH (P:=P) (ty:=o.type) (u:=u) (ao:=some ⟨L.ba,L.base+off*L.sz,none⟩) (len:=len) (cap:=cap) M J (AC.len w) A1 (by rw[AX];exact W);simp[execOp,Z,resolve,invoke,builtin,A0,this]
     .trivial
    .trivial
   .trivial
  .trivial
 .trivial
def oD{P:Program}{s:TypeId}{f n b o:Nat}{w:World}(h:pF P s f=some n):(Instr.fieldAt s (.pointer (some ⟨b,o,none⟩)) f).run P w=.ok (.pointer (some ⟨b,o+n,none⟩)) w:=by
 unfold pF at h;split at h
 .rename_i fs hu;split at h
  .rename_i fl AD;split at h
   .rename_i i hi;split at h
    .cases h
    .rename_i AE;simp at h;subst h;have W:(sizeOf fl.type).run P w=.ok i.size w:=run_sizeOf (by simp[b5,hi]);simp[Instr.fieldAt,run_underlying hu,AD,Instr.sureAddr,fieldPlace,W,AE,cF]
   .cases h
  .cases h
 .cases h
def jO(P:Program)(m:Mem)(s:TypeId)(f:Nat)(p:AV):br:=
 match pF P s f with
 |some n=>match p with
  | .ptr k U off=>match Mem.get m k with
   |some ⟨_,v,_⟩=>.val (v=U) (.ptr k U (off+n))
   |none=>.no
  | .bb k U i j=>match Mem.get m k with
   |some ⟨_,v,_⟩=>.val (v=U) (.bb k U i (j+n))
   |none=>.no
  | .bR x j=>.val True (.bR x (j+n))
  |_=>.no
 |none=>.no
def FU(P:Program)(S:St)(o:Oper)(s:TypeId)(x:Operand)(f:Nat)(Y:o.op=.fieldAddr s x f)(M:(S.ag x).1=true):aj P S o (jO P S.mem s f (S.ag x).2):=by
 unfold jO;split
 .rename_i n A4;split
  .rename_i k U off J;split
   .rename_i key v cont V;refine aj.pure ?_;rintro rfl φ G a w E;have A:=E.ag x M;rw[J]at A;obtain⟨hm,A',L,H,I,_⟩:=E.mem.get V;simp only at I;have e:=A.fZ H I;refine⟨.pointer (some ⟨L.ba,off+n,none⟩),by simp[execOp,Y,e,oD A4],.ptr k v _ _ L H (by omega) (λ_=>rfl) rfl⟩
   .trivial
  .rename_i k U i j J;split
   .rename_i key v cont V;refine aj.pure ?_;rintro rfl φ G a w E;have A:=E.ag x M;rw[J]at A;obtain⟨hm,A',L,H,I,_⟩:=E.mem.get V;simp only at I;have e:=A.ft H I;refine⟨.pointer (some ⟨L.ba,L.base+i*L.sz+j+n,none⟩),by simp[execOp,Y,e,oD A4],.bb k v _ _ _ L H (by omega) (λ_=>by rw[W1]) rfl⟩
   .trivial
  .rename_i d j J;refine aj.pure ?_;rintro _ φ G a w E;have A:=E.ag x M;rw[J]at A;generalize q:a.eval x=av at A;cases A with
   |bR _ _ b off A6 A0 A1 A7 A2=>
    refine⟨.pointer (some ⟨b,off+(j+n),none⟩),by simp[execOp,Y,q,oD A4,W1],.bR d (j+n) b off A6 A0 A1 A7 A2⟩
  .trivial
 .trivial
def eL(m:Mem)(p:AV):br:=
 match p with
 | .ptr k U off=>match Mem.get m k with
  |some ⟨_,v,_⟩=>.val (v=U) (.ptr k U off)
  |none=>.no
 | .bb k U i j=>match Mem.get m k with
  |some ⟨_,v,_⟩=>.val (v=U) (.bb k U i j)
  |none=>.no
 | .bR x j=>.val True (.bR x j)
 |_=>.no
def AH(P:Program)(S:St)(o:Oper)(x:Operand)(Y:o.op=.nilCheck x)(M:(S.ag x).1=true):aj P S o (eL S.mem (S.ag x).2):=by
 unfold eL;split
 .rename_i k U off J;split
  .rename_i key v cont V;refine aj.pure ?_;rintro rfl φ G a w E;have A:=E.ag x M;rw[J]at A;obtain⟨hm,A',L,H,I,_⟩:=E.mem.get V;simp only at I;have e:=A.fZ H I;exact⟨_,by simp only[execOp,Y,e];rfl,.ptr k v _ _ L H (by omega) (λ_=>rfl) rfl⟩
  .trivial
 .rename_i k U i j J;split
  .rename_i key v cont V;refine aj.pure ?_;rintro rfl φ G a w E;have A:=E.ag x M;rw[J]at A;obtain⟨hm,A',L,H,I,_⟩:=E.mem.get V;simp only at I;have e:=A.ft H I;exact⟨_,by simp only[execOp,Y,e];rfl,.bb k v _ _ _ L H (by omega) (λ_=>rfl) rfl⟩
  .trivial
 .rename_i d j J;refine aj.pure ?_;rintro _ φ G a w E;have A:=E.ag x M;rw[J]at A;generalize q:a.eval x=av at A;cases A with
  |bR _ _ b off A6 A0 A1 A7 A2=>
   exact⟨.pointer (some ⟨b,off+j,none⟩),by simp only[execOp,Y,q];rfl,.bR d j b off A6 A0 A1 A7 A2⟩
 .trivial
def eT{φ w F k n v}(h:ai φ w F (.d (.int k n)) v):v=.int k n:=by cases h with|d _ _ h=>cases h;rfl
def mI{φ w F b v}(h:ai φ w F (.d (.bool b)) v):v=.bool b:=by cases h with|d _ _ h=>cases h;rfl
def lE{φ w F s v}(h:ai φ w F (.d (.str s)) v):∃b:ByteArray,v=.string b/\b.data.toList=s:=by cases h with|d _ _ h=>cases h with|str b _ h=>exact⟨b,rfl,h⟩
def nb{P:Program}{t:TypeId}{n e}(h:tk P t=.arr n e):P.underlying t=some (.array n e):=by
 unfold tk at h;split at h<;>simp_all
def ik{P:Program}{t:TypeId}(h:tk P t=.str):P.underlying t=some .string:=by
 unfold tk at h;split at h<;>simp_all
def wi{P:Program}{t:TypeId}(h:tk P t=.bool):P.underlying t=some .bool:=by
 unfold tk at h;split at h<;>simp_all
def o6{P:Program}{t:TypeId}{k}(h:tk P t=.int k):P.underlying t=some (.int k):=by
 unfold tk at h;split at h<;>simp_all
def il(P:Program)(m:Mem)(t:TypeId)(p i:AV):br:=
 match i with
 | .d (.int _ n)=>match tk P t with
  | .slice e=>match b5 P e with
   |some sz=>match p with
    | .d (.list xs)=>.val (0<=n/\n.toNat<xs.length/\(D.at xs n.toNat).size=sz) (.bR (D.at xs n.toNat) 0)
    | .vec k U off len=>match Mem.get m k with
     |some ⟨_,v,.vec A5 _⟩=>.val (v=U/\0<=n/\n.toNat<len/\A5=sz) (.bb k U (off+n.toNat) 0)
     |some ⟨_,v,.vv _ _⟩=>.val (v=U/\0<=n/\n.toNat<len/\sz=1) (.bb k U (off+n.toNat) 0)
     |_=>.no
    |_=>.no
   |none=>.no
  | .arr len e=>match b5 P e with
   |some sz=>match p with
    | .ptr k U off=>match Mem.get m k with
     |some ⟨_,v,_⟩=>.val (v=U/\0<=n/\n.toNat<len) (.ptr k U (off+n.toNat*sz))
     |none=>.no
    | .bb k U i j=>match Mem.get m k with
     |some ⟨_,v,.vec A5 _⟩=>if A5=1/\sz=1/\j=0 then .val (v=U/\0<=n/\n.toNat<len) (.bb k U (i+n.toNat) 0)else .val (v=U/\0<=n/\n.toNat<len) (.bb k U i (j+n.toNat*sz))
     |some ⟨_,v,_⟩=>.val (v=U/\0<=n/\n.toNat<len) (.bb k U i (j+n.toNat*sz))
     |none=>.no
    | .bR x j=>.val (0<=n/\n.toNat<len) (.bR x (j+n.toNat*sz))
    |_=>.no
   |none=>.no
  |_=>.no
 |_=>.no
def kO{P:Program}{t e:TypeId}{sz b o len cap:Nat}{k:IntKind}{n:Int}{w:World}(Z:P.underlying t=some (.slice e))(W:b5 P e=some sz)(O:0<=n)(T:n.toNat<len):
 (Instr.indexAt t (.slice (some ⟨b,o,none⟩) len cap) (.int k n)).run P w=.ok (.pointer (some ⟨b,o+n.toNat*sz,none⟩)) w:=by
 have A4:n<(len:Int):=by omega
 simp[Instr.indexAt,asIntOf,run_underlying Z,run_sizeOf W,O,A4,cF]
def im{P:Program}{t e:TypeId}{sz b o len:Nat}{k:IntKind}{n:Int}{w:World}(Z:P.underlying t=some (.array len e))(W:b5 P e=some sz)(O:0<=n)(T:n.toNat<len):
 (Instr.indexAt t (.pointer (some ⟨b,o,none⟩)) (.int k n)).run P w=.ok (.pointer (some ⟨b,o+n.toNat*sz,none⟩)) w:=by
 have A4:n<(len:Int):=by omega
 simp[Instr.indexAt,Instr.sureAddr,asIntOf,run_underlying Z,run_sizeOf W,O,A4,cF]
def Il{w F xs b off cap len}(h:ar w F (.list xs) (.slice (some ⟨b,off,none⟩) len cap)){i sz:Nat}(hi:i<xs.length)(W:(D.at xs i).size=sz):
 len=xs.length/\b<w.heap.size/\¬F b/\∃v,ar w F (D.at xs i) v/\∀(j:Nat) c,v.cells[j]?=some c->w.cell? ⟨b,off+i*sz+j,none⟩=some c:=by
 generalize M:D.list xs=x at h;generalize A:Value.slice (some ⟨b,off,none⟩) len cap=v at h;cases h with
 |nil a c=>simp at M;subst M;simp at hi
 |list AP AQ AR AS A5 vs AT A0 A1 AA AF A2=>
  simp at M A;obtain⟨⟨rfl,rfl⟩,rfl,rfl⟩:=A;subst M;have:A5=sz:=by rw[<-W,AA _ (WI (getD_at hi))]
  subst this;exact⟨rfl,A0,A1,vs i,AF i _ (getD_at hi),λj c AG=>A2 i j c hi AG⟩
 |_=>simp at M
def DS{w F xs v}(h:ar w F (.list xs) v)(AI:xs≠[]):∃b off cap,v=.slice (some ⟨b,off,none⟩) xs.length cap:=by
 cases h with
 |nil a c=>exact absurd rfl AI
 |list b off cap sz vs=>exact⟨_,_,_,rfl⟩
def FV(P:Program)(S:St)(o:Oper)(t:TypeId)(x i:Operand)(Y:o.op=.indexAddr t x i)(M:(S.ag x).1=true)(hi:(S.ag i).1=true):aj P S o (il P S.mem t (S.ag x).2 (S.ag i).2):=by
 unfold il;split
 .rename_i AJ n AK;have A3:∀{φ G a w},Rel φ G S a w->a.eval i=.int AJ n:=λE=>by
   have:=E.ag i hi;rw[AK]at this;exact eT this
  split
  .rename_i e AB;have Z:=cY AB;split
   .rename_i sz W;split
    .rename_i xs J;refine aj.pure ?_;rintro ⟨O,T,AA⟩ φ G a w E;have A:=E.ag x M;rw[J]at A;generalize q:a.eval x=av at A;cases A with
     |d _ _ h=>
      obtain⟨b,off,cap,rfl⟩:=DS h (by intro hh;subst hh;simp at T);obtain⟨_,A0,A1,v,A,A2⟩:=Il h T AA;refine⟨_,by simp only[execOp,Y,q,A3 E,Sem.run_bind,kO Z W O T];rfl,?_⟩;exact .bR (D.at xs n.toNat) 0 b (off+n.toNat*sz) v A0 A1 A A2
    .rename_i k U off len J;split
     .rename_i key v A5 rows V;refine aj.pure ?_;rintro ⟨rfl,O,T,rfl⟩ φ G a w E;have A:=E.ag x M;rw[J]at A;obtain⟨hm,A',L,H,I,A8⟩:=E.mem.get V;simp only at I;generalize q:a.eval x=av at A;cases A with
      |vec _ _ _ _ _ L' A9 _ h _=>
       rw[H]at A9;cases A9;obtain⟨ao,cap,rfl,AL,AC⟩:=h I.symm;clear h;obtain⟨rfl,AM⟩:=AC (by omega);refine⟨_,by simp only[execOp,Y,q,A3 E,Sem.run_bind,kO Z W O T];rfl,?_⟩;exact .bb k v _ 0 _ L H (by omega) (λ_=>by rw[A8.1,Xa,Xq,W1]) rfl
     .rename_i key v rows y V;refine aj.pure ?_;rintro ⟨rfl,O,T,rfl⟩ φ G a w E;have A:=E.ag x M;rw[J]at A;obtain⟨hm,A',L,H,I,A8⟩:=E.mem.get V;simp only at I;generalize q:a.eval x=av at A;cases A with
      |vec _ _ _ _ _ L' A9 _ h _=>
       rw[H]at A9;cases A9;obtain⟨ao,cap,rfl,AL,AC⟩:=h I.symm;clear h;obtain⟨rfl,AM⟩:=AC (by omega);refine⟨_,by simp only[execOp,Y,q,A3 E,Sem.run_bind,kO Z W O T];rfl,?_⟩;exact .bb k v _ 0 _ L H (by omega) (λ_=>by rw[A8.1.1,Xa,Xq,W1]) rfl
     .trivial
    .trivial
   .trivial
  .rename_i len e AB;have Z:=nb AB;split
   .rename_i sz W;split
    .rename_i k U off J;split
     .rename_i key v cont V;refine aj.pure ?_;rintro ⟨rfl,O,T⟩ φ G a w E;have A:=E.ag x M;rw[J]at A;obtain⟨hm,A',L,H,I,_⟩:=E.mem.get V;simp only at I;have e:=A.fZ H I;refine⟨_,by simp only[execOp,Y,e,A3 E,Sem.run_bind,im Z W O T];rfl,.ptr k v _ _ L H (by omega) (λ_=>rfl) rfl⟩
     .trivial
    .rename_i k U AU j J;split
     .rename_i key v A5 rows V;split
      .rename_i AN;obtain⟨rfl,rfl,rfl⟩:=AN;refine aj.pure ?_;rintro ⟨rfl,O,T⟩ φ G a w E;have A:=E.ag x M;rw[J]at A;obtain⟨hm,A',L,H,I,A8⟩:=E.mem.get V;simp only at I;have e:=A.ft H I;have AO:L.sz=1:=A8.1;refine⟨_,by simp only[execOp,Y,e,A3 E,Sem.run_bind,im Z W O T];rfl,.bb k v _ _ _ L H (by omega) (λ_=>by rw[AO];simp[W1]) rfl⟩
      .refine aj.pure ?_;rintro ⟨rfl,O,T⟩ φ G a w E;have A:=E.ag x M;rw[J]at A;obtain⟨hm,A',L,H,I,_⟩:=E.mem.get V;simp only at I;have e:=A.ft H I;refine⟨_,by simp only[execOp,Y,e,A3 E,Sem.run_bind,im Z W O T];rfl,.bb k v _ _ _ L H (by omega) (λ_=>by rw[W1]) rfl⟩
     .rename_i key v cont _ V;refine aj.pure ?_;rintro ⟨rfl,O,T⟩ φ G a w E;have A:=E.ag x M;rw[J]at A;obtain⟨hm,A',L,H,I,_⟩:=E.mem.get V;simp only at I;have e:=A.ft H I;refine⟨_,by simp only[execOp,Y,e,A3 E,Sem.run_bind,im Z W O T];rfl,.bb k v _ _ _ L H (by omega) (λ_=>by rw[W1]) rfl⟩
     .trivial
    .rename_i d j J;refine aj.pure ?_;rintro ⟨O,T⟩ φ G a w E;have A:=E.ag x M;rw[J]at A;generalize q:a.eval x=av at A;cases A with
     |bR _ _ b off A6 A0 A1 A7 A2=>
      refine⟨.pointer (some ⟨b,off+(j+n.toNat*sz),none⟩),by simp[execOp,Y,q,A3 E,im Z W O T,W1],.bR d _ b off A6 A0 A1 A7 A2⟩
    .trivial
   .trivial
  .trivial
 .trivial
def dC(op:BinOp)(k:IntKind)(a b:Int):Option (Bool×D):=
 match op with
 | .add=>some (true,.int k (k.wrap (a+b)))
 | .sub=>some (true,.int k (k.wrap (a-b)))
 | .mul=>some (true,.int k (k.wrap (a*b)))
 | .quo=>some (b≠0,.int k (k.wrap (a.tdiv b)))
 | .rem=>some (b≠0,.int k (a.tmod b))
 | .and=>some (true,.int k (k.wrap (BitVec.ofInt k.bits a &&& BitVec.ofInt k.bits b).toNat))
 | .or=>some (true,.int k (k.wrap (BitVec.ofInt k.bits a ||| BitVec.ofInt k.bits b).toNat))
 | .xor=>some (true,.int k (k.wrap (BitVec.ofInt k.bits a ^^^ BitVec.ofInt k.bits b).toNat))
 | .andNot=>some (true,.int k (k.wrap (BitVec.ofInt k.bits a &&& ~~~BitVec.ofInt k.bits b).toNat))
 | .eql=>some (true,.bool (a == b))
 | .neq=>some (true,.bool (a != b))
 | .lss=>some (true,.bool (decide (a<b)))
 | .leq=>some (true,.bool (decide (a<=b)))
 | .gtr=>some (true,.bool (decide (b<a)))
 | .geq=>some (true,.bool (decide (b<=a)))
 |_=>none
def yJ(op:BinOp)(k:IntKind)(a b:Int):Option (Bool×D):=
 match op with
 | .shl=>some (0<=b,.int k (k.wrap (a*2^(min b.toNat k.bits))))
 | .shr=>some (0<=b,.int k (a.fdiv (2^(min b.toNat k.bits))))
 |_=>none
def iq(op:BinOp)(s t:List UInt8):Option (Bool×D):=
 match op with
 | .add=>some (s.length+t.length<=4611686018427387904,.str (s++t))
 | .eql=>some (true,.bool (s == t))
 | .neq=>some (true,.bool (!(s == t)))
 | .lss=>some (true,.bool (Op.bytesLess s t))
 | .leq=>some (true,.bool (Op.bytesLess s t||s == t))
 | .gtr=>some (true,.bool (!(Op.bytesLess s t||s == t)))
 | .geq=>some (true,.bool (!Op.bytesLess s t))
 |_=>none
def nc:TK->D->D->Option Bool
 | .int _,.int k a,.int A3 b=>if k=A3 then some (a == b)else none
 | .bool,.bool a,.bool b=>some (a == b)
 | .str,.str a,.str b=>some (a == b)
 |_,_,_=>none
def bZ:List TK->List D->List D->Option Bool
 |[],[],[]=>some true
 |k::ks,x::xs,y::M=>match nc k x y,bZ ks xs M with
  |some a,some b=>some (a&&b)
  |_,_=>none
 |_,_,_=>none
def rb(rec:TypeId->Option (List TK)):List Field->Nat->Option (List TK)
 |[],_=>some []
 |f::fs,o=>if f.name≠ "_" /\f.offset=o then (match rec f.type with
  |some ks=>match rb rec fs (o+ks.length)with
   |some r=>some (ks++r)
   |none=>none
  |none=>none)else none
def uO(P:Program):Nat->TypeId->Option (List TK)
 |0,_=>none
 |n+1,t=>match tk P t with
  | .int k=>some [.int k]
  | .bool=>some [.bool]
  | .str=>some [.str]
  | .struct=>match P.underlying t with
   |some (.struct fs)=>if P.stoodInHeld t=false then (match rb (uO P n) fs.toList 0 with
    |some ks=>if b5 P t=some ks.length then some ks else none
    |none=>none)else none
   |_=>none
  |_=>none
def bq(P:Program)(t:TypeId):Option (List TK):=
 match P.underlying t with
 |some (.struct _)=>if P.eqGuardType P.depth t=false then uO P 8 t else none
 |_=>none
def j8(P:Program)(op:BinOp)(t:TypeId)(x y:AV):br:=
 match x,y with
 | .d (.int k a),.d (.int A3 b)=>match op with
  | .shl=>.val (0<=b) (.d (.int k (k.wrap (a*2^(min b.toNat k.bits)))))
  | .shr=>.val (0<=b) (.d (.int k (a.fdiv (2^(min b.toNat k.bits)))))
  |op=>match dC op k a b with
   |some (c,d)=>.val (k=A3/\c) (.d d)
   |none=>.no
 | .d (.str a),.d (.str b)=>match iq op a b with
  |some (c,d)=>.val c (.d d)
  |none=>.no
 | .d (.bool a),.d (.bool b)=>match op with
  | .eql=>.val (tk P t=.bool) (.d (.bool (a == b)))
  | .neq=>.val (tk P t=.bool) (.d (.bool (a != b)))
  |_=>.no
 | .d (.agg a),.d (.agg b)=>match bq P t with
  |some ks=>match bZ ks a b with
   |some r=>match op with
    | .eql=>.val True (.d (.bool r))
    | .neq=>.val True (.d (.bool (!r)))
    |_=>.no
   |none=>.no
  |none=>.no
 |_,_=>.no
def rf(P:Program)(w:World)(op:BinOp)(t:TypeId)(x y:Operand)(a b:Value)(h:(∀c,a≠.agg c)/\a≠.nilIface):(eqGuard op t x y a b).run P w=.ok () w:=by
 unfold eqGuard;simp_all
def B9(P:Program)(w:World)(op:BinOp)(t:TypeId)(k:IntKind)(a b:Int)(c d)(h:dC op k a b=some (c,d))(O:c=true):∃v,(binOp op t (.int k a) (.int k b)).run P w=.ok v w/\∀F,ar w F d v:=by
 cases op<;>simp only[dC]at h<;>(try exact h.elim)<;>obtain⟨rfl,rfl⟩:=h<;>(try simp at O)<;>
  refine⟨_,by simp[binOp,Op.intDiv,O];rfl,λF=>by first|exact .int _ _|exact .bool _⟩
def rh(P:Program)(w:World)(op:BinOp)(t:TypeId)(k A3:IntKind)(a b:Int)(c d)(h:yJ op k a b=some (c,d))(O:c=true):∃v,(binOp op t (.int k a) (.int A3 b)).run P w=.ok v w/\∀F,ar w F d v:=by
 cases op<;>simp[yJ]at h<;>(try exact h.elim)<;>obtain⟨rfl,rfl⟩:=h<;>(try simp at O)<;>
  refine⟨_,by simp[binOp,Op.shift,show ¬b<0 by omega];rfl,λF=>by first|exact .int _ _|exact .bool _⟩
def Ca(P:Program)(w:World)(op:BinOp)(t:TypeId)(a b:ByteArray)(c d)(h:iq op a.data.toList b.data.toList=some (c,d))(O:c=true):∃v,(binOp op t (.string a) (.string b)).run P w=.ok v w/\∀F,ar w F d v:=by
 have Aa:a.size=a.data.toList.length:=by simp_all
 have Ab:b.size=b.data.toList.length:=by simp_all
 cases op<;>simp[iq]at h<;>(try exact h.elim)<;>obtain⟨rfl,rfl⟩:=h
 case add=>
  refine⟨.string (a++b),?_,λF=>.str _ _ (by simp)⟩;have Ax:IntKind.i64.max=9223372036854775807:=by decide
  have:¬(((a.size+b.size:Nat):Int)>IntKind.i64.max):=by grind
  simp only[binOp,Op.stringOp,this,Xw,Sem.run_pure]
 all_goals
  refine⟨_,by simp[binOp,Op.stringOp,ByteArray.toList_eq],λF=>.bool _⟩
def Cb{P:Program}{w:World}{F:Nat->Prop}{x y:D}{a b:Value}{r:Bool}{t:TypeId}(d:Nat)(h:nc (tk P t) x y=some r)(V:ar w F x a)(A0:ar w F y b):
 (Op.equalIn (d+1) t a b).run P w=.ok r w:=by
 unfold nc at h;split at h
 .rename_i A3 k n Ac m A8;split at h
  .rename_i he;subst he;simp at h;subst h;cases V;cases A0;exact run_equalIn_int w d t k _ n m (o6 A8)
  grind
 .rename_i n m A8;simp at h;subst h;cases V;cases A0;exact run_equalIn_bool' w d t n m (wi A8)
 .rename_i n m A8;simp at h;subst h;cases V with|str n _ Ak=>cases A0 with|str m _ hm=>
  subst Ak;subst hm;rw[run_equalIn_string w d t n m (ik A8),ByteArray.toList_eq,ByteArray.toList_eq]
 grind
def nf{P:Program}{w:World}{t:TypeId}{cs:Array Value}{off:Nat}{v:Value}(h:(tk P t).agg=false)(A5:tk P t≠.other)(H:cs[off]?=some v):(part t cs off).run P w=.ok v w:=by
 simp[part,lB A5,h,H]
def lf:∀{ks:List TK}{xs M:List D}{r:Bool},bZ ks xs M=some r->xs.length=ks.length/\M.length=ks.length
 |[],[],[],_,_=>⟨rfl,rfl⟩
 |k::ks,x::xs,y::M,r,h=>by
  simp[bZ]at h;split at h
  .rename_i I;obtain⟨a,b⟩:=lf I;grind
  grind
 |[],[],_::_,_,h=>by simp[bZ]at h
 |[],_::_,_,_,h=>by simp[bZ]at h
 |_::_,[],_,_,h=>by simp[bZ]at h
 |_::_,_::_,[],_,h=>by simp[bZ]at h
def tc:∀{a b:List TK}{xs M:List D}{r:Bool},bZ (a++b) xs M=some r->∃p q,bZ a (xs.take a.length) (M.take a.length)=some p/\bZ b (xs.drop a.length) (M.drop a.length)=some q/\r=(p&&q)
 |[],b,xs,M,r,h=>⟨true,r,by simp[bZ],by grind,by simp⟩
 |k::a,b,x::xs,y::M,r,h=>by
  simp[bZ]at h;split at h
  .rename_i u v J I;obtain⟨p,q,A1,A4,Ay⟩:=tc I;refine⟨u&&p,q,?_,by grind,by grind⟩;simp[bZ,J,A1]
  grind
 |_::_,_,[],_,_,h=>by simp[bZ]at h
 |_::_,_,_::_,[],_,h=>by simp[bZ]at h
def pO{P:Program}{w:World}{F:Nat->Prop}{rec:TypeId->Option (List TK)}{Ad:Nat}{W Y:Array Value}
 (ih:∀(t:TypeId)(ks:List TK),rec t=some ks->∀(o:Nat)(xs M:List D)(r:Bool),bZ ks xs M=some r->(∀(i:Nat) c v,xs[i]?=some c->W[o+i]?=some v->ar w F c v)->(∀(i:Nat) c v,M[i]?=some c->Y[o+i]?=some v->ar w F c v)->
  o+xs.length<=W.size->o+M.length<=Y.size->∃a b,(part t W o).run P w=.ok a w/\(part t Y o).run P w=.ok b w/\(Op.equalIn Ad t a b).run P w=.ok r w):
 ∀(fs:List Field)(o:Nat)(ks:List TK),rb rec fs o=some ks->∀(xs M:List D)(r:Bool),bZ ks xs M=some r->(∀(i:Nat) c v,xs[i]?=some c->W[o+i]?=some v->ar w F c v)->(∀(i:Nat) c v,M[i]?=some c->Y[o+i]?=some v->ar w F c v)->
  o+xs.length<=W.size->o+M.length<=Y.size->(Op.eqFields Ad W Y fs).run P w=.ok r w
 |[],o,ks,Z,xs,M,r,h,_,_,_,_=>by
  simp[rb]at Z;subst Z;cases xs<;>cases M<;>simp[bZ]at h;subst h;simp[Op.eqFields]
 |f::fs,o,ks,Z,xs,M,r,h,V,A0,Ae,Af=>by
  simp only[rb]at Z;split at Z
  .rename_i AA;obtain⟨Az,Al⟩:=AA;split at Z
   .rename_i AF J;split at Z
    .rename_i Ac I;cases Z;obtain⟨p,q,A1,A4,rfl⟩:=tc h;obtain⟨AH,AI⟩:=lf h;obtain⟨a,b,g1,g2,g3⟩:=ih f.type AF J o _ _ p A1 (λi c v O H=>V i c v (by grind) H) (λi c v O H=>A0 i c v (by grind) H) (by grind) (by grind);have g4:=pO ih fs (o+AF.length) Ac I _ _ q A4 (λi c v O H=>V (AF.length+i) c v (by grind) (by grind)) (λi c v O H=>A0 (AF.length+i) c v (by grind) (by grind)) (by grind) (by grind);rw[<-Al]at g1 g2;simp[Op.eqFields,g1,g2,g3,Sem.run_ite];grind
    grind
   grind
  grind
def yM{P:Program}{w:World}{F:Nat->Prop}(d:Nat):∀(n:Nat)(W Y:Array Value)(t:TypeId)(ks:List TK),uO P n t=some ks->∀(o:Nat)(xs M:List D)(r:Bool),bZ ks xs M=some r->
 (∀(i:Nat) c v,xs[i]?=some c->W[o+i]?=some v->ar w F c v)->(∀(i:Nat) c v,M[i]?=some c->Y[o+i]?=some v->ar w F c v)->o+xs.length<=W.size->o+M.length<=Y.size->
 ∃a b,(part t W o).run P w=.ok a w/\(part t Y o).run P w=.ok b w/\(Op.equalIn (d+n) t a b).run P w=.ok r w
 |0,_,_,_,_,Z,_,_,_,_,_,_,_,_,_=>by cases Z
 |n+1,W,Y,t,ks,Z,o,xs,M,r,h,V,A0,Ae,Af=>by
  have one:∀k:TK,tk P t=k->k.agg=false->k≠.other->ks=[k]->∃a b,(part t W o).run P w=.ok a w/\(part t Y o).run P w=.ok b w/\(Op.equalIn (d+(n+1)) t a b).run P w=.ok r w:=by
   rintro k A7 B' B0 rfl;obtain⟨AH,AI⟩:=lf h;match xs,M,AH,AI with
   |[x],[y],_,_=>
    simp[bZ]at h;split at h
    .have A1:=nf (P:=P) (w:=w) (t:=t) (by grind) (by grind) (show W[o]?=some W[o] by grind);have A4:=nf (P:=P) (w:=w) (t:=t) (by grind) (by grind) (show Y[o]?=some Y[o] by grind);exact⟨_,_,A1,A4,Cb (d+n) (by grind) (V 0 x _ rfl (by grind)) (A0 0 y _ rfl (by grind))⟩
    grind
  unfold uO at Z;split at Z
  .rename_i k A7;exact one _ A7 rfl (by simp) (by grind)
  .rename_i A7;exact one _ A7 rfl (by simp) (by grind)
  .rename_i A7;exact one _ A7 rfl (by simp) (by grind)
  .rename_i A7;split at Z
   .rename_i fs hu;split at Z
    .rename_i AJ;split at Z
     .rename_i AC AK;split at Z
      .rename_i An;cases Z;obtain⟨AH,AI⟩:=lf h;have Ag:∀cs:Array Value,(part t cs o).run P w=.ok (.agg (cs.extract o (o+ks.length))) w:=by
        have Aa:=lB (P:=P) (t:=t) (w:=w) (by grind);simp[part,Aa,A7,TK.agg,run_sizeOf An]
       refine⟨_,_,Ag W,Ag Y,?_⟩;have AA:P.fieldsOf t=fs:=by simp[Program.fieldsOf,hu]
       show (Op.equalIn (d+n+1) t _ _).run P w=_;rw[run_equalIn_struct w (d+n) t _ _ (by grind) AJ,AA];refine pO (F:=F) (λA6 AC AL AM AN AO AP AQ AR AS AT AU=>yM d n _ _ A6 AC AL AM AN AO AP AQ AR AS AT AU) fs.toList 0 ks AK xs M r h (λi c v O H=>?_) (λi c v O H=>?_) ?_ ?_
       .grind
       .grind
       .grind
       grind
      grind
     grind
    grind
   grind
  grind
def Br(P:Program)(S:St)(o:Oper)(op:BinOp)(t A6:TypeId)(x y:Operand)(A5:o.op=.binOp op t x y A6)(V:(S.ag x).1=true)(A0:(S.ag y).1=true):aj P S o (j8 P op t (S.ag x).2 (S.ag y).2):=by
 have AB:∀(a:Act)(w:World)(v:Value),(∀c,a.eval x≠.agg c)->a.eval x≠.nilIface->(binOp op t (a.eval x) (a.eval y)).run P w=.ok v w->(execOp a.eval o).run P w=.ok (.value v) w:=by
  intro a w v J I h;simp[execOp,A5,rf P w op t x y _ (a.eval y) ⟨J,I⟩,h]
 unfold j8;split
 .rename_i k n A3 m T A9;have E:∀{φ G a w},Rel φ G S a w->a.eval x=.int k n/\a.eval y=.int A3 m:=λA=>by
   have J:=A.ag x V;have I:=A.ag y A0;rw[T]at J;rw[A9]at I;exact⟨eT J,eT I⟩
  split
  .refine aj.pure λO φ G a w A=>?_;obtain⟨v,J,I⟩:=rh P w .shl t k A3 n m _ _ rfl (decide_eq_true O);exact⟨v,AB a w v (by simp[(E A).1]) (by simp[(E A).1]) (by rw[(E A).1,(E A).2];exact J),.d _ _ (I _)⟩
  .refine aj.pure λO φ G a w A=>?_;obtain⟨v,J,I⟩:=rh P w .shr t k A3 n m _ _ rfl (decide_eq_true O);exact⟨v,AB a w v (by simp[(E A).1]) (by simp[(E A).1]) (by rw[(E A).1,(E A).2];exact J),.d _ _ (I _)⟩
  .split
   .rename_i c d h;refine aj.pure ?_;rintro ⟨rfl,O⟩ φ G a w A;obtain⟨v,J,I⟩:=B9 P w op t k n m c d h O;exact⟨v,AB a w v (by simp[(E A).1]) (by simp[(E A).1]) (by rw[(E A).1,(E A).2];exact J),.d _ _ (I _)⟩
   .trivial
 .rename_i s u T A9;split
  .rename_i c d h;refine aj.j3 λO φ G a w A=>?_;have J:=A.ag x V;have I:=A.ag y A0;rw[T]at J;rw[A9]at I;obtain⟨Ao,A1,rfl⟩:=lE J;obtain⟨Ap,A4,rfl⟩:=lE I;obtain⟨v,AW,AX⟩:=Ca P w op t Ao Ap c d h O;exact⟨v,AB a w v (by simp[A1]) (by simp[A1]) (by rw[A1,A4];exact AW),.d _ _ (AX _)⟩
  .trivial
 .rename_i n m T A9;have E:∀{φ G a w},Rel φ G S a w->a.eval x=.bool n/\a.eval y=.bool m:=λA=>by
   have J:=A.ag x V;have I:=A.ag y A0;rw[T]at J;rw[A9]at I;exact⟨mI J,mI I⟩
  split
  .refine aj.pure λO φ G a w A=>⟨.bool (n == m),AB a w _ (by simp[(E A).1]) (by simp[(E A).1]) ?_,.d _ _ (.bool _)⟩;rw[(E A).1,(E A).2];simp[binOp,Op.equal,Op.maxDepth,run_equalIn_bool' w 9999 t n m (wi O)]
  .refine aj.pure λO φ G a w A=>⟨.bool (n != m),AB a w _ (by simp[(E A).1]) (by simp[(E A).1]) ?_,.d _ _ (.bool _)⟩;rw[(E A).1,(E A).2];simp[binOp,Op.equal,Op.maxDepth,run_equalIn_bool' w 9999 t n m (wi O),bne]
  .trivial
 .rename_i xs M T A9;split
  .rename_i ks A';split
   .rename_i r Aq;have key:∀{φ G a w},Rel φ G S a w->∃W Y,a.eval x=.agg W/\a.eval y=.agg Y/\(Op.equal t (.agg W) (.agg Y)).run P w=.ok r w/\(eqGuard op t x y (.agg W) (.agg Y)).run P w=.ok () w:=by
     intro φ G a w A;have J:=A.ag x V;have I:=A.ag y A0;rw[T]at J;rw[A9]at I;generalize a.eval x=B1 at J;generalize a.eval y=B2 at I;cases J with|d _ _ J=>
     cases I with|d _ _ I=>
     cases J with|agg _ W Ae B3 Ar=>
     cases I with|agg _ Y Af B4 As=>
     unfold bq at A';split at A'
     .rename_i fs hu;split at A'
      .rename_i At;have AA:P.fieldsOf t=fs:=by simp[Program.fieldsOf,hu]
       have A8:tk P t=.struct:=by simp[tk,hu]
       unfold uO at A';simp only[A8,hu]at A';split at A'
       .rename_i AJ;split at A'
        .rename_i AC AK;split at A'
         .cases A';refine⟨W,Y,rfl,rfl,?_,?_⟩
          .unfold Op.equal Op.maxDepth;rw[run_equalIn_struct w 9999 t W Y (by rw[AA];exact hu) AJ,AA];exact pO (F:=Fo G φ S.mem) (λA6 AC AL AM AN AO AP AQ AR AS AT AU=>yM 9992 7 _ _ A6 AC AL AM AN AO AP AQ AR AS AT AU) fs.toList 0 ks AK xs M r Aq (λi c v O H=>Ar i c v O (by simpa using H)) (λi c v O H=>As i c v O (by simpa using H)) (by omega) (by omega)
          .cases op<;>simp[eqGuard,At]
         .cases A'
        .cases A'
       .cases A'
      .cases A'
     .cases A'
    split
    .refine aj.pure λ_ φ G a w A=>?_;obtain⟨W,Y,A1,A4,J,I⟩:=key A;exact⟨.bool r,by simp[execOp,A5,A1,A4,I,binOp,J],.d _ _ (.bool _)⟩
    .refine aj.pure λ_ φ G a w A=>?_;obtain⟨W,Y,A1,A4,J,I⟩:=key A;exact⟨.bool (!r),by simp[execOp,A5,A1,A4,I,binOp,J],.d _ _ (.bool _)⟩
    .trivial
   .trivial
  .trivial
 .trivial
def fk(P:Program)(m:Mem)(neg:Bool)(t:TypeId)(x:AV):Value->br
 | .slice none 0 0=>match tk P t with
  | .slice _=>match x with
   | .d (.list (_::_))=>.val true (.d (.bool neg))
   | .lit (.slice none 0 0)=>.val true (.d (.bool (!neg)))
   | .nn=>.val true (.d (.bool neg))
   | .vec k U _ len=>match Mem.get m k with
    |some ⟨_,v,.vec _ _⟩=>.val (v=U/\0<len) (.d (.bool neg))
    |_=>.no
   |_=>.no
  |_=>.no
 | .pointer none=>match tk P t with
  | .ptr _=>match x with
   | .lit (.pointer none)=>.val true (.d (.bool (!neg)))
   | .tn _ _ _=>.val true (.d (.bool (!neg)))
   | .ptr k U _=>match Mem.get m k with
    |some ⟨_,v,_⟩=>.val (v=U) (.d (.bool neg))
    |_=>.no
   |_=>.no
  |_=>.no
 | .nilIface=>match tk P t with
  | .iface=>match x with
   | .dJ _ _=>.val true (.d (.bool neg))
   | .err=>.val true (.d (.bool neg))
   | .lit .nilIface=>.val true (.d (.bool (!neg)))
   |_=>.no
  |_=>.no
 |_=>.no
def Cc{φ w F d AY v}(h:ai φ w F (.d (.list (d::AY))) v):∃b off cap,v=.slice (some ⟨b,off,none⟩) (AY.length+1) cap:=by
 cases h with|d _ _ h=>
 cases h with|list _ b off cap sz vs=>exact⟨b,off,cap,rfl⟩
def yN{P:Program}{t e:TypeId}(h:tk P t=.ptr e):P.underlying t=some (.pointer e):=by
 unfold tk at h;split at h<;>simp_all
def FW{P:Program}{t:TypeId}(h:tk P t=.iface):∃ms,P.underlying t=some (.interface ms):=by
 unfold tk at h;split at h<;>simp_all
def lg{P:Program}(w:World)(d:Nat){t e:TypeId}(a:Option Addr)(n c:Nat)(h:P.underlying t=some (.slice e)):
 (Op.equalIn (d+1) t (.slice a n c) (.slice none 0 0)).run P w=.ok a.isNone w:=by
 cases a<;>simp[Op.equalIn,run_underlying h]
def rk{P:Program}(w:World)(d:Nat){t e:TypeId}(a:Option Addr)(h:P.underlying t=some (.pointer e)):
 (Op.equalIn (d+1) t (.pointer a) (.pointer none)).run P w=.ok a.isNone w:=by
 cases a<;>simp[Op.equalIn,run_underlying h]
def te{P:Program}(w:World)(d:Nat){t:TypeId}{ms}(Au:TypeId)(v:Value)(h:P.underlying t=some (.interface ms)):
 (Op.equalIn (d+1) t (.iface Au v) .nilIface).run P w=.ok false w:=by
 simp[Op.equalIn,run_underlying h]
def yO{P:Program}(w:World)(d:Nat){t:TypeId}{ms}(h:P.underlying t=some (.interface ms)):
 (Op.equalIn (d+1) t .nilIface .nilIface).run P w=.ok true w:=by
 simp[Op.equalIn,run_underlying h]
def Im{P:Program}{o:Oper}{neg:Bool}{t A6:TypeId}{x:Operand}{v:Value}(A5:o.op=.binOp (if neg then .neq else .eql) t x (.const v) A6){a:Act}{w:World}{b:Bool}
 (J:∀c,a.eval x≠.agg c) (Ah:v=.slice none 0 0\/v=.pointer none\/v=.nilIface) (Ai:(∀k n,a.eval x≠.int k n)/\(∀k n,a.eval x≠.float k n)/\(∀k n m,a.eval x≠.complex k n m)/\(∀s,a.eval x≠.string s))
 (h:(Op.equalIn 10000 t (a.eval x) v).run P w=.ok b w):(execOp a.eval o).run P w=.ok (.value (.bool (if neg then !b else b))) w:=by
 have e:a.eval (.const v)=v:=rfl;have AD:(eqGuard (if neg then .neq else .eql) t x (.const v) (a.eval x) v).run P w=.ok () w:=by
  unfold eqGuard;generalize a.eval x=u at J⊢;rcases Ah with rfl|rfl|rfl<;>cases u<;>cases neg<;>simp
 have Ab:(binOp (if neg then .neq else .eql) t (a.eval x) v).run P w=.ok (.bool (if neg then !b else b)) w:=by
  generalize a.eval x=u at h Ai⊢;obtain⟨g1,g2,g3,g4⟩:=Ai;rcases Ah with rfl|rfl|rfl<;>cases u<;>cases neg<;>simp_all [binOp,Op.equal,Op.maxDepth]
 simp only[execOp,A5,e,Sem.run_bind,AD,Result.andThen_ok,Ab,Sem.run_pure]
def Bt(P:Program)(S:St)(o:Oper)(neg:Bool)(t A6:TypeId)(x:Operand)(v:Value)(A5:o.op=.binOp (if neg then .neq else .eql) t x (.const v) A6)(V:(S.ag x).1=true):aj P S o (fk P S.mem neg t (S.ag x).2 v):=by
 have go:∀{φ G a w}{b:Bool},Rel φ G S a w->(∀c,a.eval x≠.agg c)->(v=.slice none 0 0\/v=.pointer none\/v=.nilIface)->((∀k n,a.eval x≠.int k n)/\(∀k n,a.eval x≠.float k n)/\(∀k n m,a.eval x≠.complex k n m)/\(∀s,a.eval x≠.string s))->
  (Op.equalIn 10000 t (a.eval x) v).run P w=.ok b w->∃AG,(execOp a.eval o).run P w=.ok (.value AG) w/\ai φ w (Fo G φ S.mem) (.d (.bool (if neg then !b else b))) AG:=by
  intro φ G a w b A J I AW AX;exact⟨_,Im A5 J I AW AX,.d _ _ (.bool _)⟩
 have B5:∀{b:Bool},(if neg=true then !b else b)=(if neg=true then !b else b):=rfl;unfold fk;split
 .split
  .rename_i e AE;have A2:=cY AE;split
   .rename_i d AY T;refine aj.j3 λ_ φ G a w A=>?_;have H:=A.ag x V;rw[T]at H;obtain⟨b,off,cap,E⟩:=Cc H;have:=go (b:=false) A (by simp[E]) (.inl rfl) (by simp[E]) (by rw[E];exact lg w 9999 _ _ _ A2);cases neg<;>simpa using this
   .rename_i T;refine aj.j3 λ_ φ G a w A=>?_;have H:=A.ag x V;rw[T]at H;generalize E:a.eval x=u at H;cases H;have:=go (b:=true) A (by simp[E]) (.inl rfl) (by simp[E]) (by rw[E];exact lg w 9999 _ _ _ A2);cases neg<;>simpa using this
   .rename_i T;refine aj.j3 λ_ φ G a w A=>?_;have H:=A.ag x V;rw[T]at H;generalize E:a.eval x=u at H;cases H;have:=go (b:=false) A (by simp[E]) (.inl rfl) (by simp[E]) (by rw[E];exact lg w 9999 _ _ _ A2);cases neg<;>simpa using this
   .rename_i k U off len T;split
    .rename_i key AG sz rows AD;refine aj.pure ?_;rintro ⟨rfl,B6⟩ φ G a w A;have H:=A.ag x V;rw[T]at H;obtain⟨hm,Z,L,AZ,A_,Av⟩:=A.mem.get AD;generalize E:a.eval x=u at H;cases H with
     |vec _ _ _ _ _ L' Aj _ h _=>
      rw[AZ]at Aj;cases Aj;obtain⟨ao,cap,rfl,B7,Aw⟩:=h A_.symm;obtain⟨rfl,_⟩:=Aw (by omega);have:=go (b:=false) A (by simp[E]) (.inl rfl) (by simp[E]) (by rw[E];exact lg w 9999 _ _ _ A2);cases neg<;>simpa using this
    .trivial
   .trivial
  .trivial
 .split
  .rename_i e AE;have A2:=yN AE;split
   .rename_i T;refine aj.j3 λ_ φ G a w A=>?_;have H:=A.ag x V;rw[T]at H;generalize E:a.eval x=u at H;cases H;have:=go (b:=true) A (by simp[E]) (.inr (.inl rfl)) (by simp[E]) (by rw[E];exact rk w 9999 _ A2);cases neg<;>simpa using this
   .rename_i T;refine aj.j3 λ_ φ G a w A=>?_;have H:=A.ag x V;rw[T]at H;generalize E:a.eval x=u at H;cases H;have:=go (b:=true) A (by simp[E]) (.inr (.inl rfl)) (by simp[E]) (by rw[E];exact rk w 9999 _ A2);cases neg<;>simpa using this
   .rename_i k U off T;split
    .rename_i key AG c AD;refine aj.pure ?_;rintro rfl φ G a w A;have H:=A.ag x V;rw[T]at H;obtain⟨hm,Z,L,AZ,A_,Av⟩:=A.mem.get AD;have E:=H.fZ AZ A_;have:=go (b:=false) A (by simp[E]) (.inr (.inl rfl)) (by simp[E]) (by rw[E];exact rk w 9999 _ A2);cases neg<;>simpa using this
    .trivial
   .trivial
  .trivial
 .split
  .rename_i AE;obtain⟨ms,A2⟩:=FW AE;split
   .rename_i B8 BA T;refine aj.j3 λ_ φ G a w A=>?_;have H:=A.ag x V;rw[T]at H;generalize E:a.eval x=u at H;cases H;have:=go (b:=false) A (by simp[E]) (.inr (.inr rfl)) (by simp[E]) (by rw[E];exact te w 9999 _ _ A2);cases neg<;>simpa using this
   .rename_i T;refine aj.j3 λ_ φ G a w A=>?_;have H:=A.ag x V;rw[T]at H;generalize E:a.eval x=u at H;cases H;have:=go (b:=false) A (by simp[E]) (.inr (.inr rfl)) (by simp[E]) (by rw[E];exact te w 9999 _ _ A2);cases neg<;>simpa using this
   .rename_i T;refine aj.j3 λ_ φ G a w A=>?_;have H:=A.ag x V;rw[T]at H;generalize E:a.eval x=u at H;cases H;have:=go (b:=true) A (by simp[E]) (.inr (.inr rfl)) (by simp[E]) (by rw[E];exact yO w 9999 A2);cases neg<;>simpa using this
   .trivial
  .trivial
 .trivial
def j9(s:List UInt8)(i:Nat):UInt8:=s[i]?.getD 0
def kP(P:Program)(t:TypeId)(x i:AV):br:=
 match i with
 | .d (.int _ n)=>match x with
  | .d (.str s)=>.val (tk P t=.str/\0<=n/\n.toNat<s.length) (.d (.int .u8 (j9 s n.toNat).toNat))
  | .d (.agg cs)=>match tk P t with
   | .arr len e=>match (tk P e).agg,b5 P e with
    |false,some 1=>.val (0<=n/\n.toNat<len/\len<=cs.length/\tk P e≠.other) (.d (D.at cs n.toNat))
    |true,some sz=>.val (0<=n/\n.toNat<len/\len*sz<=cs.length) (.d (.agg ((cs.drop (n.toNat*sz)).take sz)))
    |_,_=>.no
   |_=>.no
  |_=>.no
 |_=>.no
def DV(b:ByteArray)(i:Nat):b[i]?=b.data.toList[i]?:=by
 by_cases h:i<b.size
 .have AL:i<b.data.size:=h;rw[getElem?_pos b i h,Xp,getElem?_pos b.data i AL];rfl
 .have AL:¬i<b.data.size:=h;rw[getElem?_neg b i h,Xp,getElem?_neg b.data i AL]
def yP{P:Program}{w:World}{t:TypeId}{b:ByteArray}{k:IntKind}{n:Int}(AB:tk P t=.str)(V:0<=n)(I:n.toNat<b.data.toList.length):
 (Instr.index t (.string b) (.int k n)).run P w=.ok (.int .u8 (j9 b.data.toList n.toNat).toNat) w:=by
 have e:b[n.toNat]?=some (j9 b.data.toList n.toNat):=by rw[DV];simp only[j9];rw[Xh I];rfl
 simp only[Instr.index,asIntOf,Sem.run_bind,Sem.run_pure,Result.andThen_ok,run_underlying (ik AB),V,XO,e]
def wY{P:Program}{w:World}{t:TypeId}{cs:Array Value}{off n:Nat}(h:(tk P t).agg=true)(Z:b5 P t=some n):(part t cs off).run P w=.ok (.agg (cs.extract off (off+n))) w:=by
 have J:tk P t≠.other:=by intro AL;rw[AL]at h;cases h
 simp[part,lB J,h,run_sizeOf Z]
def qF{w F}{cs:List D}{a:Array Value}(h:ar w F (.agg cs) (.agg a))(o n:Nat)(hle:o+n<=cs.length):ar w F (.agg ((cs.drop o).take n)) (.agg (a.extract o (o+n))):=by
 have W:=h.cells;cases h with|agg _ _ I Ae E=>
 have M:=ar.jM (w:=w) (F:=F) (cs:=(cs.drop o).take n) (vs:=(a.toList.drop o).take n) (by simp;omega)
  (λv AG=>W.2.1 v (by simpa [Value.cells]using WX (W3 AG)))
  (λi c v A M=>by
   rw[WM]at A M;split at A
   .rename_i hi;simp only[hi,XO]at M;exact E (o+i) c v (by simpa using A) (by simpa using M)
   .cases A)
 have e:((a.toList.drop o).take n).toArray=a.extract o (o+n):=by
  apply Array.ext';simp
 rwa [e]at M
def DW(P:Program)(S:St)(o:Oper)(t:TypeId)(x i:Operand)(J:o.op=.index t x i)(H:(S.ag x).1=true)(hi:(S.ag i).1=true):aj P S o (kP P t (S.ag x).2 (S.ag i).2):=by
 unfold kP;split
 .rename_i k n AZ;split
  .rename_i s O;refine aj.pure ?_;rintro ⟨AB,V,I⟩ φ G a w E;have A:=E.ag x H;have M:=E.ag i hi;rw[O]at A;rw[AZ]at M;obtain⟨b,A2,rfl⟩:=lE A;exact⟨_,by simp only[execOp,J,A2,eT M,Sem.run_bind,yP AB V I];rfl,.d _ _ (.int _ _)⟩
  .rename_i cs O;split
   .rename_i len e T;split
    .rename_i A_ Z;refine aj.pure ?_;rintro ⟨V,I,hle,Aa⟩ φ G a w E;have A:=E.ag x H;have M:=E.ag i hi;rw[O]at A;rw[AZ]at M;generalize Y:a.eval x=av at A;cases A with|d _ _ A=>
     cases A with|agg _ A5 As At Af=>
     have AC:n<(len:Int):=by omega
     have Ag:n.toNat<A5.size:=by omega
     refine⟨A5[n.toNat],?_,.d _ _ (Af n.toNat _ _ (getD_at (by omega)) (by simp[Ag]))⟩;have AD:=nf (P:=P) (w:=w) (t:=e) (cs:=A5) (off:=n.toNat*1) A_ Aa (v:=A5[n.toNat]) (by simp[Ag]);simp only[XR]at AD;simp[execOp,J,Y,eT M,Instr.index,asIntOf,run_underlying (nb T),V,AC,run_sizeOf Z,AD]
    .rename_i sz A_ Z;refine aj.pure ?_;rintro ⟨V,I,hle⟩ φ G a w E;have A:=E.ag x H;have M:=E.ag i hi;rw[O]at A;rw[AZ]at M;generalize Y:a.eval x=av at A;cases A with|d _ _ A=>
     have Au:=A;cases A with|agg _ A5 As At Af=>
     have AC:n<(len:Int):=by omega
     have Av:n.toNat*sz+sz<=cs.length:=by
      have:(n.toNat+1)*sz<=len*sz:=WL _ I;rw[Xa]at this;omega
     refine⟨_,?_,.d _ _ (qF Au (n.toNat*sz) sz Av)⟩;have AD:=wY (P:=P) (w:=w) (t:=e) (cs:=A5) (off:=n.toNat*sz) A_ Z;simp[execOp,J,Y,eT M,Instr.index,asIntOf,run_underlying (nb T),V,AC,run_sizeOf Z,AD]
    .trivial
   .trivial
  .trivial
 .trivial
def bound(m:Option AV)(AQ:Int):Option Int:=
 match m with
 |none=>some AQ
 |some (.d (.int _ n))=>some n
 |some _=>none
def gf(P:Program)(m:Mem)(t:TypeId)(x:AV)(lo hi:Option AV):br:=
 match x with
 | .d (.str s)=>match bound lo 0,bound hi s.length with
  |some l,some h=>.val (tk P t=.str/\0<=l/\l<=h/\h.toNat<=s.length) (.d (.str ((s.take h.toNat).drop l.toNat)))
  |_,_=>.no
 | .d (.list xs)=>match tk P t with
  | .slice e=>match b5 P e,bound lo 0,bound hi xs.length with
   |some sz,some l,some h=>.val (0<=l/\l<=h/\h.toNat<=xs.length/\(∀d∈xs,d.size=sz)) (.d (.list ((xs.take h.toNat).drop l.toNat)))
   |_,_,_=>.no
  |_=>.no
 | .vec k U off len=>match tk P t,Mem.get m k with
  | .slice e,some ⟨_,v,.vec A3 _⟩=>match b5 P e,bound lo 0,bound hi len with
   |some sz,some l,some h=>.val (v=U/\A3=sz/\0<=l/\l<=h/\h.toNat<=len) (.vec k U (off+l.toNat) (h.toNat-l.toNat))
   |_,_,_=>.no
  | .slice e,some ⟨_,v,.vv _ _⟩=>match b5 P e,bound lo 0,bound hi len with
   |some sz,some l,some h=>.val (v=U/\sz=1/\0<=l/\l<=h/\h.toNat<=len) (.vec k U (off+l.toNat) (h.toNat-l.toNat))
   |_,_,_=>.no
  |_,_=>.no
 | .bb k U i j=>match tk P t,Mem.get m k with
  | .arr n e,some ⟨_,v,.vec A3 rows⟩=>match b5 P e,bound lo 0,bound hi n with
   |some sz,some l,some h=>.val (v=U/\A3=sz/\i=0/\j=0/\n<=rows.length/\0<=l/\l<=h/\h.toNat<=n) (.vec k U l.toNat (h.toNat-l.toNat))
   |_,_,_=>.no
  |_,_=>.no
 | .ptr k U off=>match tk P t,Mem.get m k with
  | .arr n e,some ⟨_,v,.box cs⟩=>match b5 P e,bound lo 0,bound hi n with
   |some sz,some l,some h=>.val (v=U/\sz=1/\off+n<=cs.length/\0<=l/\l<=h/\h.toNat<=n) (.vec k U (off+l.toNat) (h.toNat-l.toNat))
   |_,_,_=>.no
  |_,_=>.no
 |_=>.no
def en{P:Program}{w:World}{isS:Bool}{len cap:Nat}{lo hi:Option Value}{l h:Int}
 (A7:(lo=none/\l=0)\/∃k,lo=some (.int k l)) (A8:(hi=none/\h=len)\/∃k,hi=some (.int k h)) (V:0<=l) (hle:l<=h) (A1:h.toNat<=cap):
 (Instr.sliceBounds isS len cap lo hi none).run P w=.ok (l.toNat,h.toNat,cap) w:=by
 have A:h<=(cap:Int):=by omega
 have M:0<=h:=by omega
 have AM:l<=(h.toNat:Int):=by omega
 rcases A7 with ⟨rfl,rfl⟩|⟨k,rfl⟩<;>rcases A8 with ⟨rfl,rfl⟩|⟨B9,rfl⟩<;>
  simp_all [Instr.sliceBounds,Instr.sliceBound,asIntOf]
def dL{S:St}{φ G a w}(E:Rel φ G S a w){x:Option Operand}{AQ n:Int}(H:∀y,x=some y->(S.ag y).1=true)(h:bound (x.map λy=>(S.ag y).2) AQ=some n):
 (x.map a.eval=none/\n=AQ)\/∃k,x.map a.eval=some (.int k n):=by
 cases x with
 |none=>simp[bound]at h;exact .inl ⟨rfl,h.symm⟩
 |some y=>
  right;simp only[XB]at h⊢;unfold bound at h;split at h
  .rename_i heq;cases heq
  .rename_i k m heq;simp at h heq;subst h;have:=E.ag y (H y rfl);rw[heq]at this;exact⟨k,by rw[eT this]⟩
  .cases h
def Ce{w F xs v sz}(h:ar w F (.list xs) v)(Z:∀d∈xs,d.size=sz){l hh:Nat}(hle:l<=hh)(Aw:hh<=xs.length):
 ∃ao cap,v=.slice ao xs.length cap/\xs.length<=cap/\(ao=none->cap=0)/\∀AH AN,(AN=none->AH=0)->hh-l<=AH->(AN=ao.map (·.add (l*sz))\/(hh-l=0))->ar w F (.list ((xs.take hh).drop l)) (.slice AN (hh-l) AH):=by
 have I:((xs.take hh).drop l).length=hh-l:=by simp;omega
 generalize H:D.list xs=x at h;cases h with
 |nil a c Ab=>
  simp at H;subst H;refine⟨a,c,rfl,by simp,Ab,λAH AN Ac _ _=>?_⟩;have A:hh-l=0:=by simp at Aw;omega
  rw[A];simp;exact .nil _ _ Ac
 |list AO b off cap A3 vs A1 Ax Ay AR AG W=>
  simp at H;subst H;refine⟨_,cap,rfl,A1,by simp,λAH AN Ac AS AT=>?_⟩;by_cases Ah:hh-l=0
  .have e:(xs.take hh).drop l=[]:=W9 (by omega);rw[e,Ah];exact .nil _ _ Ac
  .have AT:=AT.resolve_right Ah;have Az:A3=sz:=by
    have Ai:0<xs.length:=by omega
    rw[<-AR xs[0] (Xf Ai),Z xs[0] (Xf Ai)]
   subst Az;simp only[XB,cF]at AT;rw[AT,<-I];refine .list _ b (off+l*A3) AH A3 (λi=>vs (l+i)) (by rw[I];exact AS) Ax Ay (λd A9=>AR d (W3 (WX A9))) (λi d A9=>?_) (λi j c hi B'=>?_)
   .rw[W6,WM]at A9;split at A9
    .exact AG _ d A9
    .cases A9
   .have:=W (l+i) j c (by rw[I]at hi;omega) B';rw[Xa,<-W1]at this;exact this
 |_=>simp at H
def FX(P:Program)(S:St)(o:Oper)(t:TypeId)(x:Operand)(lo hi:Option Operand)(J:o.op=.slice t x lo hi none)(H:(S.ag x).1=true)(A7:∀y,lo=some y->(S.ag y).1=true)(A8:∀y,hi=some y->(S.ag y).1=true):
 aj P S o (gf P S.mem t (S.ag x).2 (lo.map λy=>(S.ag y).2) (hi.map λy=>(S.ag y).2)):=by
 unfold gf;split
 .rename_i s O;split
  .rename_i l h I hh;refine aj.pure ?_;rintro ⟨AB,V,hle,A1⟩ φ G a w E;have A:=E.ag x H;rw[O]at A;obtain⟨b,A2,rfl⟩:=lE A;have AU:b.size=b.data.toList.length:=by rw[WQ];rfl
   have A4:=en (P:=P) (w:=w) (isS:=false) (len:=b.size) (cap:=b.size) (dL E A7 I) (by have:=dL E A8 hh;rw[<-AU]at this;exact this) V hle (by rw[AU];exact A1);refine⟨.string (b.extract l.toNat h.toNat),?_,.d _ _ (.str _ _ ?_)⟩
   .simp[execOp,J,A2,Instr.sliceAt,Instr.slice,run_underlying (ik AB),A4]
   .simp[ByteArray.data_extract,List.drop_take]
  .trivial
 .rename_i xs O;split
  .rename_i e T;split
   .rename_i sz l h Z I hh;refine aj.pure ?_;rintro ⟨V,hle,A1,AR⟩ φ G a w E;have A:=E.ag x H;rw[O]at A;generalize Y:a.eval x=av at A;cases A with|d _ _ A=>
    obtain⟨ao,cap,rfl,BA,Ab,B0⟩:=Ce A AR (l:=l.toNat) (hh:=h.toNat) (by omega) A1;have W:h.toNat<=cap:=by omega
    have A4:=en (P:=P) (w:=w) (isS:=true) (len:=xs.length) (cap:=cap) (dL E A7 I) (dL E A8 hh) V hle W;refine⟨.slice (if cap=l.toNat then ao else ao.map (·.add (l.toNat*sz))) (h.toNat-l.toNat) (cap-l.toNat),?_,.d _ _ (B0 _ _ (λAC=>?_) (by omega) ?_)⟩
    .simp[execOp,J,Y,Instr.sliceAt,Instr.slice,run_underlying (cY T),A4,run_sizeOf Z]
    .have:ao=none:=by split at AC<;>simp_all
     have:=Ab this;omega
    .by_cases B1:cap=l.toNat
     .exact .inr (by omega)
     .exact .inl (by simp[B1])
   .trivial
  .trivial
 .rename_i k U off len O;split
  .rename_i e key v A3 rows T A6;split
   .rename_i sz l h Z I hh;refine aj.pure ?_;rintro ⟨rfl,rfl,V,hle,A1⟩ φ G a w E;have A:=E.ag x H;rw[O]at A;obtain⟨hm,AW,L,A0,A',AE⟩:=E.mem.get A6;simp only at A';generalize Y:a.eval x=av at A;cases A with
    |vec _ _ _ _ _ L' AA _ AF _=>
     rw[A0]at AA;cases AA;obtain⟨ao,cap,rfl,Aj,AX⟩:=AF A'.symm;clear AF;have A4:=en (P:=P) (w:=w) (isS:=true) (len:=len) (cap:=cap) (dL E A7 I) (dL E A8 hh) V hle (by omega);refine⟨.slice (if cap=l.toNat then ao else ao.map (·.add (l.toNat*A3))) (h.toNat-l.toNat) (cap-l.toNat),?_,?_⟩
     .simp[execOp,J,Y,Instr.sliceAt,Instr.slice,run_underlying (cY T),A4,run_sizeOf Z]
     .refine .vec k v _ _ _ L A0 (by omega) (λ_=>⟨_,_,rfl,by omega,λW=>?_⟩) rfl;obtain⟨rfl,B2⟩:=AX (by omega);refine⟨?_,by omega⟩;rw[WO (by omega)];simp only[XB,cF,AE.1,Xa,W1]
   .trivial
  .rename_i e key v rows y T A6;split
   .rename_i sz l h Z I hh;refine aj.pure ?_;rintro ⟨rfl,rfl,V,hle,A1⟩ φ G a w E;have A:=E.ag x H;rw[O]at A;obtain⟨hm,AW,L,A0,A',AE⟩:=E.mem.get A6;simp only at A';generalize Y:a.eval x=av at A;cases A with
    |vec _ _ _ _ _ L' AA _ AF _=>
     rw[A0]at AA;cases AA;obtain⟨ao,cap,rfl,Aj,AX⟩:=AF A'.symm;clear AF;have A4:=en (P:=P) (w:=w) (isS:=true) (len:=len) (cap:=cap) (dL E A7 I) (dL E A8 hh) V hle (by omega);refine⟨.slice (if cap=l.toNat then ao else ao.map (·.add (l.toNat*1))) (h.toNat-l.toNat) (cap-l.toNat),?_,?_⟩
     .simp[execOp,J,Y,Instr.sliceAt,Instr.slice,run_underlying (cY T),A4,run_sizeOf Z]
     .refine .vec k v _ _ _ L A0 (by omega) (λ_=>⟨_,_,rfl,by omega,λW=>?_⟩) rfl;obtain⟨rfl,B2⟩:=AX (by omega);refine⟨?_,by omega⟩;rw[WO (by omega)];simp only[XB,cF,AE.1.1,Xa,W1]
   .trivial
  .trivial
 .rename_i k U i j O;split
  .rename_i n e key v A3 rows T A6;split
   .rename_i sz l h Z I hh;refine aj.pure ?_;rintro ⟨rfl,rfl,rfl,rfl,AC,V,hle,A1⟩ φ G a w E;have A:=E.ag x H;rw[O]at A;obtain⟨hm,AW,L,A0,A',AE⟩:=E.mem.get A6;simp only at A';have A2:=A.ft A0 A';have A4:=en (P:=P) (w:=w) (isS:=false) (len:=n) (cap:=n) (dL E A7 I) (dL E A8 hh) V hle A1;refine⟨.slice (some (if n=l.toNat then ⟨L.ba,L.base,none⟩else ⟨L.ba,L.base+l.toNat*A3,none⟩)) (h.toNat-l.toNat) (n-l.toNat),?_,?_⟩
    .simp[execOp,J,A2,Instr.sliceAt,Instr.sureAddr,run_underlying (nb T),A4,run_sizeOf Z,cF]
    .refine .vec k v _ _ _ L A0 (by omega) (λ_=>⟨_,_,rfl,by omega,λW=>⟨?_,by have:=AE.2.1;omega⟩⟩) rfl;rw[WO (by omega),AE.1]
   .trivial
  .trivial
 .rename_i k U off O;split
  .rename_i n e key v cs T A6;split
   .rename_i sz l h Z I hh;refine aj.pure ?_;rintro ⟨rfl,rfl,AC,V,hle,A1⟩ φ G a w E;have A:=E.ag x H;rw[O]at A;obtain⟨hm,AW,L,A0,A',⟨B3,z2,z3⟩,_⟩:=E.mem.get A6;simp only at A';have A2:=A.fZ A0 A';have A4:=en (P:=P) (w:=w) (isS:=false) (len:=n) (cap:=n) (dL E A7 I) (dL E A8 hh) V hle A1;refine⟨.slice (some (if n=l.toNat then ⟨L.ba,off,none⟩else ⟨L.ba,off+l.toNat,none⟩)) (h.toNat-l.toNat) (n-l.toNat),?_,?_⟩
    .simp[execOp,J,A2,Instr.sliceAt,Instr.sureAddr,run_underlying (nb T),A4,run_sizeOf Z,cF]
    .refine .vec k v _ _ _ L A0 (by omega) (λ_=>⟨_,_,rfl,by omega,λW=>⟨?_,by omega⟩⟩) rfl;rw[WO (by omega),B3,z2];simp
   .trivial
  .trivial
 .trivial
def uQ(t:Bool)(x y:D):D:=
 match x,y with
 | .bool a,.bool b=>.bool (bif t then a else b)
 |x,y=>bif t then x else y
def ng(t:Bool)(x y:AV):AV:=
 match x,y with
 | .d x,.d y=>.d (uQ t x y)
 |x,y=>bif t then x else y
def yb(c a b:Bool×AV):br:=
 match c.2 with
 | .d (.bool t)=>.val (c.1=true/\(t=true->a.1=true)/\(t=false->b.1=true)) (ng t a.2 b.2)
 |_=>.no
def Io(P:Program)(S:St)(o:Oper)(c x y:Operand)(J:o.op=.pick c x y):aj P S o (yb (S.ag c) (S.ag x) (S.ag y)):=by
 unfold yb;split
 .rename_i t W;refine aj.pure ?_;rintro ⟨A,M,AM⟩ φ G a w E;have Ak:=E.ag c A;rw[W]at Ak;have e:=mI Ak;cases t
  .have AY:=E.ag y (AM rfl);refine⟨a.eval y,by simp[execOp,J,e,asBool],?_⟩;have AP:ng false (S.ag x).2 (S.ag y).2=(S.ag y).2:=by
    unfold ng;split
    .rename_i u v Al An;rw[An];congr 1;unfold uQ;split<;>rfl
    .rfl
   rw[AP];exact AY
  .have H:=E.ag x (M rfl);refine⟨a.eval x,by simp[execOp,J,e,asBool],?_⟩;have AP:ng true (S.ag x).2 (S.ag y).2=(S.ag x).2:=by
    unfold ng;split
    .rename_i u v Al An;rw[Al];congr 1;unfold uQ;split<;>rfl
    .rfl
   rw[AP];exact H
 .trivial
def Ip(P:Program)(S:St)(o:Oper)(x:Operand)(J:o.op=.move x\/o.op=.assign x)(H:(S.ag x).1=true):aj P S o (.val True (S.ag x).2):=by
 refine aj.pure λ_ φ G a w E=>⟨a.eval x,?_,E.ag x H⟩;rcases J with J|J<;>simp[execOp,J]
def yR(op:UnOp)(x:AV):br:=
 match op,x with
 | .not,.d (.bool b)=>.val True (.d (.bool (!b)))
 | .neg,.d (.int k n)=>.val True (.d (.int k (k.wrap (0-n))))
 | .xor,.d (.int k n)=>.val True (.d (.int k (k.wrap (BitVec.ofInt k.bits (if k.signed then-1 else k.max) ^^^ BitVec.ofInt k.bits n).toNat)))
 |_,_=>.no
def MH(P:Program)(S:St)(o:Oper)(op:UnOp)(t:TypeId)(x:Operand)(J:o.op=.unOp op t x)(H:(S.ag x).1=true):aj P S o (yR op (S.ag x).2):=by
 unfold yR;split
 .rename_i b O;refine aj.pure λ_ φ G a w E=>?_;have A:=E.ag x H;rw[O]at A;exact⟨.bool (!b),by simp[execOp,J,mI A,Op.unary],.d _ _ (.bool _)⟩
 .rename_i k n O;refine aj.pure λ_ φ G a w E=>?_;have A:=E.ag x H;rw[O]at A;exact⟨.int k (k.wrap (0-n)),by simp only[execOp,J,eT A,Op.unary,Op.intArith,Sem.run_bind,Sem.run_pure,Result.andThen_ok],.d _ _ (.int _ _)⟩
 .rename_i k n O;refine aj.pure λ_ φ G a w E=>?_;have A:=E.ag x H;rw[O]at A;exact⟨_,by simp only[execOp,J,eT A,Op.unary,Op.intBits,Sem.run_bind,Sem.run_pure,Result.andThen_ok],.d _ _ (.int _ _)⟩
 .trivial
def nh(i:Nat)(x:AV):br:=
 match x with
 | .bk vs=>match vs[i]? with
  |some v=>.val True v
  |none=>.no
 |_=>.no
def Cf(P:Program)(S:St)(o:Oper)(x:Operand)(i:Nat)(J:o.op=.extract x i)(H:(S.ag x).1=true):aj P S o (nh i (S.ag x).2):=by
 unfold nh;split
 .rename_i vs O;split
  .rename_i v AG;refine aj.pure λ_ φ G a w E=>?_;have A:=E.ag x H;rw[O]at A;generalize Y:a.eval x=av at A;cases A with|bk _ A5 I W=>
   have hi:i<A5.size:=by rw[<-I];exact (D1.1 AG).1
   exact⟨A5[i],by simp[execOp,J,Y,Instr.extract,hi],W i v _ AG (by simp[hi])⟩
  .trivial
 .trivial
def jP(f:Fn)(first cap:List AV):br:=
 match f,first with
 | .func f,[]=>.val (f<mg) (.fn f cap)
 | .func f,x::r=>match cap with
  |[]=>.val True (.fn (f+mg) (x::r))
  |_=>.no
 |_,_=>.no
def AI(P:Program)(S:St)(o:Oper)(f:Fn)(first cap:Array Operand)(J:o.op=.makeFunc f first cap)(Ae:∀x∈first.toList,(S.ag x).1=true)(W:∀x∈cap.toList,(S.ag x).1=true):aj P S o (jP f (first.toList.map λx=>(S.ag x).2) (cap.toList.map λx=>(S.ag x).2)):=by
 have key:∀(l:Array Operand),(∀x∈l.toList,(S.ag x).1=true)->∀φ G a w,Rel φ G S a w->∀(i:Nat)(c:AV)(v:Value),(l.toList.map λx=>(S.ag x).2)[i]?=some c->(l.map a.eval)[i]?=some v->ai φ w (Fo G φ S.mem) c v:=by
  intro l I φ G a w E i c v A M;simp only[WZ,Xp,WH]at A;simp only[Array.getElem?_map,WH]at M;obtain⟨x,H,rfl⟩:=A;obtain⟨y,AY,rfl⟩:=M;rw[H]at AY;cases AY;exact E.ag x (I x (by simpa using Array.mem_of_getElem? H))
 generalize Ao:(first.toList.map λx=>(S.ag x).2)=fs;generalize Ap:(cap.toList.map λx=>(S.ag x).2)=cs;unfold jP;split
 .rename_i f;refine aj.pure λB4 φ G a w E=>?_;have B5:first=#[]:=by cases first;simp_all
  refine⟨.func (.func f) #[] (cap.map a.eval),by simp[execOp,J,Instr.makeFunc,B5],.fn f _ _ B4 (by simp[<-Ap]) (λi c v A M=>?_)⟩;rw[<-Ap]at A;exact key cap W φ G a w E i c v A M
 .rename_i f x r;split
  .refine aj.pure λ_ φ G a w E=>?_;have B6:cap=#[]:=by cases cap;simp_all
   refine⟨.func (.func f) (first.map a.eval) #[],by simp[execOp,J,Instr.makeFunc,B6],.lA f _ _ (by rw[<-Ao];simp) (λi c v A M=>?_)⟩;rw[<-Ao]at A;exact key first Ae φ G a w E i c v A M
  .trivial
 .trivial
def mv(P:Program)(t:TypeId)(x:AV):br:=
 match x.norm with
 | .d d=>.val (tk P t≠.iface/\tk P t≠.other) (.dJ t d)
 |_=>.no
def tQ{P:Program}{t:TypeId}(h:tk P t≠.other):∃d,P.underlying t=some d:=by
 unfold tk at h;cases hu:P.underlying t with
 |none=>simp[hu]at h
 |some d=>exact⟨d,rfl⟩
def yS(P:Program)(S:St)(o:Oper)(t:TypeId)(x:Operand)(J:o.op=.makeInterface t x)(H:(S.ag x).1=true):aj P S o (mv P t (S.ag x).2):=by
 unfold mv;split
 .rename_i d O;refine aj.pure ?_;rintro ⟨A,M⟩ φ G a w E;have AM:=(E.ag x H).norm;rw[O]at AM;obtain⟨Aq,hu⟩:=tQ M;refine⟨.iface t (a.eval x),?_,?_⟩
  .have Aa:∀ms,Aq≠.interface ms:=by rintro ms rfl;simp[tk,hu]at A
   simp only[execOp,J,Instr.makeInterface,Sem.run_bind,run_underlying hu,Result.andThen_ok];cases Aq<;>first|rfl|exact absurd rfl (Aa _)
  .cases AM with|d _ _ h=>exact .dJ t d _ h
 .trivial
def ju(P:Program)(m:Mem)(t:TypeId)(x:AV):br:=
 match x with
 | .d (.str s)=>.val (tk P t=.str) (.d (.int .i64 s.length))
 | .d (.list xs)=>match tk P t with
  | .slice _=>.val True (.d (.int .i64 xs.length))
  |_=>.no
 | .vec k U _ len=>match tk P t,Mem.get m k with
  | .slice _,some ⟨_,v,_⟩=>.val (v=U) (.d (.int .i64 len))
  |_,_=>.no
 | .lit (.slice none 0 0)=>match tk P t with
  | .slice _=>.val True (.d (.int .i64 0))
  |_=>.no
 | .nn=>match tk P t with
  | .slice _=>.val True (.d (.int .i64 0))
  |_=>.no
 |_=>match tk P t with
  | .arr n _=>.val True (.d (.int .i64 n))
  |_=>.no
def run_len_slice{P:Program}{w:World}{t ty e:TypeId}{ao len cap}(h:tk P t=.slice e):(Builtin.len_ #[t] ty #[.slice ao len cap]).run P w=.ok (.int .i64 len) w:=by
 simp[Builtin.len_,run_underlying (cY h),goInt]
def JY(P:Program)(S:St)(o:Oper)(x:Operand)(t:TypeId)(J:o.op=.call {callee:=.builtin .len,args:=#[x],argTypes:=#[t]})(H:(S.ag x).1=true):aj P S o (ju P S.mem t (S.ag x).2):=by
 have AK:∀(a:Act)(w:World)(v:Value),(Builtin.len_ #[t] o.type #[a.eval x]).run P w=.ok v w->(execOp a.eval o).run P w=.ok (.value v) w:=by
  intro a w v h;simp[execOp,J,resolve,invoke,builtin,h]
 unfold ju;split
 .rename_i s O;refine aj.pure λAB φ G a w E=>?_;have A:=E.ag x H;rw[O]at A;obtain⟨b,A2,rfl⟩:=lE A;have AU:b.size=b.data.toList.length:=by rw[WQ];rfl
  refine⟨.int .i64 b.data.toList.length,AK a w _ ?_,.d _ _ (.int _ _)⟩;simp only[Builtin.len_,A2,Xl,List.getElem?_cons_zero,Sem.run_bind,run_underlying (ik AB),Result.andThen_ok,Sem.run_pure,goInt,<-AU]
 .rename_i xs O;split
  .rename_i e T;refine aj.pure λ_ φ G a w E=>?_;have A:=E.ag x H;rw[O]at A;generalize Y:a.eval x=av at A;cases A with|d _ _ h=>
   have I:∃ao cap,av=.slice ao xs.length cap:=by cases h<;>exact⟨_,_,rfl⟩
   obtain⟨ao,cap,rfl⟩:=I;exact⟨_,AK a w _ (by rw[Y];exact run_len_slice T),.d _ _ (.int _ _)⟩
  .trivial
 .rename_i k U off len O;split
  .rename_i e key v cont T A6;refine aj.pure ?_;rintro rfl φ G a w E;have A:=E.ag x H;rw[O]at A;obtain⟨hm,AW,L,A0,A',AE⟩:=E.mem.get A6;simp only at A';generalize Y:a.eval x=av at A;cases A with
   |vec _ _ _ _ _ L' AA _ AF _=>
    rw[A0]at AA;cases AA;obtain⟨ao,cap,rfl,Aj,AX⟩:=AF A'.symm;exact⟨_,AK a w _ (by rw[Y];exact run_len_slice T),.d _ _ (.int _ _)⟩
  .trivial
 .rename_i O;split
  .rename_i e T;refine aj.pure λ_ φ G a w E=>?_;have A:=E.ag x H;rw[O]at A;generalize Y:a.eval x=av at A;cases A;exact⟨_,AK a w _ (by rw[Y];exact run_len_slice T),.d _ _ (.int _ _)⟩
  .trivial
 .rename_i O;split
  .rename_i e T;refine aj.pure λ_ φ G a w E=>?_;have A:=E.ag x H;rw[O]at A;generalize Y:a.eval x=av at A;cases A;exact⟨_,AK a w _ (by rw[Y];exact run_len_slice T),.d _ _ (.int _ _)⟩
  .trivial
 .split
  .rename_i n e T;refine aj.pure λ_ φ G a w E=>?_;refine⟨.int .i64 n,AK a w _ ?_,.d _ _ (.int _ _)⟩;simp[Builtin.len_,run_underlying (nb T),goInt]
  .trivial
def iF(isMax:Bool):AV->List AV->Option D
 | .d (.int k a),[]=>some (.int k a)
 | .d (.int k a),y::r=>match y with
  | .d (.int _ b)=>iF isMax (.d (.int k (if isMax then (if b>a then b else a)else (if b<a then b else a)))) r
  |_=>none
 |_,_=>none
def wj(isMax:Bool)(xs:List AV):br:=
 match xs with
 |x::r=>match iF isMax x r with
  |some d=>.val True (.d d)
  |none=>.no
 |[]=>.no
def AJ{P:Program}{φ w F}(isMax:Bool):∀(xs:List AV)(x:AV)(vs:List Value)(v:Value)(d:D),iF isMax x xs=some d->ai φ w F x v->xs.length=vs.length->
 (∀(i:Nat) c u,xs[i]?=some c->vs[i]?=some u->ai φ w F c u)->
 ∃u,(vs.foldlM (if isMax then Builtin.max2 else Builtin.min2) v).run P w=.ok u w/\ar w F d u:=by
 intro xs;induction xs with
 |nil=>
  intro x vs v d h H I W;have:vs=[]:=W9 (by simpa using I.symm);subst this;unfold iF at h;split at h<;>simp_all;subst h;rw[eT H];exact .int _ _
 |cons y AO ih=>
  intro x vs v d h H I W;cases vs with
  |nil=>simp at I
  |cons u us=>
   unfold iF at h;split at h
   .simp_all
   .rename_i k a BB r heq;simp at heq;obtain⟨rfl,rfl⟩:=heq;split at h
    .rename_i B7 b;have A2:=eT H;have AP:=eT (W 0 (.d (.int B7 b)) u (by simp) (by simp));subst A2;subst AP;have AS:∀(i:Nat) c u,AO[i]?=some c->us[i]?=some u->ai φ w F c u:=λi c u A M=>W (i+1) c u (by simpa using A) (by simpa using M);cases isMax
     .obtain⟨Ad,A,M⟩:=ih _ us (.int k (if b<a then b else a)) d h (.d _ _ (.int _ _)) (by simpa using I) AS;refine⟨Ad,?_,M⟩;simp only[Bool.false_eq_true,Xw]at A⊢;simp only[List.foldlM_cons,Builtin.min2,pure_bind];exact A
     .obtain⟨Ad,A,M⟩:=ih _ us (.int k (if b>a then b else a)) d h (.d _ _ (.int _ _)) (by simpa using I) AS;refine⟨Ad,?_,M⟩;simp only[XO]at A⊢;simp only[List.foldlM_cons,Builtin.max2,pure_bind];exact A
    .cases h
   .cases h
def DY(P:Program)(S:St)(o:Oper)(isMax:Bool)(args:Array Operand)(B8:Array TypeId)(J:o.op=.call {callee:=.builtin (if isMax then .max else .min),args,argTypes:=B8})(H:∀x∈args.toList,(S.ag x).1=true):aj P S o (wj isMax (args.toList.map λx=>(S.ag x).2)):=by
 unfold wj;split
 .rename_i x r heq;split
  .rename_i d A9;refine aj.pure λ_ φ G a w E=>?_;obtain⟨l,I⟩:∃l,args.toList=l:=⟨_,rfl⟩;rw[I]at heq H;cases l with
   |nil=>simp at heq
   |cons y AO=>
    simp at heq;obtain⟨rfl,rfl⟩:=heq;obtain⟨u,A,M⟩:=AJ (P:=P) (φ:=φ) (w:=w) (F:=Fo G φ S.mem) isMax _ _ (AO.map a.eval) (a.eval y) d A9 (E.ag y (H y (by simp))) (by simp) (λi c u A M=>by
     simp only[WZ,WH]at A M;obtain⟨p,AD,rfl⟩:=A;obtain⟨q,Ar,rfl⟩:=M;rw[AD]at Ar;cases Ar;exact E.ag p (H p (by simp[WI AD])))
    refine⟨u,?_,.d _ _ M⟩;have BC:(args.map a.eval).toList=a.eval y::AO.map a.eval:=by simp[I]
    cases isMax
    .simp only[Bool.false_eq_true,Xw]at A J;simp[execOp,J,resolve,invoke,builtin,Builtin.min_,I,A]
    .simp only[XO]at A J;simp[execOp,J,resolve,invoke,builtin,Builtin.max_,I,A]
  .trivial
 .trivial
def wZ(off:Nat):∀(l:List Value)(k:Nat)(cs:Array Value),off+k+l.length<=cs.size->
 ((l.zipIdx k).foldl (λcs x=>cs.setIfInBounds (off+x.2) x.1) cs).toList=cs.toList.take (off+k)++l++cs.toList.drop (off+k+l.length)
 |[],k,cs,_=>by simp
 |v::l,k,cs,h=>by
  simp only[List.zipIdx_cons,List.foldl_cons,X1]at h⊢;rw[wZ off l (k+1) _ (by simp;omega),Array.toList_setIfInBounds];have:=list_seg_step cs.toList (off+k) v l (by simp;omega);rw[show off+(k+1)=off+k+1 by omega,show off+k+(l.length+1)=off+k+1+l.length by omega];simpa [X1,W1,Nat.add_comm 1]using this
def yT(cs v:Array Value)(off:Nat)(h:off+v.size<=cs.size):
 (v.zipIdx.foldl (λcs (x:Value×Nat)=>cs.setIfInBounds (off+x.2) x.1) cs).toList=putCells cs.toList off v.toList:=by
 rw[<-Array.foldl_toList,Array.toList_zipIdx,wZ off v.toList 0 cs (by simpa using h),bE _ _ _ (by simpa using h)];simp
def lh(place:Nat->Option (Nat×Nat)):List (Nat×AV)->Bool->List AV->Option (Bool×List AV)
 |[],c,cs=>some (c,cs)
 |(i,x)::r,c,cs=>match place i with
  |some (off,n)=>lh place r (c/\x.gz=true/\x.cells.length=n/\off+n<=cs.length) (putCells cs off x.cells)
  |none=>none
def rn{φ w F}(place:Nat->Option (Nat×Nat)):∀(ps:List (Nat×AV))(c0 c:Bool)(cs O:List AV)(vs:List (Nat×Value))(E:Array Value),
 lh place ps c0 cs=some (c,O)->c=true->cs.length=E.size->(∀v∈E,bd v=true)->(∀(i:Nat) x v,cs[i]?=some x->E[i]?=some v->ai φ w F x v)->
 ps.length=vs.length->(∀(i:Nat) p v,ps[i]?=some p->vs[i]?=some v->p.1=v.1/\ai φ w F p.2 v.2)->
 ∃D,Instr.fill place E vs=some D/\c0=true/\O.length=D.size/\(∀v∈D,bd v=true)/\∀(i:Nat) x v,O[i]?=some x->D[i]?=some v->ai φ w F x v
 |[],c0,c,cs,O,vs,E,h,M,I,H,J,U,W=>by
  have:vs=[]:=W9 (by simpa using U.symm);subst this;simp only[lh,WR,W0]at h;obtain⟨rfl,rfl⟩:=h;exact⟨E,rfl,M,I,H,J⟩
 |(i,x)::ps,c0,c,cs,O,vs,E,h,M,I,H,J,U,W=>by
  cases vs with
  |nil=>simp at U
  |cons v vs=>
   obtain⟨j,v⟩:=v;obtain⟨AB,Y⟩:=W 0 (i,x) (j,v) (by simp) (by simp);simp only at AB Y;subst AB;simp only[lh]at h;split at h
   .rename_i off n AN
    --AC condition of AC rest holds AC condition of this part
    obtain⟨q,A0⟩:∃q:Bool,q=decide (c0=true/\x.gz=true/\x.cells.length=n/\off+n<=cs.length):=⟨_,rfl⟩;have AO:c=true->q=true:=by
     rw[<-A0]at h;clear A0;revert h
     generalize putCells cs off x.cells=AP;clear W U J H I Y M;induction ps generalizing q AP with
     |nil=>intro h;simp only[lh,WR,W0]at h;obtain⟨rfl,_⟩:=h;exact id
     |cons p ps ih=>
      intro h AD;simp only[lh]at h;split at h
      .exact (Xk (ih _ _ h AD)).1
      .cases h
    have Z:=AO M;rw[A0]at Z;replace Z:=Xk Z;obtain⟨AQ,AR,Aa,hle⟩:=Z;obtain⟨AE,AF⟩:=Y.gz AR;have AG:off+v.cells.size<=E.size:=by omega
    have A':=yT E v.cells off AG;obtain⟨A1,AH⟩:∃A1,A1=v.cells.zipIdx.foldl (λcs (x:Value×Nat)=>cs.setIfInBounds (off+x.2) x.1) E:=⟨_,rfl⟩;rw[<-AH]at A';have AI:off+v.cells.toList.length<=E.toList.length:=by simpa using AG
    obtain⟨D,V,AD,AS,AT,AU⟩:=rn (φ:=φ) (w:=w) (F:=F) place ps _ c _ O vs A1 h M
     (by rw[aV _ _ _ (by omega),<-WQ,A',aV _ _ _ AI];simpa using I)
     (λu hu=>by
      rw[<-Array.mem_toList_iff,A']at hu;rcases ga AI hu with hu|hu
      .exact H u (by simpa using hu)
      .exact AF u (by simpa using hu))
     (λi y u AW hu=>by
      rw[<-Xp,A']at hu;exact mP (R:=λx v=>ai φ w F x v) (by simpa using I) (by simpa using AE.symm) (by omega) (λi c v h A=>J i c v h (by simpa using A)) (λi c v h A=>Y.cells AF AE i c v h (by simpa using A)) i y u AW hu)
     (by simpa using U) (λi p v h A=>W (i+1) p v (by simpa using h) (by simpa using A))
    refine⟨D,?_,AQ,AS,AT,AU⟩;simp only[Instr.fill,AN];rw[WO (by simp;omega)];rw[<-V,AH]
   .cases h
def aK(P:Program)(t:TypeId):Option (List (Nat×Nat)):=
 match P.underlying t with
 |some (.struct fs)=>fs.toList.mapM λf=>(P.info? f.type).map λi=>(f.offset,i.size)
 |_=>none
def th{P:Program}{w:World}:∀(fs:List Field)(l:List (Nat×Nat)),(fs.mapM λf=>(P.info? f.type).map λi=>(f.offset,i.size))=some l->
 (fs.mapM λf=>(do pure (f.offset,<-sizeOf f.type):Sem (Nat×Nat))).run P w=.ok l w
 |[],l,h=>by simp at h;subst h;simp
 |f::fs,l,h=>by
  simp only[List.mapM_cons]at h⊢;cases hi:P.info? f.type with
  |none=>simp[hi]at h
  |some i=>
   simp only[hi,XB,Option.pure_def,Option.bind_eq_bind,Xz]at h;cases hm:(fs.mapM λf=>(P.info? f.type).map λi=>(f.offset,i.size))with
   |none=>simp[hm]at h
   |some AX=>
    simp[hm]at h;subst h;have A2:(sizeOf f.type).run P w=.ok i.size w:=run_sizeOf (by simp[b5,hi]);have ih:=th (P:=P) (w:=w) fs AX hm;simp only[Sem.run_bind,A2,Result.andThen_ok,Sem.run_pure,ih]
def uS(P:Program)(t:TypeId)(ps:List (Nat×AV)):br:=
 match j5 P t with
 |some zs=>match aK P t with
  |some l=>match lh (λi=>l[i]?) ps true zs with
   |some (c,cs)=>.val c (sA cs)
   |none=>.no
  |none=>match tk P t with
   | .arr _ e=>match b5 P e with
    |some sz=>match lh (λi=>some (i*sz,sz)) ps true zs with
     |some (c,cs)=>.val c (sA cs)
     |none=>.no
    |none=>.no
   |_=>.no
 |none=>.no
def FY(P:Program)(S:St)(o:Oper)(t:TypeId)(ps:Array (Nat×Operand))(AJ:o.op=.build t ps)(AY:∀x∈ps.toList,(S.ag x.2).1=true):
 aj P S o (uS P t (ps.toList.map λx=>(x.1,(S.ag x.2).2))):=by
 have parts:∀{φ G a w},Rel φ G S a w->∀(i:Nat)(p:Nat×AV)(v:Nat×Value),(ps.toList.map λx=>(x.1,(S.ag x.2).2))[i]?=some p->(ps.toList.map λx=>(x.1,a.eval x.2))[i]?=some v->p.1=v.1/\ai φ w (Fo G φ S.mem) p.2 v.2:=by
  intro φ G a w J i p v H T;simp only[WZ,WH]at H T;obtain⟨x,AK,rfl⟩:=H;obtain⟨y,AL,rfl⟩:=T;rw[AK]at AL;cases AL;exact⟨rfl,J.ag _ (AY x (WI AK))⟩
 unfold uS;split
 .rename_i zs AM;split
  .rename_i l I;split
   .rename_i c cs V;refine aj.j3 λM φ G a w J=>?_;obtain⟨z,A3,A4,H,A5⟩:=ig AM w;obtain⟨D,T,_,A6,A7,A8⟩:=rn (φ:=φ) (w:=w) (F:=Fo G φ S.mem) _ _ _ _ _ _ (ps.toList.map λx=>(x.1,a.eval x.2)) z.cells V M A4.symm H (λi x v h A=>A5 _ _ _ i x v h A) (by simp) (parts J);unfold aK at I;split at I
    .rename_i fs hu;have hm:=th (P:=P) (w:=w) fs.toList l I;refine⟨.agg D,?_,?_⟩
     .have AZ:(fs.mapM λf=>(do pure (f.offset,<-sizeOf f.type):Sem (Nat×Nat))).run P w=.ok l.toArray w:=by
       rw[Array.mapM_eq_mapM_toList];simp only[Sem.run_map,hm,Result.andThen_ok]
      simp only[execOp,AJ,Instr.build,Sem.run_bind,A3,Result.andThen_ok,run_underlying hu,AZ];have e:(λ(i:Nat)=>l.toArray[i]?)=λ(i:Nat)=>l[i]?:=by funext i;simp
      have A9:(Array.map (λx=>(x.1,a.eval x.2)) ps).toList=ps.toList.map λx=>(x.1,a.eval x.2):=by simp
      rw[e,A9,T];rfl
     .have:=qV (φ:=φ) (w:=w) (F:=Fo G φ S.mem) (cs:=cs) (vs:=D.toList) (by simpa using A6) (λv AA=>A7 v (by simpa using AA)) (λi c v h A=>A8 i c v h (by simpa using A));simpa using this
    .cases I
   .trivial
  .split
   .rename_i n e A_;split
    .rename_i sz A2;split
     .rename_i c cs V;refine aj.j3 λM φ G a w J=>?_;obtain⟨z,A3,A4,H,A5⟩:=ig AM w;obtain⟨D,T,_,A6,A7,A8⟩:=rn (φ:=φ) (w:=w) (F:=Fo G φ S.mem) _ _ _ _ _ _ (ps.toList.map λx=>(x.1,a.eval x.2)) z.cells V M A4.symm H (λi x v h A=>A5 _ _ _ i x v h A) (by simp) (parts J);refine⟨.agg D,?_,?_⟩
      .simp only[execOp,AJ,Instr.build,Sem.run_bind,A3,Result.andThen_ok,run_underlying (nb A_),run_sizeOf A2];have A9:(Array.map (λx=>(x.1,a.eval x.2)) ps).toList=ps.toList.map λx=>(x.1,a.eval x.2):=by simp
       rw[A9,T];rfl
      .have:=qV (φ:=φ) (w:=w) (F:=Fo G φ S.mem) (cs:=cs) (vs:=D.toList) (by simpa using A6) (λv AA=>A7 v (by simpa using AA)) (λi c v h A=>A8 i c v h (by simpa using A));simpa using this
     .trivial
    .trivial
   .trivial
 .trivial
end Go.Am
end
