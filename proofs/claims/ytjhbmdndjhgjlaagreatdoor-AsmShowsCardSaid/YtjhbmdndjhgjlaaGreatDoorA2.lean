/-
  Texts of one proof, one behind the other.
-/
import Derived.Test.YtjhbmdndjhgjlaaGreatDoorA1
import Derived.Lib.Builder
import Derived.Lib.UnsafeStr
import Derived.Lib.OthersKept
import Derived.Orders
set_option linter.all false
section
namespace Go.Am
open Go
set_option maxRecDepth 20000
set_option maxHeartbeats 4000000
def tR(sz:Nat):∀(vs:List (Nat×Value))(k:Nat)(cells:Array Value),vs.map (·.1)=List.range' k vs.length->(∀v∈vs,v.2.cells.size=sz)->(k+vs.length)*sz=cells.size->
 ∃out,Instr.fill (λi=>some (i*sz,sz)) cells vs=some out/\out.toList=cells.toList.take (k*sz)++vs.flatMap (λv=>v.2.cells.toList)
 |[],k,cells,_,_,T=>by
  refine⟨cells,rfl,?_⟩;simp only[XU,Xq]at T;simp only[T,List.flatMap_nil,XF];rw[<-WQ,List.take_length]
 |(i,v)::vs,k,cells,hi,U,T=>by
  simp only[Xn,X1,XG,List.cons.injEq]at hi;obtain⟨rfl,hi⟩:=hi;have M:=U (i,v) (by simp);simp only at M;simp only[X1]at T;have Ac:i*sz+v.cells.size<=cells.size:=by
   rw[M,<-T,<-Xu];exact WL _ (by omega)
  have H:=yT cells v.cells (i*sz) Ac;obtain⟨AR,Ar⟩:∃AR,AR=v.cells.zipIdx.foldl (λcs (x:Value×Nat)=>cs.setIfInBounds (i*sz+x.2) x.1) cells:=⟨_,rfl⟩;rw[<-Ar]at H;have As:i*sz+v.cells.toList.length<=cells.toList.length:=by simpa using Ac
  have A4:AR.size=cells.size:=by rw[<-WQ,H,aV _ _ _ As];simp
  obtain⟨out,V,AS⟩:=tR sz vs (i+1) AR hi (λx J=>U x (by simp[J])) (by rw[A4,<-T];congr 1;omega);refine⟨out,?_,?_⟩
  .simp only[Instr.fill];rw[WO (by simp;omega),<-V,Ar]
  .rw[AS,H,bE _ _ _ As];have BP:v.cells.toList.length=sz:=by simpa using M
   rw[Xu,List.take_append_of_le_length (by simp;omega),XS (by simp;omega)];simp
def uT{φ w F}{sz:Nat}:∀(A:List D)(vs:List Value),A.length=vs.length->(∀d∈A,d.size=sz)->(∀(i:Nat) d v,A[i]?=some d->vs[i]?=some v->ai φ w F (.d d) v)->
 bc w F sz A (vs.flatMap λv=>v.cells.toList)
 |[],vs,T,_,_=>by
  have:vs=[]:=W9 (by simpa using T.symm);subst this;exact bc.nil ..
 |d::A,vs,T,U,E=>by
  cases vs with
  |nil=>simp at T
  |cons v vs=>
   have ih:=uT (φ:=φ) (w:=w) (F:=F) A vs (by simpa using T) (λx J=>U x (by simp[J])) (λi d v h A7=>E (i+1) d v (by simpa using h) (by simpa using A7));have A8:=E 0 d v (by simp) (by simp);cases A8 with|d _ _ A8=>
   have A9:=U d (by simp);have AT:v.cells.size=sz:=by rw[A8.size,A9]
   have one:bc w F sz [d] v.cells.toList:=by
    refine⟨by simp[AT],λu hu=>A8.cells.2.1 u (by simpa using hu),λx J=>by simp at J;subst J;exact A9,λi x J=>?_⟩;cases i with
    |zero=>simp at J;subst J;exact⟨v,A8,λj c AC=>by simpa using AC⟩
    |succ i=>simp at J
   simpa using one.append ih
def yV{w:World}{F F':Nat->Prop}{sz:Nat}{A:List D}{cs rest:List Value}{elem:TypeId}{fr}{O:World}{arr:Array Value}(E:bc w F sz A cs)(hh:O.heap[w.heap.size]?=some (.cells arr elem fr))(AD:arr.toList=cs++rest)
 (hm:∀x v,ar w F x v->ar O F' x v) (B':¬F' w.heap.size) (cap:Nat) (AI:A.length<=cap):ar O F' (.list A) (.slice (some ⟨w.heap.size,0,none⟩) A.length cap):=by
 obtain⟨BQ,a2,a3,a4⟩:=E;have Ad:∀i,∃v,∀d,A[i]?=some d->ar w F d v/\∀(j:Nat) c,v.cells[j]?=some c->cs[i*sz+j]?=some c:=by
  intro i;cases I:A[i]? with
  |none=>exact⟨undef,λd h=>by cases h⟩
  |some d=>obtain⟨v,H,V⟩:=a4 i d I;exact⟨v,λAt h=>by cases h;exact⟨H,V⟩⟩
 obtain⟨vs,AT⟩:=Xd Ad;refine .list A w.heap.size 0 cap sz vs AI ?_ B' a3 (λi d I=>hm _ _ (AT i d I).1) (λi j c hi AC=>?_)
 .exact (WU.1 hh).1
 .obtain⟨H,V⟩:=AT i A[i] (by simp[hi]);have AS:=V j c AC;rw[qW hh,<-Xp,AD,Xt,WN (D1.1 AS).1];exact AS
def yW{φ:aR}{G:Fr}{m:Mem}{w O:World}(hold:∀b,b<w.heap.size->O.heap[b]?=w.heap[b]?)(U:w.heap.size<=O.heap.size)(x v)(J:ar w (Fo G φ m) x v):ar O (Fo G φ m) x v:=
 J.mono (λb Z _=>hold b Z) U (λ_ _ h=>h)
def lH:List (Nat×AV)->Option (List D)
 |[]=>some []
 |(_,x)::r=>match x.norm,lH r with
  | .d d,some A=>some (d::A)
  |_,_=>none
def uU{φ w F}:∀(ps:List (Nat×AV))(A:List D)(vs:List Value),lH ps=some A->ps.length=vs.length->(∀(i:Nat) p v,ps[i]?=some p->vs[i]?=some v->ai φ w F p.2 v)->
 A.length=vs.length/\∀(i:Nat) d v,A[i]?=some d->vs[i]?=some v->ai φ w F (.d d) v
 |[],A,vs,h,T,_=>by
  simp[lH]at h;subst h;exact⟨by simpa using T,λi d v A7=>by simp at A7⟩
 |(i,x)::ps,A,vs,h,T,E=>by
  simp only[lH]at h;split at h<;>simp at h;rename_i d B0 J A9;subst h;cases vs with
  |nil=>simp at T
  |cons v vs=>
   have ih:=uU (φ:=φ) (w:=w) (F:=F) ps B0 vs A9 (by simpa using T) (λi p v h A7=>E (i+1) p v (by simpa using h) (by simpa using A7));refine⟨by simp[ih.1],λj At Au h A7=>?_⟩;cases j with
   |zero=>
    simp at h A7;subst h;subst A7;have:=(E 0 (i,x) v (by simp) (by simp)).norm;simp only[J]at this;exact this
   |succ j=>exact ih.2 j At Au (by simpa using h) (by simpa using A7)
def dD(P:Program)(t:TypeId)(A1:Nat)(len:Nat):List (Nat×AV)->Option bn->Option br
 |[(0,.lit (.slice none 0 0))],some ⟨_,v,_⟩=>match tk P t with
  | .slice e=>match b5 P e,gG P e with
   |some sz,some _=>some (.bo (sz=1/\len=1) (.vec A1 (v+1) 0 1) ⟨A1,v+1,.box [.lit (.slice none 0 0)]⟩)
   |_,_=>none
  |_=>none
 |_,_=>none
def lj(P:Program)(m:Mem)(A1:Nat)(t:TypeId)(len:Nat)(ps:List (Nat×AV)):br:=
 match tk P t with
 | .slice e=>match b5 P e,gG P e,lH ps with
  |some sz,some A5,some A=>match Mem.get m A1 with
   |some ⟨_,v,_⟩=>.bo (A5.size=sz/\len*sz<=2^24/\ps.map (·.1)=List.range' 0 len/\(∀d∈A,d.size=sz)) (.vec A1 (v+1) 0 len) ⟨A1,v+1,.vec sz A⟩
   |none=>.val (A5.size=sz/\len*sz<=2^24/\ps.map (·.1)=List.range' 0 len/\(∀d∈A,d.size=sz)) (.d (.list A))
  |_,_,_=>.no
 |_=>.no
def fL(P:Program)(m:Mem)(A1:Nat)(t:TypeId)(len:Nat)(ps:List (Nat×AV)):br:=
 match dD P t A1 len ps (Mem.get m A1)with
 |some r=>r
 |none=>lj P m A1 t len ps
def o8{P:Program}{w:World}{t e:TypeId}{sz len:Nat}{A5:D}(AU:tk P t=.slice e)(U:b5 P e=some sz)(AE:gG P e=some A5)(Z:len*sz<=2^24)
 {vs:List (Nat×Value)} (hi:vs.map (·.1)=List.range' 0 len) (M:∀v∈vs,v.2.cells.size=sz):
 ∃arr:Array Value,arr.toList=vs.flatMap (λv=>v.2.cells.toList)/\(Instr.buildSlice t len vs.toArray).run P w=.ok (.slice (some ⟨w.heap.size,0,none⟩) len len) (w.alloc (.cells arr e)):=by
 obtain⟨z,A',BR,BS,_⟩:=uM AE w;have W:vs.length=len:=by
  have:=Xi List.length hi;simpa using this
 have B1:¬(len*sz>2^24):=by omega
 by_cases A8:len*sz=0
 .obtain⟨out,H,V⟩:=tR sz vs 0 #[] (by rw[W];exact hi) M (by rw[W];simp[A8]);refine⟨out,by simpa using V,?_⟩;simp only[Instr.buildSlice,Sem.run_bind,run_underlying (cY AU),Result.andThen_ok,run_sizeOf U,A8,XO,show Array.range 0=#[]from rfl,Array.map_empty,H,show ¬(0>2^24) by decide,Xw,Sem.run_bind,Sem.run_pure,dB]
 .obtain⟨out,H,V⟩:=tR sz vs 0 ((Array.range (len*sz)).map (z.cells[·%z.cells.size]!)) (by rw[W];exact hi) M (by rw[W];simp);refine⟨out,by simpa using V,?_⟩;simp only[Instr.buildSlice,Sem.run_bind,run_underlying (cY AU),Result.andThen_ok,run_sizeOf U,B1,Xw,A8,A',Sem.run_pure,H,dB]
def xZ(P:Program)(S:St)(o:Oper)(t:TypeId)(len:Nat)(ps:Array (Nat×Operand))(AW:o.op=.buildSlice t len ps)(J:∀x∈ps.toList,(S.ag x.2).1=true):
 aj P S o (fL P S.mem (keyOf o) t len (ps.toList.map λx=>(x.1,(S.ag x.2).2))):=by
 have parts:∀{φ G a w},Rel φ G S a w->∀(i:Nat)(p:Nat×AV)(v:Value),(ps.toList.map λx=>(x.1,(S.ag x.2).2))[i]?=some p->(ps.toList.map λx=>a.eval x.2)[i]?=some v->ai φ w (Fo G φ S.mem) p.2 v:=by
  intro φ G a w E i p v H V;simp only[WZ,WH]at H V;obtain⟨x,Av,rfl⟩:=H;obtain⟨y,Aw,rfl⟩:=V;rw[Av]at Aw;cases Aw;exact E.ag _ (J x (WI Av))
 have main:∀{e sz A5 A},tk P t=.slice e->b5 P e=some sz->gG P e=some A5->lH (ps.toList.map λx=>(x.1,(S.ag x.2).2))=some A->A5.size=sz->len*sz<=2^24->
  (ps.toList.map λx=>(x.1,(S.ag x.2).2)).map (·.1)=List.range' 0 len->(∀d∈A,d.size=sz)->∀{φ G a w},Rel φ G S a w->
  A.length=len/\∃arr:Array Value,bc w (Fo G φ S.mem) sz A arr.toList/\(execOp a.eval o).run P w=.ok (.value (.slice (some ⟨w.heap.size,0,none⟩) len len)) (w.alloc (.cells arr e)):=by
  intro e sz A5 A AU U AE A9 AX Z hi A4 φ G a w E;obtain⟨H,V⟩:=uU (φ:=φ) (w:=w) (F:=Fo G φ S.mem) _ A (ps.toList.map λx=>a.eval x.2) A9 (by simp) (parts E);have AF:=uT A _ H A4 V;have B2:(ps.toList.map λx=>(x.1,a.eval x.2)).map (·.1)=List.range' 0 len:=by rw[<-hi];simp
  have M:∀v∈(ps.toList.map λx=>(x.1,a.eval x.2)),v.2.cells.size=sz:=by
   intro v M;simp only[WS]at M;obtain⟨x,B3,rfl⟩:=M;obtain⟨i,Ax,B4⟩:=X0.1 B3;have hid:i<A.length:=by rw[H];simpa using Ax
   have:=V i A[i] (a.eval x.2) (by simp[hid]) (by simp[Xh Ax,B4]);cases this with|d _ _ h=>rw[h.size];exact A4 _ (Xf hid)
  obtain⟨arr,Ae,A'⟩:=o8 (P:=P) (w:=w) AU U AE Z B2 M;refine⟨?_,arr,?_,?_⟩
  .have:=Xi List.length hi;simp at this;rw[H];simp;exact this
  .rw[Ae];have e:(ps.toList.map λx=>(x.1,a.eval x.2)).flatMap (λv=>v.2.cells.toList)=(ps.toList.map λx=>a.eval x.2).flatMap (λv=>v.cells.toList):=by simp[List.flatMap_map]
   rw[e];exact AF
  .have B5:(ps.map λx=>(x.1,a.eval x.2))=(ps.toList.map λx=>(x.1,a.eval x.2)).toArray:=by apply Array.ext';simp
   simp only[execOp,AW,Sem.run_bind];have Af:(ps.map λ(i,x)=>(i,a.eval x))=(ps.toList.map λx=>(x.1,a.eval x.2)).toArray:=B5;rw[Af,A'];rfl
 have nil:∀r,dD P t (keyOf o) len (ps.toList.map λx=>(x.1,(S.ag x.2).2)) (Mem.get S.mem (keyOf o))=some r->aj P S o r:=by
  intro r A2;unfold dD at A2;split at A2
  .rename_i key v cont AM AJ;split at A2
   .rename_i e AY;split at A2
    .rename_i sz A5 U AE;cases A2;refine aj.jE ?_;rintro ⟨rfl,rfl⟩ φ G a w E;have B6:ps.toList.length=1:=by have:=Xi List.length AM;simpa using this
     obtain⟨q,Ag⟩:∃q,ps.toList=[q]:=by
      match BT:ps.toList,B6 with
      |[q],_=>exact⟨q,rfl⟩
     have Ah:=parts E 0 (0,.lit (.slice none 0 0)) (a.eval q.2) (by rw[AM];rfl) (by rw[Ag];rfl);simp only at Ah;have Ai:a.eval q.2=.slice none 0 0:=by
      generalize a.eval q.2=u at Ah;cases Ah;rfl
     have B7:q.1=0:=by
      rw[Ag]at AM;simp only[Xn,List.map_nil,List.cons.injEq,W0]at AM;exact AM.1.1
     obtain⟨arr,Ae,A'⟩:=o8 (P:=P) (w:=w) (len:=1) AY U AE (by decide) (vs:=[(0,.slice none 0 0)]) rfl (by simp[Value.cells]);have AD:arr=#[.slice none 0 0]:=by apply Array.ext';rw[Ae];simp[Value.cells]
     subst AD;obtain⟨hm,AG,L,AN,AH,_⟩:=E.mem.get AJ;simp only at AG AH;subst AG;obtain⟨φ',Aj,Ak,Al,An⟩:=E.mem.fresh (e:=⟨keyOf o,v,cont⟩) hm AN AH w rfl rfl rfl rfl #[.slice none 0 0] e 1 1 (.box [.lit (.slice none 0 0)]) (λ_ Z=>Z) (λφ' hle B8 Ay AA=>by
      refine⟨⟨rfl,rfl,rfl⟩,#[.slice none 0 0],e,.new AA,rfl,by simp[bd],λn c u A3 hu=>?_⟩;cases n with
      |zero=>simp at A3 hu;subst A3;subst hu;exact .lit _ rfl
      |succ n=>simp at A3)
     refine⟨.slice (some ⟨w.heap.size,0,none⟩) 1 1,_,φ',.inl ?_,.vec _ (v+1) 0 _ _ _ Al (Ds _) (λ_=>⟨_,_,rfl,Ds _,λ_=>⟨by simp,by simp⟩⟩) rfl,Aj,Ak,An⟩;have Af:(ps.map λ(i,x)=>(i,a.eval x))=#[(0,.slice none 0 0)]:=by
      apply Array.ext';simp[Ag,B7,Ai]
     simp only[execOp,AW,Sem.run_bind];rw[Af];have B9:(Instr.buildSlice t 1 #[(0,Value.slice none 0 0)]).run P w=_:=A';rw[B9];rfl
    .cases A2
   .cases A2
  .cases A2
 unfold fL;split
 .rename_i r A2;exact nil r A2
 rename_i A2;clear A2 nil;unfold lj;split
 .rename_i e AY;split
  .rename_i sz A5 A U AE A9;split
   .rename_i key v cont AJ;refine aj.jE ?_;rintro ⟨AX,Z,hi,A4⟩ φ G a w E;obtain⟨W,arr,AF,A'⟩:=main AY U AE A9 AX Z hi A4 E;obtain⟨hm,AG,L,AN,AH,_⟩:=E.mem.get AJ;simp only at AG AH;subst AG;obtain⟨φ',Aj,Ak,Al,An⟩:=E.mem.fresh (e:=⟨keyOf o,v,cont⟩) hm AN AH w rfl rfl rfl rfl arr e sz len (.vec sz A) (λ_ Z=>Z.2) (λφ' hle B8 Ay AA=>by
     refine oC (cs:=arr.toList) (rest:=[]) (elem:=e) rfl rfl (AF.mono Ay) (by simp) (by simpa using Nat.le_of_eq W) (by rw[XF,AF.1,W]) (λ_=>?_);refine cy.new ?_;rw[AA,XF,Yb];rfl)
    exact⟨_,_,φ',.inl A',.vec _ (v+1) 0 _ _ _ Al (Ds _) (λ_=>⟨_,_,rfl,Ds _,λ_=>⟨by simp,by simp⟩⟩) rfl,Aj,Ak,An⟩
   .refine aj.OX ?_;rintro ⟨AX,Z,hi,A4⟩ φ G a w E;obtain⟨W,arr,AF,A'⟩:=main AY U AE A9 AX Z hi A4 E;have hold:∀b,b<w.heap.size->(w.alloc (.cells arr e)).heap[b]?=w.heap[b]?:=λb Z=>RowKit.Below.heap_alloc w _ b Z;have AA:=heap_alloc_new w (.cells arr e);refine⟨_,_,.inl A',.d _ _ ?_,hold,by simp,rfl,rfl,rfl⟩;have:=yV (cap:=len) AF AA (rest:=[]) (by simp) (λx v h=>yW hold (by simp) x v h) (λh=>absurd (tO E.mem _ h) (Nat.lt_irrefl _)) (Nat.le_of_eq W);rw[W]at this;exact this
  .trivial
 .trivial
def lI(s:List UInt8):List D:=s.map λb=>.int .u8 b.toNat
def byteOf:D->UInt8
 | .int _ n=>UInt8.ofNat n.toNat
 |_=>0
def D.isByte:D->Bool
 | .int .u8 _=>true
 |_=>false
def D.D0{d:D}(h:d.isByte=true):∃n,d=.int .u8 n:=by
 unfold D.isByte at h;split at h<;>simp_all
def gZ(P:Program)(m:Mem)(A1:Nat)(src dst:TypeId)(x:AV):br:=
 match tk P dst,x with
 | .int k,.d (.int _ n)=>.val (tk P src≠.other) (.d (.int k (k.wrap n)))
 | .str,.d (.int _ n)=>.val (tk P src≠.other) (.d (.str (Utf8.encode n).data.toList))
 | .str,.d (.str s)=>.val (tk P src=.str) (.d (.str s))
 | .str,x=>match tk P src with
  | .slice e=>match dq m 1 x with
   |some (c,A6)=>.val (c/\tk P e=.int .u8/\b5 P e=some 1/\∀d∈A6,d.isByte=true) (.d (.str (A6.map byteOf)))
   |none=>.no
  |_=>.no
 | .slice e,.d (.str s)=>match tk P src,tk P e,Mem.get m A1 with
  | .str,.int .u8,none=>.val True (.d (.list (lI s)))
  |_,_,_=>.no
 |_,_=>.no
def uV{P:Program}{w:World}:∀(cs:List Value)(AO:ByteArray)(Y:List Int),cs=Y.map (Value.int .u8)->
 (forIn cs AO (λc s=>(match c with| .int .u8 n=>pure (ForInStep.yield (s.push (UInt8.ofNat n.toNat)))|_=>(do stuck "bytesToString: byte expected";pure (ForInStep.yield s)):Sem (ForInStep ByteArray)))).run P w=.ok ⟨(AO.data.toList++Y.map λn=>UInt8.ofNat n.toNat).toArray⟩ w
 |[],AO,Y,h=>by
  have:Y=[]:=by simpa using h.symm
  subst this;simp
 |c::cs,AO,Y,h=>by
  cases Y with
  |nil=>simp at h
  |cons n Y=>
   simp at h;obtain⟨rfl,rfl⟩:=h;simp only[List.forIn_cons,Sem.run_bind,Sem.run_pure,Result.andThen_ok];rw[uV (Y.map (Value.int .u8)) (AO.push (UInt8.ofNat n.toNat)) Y rfl];simp
def AK{P:Program}{w:World}{e:TypeId}{b:ByteArray}:∃(arr:Array Value)(fr:Nat×Nat)(w':World)(cap:Nat)(rest:List Value),b.size<=cap/\(Conv.stringToBytes e b).run P w=.ok (.slice (some ⟨w.heap.size,0,none⟩) b.size cap) w'/\
 arr.toList=(b.data.toList.map λx=>Value.int .u8 x.toNat)++rest/\w'.heap[w.heap.size]?=some (.cells arr e fr)/\(∀k,k<w.heap.size->w'.heap[k]?=w.heap[k]?)/\w.heap.size<=w'.heap.size/\w'.os=w.os/\w'.tape=w.tape/\w'.output=w.output:=by
 obtain⟨cap,AI⟩:∃cap,cap=(Question.appendCap b.size 0 e).cut (w.tape w.drawn (.appendCap b.size 0 e)):=⟨_,rfl⟩;obtain⟨arr,AD⟩:∃arr:Array Value,arr=(b.data.map λx=>Value.int .u8 x.toNat)++Array.replicate (cap-b.size) (.int .u8 0):=⟨_,rfl⟩;obtain⟨O,AL⟩:∃O,O=w.drew.alloc (.cells arr e):=⟨_,rfl⟩;have AA:O.heap[w.heap.size]?=some (.cells arr e (0,0)):=by
  have:=heap_alloc_new w.drew (.cells arr e);rw[<-AL]at this;exact this
 have Ac:w.heap.size<O.heap.size:=(WU.1 AA).1;have BA:O.shape? w.heap.size=some (e,arr.size):=by simp[World.shape?,AA]
 refine⟨arr,(arr.size,arr.size+1),O.freeze ⟨w.heap.size,arr.size,none⟩ 1,cap,List.replicate (cap-b.size) (.int .u8 0),?_,?_,?_,?_,?_,?_,?_,?_,?_⟩
 .rw[AI];simp[Question.cut]
 .have Ad:(choose (.appendCap b.size 0 e)).run P w=.ok cap w.drew:=by
   rw[AI];rfl
  have BB:(newRow e arr).run P w.drew=.ok ⟨w.heap.size,0,none⟩ O:=by rw[AL];rfl
  have BC:(markStringish ⟨w.heap.size,0,none⟩).run P O=.ok () (O.freeze ⟨w.heap.size,arr.size,none⟩ 1):=by
   simp only[markStringish,shape,Sem.run_bind,Sem.run,BA,Result.andThen_ok,freeze]
  simp only[Conv.stringToBytes,Sem.run_bind,Ad,Result.andThen_ok,<-AD,BB,BC,Sem.run_pure]
 .rw[AD];simp
 .simp[World.freeze,XW,AA]
 .intro k AG;have H:(O.freeze ⟨w.heap.size,arr.size,none⟩ 1).heap[k]?=O.heap[k]?:=by
   simp only[World.freeze,Nat.one_ne_zero,Xw,XW];rw[WO (by omega)]
  rw[H,AL];exact RowKit.Below.heap_alloc w.drew _ k AG
 .simp[World.freeze];omega
 .simp[World.freeze,AL];rfl
 .simp[World.freeze,AL]
 .simp[World.freeze,AL];rfl
def Cg(n:Int):byteOf (.int .u8 n)=UInt8.ofNat n.toNat:=rfl
def Bv(P:Program)(S:St)(o:Oper)(src dst:TypeId)(x:Operand)(AW:o.op=.convert src dst x)(J:(S.ag x).1=true):aj P S o (gZ P S.mem (keyOf o) src dst (S.ag x).2):=by
 have A':∀(a:Act)(w w':World)(v:Value),(convert src dst (a.eval x)).run P w=.ok v w'->(execOp a.eval o).run P w=.ok (.value v) w':=by
  intro a w w' v h;simp[execOp,AW,h]
 unfold gZ;split
 .rename_i k BU n I A0;refine aj.pure λA3 φ G a w E=>?_;have H:=E.ag x J;rw[A0]at H;obtain⟨BD,hu⟩:=tQ A3;refine⟨.int k (k.wrap n),A' a w w _ ?_,.d _ _ (.int _ _)⟩;rw[eT H];simp[convert,run_underlying hu,run_underlying (o6 I),Conv.intToInt]
 .rename_i k n I A0;refine aj.pure λA3 φ G a w E=>?_;have H:=E.ag x J;rw[A0]at H;obtain⟨BD,hu⟩:=tQ A3;refine⟨.string (Utf8.encode n),A' a w w _ ?_,.d _ _ (.str _ _ rfl)⟩;rw[eT H];simp[convert,run_underlying hu,run_underlying (ik I),Conv.intToString]
 .rename_i s I A0;refine aj.pure λA3 φ G a w E=>?_;have H:=E.ag x J;rw[A0]at H;obtain⟨b,Ao,rfl⟩:=lE H;refine⟨.string b,A' a w w _ ?_,.d _ _ (.str _ _ rfl)⟩;rw[Ao];simp[convert,run_underlying (ik A3),run_underlying (ik I)]
 .rename_i I _ _;split
  .rename_i e AZ;split
   .rename_i c A6 AB;refine aj.pure ?_;rintro ⟨A3,A_,BV,AP⟩ φ G a w E;replace AP:=λd I=>D.D0 (AP d I);have A0:=E.ag x J;obtain⟨BE,Ap⟩:=yC (P:=P) E.mem A0 AB A3 (λd I=>by obtain⟨n,rfl⟩:=AP d I;rfl);have W:=Ap.len w;have AQ:=Ap.first w (λ_ _=>rfl);obtain⟨BF,BW,BX,BG⟩:=Ap.rows
    --BY cells as numbers
    have Aa:∃Y:List Int,BE=Y.map (Value.int .u8)/\A6=Y.map (D.int .u8):=by
     refine⟨A6.map λd=>(match d with| .int _ n=>n|_=>0),?_,?_⟩
     .apply List.ext_getElem?;intro i;by_cases hi:i<A6.length
      .obtain⟨v,M,BH⟩:=BG i A6[i] (by simp[hi]);obtain⟨n,Ab⟩:=AP A6[i] (Xf hi);rw[Ab]at M;cases M;have:=BH 0 (.int .u8 n) rfl;simp only[XR,Xq]at this;rw[this];simp[hi,Ab]
      .rw[Xx (by rw[BF];omega),Xx (by simp;omega)]
     .apply List.ext_getElem?;intro i;by_cases hi:i<A6.length
      .obtain⟨n,Ab⟩:=AP A6[i] (Xf hi);simp[hi,Ab]
      .rw[Xx (by omega),Xx (by simp;omega)]
    obtain⟨Y,rfl,rfl⟩:=Aa;generalize Ai:a.eval x=Aq at W AQ A0;have M:(∃ao m cap,Aq=.slice ao m cap)\/(∃b,Aq=.string b):=by
     cases Aq<;>first|exact .inl ⟨_,_,_,rfl⟩|exact .inr ⟨_,rfl⟩|(simp[Builtin.lenOf,stuck]at W)
    refine⟨.string ⟨(Y.map λn=>UInt8.ofNat n.toNat).toArray⟩,A' a w w _ ?_,.d _ _ (.str _ _ ?_)⟩
    .rw[Ai];rcases M with ⟨ao,m,cap,rfl⟩|⟨b,rfl⟩
     .simp only[Builtin.lenOf,Sem.run_pure,Result.ok.injEq,and_true]at W;subst W;cases ao with
      |none=>
       have BI:Y=[]:=by
        simp only[Builtin.firstCells,Sem.run_pure,Result.ok.injEq,and_true]at AQ;have:=Xi Array.size AQ;simp at this;exact W9 this.symm
       subst BI;simp[convert,run_underlying (cY AZ),run_underlying (ik I),run_underlying (o6 A_),Conv.bytesToString];rfl
      |some BZ=>
       simp only[Builtin.firstCells,XR]at AQ;have Z:=uV (P:=P) (w:=w) (Y.map (Value.int .u8)) ByteArray.empty Y rfl;simp only[convert,run_underlying (cY AZ),run_underlying (ik I),run_underlying (o6 A_),Sem.run_bind,Result.andThen_ok,Conv.bytesToString,AQ];rw[<-Array.forIn_toList];simp only[Sem.run_pure];refine Eq.trans (Xi (λr=>Result.andThen r λa w'=>Result.ok (Value.string a) w') Z) ?_;rfl
     .exfalso;have Aa:∀s,(S.ag x).2=.d (.str s)->False:=by assumption
      generalize (S.ag x).2=y at AB A0 Aa;unfold dq at AB;split at AB
      .cases A0 with|d _ _ h=>cases h
      .exact Aa _ rfl
      .cases A0
      .cases A0
      .split at AB
       .rename_i key Au B_ rows AJ;simp only[WR,W0]at AB;obtain⟨rfl,_⟩:=AB;obtain⟨_,_,L,AN,AH,_⟩:=E.mem.get AJ;cases A0 with
        |vec _ _ _ _ _ L' Az _ h _=>
         rw[AN]at Az;cases Az;obtain⟨_,_,V,_⟩:=h (by rw[<-(Xk A3).1];exact AH.symm);cases V
       .cases AB
      .cases AB
    .simp[Cg,Function.comp_def]
   .trivial
  .trivial
 .rename_i e s I A0;split
  .rename_i AZ A_ AJ;intro _ φ G a w E;have H:=E.ag x J;rw[A0]at H;obtain⟨b,Ao,rfl⟩:=lE H;have BJ:b.size=b.data.toList.length:=by rw[WQ];rfl
   obtain⟨arr,fr,w',cap,rest,AI,BK,AD,hh,hold,A4,BL,BM,BN⟩:=AK (P:=P) (w:=w) (e:=e) (b:=b);have AF:bc w (Fo G φ S.mem) 1 (lI b.data.toList) (b.data.toList.map λx=>Value.int .u8 x.toNat):=by
    refine⟨by simp[lI],?_,?_,?_⟩
    .intro v M;simp only[WS]at M;obtain⟨y,_,rfl⟩:=M;rfl
    .intro d I;simp only[lI,WS]at I;obtain⟨y,_,rfl⟩:=I;rfl
    .intro i d I;simp only[lI,WZ,WH]at I;obtain⟨y,BO,rfl⟩:=I;refine⟨.int .u8 y.toNat,.int _ _,λj c AC=>?_⟩;cases j with
     |zero=>simp only[Value.cells]at AC;simp at AC;subst AC;simp only[WZ,XR,Xq,BO];rfl
     |succ j=>simp[Value.cells]at AC
   have T:=yV (cap:=cap) AF hh AD (λx v h=>yW hold A4 x v h) (λh=>absurd (tO E.mem _ h) (Nat.lt_irrefl _)) (by simp[lI];exact AI);refine⟨_,w',.inl (A' a w w' _ ?_),.d _ _ T,hold,A4,BL,BM,BN⟩;have W:(lI b.data.toList).length=b.size:=by rw[BJ];simp[lI]
   rw[Ao,W];simp only[convert,run_underlying (ik AZ),run_underlying (cY I),run_underlying (o6 A_),Sem.run_bind,Result.andThen_ok];exact BK
  .trivial
 .trivial
def eo(S:St):List Operand->Bool
 |[]=>true
 |x::r=>(S.ag x).1&&eo S r
def nY{S:St}:∀{l:List Operand},eo S l=true->∀x∈l,(S.ag x).1=true
 |[],_,x,I=>by grind
 |y::r,h,x,I=>by
  simp[eo]at h;rcases WK.1 I with rfl|I
  .grind
  .exact nY h.2 x I
def dt(S:St)(o:Oper):Bool:=
 match o.op with
 | .pick _ _ _=>true
 |op=>eo S op.operands.toList
def mw(P:Program)(m:Mem)(AO:Nat)(t:TypeId)(x:AV):br:=
 match x with
 | .lit (.slice none 0 0)=>match Mem.get m AO with
  |some ⟨_,v,_⟩=>match tk P t with
   | .slice e=>match b5 P e with
    |some sz=>.bo true (.vec AO (v+1) 0 0) ⟨AO,v+1,.vec sz []⟩
    |none=>.val true x
   |_=>.val true x
  |none=>.val true x
 |x=>.val true x
def yY(P:Program)(S:St)(o:Oper)(x:Operand)(A:o.op=.move x\/o.op=.assign x)(I:(S.ag x).1=true):aj P S o (mw P S.mem (keyOf o) o.type (S.ag x).2):=by
 have plain:aj P S o (.val true (S.ag x).2):=by
  have:=Ip P S o x A I;grind
 unfold mw;split
 .rename_i A';split
  .rename_i key v cont W;split
   .split
    .rename_i sz A2;intro _ φ G a w H;obtain⟨hm,Y,L,T,V,AW⟩:=H.mem.get W;subst Y;have A4:=H.ag x I;rw[A']at A4;generalize BH:a.eval x=u at A4;cases A4;obtain⟨φ',AF,AG,AP,AC⟩:=H.mem.bo (e':=⟨keyOf o,v+1,.vec sz []⟩) hm T rfl (L':=⟨v+1,0,sz,0,0,[],none⟩) (by grind) (λhh=>by grind) rfl
      (w':=w) (λ_ _ _=>rfl) (Ds _) (λ_ A=>absurd A.1 (by simp)) rfl rfl rfl (λφ' BI Bo=>
       ⟨rfl,by simp,by simp,λO=>by grind⟩)
     refine⟨.slice none 0 0,w,φ',.inl ?_,?_,AF,AG,AC⟩
     .rcases A with A|A<;>simp[execOp,A,BH]
     .exact .vec _ (v+1) 0 _ _ _ AP (Ds _) (λ_=>⟨_,_,rfl,by simp,λh=>by omega⟩) rfl
    grind
   grind
  grind
 grind
def rp:Value->Bool
 | .slice none 0 0=>true
 | .pointer none=>true
 | .nilIface=>true
 |_=>false
def rq(P:Program)(m:Mem)(op:BinOp)(t:TypeId)(x y:AV):br:=
 match op,x,y with
 | .neq,.ptr k v o,.ptr A8 AJ Au=>match Mem.get m k,tk P t with
  |some ⟨_,v0,_⟩,.ptr e=>.val (v0=v/\A8=k/\AJ=v/\Au=o/\(b5 P e).isSome=true) (.d (.bool false))
  |_,_=>.no
 |op,x,y=>j8 P op t x y
def J3(P:Program)(m:Mem)(op:BinOp)(t:TypeId)(x:D)(y:AV):rq P m op t (.d x) y=j8 P op t (.d x) y:=by cases op<;>rfl
def tS{P:Program}{t:TypeId}(h:(b5 P t).isSome=true):∃j,P.info? t=some j/\b5 P t=some j.size:=by
 unfold b5 at h⊢;cases hi:P.info? t with
 |none=>simp[hi]at h
 |some j=>exact⟨j,rfl,rfl⟩
def Iq(P:Program)(S:St)(o:Oper)(An:BinOp)(t AQ:TypeId)(x y:Operand)(A:o.op=.binOp An t x y AQ)(I:(S.ag x).1=true)(A9:(S.ag y).1=true):aj P S o (rq P S.mem An t (S.ag x).2 (S.ag y).2):=by
 unfold rq;split
 .rename_i k v CN A8 AJ Au A' BJ;split
  .rename_i key v0 cont e W Av;refine aj.pure ?_;rintro ⟨rfl,rfl,rfl,rfl,A2⟩ φ G a w H;obtain⟨hm,Y,L,T,V,_⟩:=H.mem.get W;have E:=H.ag x I;have J:=H.ag y A9;rw[A']at E;rw[BJ]at J;obtain⟨j,AB,_⟩:=tS A2;refine⟨.bool false,?_,.d _ _ (.bool _)⟩;have AD:=Lib.run_neq_ptr_same (P:=P) w ⟨L.ba,Au,none⟩ (yN Av) AB;have W:(eqGuard .neq t x y (.pointer (some ⟨L.ba,Au,none⟩)) (.pointer (some ⟨L.ba,Au,none⟩))).run P w=.ok () w:=rf P w _ t x y _ _ (by simp);simp[execOp,A,E.fZ T V,J.fZ T V,AD,W]
  .trivial
 .exact Br P S o _ t AQ x y A I A9
def lJ(P:Program)(S:St)(op:BinOp)(t:TypeId)(x y:Operand):br:=
 match y with
 | .const v=>match rp v,op with
  |true,.eql=>fk P S.mem false t (S.ag x).2 v
  |true,.neq=>fk P S.mem true t (S.ag x).2 v
  |_,_=>j8 P op t (S.ag x).2 (S.ag (.const v)).2
 |y=>rq P S.mem op t (S.ag x).2 (S.ag y).2
def D3(P:Program)(S:St)(o:Oper)(An:BinOp)(t AQ:TypeId)(x y:Operand)(A:o.op=.binOp An t x y AQ)(I:(S.ag x).1=true)(A9:(S.ag y).1=true):aj P S o (lJ P S An t x y):=by
 unfold lJ;split
 .split
  .exact Bt P S o false t AQ x _ (by grind) I
  .exact Bt P S o true t AQ x _ (by grind) I
  .exact Br P S o _ t AQ x _ A I A9
 .exact Iq P S o An t AQ x y A I A9
def yZ{w:World}{F F':Nat->Prop}{sz:Nat}{AX:List D}{cs:List Value}{b off cap:Nat}(H:bc w F sz AX cs)(O:∀(j:Nat) v,cs[j]?=some v->w.cell? ⟨b,off+j,none⟩=some v)
 (AD:b<w.heap.size) (Aw:∀b,F' b->F b) (BK:¬F' b) (BL:AX.length<=cap):ar w F' (.list AX) (.slice (some ⟨b,off,none⟩) AX.length cap):=by
 obtain⟨E,J,A5,Ae⟩:=H;refine .list AX b off cap sz (λi=>if h:i<AX.length then Classical.choose (Ae i AX[i] (by simp))else undef) BL AD BK A5 (λi d A0=>?_) (λi j c hi AB=>?_)
 .have hi:=(D1.1 A0).1;have:=Classical.choose_spec (Ae i AX[i] (by grind));simp[hi];have e:AX[i]=d:=(D1.1 A0).2;rw[<-e];exact this.1.mono (λ_ _ _=>rfl) (Ds _) (λb _=>Aw b)
 grind
def tT{φ w F F'}{k U off len sz:Nat}{rows:List D}{L:Loc}{v:Value}(A4:ai φ w F (.vec k U off len) v)(T:φ k=some L)(V:L.U=U)(O:bw φ w F L (.vec sz rows))(hle:off+len<=rows.length)
 (Aw:∀b,F' b->F b) (BK:0<L.cap->¬F' L.ba):ar w F' (.list ((rows.drop off).take len)) v:=by
 have Bp:((rows.drop off).take len).length=len:=by grind
 cases A4 with
 |vec _ _ _ _ _ L' AZ _ h _=>
  rw[T]at AZ;cases AZ;obtain⟨ao,cap,rfl,BM,Ax⟩:=h V.symm;by_cases Bq:len=0
  .subst Bq;exact .nil _ _ (λZ=>by
    grind)
  .obtain⟨arr,elem,hh,Af,BN,H⟩:=jc O (by omega);have Ao:=(H.drop off).take len (by grind);have:=yZ (F':=F') (b:=L.ba) (off:=L.base+off*L.sz) (cap:=cap) Ao (λj u AB=>by
    rw[dz hh,O.1];grind) hh.lt Aw (BK (by omega)) (by omega)
   grind
def Mem.set_set{e e':bn}(Y:e'.key=e.key):∀m:Mem,Mem.set (Mem.set m e) e'=Mem.set m e'
 |[]=>rfl
 |x::r=>by
  simp[Mem.set];by_cases h:x.key=e.key
  .rw[W2 h,W2 (by grind)];simp[Mem.set];grind
  .rw[WO h,WO (by grind)];simp[Mem.set];rw[WO (by grind),Mem.set_set Y r]
def J4{φ:aR}{G m w}(h:aI φ G m w){k v sz n:Nat}{rows:List D}(W:Mem.get m k=some ⟨k,v,.vec sz rows⟩){x:Value}(I:ai φ w (Fo G φ m) (.vec k v 0 n) x)(Z:n<=rows.length):
 ∃φ',aI φ' G (Mem.set m ⟨k,v+1,.dead⟩) w/\aB φ m w φ' (Mem.set m ⟨k,v+1,.dead⟩) w/\(∀j,j≠k->φ' j=φ j)/\ar w (Fo G φ' (Mem.set m ⟨k,v+1,.dead⟩)) (.list (rows.take n)) x:=by
 obtain⟨hm,_,L,T,V,AW⟩:=h.get W;obtain⟨φ',AF,AG,AP,AC⟩:=h.bo (e:=⟨k,v,.vec sz rows⟩) (e':=⟨k,v+1,.dead⟩) hm T rfl (L':={L with U:=v+1}) (by grind) (λhh=>by grind) rfl
  (w':=w) (λ_ _ _=>rfl) (Ds _) (λ_ A=>A.elim) rfl rfl rfl (λ_ _ _=>trivial)
 have Bs:∀b,ei φ' (Mem.set m ⟨k,v+1,.dead⟩) b->ei φ m b/\∀(_:0<L.cap),b≠L.ba:=by
  rintro b ⟨y,A9,B2,AR,Ap⟩;rcases (Mem.mem_set h.nodup).1 A9 with ⟨rfl,_⟩|⟨B3,AK⟩
  .exact Ap.elim
  .simp only at AK;rw[AC _ AK]at AR;refine⟨⟨y,B3,B2,AR,Ap⟩,λO heq=>AK (h.apart y B3 _ hm B2 L AR T ⟨b,Ap,O,heq.symm⟩)⟩
 have:=tT I T V AW (by omega) (F':=Fo G φ' (Mem.set m ⟨k,v+1,.dead⟩)) (λb=>Or.imp id (λAD=>(Bs b AD).1)) (λO=>by
  rintro (BO|A)
  .exact h.fW _ ⟨_,hm,L,T,O,rfl⟩ BO
  grind)
 grind
def nZ(m:Mem)(b:Bool)(AO:Nat):br->br
 | .bo c (.vec k v 0 n) ⟨A8,AJ,.vec sz rows⟩=>if b=true/\k≠AO/\A8=k/\AJ=v/\n<=rows.length/\(Mem.get m k).isSome=true then .bo c (.d (.list (rows.take n))) ⟨k,v+1,.dead⟩else .bo c (.vec k v 0 n) ⟨A8,AJ,.vec sz rows⟩
 |r=>r
def FZ{P:Program}{S:St}{o:Oper}{b:Bool}{AO:Nat}{r:br}(h:aj P S o r):aj P S o (nZ S.mem b AO r):=by
 unfold nZ;split
 .rename_i c k v n A8 AJ sz rows;split
  .rename_i hh;obtain⟨_,_,rfl,rfl,Z,A2⟩:=hh;intro O φ G a w H;obtain⟨x,w',φ',E,J,A5,Ae,Bd⟩:=h O φ G a w H;have BP:A8∈S.mem.map (·.key):=by
    cases W:Mem.get S.mem A8 with
    |none=>grind
    |some e=>
     obtain⟨Bu,CO⟩:=Mem.get_mem W;grind
   obtain⟨BQ,q1,q2,q3,Be⟩:=J4 A5 (Mem.get_set_same (x:=⟨A8,AJ,.vec sz rows⟩) BP) J Z;rw[Mem.set_set (e:=⟨A8,AJ,.vec sz rows⟩) (e':=⟨A8,AJ+1,.dead⟩) rfl]at q1 q2 Be;exact⟨x,w',BQ,E,.d _ _ Be,q1,Ae.trans q2,λj AB=>by grind⟩
  grind
 grind
def Ch(P:Program)(t:TypeId):AV->br
 | .lit (.slice none 0 0)=>match tk P t with
  | .slice _=>.val True (.d (.int .i64 0))
  |_=>.no
 |_=>.no
def J5(P:Program)(S:St)(o:Oper)(x:Operand)(t:TypeId)(A:o.op=.call {callee:=.builtin .cap,args:=#[x],argTypes:=#[t]})(I:(S.ag x).1=true):aj P S o (Ch P t (S.ag x).2):=by
 have BR:∀(a:Act)(w:World)(v:Value),(Builtin.cap_ #[t] o.type #[a.eval x]).run P w=.ok v w->(execOp a.eval o).run P w=.ok (.value v) w:=by
  intro a w v h;simp[execOp,A,resolve,invoke,builtin,h]
 unfold Ch;split
 .rename_i A';split
  .rename_i e Av;refine aj.pure λ_ φ G a w H=>?_;have E:=H.ag x I;rw[A']at E;generalize A7:a.eval x=av at E;cases E with|lit _ h=>
   refine⟨_,BR a w (.int .i64 0) ?_,.d _ _ (.int _ _)⟩;rw[A7];simp[Builtin.cap_,run_underlying (cY Av),goInt]
  .trivial
 .trivial
def y5(m:Mem):AV->br
 | .vec k U 0 len=>match Mem.get m k with
  |some ⟨_,v,.buf _ _⟩=>.val (v=U/\0<len) (.bb k U 0 0)
  |_=>.no
 |_=>.no
def MI(P:Program)(S:St)(o:Oper)(x:Operand)(t:TypeId)(A:o.op=.call {callee:=.builtin .unsafeSliceData,args:=#[x],argTypes:=#[t]})(I:(S.ag x).1=true):aj P S o (y5 S.mem (S.ag x).2):=by
 unfold y5;split
 .rename_i k U len A';split
  .rename_i key v tb bs W;refine aj.pure ?_;rintro ⟨rfl,Ay⟩ φ G a w H;obtain⟨hm,Y,L,T,V,AW⟩:=H.mem.get W;have E:=H.ag x I;rw[A']at E;generalize A7:a.eval x=av at E;cases E with
   |vec _ _ _ _ _ L' AZ _ h _=>
    rw[T]at AZ;cases AZ;obtain⟨ao,cap,rfl,BM,Ax⟩:=h V.symm;obtain⟨rfl,_⟩:=Ax (by omega);refine⟨.pointer (some ⟨L.ba,L.base+0*L.sz,none⟩),?_,.bb k v 0 0 _ L T (Nat.le_of_eq V.symm) (λ_=>rfl) rfl⟩;have:=Lib.run_unsafeSliceData_row (P:=P) w #[t] o.type ⟨L.ba,L.base+0*L.sz,none⟩ len cap (by omega);simp[execOp,A,resolve,invoke,builtin,A7]at this⊢;simp[this]
  .trivial
 .trivial
def y6(P:Program)(m:Mem)(Bw:TypeId)(p n:AV):br:=
 match p,n with
 | .bb k U 0 0,.d (.int .i64 len)=>match Mem.get m k,tk P Bw with
  |some ⟨_,v,.buf tb bs⟩,.ptr e=>.bo (v=U/\0<bs.length/\len=bs.length/\bs.length<=4611686018427387904/\tb=e/\P.cellsOf e=1) (.d (.str bs)) ⟨k,U+1,.dead⟩
  |_,_=>.no
 |_,_=>.no
def MJ(P:Program)(S:St)(o:Oper)(x y:Operand)(t u:TypeId)(A:o.op=.call {callee:=.builtin .unsafeString,args:=#[x,y],argTypes:=#[t,u]})(I:(S.ag x).1=true)(A9:(S.ag y).1=true):aj P S o (y6 P S.mem t (S.ag x).2 (S.ag y).2):=by
 unfold y6;split
 .rename_i k U len A' BJ;split
  .rename_i key v tb bs e W Av;refine aj.jE ?_;rintro ⟨rfl,Ay,rfl,CP,rfl,By⟩ φ G a w H;obtain⟨hm,Y,L,T,V,⟨BS,Ag⟩,BT,BL,Bf,BU⟩:=H.mem.get W;simp only at Y;subst Y;have E:=H.ag x I;have J:=H.ag y A9;rw[A']at E;rw[BJ]at J;have AS:=E.ft T V;have Aq:=eT J;have CQ:(iS bs).length=bs.length:=by simp[iS]
   have Ah:0<L.cap:=by omega
   obtain⟨arr,elem,⟨fr,hh,BV⟩,Af,BN,A_⟩:=BU Ah;rw[Ag Ah]at hh;rw[BS,BT]at AS;have Ai:w.shape? L.ba=some (tb,arr.size):=by simp[World.shape?,hh]
   have B4:=Lib.run_unsafeString_row (P:=P) w t u o.type tb (yN Av) By L.ba arr.size Ai bs (by intro h;simp[h]at Ay) (by rw[Af,BS,BT];omega) (by omega) (λj b AB=>by
    obtain⟨q,AE,Bz⟩:=A_ j (.int .u8 b.toNat) (by simp[iS,AB]);cases AE;have:=Bz 0 (.int .u8 b.toNat) rfl;rw[BS,BT]at this;rw[cF,qW hh];simpa using this)
   obtain⟨φ',AF,AG,AP,AC⟩:=H.mem.bo (e':=⟨key,v+1,.dead⟩) hm T rfl (L':={L with U:=v+1}) (by simp only at V⊢;omega) (λhh=>by simp only at V hh;omega) rfl
    (w':=w.freeze ⟨L.ba,0,none⟩ bs.length) (λb _ Z=>by
     have AK:b≠L.ba:=λh=>Z ⟨Ah,h.symm⟩;simp[World.freeze];grind) (by simp[World.freeze];grind) (λ_ A=>A.elim) (by simp[World.freeze];grind) (by simp[World.freeze];grind) (by simp[World.freeze];grind) (λ_ _ _=>trivial)
   refine⟨.string ⟨bs.toArray⟩,_,φ',.inl ?_,.d _ _ (.str _ _ (by simp)),AF,AG,AC⟩;have Az:a.eval x=.pointer (some ⟨L.ba,0,none⟩):=by rw[AS]
   simp[execOp,A,resolve,invoke,builtin,Az,Aq,B4]
  .trivial
 .trivial
def eW(P:Program)(S:St)(o:Oper)(b:Builtin)(args:List Operand)(AN:List TypeId):br:=
 match b,args,AN with
 | .len,[x],[t]=>ju P S.mem t (S.ag x).2
 | .append,[s,x],[t,u]=>nZ S.mem (Mem.get S.mem (keyOf o)).isSome (keyOf o) (l6 P S.mem (keyOf o) t u (S.ag s).2 (S.ag x).2)
 | .copy,[s,x],[t,_]=>pN P S.mem t (S.ag s).2 (S.ag x).2
 | .max,args,_=>wj true (args.map λx=>(S.ag x).2)
 | .min,args,_=>wj false (args.map λx=>(S.ag x).2)
 | .cap,[x],[t]=>Ch P t (S.ag x).2
 | .unsafeSliceData,[x],[_]=>y5 S.mem (S.ag x).2
 | .unsafeString,[x,y],[t,_]=>y6 P S.mem t (S.ag x).2 (S.ag y).2
 |_,_,_=>.no
def zeroOf:TK->Option D
 | .int k=>some (.int k 0)
 | .bool=>some (.bool false)
 |_=>none
def AL{t:TK}{z:D}(h:zeroOf t=some z):z.size=1/\∀(w:World)(F:Nat->Prop),∃v,ar w F z v/\v.cells=#[v]/\∀u,ar w F z u->u=v:=by
 cases t with
 |int k=>cases h;exact⟨rfl,λw F=>⟨_,.int k 0,rfl,λu hu=>by cases hu;rfl⟩⟩
 |bool=>cases h;exact⟨rfl,λw F=>⟨_,.bool false,rfl,λu hu=>by cases hu;rfl⟩⟩
 |_=>cases h
def D4:D->AV->Bool
 | .int k n,.d (.int A8 C')=>k == A8&&n == C'
 | .bool b,.d (.bool C0)=>b == C0
 |_,_=>false
def J6{z:D}{c:AV}(h:D4 z c=true):c=.d z:=by
 unfold D4 at h;split at h<;>simp_all
def y8(m:Mem)(k n:Nat)(z:D)(zs:List AV):br:=
 match Mem.get m k with
 |some ⟨_,v,_⟩=>.bo (zs.length=n/\zs.all (D4 z)=true) (.bb k (v+1) 0 0) ⟨k,v+1,.vec 1 (List.replicate n z)⟩
 |none=>.no
def nj(P:Program)(m:Mem)(k:Nat)(t:TypeId):br:=
 match j5 P t with
 |some (.lit (.pointer none)::.lit (.slice none 0 0)::zs)=>yA m k t (.lit (.slice none 0 0)::zs)
 |some zs=>match tk P t with
  | .arr n e=>if n<=3 then kM m k true zs else match zeroOf (tk P e)with
   |some z=>y8 m k n z zs
   |none=>kM m k true zs
  |_=>kM m k true zs
 |none=>.no
def J7(P:Program)(S:St)(o:Oper)(t:TypeId)(A:o.op=.alloc t)(n:Nat)(B5:D)(Bh:TK)(B6:zeroOf Bh=some B5)(zs:List AV)(Aa:j5 P t=some zs):aj P S o (y8 S.mem (keyOf o) n B5 zs):=by
 obtain⟨CS,Bi⟩:=AL B6;unfold y8;split
 .rename_i key v cont W;refine aj.jE ?_;rintro ⟨Z,C1⟩ φ G a w H;obtain⟨z,BR,B7,E,A_⟩:=ig Aa w;obtain⟨hm,Y,L,T,V,AW⟩:=H.mem.get W;subst Y;have C2:∀(w:World)(F:Nat->Prop)(i:Nat) u,z.cells[i]?=some u->ar w F B5 u:=by
   intro w' F i u hu;have hi:i<zs.length:=by
    grind
   have A5:=A_ φ w (λ_=>False) i zs[i] u (by grind) hu;rw[J6 (W7.1 C1 _ (Xf hi))]at A5;cases A5 with
   |d _ _ Ae=>
    cases Bh with
    |int k=>cases B6;cases Ae;exact .int k 0
    |bool=>cases B6;cases Ae;exact .bool false
    |_=>cases B6
  obtain⟨φ',AF,AG,AP,AC⟩:=H.mem.fresh (e:=⟨keyOf o,v,cont⟩) hm T V w rfl rfl rfl rfl z.cells t 1 n (.vec 1 (List.replicate n B5)) (λ_ AD=>AD.2) (λφ' hle A7 CT BW=>by
   refine⟨rfl,by simp,λd A0=>by grind,λ_=>⟨z.cells,t,cy.new BW,by grind,E,λi d A0=>?_⟩⟩;obtain⟨hi,rfl⟩:=D1.1 A0;simp at hi;have Bd:=λw F=>C2 w F i z.cells[i] (by grind);have Bu:=(Bd w (λ_=>False)).size;refine⟨z.cells[i],by grind,λj c AB=>?_⟩;rw[bV (E _ (by simp))]at AB;grind)
  refine⟨.pointer (some ⟨w.heap.size,0,none⟩),_,φ',.inl ?_,?_,AF,AG,AC⟩
  .simp[execOp,A,Instr.alloc,newVar,dB,BR]
  .exact .bb _ (v+1) 0 0 _ _ AP (Ds _) (λ_=>by simp) rfl
 .trivial
def D5(P:Program)(S:St)(o:Oper)(t:TypeId)(A:o.op=.alloc t):aj P S o (nj P S.mem (keyOf o) t):=by
 unfold nj;split
 .rename_i zs Aa;exact DJ P S o t A _ Aa
 .rename_i zs _ Aa;split
  .split
   .exact tP P S o t A zs Aa
   .split
    .rename_i Bi;exact J7 P S o t A _ _ _ Bi zs Aa
    .exact tP P S o t A zs Aa
  .exact tP P S o t A zs Aa
 .trivial
def uX(P:Program)(m:Mem)(src dst:TypeId)(k U off:Nat):br:=
 match Mem.get m k,P.underlying src,P.underlying dst with
 |some ⟨_,v,.box cs⟩,some (.pointer t),some .unsafePointer=>.val (v=U/\off<cs.length/\(b5 P t).isSome=true/\b5 P t≠some 0) (.ptr k U off)
 |some ⟨_,v,.box cs⟩,some .unsafePointer,some (.pointer u)=>match cs[off]? with
  |some (.tn A8 AJ t)=>.val (v=U/\A8=k/\AJ=v/\(b5 P u).isSome=true/\liesAt P P.depth t (cs.length/P.cellsOf t) off u 1=true) (.ptr k U off)
  |_=>.no
 |_,_,_=>.no
def F0(P:Program)(S:St)(o:Oper)(src dst:TypeId)(x:Operand)(A:o.op=.convert src dst x)(I:(S.ag x).1=true){k U off:Nat}(A':(S.ag x).2=.ptr k U off):aj P S o (uX P S.mem src dst k U off):=by
 unfold uX;split
 .rename_i key v cs t W A2 A0;refine aj.pure ?_;rintro ⟨rfl,Ar,B7,AK⟩ φ G a w H;obtain⟨hm,Y,L,T,V,A6,arr,elem,⟨fr,hh,BV⟩,Af,E,A_⟩:=H.mem.get W;have A4:=H.ag x I;rw[A']at A4;obtain⟨j,AB,BX⟩:=tS B7;have e:=A4.fZ T V;refine⟨_,?_,A4⟩;have Ai:w.shape? L.ba=some (L.ty.getD elem,arr.size):=by simp[World.shape?,hh]
  have:=Lib.run_to_unsafe (P:=P) w ⟨L.ba,off,none⟩ A2 A0 AB (by intro h;rw[h]at BX;exact AK BX) Ai (by simp only;omega);simp[execOp,A,e,this]
 .rename_i key v cs u W A2 A0;split
  .rename_i A8 AJ t O;refine aj.pure ?_;rintro ⟨rfl,rfl,rfl,B7,Ay⟩ φ G a w H;obtain⟨hm,Y,L,T,V,A6,arr,elem,⟨fr,hh,BV⟩,Af,E,A_⟩:=H.mem.get W;have A4:=H.ag x I;rw[A']at A4;obtain⟨j,AB,BX⟩:=tS B7;have e:=A4.fZ T V;have Ag:L.ty=some t:=by
    have hi:=(D1.1 O).1;have Ao:=A_ off _ arr[off] O (by simp);generalize arr[off]=q at Ao;cases Ao with
    |tn _ _ _ CU Bj _ h=>rw[T]at Bj;cases Bj;exact h V.symm
   rw[Ag]at hh;refine⟨_,?_,A4⟩;have Ai:w.shape? L.ba=some (t,arr.size):=by simp[World.shape?,hh]
   have:=Lib.run_from_unsafe (P:=P) w ⟨L.ba,off,none⟩ A2 A0 AB Ai (by rw[Af];exact Ay);simp[execOp,A,e,this]
  .trivial
 .trivial
def ka(P:Program)(m:Mem)(AO:Nat)(src dst:TypeId)(x:AV):br:=
 match x with
 | .vec k U off len=>match tk P dst with
  | .slice e=>match decide (src=dst),tk P e,Mem.get m k with
   |true,.int .u8,some ⟨_,v,.vec sz rows⟩=>.bo (decide (v=U/\0<len)) (.vec k U off len) ⟨k,U,.vec sz rows⟩
   |_,_,_=>.no
  |_=>gZ P m AO src dst (.vec k U off len)
 | .ptr k U off=>uX P m src dst k U off
 |x=>gZ P m AO src dst x
def F2(P:Program)(S:St)(o:Oper)(src dst:TypeId)(x:Operand)(A:o.op=.convert src dst x)(I:(S.ag x).1=true):aj P S o (ka P S.mem (keyOf o) src dst (S.ag x).2):=by
 unfold ka;split
 .rename_i k U off len A';split
  .rename_i e A0;split
   .rename_i key v sz rows BY C3 W;refine aj.jE ?_;rintro ⟨rfl,Bp⟩ φ G a w H;have BY:src=dst:=Xk BY;subst BY;obtain⟨hm,Y,L,T,V,AW⟩:=H.mem.get W;subst Y;have A4:=H.ag x I;rw[A']at A4;have C4:=A4;generalize BH:a.eval x=CV at A4 C4;cases A4 with
    |vec _ _ _ _ _ L' AZ _ h C5=>
     rw[T]at AZ;cases AZ;obtain⟨ao,cap,rfl,BM,Ax⟩:=h V.symm;obtain⟨rfl,BL⟩:=Ax (by omega);have Ah:0<L.cap:=by omega
     obtain⟨C6,C7,Bf,BU⟩:=AW;obtain⟨arr,elem,⟨fr,hh,BV⟩,Af,BN,A_⟩:=BU Ah;obtain⟨w',Aj⟩:∃w',w'=w.freeze ⟨L.ba,arr.size,none⟩ 1:=⟨_,rfl⟩;have BW:cy w' L.ba arr (L.ty.getD elem):=by
      obtain⟨lo,hi⟩:=fr;rw[Aj];by_cases he:lo=hi
      .refine⟨(arr.size,arr.size+1),?_,.inr (Ds _)⟩;simp[World.freeze,XW,hh,he]
      .refine⟨(min lo arr.size,max hi (arr.size+1)),?_,?_⟩
       .simp[World.freeze,XW,hh,he]
       grind
     have hold:∀b,b≠L.ba->w'.heap[b]?=w.heap[b]?:=by
      rw[Aj];simp[World.freeze];grind
     have CW:w'.heap.size=w.heap.size:=by rw[Aj];simp[World.freeze]
     have BZ:w'.os=w.os:=by rw[Aj];simp[World.freeze]
     have C8:w'.tape=w.tape:=by rw[Aj];simp[World.freeze]
     have C9:w'.output=w.output:=by rw[Aj];simp[World.freeze]
     have BP:Fo G φ S.mem L.ba:=.inr ⟨_,hm,L,T,Ah,rfl⟩;obtain⟨φ',AF,AG,AP,AC⟩:=H.mem.bo (e:=⟨key,v,.vec sz rows⟩) (e':=⟨key,v,.vec sz rows⟩) hm T rfl (L':=L) (Ds _) (λ_=>rfl) V
      (w':=w') (λb _ Z=>hold b (λhe=>Z ⟨Ah,he.symm⟩)) (by omega) (λ_ A=>.inl A) BZ C8 C9 (λφ' BI Bo=>by
       have Aw:∀b,Fo G φ' (Mem.set S.mem ⟨key,v,.vec sz rows⟩) b->Fo G φ S.mem b:=by
        rintro b (BO|⟨y,A9,B2,AR,Ap⟩)
        .exact .inl BO
        .right;rcases (Mem.mem_set H.mem.nodup).1 A9 with ⟨rfl,_⟩|⟨B3,AK⟩
         .rw[BI]at AR;simp at AR;subst AR;exact⟨_,hm,L,T,Ap⟩
         .rw[BI]at AR;simp[AK]at AR;exact⟨y,B3,B2,AR,Ap⟩
       exact⟨C6,C7,Bf,λ_=>⟨arr,elem,BW,Af,BN,λi d A0=>let ⟨u,hu,AB⟩:=A_ i d A0
        ⟨u,hu.mono (λb _ Z=>hold b (λhe=>Z (he▸BP))) (by omega) (λb _=>Aw b),AB⟩⟩⟩)
     refine⟨.slice (some ⟨L.ba,L.base+off*L.sz,none⟩) len cap,w',φ',.inl ?_,.vec key v off len _ L AP (Nat.le_of_eq V.symm) (λ_=>⟨_,_,rfl,BM,Ax⟩) C5,AF,AG,AC⟩;have Ai:w.shape? L.ba=some (L.ty.getD elem,arr.size):=by simp[World.shape?,hh]
     have CA:(markStringish ⟨L.ba,L.base+off*L.sz,none⟩).run P w=.ok () w':=by
      simp[markStringish,Sem.run,Ai,Aj]
     simp[execOp,A,BH,convert,run_underlying (cY A0),run_underlying (o6 C3),CA]
   .trivial
  .rw[<-A'];exact Bv P S o src dst x A I
 .rename_i A';exact F0 P S o src dst x A I A'
 .exact Bv P S o src dst x A I
def y9(P:Program)(s:TypeId)(f:Nat):Option TypeId:=
 match P.underlying s with
 |some (.struct fs)=>match fs[f]? with
  |some fl=>some fl.type
  |none=>none
 |_=>none
def pa(P:Program)(s:TypeId)(x:AV)(f:Nat):br:=
 match x with
 | .d (.agg cs)=>match pF P s f,y9 P s f with
  |some off,some e=>match (tk P e).agg,b5 P e with
   |false,some 1=>.val (off<cs.length/\tk P e≠.other) (.d (D.at cs off))
   |true,some sz=>.val (off+sz<=cs.length) (.d (.agg ((cs.drop off).take sz)))
   |_,_=>.no
  |_,_=>.no
 | .agg cs=>match pF P s f,y9 P s f with
  |some off,some e=>match (tk P e).agg,b5 P e,cs[off]? with
   |false,some 1,some c=>.val (tk P e≠.other) c
   |_,_,_=>.no
  |_,_=>.no
 |_=>.no
def xb{P:Program}{s:TypeId}{f off:Nat}{e:TypeId}(h:pF P s f=some off)(he:y9 P s f=some e):∃fs fl,P.underlying s=some (.struct fs)/\fs[f]?=some fl/\fl.offset=off/\fl.type=e:=by
 unfold pF at h;unfold y9 at he;grind
def D6(P:Program)(S:St)(o:Oper)(s:TypeId)(x:Operand)(f:Nat)(A:o.op=.field s x f)(I:(S.ag x).1=true):aj P S o (pa P s (S.ag x).2 f):=by
 unfold pa;split
 .rename_i cs A';split
  .rename_i off e B_ Ag;obtain⟨fs,fl,B8,B9,rfl,rfl⟩:=xb B_ Ag;split
   .rename_i B' A2;refine aj.pure ?_;rintro ⟨Ay,AK⟩ φ G a w H;have E:=H.ag x I;rw[A']at E;generalize A7:a.eval x=av at E;cases E with|d _ _ E=>
    cases E with|agg _ AT Bk CB BA=>
    refine⟨AT[fl.offset],?_,.d _ _ (BA fl.offset _ _ (getD_at (by omega)) (by grind))⟩;have A3:=nf (P:=P) (w:=w) (t:=fl.type) (cs:=AT) (off:=fl.offset) B' AK (v:=AT[fl.offset]) (by grind);simp[execOp,A,A7,Instr.field,run_underlying B8,B9,asAgg,A3]
   .rename_i sz B' A2;refine aj.pure ?_;rintro hle φ G a w H;have E:=H.ag x I;rw[A']at E;generalize A7:a.eval x=av at E;cases E with|d _ _ E=>
    have CC:=E;cases E with|agg _ AT Bk CB BA=>
    refine⟨_,?_,.d _ _ (qF CC fl.offset sz hle)⟩;have A3:=wY (P:=P) (w:=w) (t:=fl.type) (cs:=AT) (off:=fl.offset) B' A2;simp[execOp,A,A7,Instr.field,run_underlying B8,B9,asAgg,A3]
   .trivial
  .trivial
 .rename_i cs A';split
  .rename_i off e B_ Ag;obtain⟨fs,fl,B8,B9,rfl,rfl⟩:=xb B_ Ag;split
   .rename_i c B' A2 O;refine aj.pure ?_;rintro AK φ G a w H;have E:=H.ag x I;rw[A']at E;generalize A7:a.eval x=av at E;cases E with|agg _ AT Bk CX BA=>
    have CY:fl.offset<AT.size:=by grind
    refine⟨AT[fl.offset],?_,BA fl.offset c _ O (by grind)⟩;have A3:=nf (P:=P) (w:=w) (t:=fl.type) (cs:=AT) (off:=fl.offset) B' AK (v:=AT[fl.offset]) (by grind);simp[execOp,A,A7,Instr.field,run_underlying B8,B9,asAgg,A3]
   .trivial
  .trivial
 .trivial
def sB(P:Program)(x:AV)(asserted:TypeId)(ok:Bool):br:=
 match x with
 | .dJ t d=>match decide (t=asserted),ok with
  |true,true=>.val (tk P asserted≠.other/\tk P asserted≠.iface) (.bk [.d d,.d (.bool true)])
  |true,false=>.val (tk P asserted≠.other/\tk P asserted≠.iface) (.d d)
  |_,_=>.no
 |_=>.no
def J9{P:Program}{t:TypeId}(h:tk P t≠.other)(J:tk P t≠.iface):∃d,P.underlying t=some d/\∀ms,d≠.interface ms:=by
 unfold tk at h J;grind
def uY{P:Program}{w:World}{t CD asserted:TypeId}{v:Value}{ok:Bool}(h:tk P asserted≠.other)(J:tk P asserted≠.iface)(AM:t=asserted):
 (Instr.typeAssert (.iface t v) CD asserted ok).run P w=.ok (if ok then .tuple #[v,.bool true]else v) w:=by
 obtain⟨d,A0,Z⟩:=J9 h J;simp[Instr.typeAssert,run_underlying A0];simp_all
def D7(P:Program)(S:St)(o:Oper)(x:Operand)(Ba asserted:TypeId)(ok:Bool)(A:o.op=.typeAssert x Ba asserted ok)(I:(S.ag x).1=true):aj P S o (sB P (S.ag x).2 asserted ok):=by
 unfold sB;split
 .rename_i t d A';split
  .have AM:t=asserted:=by grind
   refine aj.pure ?_;rintro ⟨E,J⟩ φ G a w H;have AY:=H.ag x I;rw[A']at AY;generalize A7:a.eval x=av at AY;cases AY with|dJ _ _ v A0=>
   refine⟨.tuple #[v,.bool true],by simp[execOp,A,A7,uY E J AM],.bk _ _ rfl λi c u O hu=>?_⟩;match i,O,hu with
   |0,O,hu=>simp at O hu;subst O hu;exact .d _ _ A0
   |1,O,hu=>simp at O hu;subst O hu;exact .d _ _ (.bool _)
   |i+2,O,hu=>grind
  .have AM:t=asserted:=by grind
   refine aj.pure ?_;rintro ⟨E,J⟩ φ G a w H;have AY:=H.ag x I;rw[A']at AY;generalize A7:a.eval x=av at AY;cases AY with|dJ _ _ v A0=>
   exact⟨v,by simp[execOp,A,A7,uY E J AM],.d _ _ A0⟩
  .trivial
 .trivial
def nk(P:Program)(m:Mem)(k:Nat)(t:TypeId)(x:AV):br:=
 match tk P t,x,Mem.get m k with
 | .str,.d (.str s),some ⟨_,v,_⟩=>.bo true (.ptr k (v+1) 0) ⟨k,v+1,.eP s 0⟩
 |_,_,_=>.no
def pP(m:Mem)(b:Bool)(x:AV):br:=
 match b,x with
 |true,.ptr k U 0=>match Mem.get m k with
  |some ⟨_,v,.eP s pos⟩=>if pos<s.length then .bo (v=U/\(j9 s pos).toNat<128) (.bk [.d (.bool true),.d (.int .i64 pos),.d (.int .i32 (j9 s pos).toNat)]) ⟨k,U,.eP s (pos+1)⟩
   else .val (v=U) (.bk [.d (.bool false)])
  |_=>.no
 |_,_=>.no
def F3(P:Program)(S:St)(o:Oper)(t:TypeId)(x:Operand)(A:o.op=.range t x)(I:(S.ag x).1=true):aj P S o (nk P S.mem (keyOf o) t (S.ag x).2):=by
 unfold nk;split
 .rename_i s key v cont AM A' W;intro O φ G a w H;obtain⟨hm,Y,L,T,V,AW⟩:=H.mem.get W;simp only at Y V;subst Y;have E:=H.ag x I;rw[A']at E;obtain⟨b,AS,rfl⟩:=lE E;obtain⟨φ',AF,AG,AP,AC⟩:=H.mem.bo (e':=⟨keyOf o,v+1,.eP b.data.toList 0⟩) hm T rfl (L':=⟨v+1,w.heap.size,1,0,0,[],none⟩) (by simp only;omega) (λhh=>by simp only at hh;omega) rfl
   (w':=w.iter b 0) (λb AD _=>RowKit.Below.heap_alloc w _ b AD) (by simp[World.iter]) (λb A=>.inr (Nat.le_of_eq A)) rfl rfl rfl (λ_ _ _=>World.iter_heap w b 0)
  refine⟨.pointer (some ⟨w.heap.size,0,none⟩),_,φ',.inl ?_,.ptr _ (v+1) 0 _ _ AP (Ds _) (λ_=>rfl) rfl,AF,AG,AC⟩;simp[execOp,A,AS,run_range_string w t b (ik AM)]
 .trivial
def Ir(P:Program)(S:St)(o:Oper)(b:Bool)(x:Operand)(A:o.op=.next x b)(I:(S.ag x).1=true):aj P S o (pP S.mem b (S.ag x).2):=by
 unfold pP;split
 .rename_i k U A';split
  .rename_i key v s pos W;have run:∀{φ G}{a:Act}{w:World},Rel φ G S a w->v=U->∃L,φ k=some L/\L.U=v/\(⟨k,v,.eP s pos⟩:bn)∈S.mem/\w.heap[L.ba]?=some (.stringIter ⟨s.toArray⟩ pos)/\a.eval x=.pointer (some ⟨L.ba,0,none⟩):=by
    intro φ G a w H e;subst e;obtain⟨hm,Y,L,T,V,AW⟩:=H.mem.get W;simp only at Y V;subst Y;have E:=H.ag x I;rw[A']at E;exact⟨L,T,V,hm,AW,E.fZ T V⟩
   split
   .rename_i Ar;refine aj.jE ?_;rintro ⟨rfl,AA⟩ φ G a w H;obtain⟨L,T,V,hm,hh,AS⟩:=run H rfl;have A2:pos<(⟨s.toArray⟩:ByteArray).size:=by simpa [ByteArray.size]using Ar
    have Aq:((⟨s.toArray⟩:ByteArray)[pos]'A2)=j9 s pos:=by
     simp[j9,Ar,ByteArray.getElem_eq_getElem_data]
    have B4:=Lib.run_next_ascii_at (P:=P) w L.ba ⟨s.toArray⟩ pos o.type hh A2 (by rw[Aq];exact AA);rw[Aq]at B4;obtain⟨φ',AF,AG,AP,AC⟩:=H.mem.bo (e':=⟨k,v,.eP s (pos+1)⟩) hm T rfl (L':=L) (Ds _) (λ_=>rfl) V
     (w':=w.iterAt L.ba ⟨s.toArray⟩ (pos+1)) (λb _ Z=>Lib.iterAt_other w L.ba b _ _ (λh=>Z h.symm)) (by rw[Lib.iterAt_size];exact Ds _) (λ_ h=>.inl h) rfl rfl rfl (λ_ _ _=>Lib.iterAt_heap w L.ba _ pos (pos+1) hh)
    refine⟨_,_,φ',.inl (by simp[execOp,A,AS,B4];rfl),.bk _ _ rfl (λi c u O hu=>?_),AF,AG,AC⟩;match i,O,hu with
    |0,O,hu=>cases O;cases hu;exact .d _ _ (.bool _)
    |1,O,hu=>cases O;cases hu;exact .d _ _ (.int _ _)
    |2,O,hu=>cases O;cases hu;exact .d _ _ (.int _ _)
   .rename_i Ar;refine aj.pure ?_;rintro rfl φ G a w H;obtain⟨L,T,V,hm,hh,AS⟩:=run H rfl;have A2:¬pos<(⟨s.toArray⟩:ByteArray).size:=by simpa [ByteArray.size]using Ar
    refine⟨.tuple #[.bool false],by simp[execOp,A,AS,Lib.run_next_end_at (P:=P) w L.ba ⟨s.toArray⟩ pos o.type hh A2],.bk _ _ rfl (λi c u O hu=>?_)⟩;match i,O,hu with
    |0,O,hu=>cases O;cases hu;exact .d _ _ (.bool _)
  .trivial
 .trivial
def yc(P:Program)(g:FuncId):Bool:=
 match P.funcs[g]? with
 |some fn=>fn.name == "internal/abi.NoEscape" &&(fn.origin == "" &&fn.body.isNone)
 |none=>false
def zb(P:Program)(S:St)(g:FuncId)(args:List Operand)(AN:List TypeId):br:=
 match args,AN with
 |[x],[t]=>match tk P t with
  | .other=>match yc P g with
   |true=>.val True (S.ag x).2
   |false=>.no
  |_=>.no
 |_,_=>.no
def Ka(P:Program)(S:St)(o:Oper)(g:FuncId)(x:Operand)(t:TypeId)(A:o.op=.call {callee:=.value (.func g),args:=#[x],argTypes:=#[t]})(I:(S.ag x).1=true)(Z:yc P g=true):aj P S o (.val True (S.ag x).2):=by
 refine aj.pure λ_ φ G a w H=>⟨a.eval x,?_,H.ag x I⟩;unfold yc at Z;split at Z
 .rename_i fn Bb;simp only[WJ,beq_iff_eq]at Z;obtain⟨E,J,A5⟩:=Z;have AS:Extern.findNext fn=none:=by
   unfold Extern.findNext;rw[E,J];have q1:Extern.allNextRows.lookup "internal/abi.NoEscape" =none:=by kernel_rfl
   have q2:Extern.allNextRows.lookup "" =none:=by kernel_rfl
   simp only[q1,q2];rfl
  have Aq:Extern.find fn=some Extern.AbiNoEscape.same:=by
   unfold Extern.find;rw[E,J];have q1:Extern.allGenericRows.lookup "internal/abi.NoEscape" =none:=by kernel_rfl
   have q2:Extern.allTypedRows.lookup "internal/abi.NoEscape" =none:=by kernel_rfl
   have q3:Extern.allRows.lookup "internal/abi.NoEscape" =some Extern.AbiNoEscape.same:=by kernel_rfl
   simp only[q1,q2,q3];rfl
  have:=run_callFunc_extern (w:=w) Bb (by rw[E];rfl) A5 AS Aq #[a.eval x];rw[Lib.run_noEscape]at this;have Az:a.eval (.func g)=.func (.func g) #[] #[]:=rfl;simp[execOp,A,resolve,invoke,Az,Deferred.ofValue,this]
 .cases Z
def bx(P:Program)(S:St)(o:Oper):br:=
 match o.op with
 | .move x=>mw P S.mem (keyOf o) o.type (S.ag x).2
 | .assign x=>mw P S.mem (keyOf o) o.type (S.ag x).2
 | .pick c a b=>yb (S.ag c) (S.ag a) (S.ag b)
 | .alloc t=>nj P S.mem (keyOf o) t
 | .box _ x=>kM S.mem (keyOf o) (S.ag x).2.gz (S.ag x).2.cells
 | .load t x=>gV P S.mem t (S.ag x).2
 | .store t p x=>j4 P S.mem t (S.ag p).2 (S.ag x).2
 | .fieldAddr s x f=>jO P S.mem s f (S.ag x).2
 | .nilCheck x=>eL S.mem (S.ag x).2
 | .indexAddr t x i=>il P S.mem t (S.ag x).2 (S.ag i).2
 | .index t x i=>kP P t (S.ag x).2 (S.ag i).2
 | .slice t x lo hi none=>gf P S.mem t (S.ag x).2 (lo.map λy=>(S.ag y).2) (hi.map λy=>(S.ag y).2)
 | .binOp op t x y _=>lJ P S op t x y
 | .unOp op _ x=>yR op (S.ag x).2
 | .convert s d x=>ka P S.mem (keyOf o) s d (S.ag x).2
 | .makeInterface t x=>mv P t (S.ag x).2
 | .makeFunc f first cap=>jP f (first.toList.map λx=>(S.ag x).2) (cap.toList.map λx=>(S.ag x).2)
 | .makeSlice t l c=>pM P S.mem (keyOf o) t (S.ag l).2 (S.ag c).2
 | .build t ps=>uS P t (ps.toList.map λx=>(x.1,(S.ag x.2).2))
 | .buildSlice t len ps=>fL P S.mem (keyOf o) t len (ps.toList.map λx=>(x.1,(S.ag x.2).2))
 | .extract x i=>nh i (S.ag x).2
 | .field s x f=>pa P s (S.ag x).2 f
 | .typeAssert x _ t ok=>sB P (S.ag x).2 t ok
 | .call {callee:=.builtin b,args,argTypes}=>eW P S o b args.toList argTypes.toList
 | .call {callee:=.value (.func g),args,argTypes}=>zb P S g args.toList argTypes.toList
 | .range t x=>nk P S.mem (keyOf o) t (S.ag x).2
 | .next x b=>pP S.mem b (S.ag x).2
 |_=>.no
def zc(P:Program)(S:St)(o:Oper)(h:dt S o=true):aj P S o (bx P S o):=by
 unfold dt at h;unfold bx;have one:∀{l:List Operand},eo S l=true->∀x∈l,(S.ag x).1=true:=nY;split
 .rename_i x A;simp only[A]at h;exact yY P S o x (.inl A) (one h x (by simp[Op.operands]))
 .rename_i x A;simp only[A]at h;exact yY P S o x (.inr A) (one h x (by simp[Op.operands]))
 .rename_i c a b A;exact Io P S o c a b A
 .rename_i t A;exact D5 P S o t A
 .rename_i t x A;simp only[A]at h;exact JH P S o t x A (one h x (by simp[Op.operands]))
 .rename_i t x A;simp only[A]at h;exact (Bg P S o t x A (one h x (by simp[Op.operands]))).res
 .rename_i t p x A;simp only[A]at h;exact FO P S o t p x A (one h p (by simp[Op.operands])) (one h x (by simp[Op.operands]))
 .rename_i s x f A;simp only[A]at h;exact FU P S o s x f A (one h x (by simp[Op.operands]))
 .rename_i x A;simp only[A]at h;exact AH P S o x A (one h x (by simp[Op.operands]))
 .rename_i t x i A;simp only[A]at h;exact FV P S o t x i A (one h x (by simp[Op.operands])) (one h i (by simp[Op.operands]))
 .rename_i t x i A;simp only[A]at h;exact DW P S o t x i A (one h x (by simp[Op.operands])) (one h i (by simp[Op.operands]))
 .rename_i t x lo hi A;simp only[A]at h;exact FX P S o t x lo hi A (one h x (by simp[Op.operands])) (λy A9=>one h y (by simp[Op.operands,A9])) (λy A9=>one h y (by simp[Op.operands,A9]))
 .rename_i op t x y AQ A;simp only[A]at h;exact D3 P S o op t AQ x y A (one h x (by simp[Op.operands])) (one h y (by simp[Op.operands]))
 .rename_i op t x A;simp only[A]at h;exact MH P S o op t x A (one h x (by simp[Op.operands]))
 .rename_i s d x A;simp only[A]at h;exact F2 P S o s d x A (one h x (by simp[Op.operands]))
 .rename_i t x A;simp only[A]at h;exact yS P S o t x A (one h x (by simp[Op.operands]))
 .rename_i f first cap A;simp only[A]at h;exact AI P S o f first cap A (λx I=>one h x (by simp[Op.operands];left;simpa using I)) (λx I=>one h x (by simp[Op.operands];right;simpa using I))
 .rename_i t l c A;simp only[A]at h;exact Ij P S o t l c A (one h l (by simp[Op.operands])) (one h c (by simp[Op.operands]))
 .rename_i t ps A;simp only[A]at h;exact FY P S o t ps A (λx I=>one h x.2 (by simp only[Op.operands,List.toList_toArray,WS];exact⟨x,I,rfl⟩))
 .rename_i t len ps A;simp only[A]at h;exact xZ P S o t len ps A (λx I=>one h x.2 (by simp only[Op.operands,List.toList_toArray,WS];exact⟨x,I,rfl⟩))
 .rename_i x i A;simp only[A]at h;exact Cf P S o x i A (one h x (by simp[Op.operands]))
 .rename_i s x f A;simp only[A]at h;exact D6 P S o s x f A (one h x (by simp[Op.operands]))
 .rename_i x Ba t ok A;simp only[A]at h;exact D7 P S o x Ba t ok A (one h x (by simp[Op.operands]))
 .rename_i b args AN A;simp only[A]at h;have AA:∀x∈args.toList,(S.ag x).1=true:=λx I=>one h x (by simp[Op.operands,Call.operands];simpa using I);have Ab:∀{l:List Operand},args.toList=l->args=l.toArray:=λh=>by rw[<-h]
  have Ac:∀{l:List TypeId},AN.toList=l->AN=l.toArray:=λh=>by rw[<-h]
  unfold eW;split
  .rename_i x t E J;rw[Ab E,Ac J]at A;exact JY P S o x t A (AA x (by simp[E]))
  .rename_i s x t u E J;rw[Ab E,Ac J]at A;exact FZ <| JU P S o s x t u A (AA s (by simp[E])) (AA x (by simp[E]))
  .rename_i s x t u E J;rw[Ab E,Ac J]at A;exact Ik P S o s x t u A (AA s (by simp[E])) (AA x (by simp[E]))
  .exact DY P S o true args AN (by simpa using A) AA
  .exact DY P S o false args AN (by simpa using A) AA
  .rename_i x t E J;rw[Ab E,Ac J]at A;exact J5 P S o x t A (AA x (by simp[E]))
  .rename_i x t E J;rw[Ab E,Ac J]at A;exact MI P S o x t A (AA x (by simp[E]))
  .rename_i x y t u E J;rw[Ab E,Ac J]at A;exact MJ P S o x y t u A (AA x (by simp[E])) (AA y (by simp[E]))
  .trivial
 .rename_i g args AN A;simp only[A]at h;have AA:∀x∈args.toList,(S.ag x).1=true:=λx I=>one h x (by simp[Op.operands,Call.operands];right;simpa using I);have Ab:∀{l:List Operand},args.toList=l->args=l.toArray:=λh=>by rw[<-h]
  have Ac:∀{l:List TypeId},AN.toList=l->AN=l.toArray:=λh=>by rw[<-h]
  unfold zb;split
  .rename_i x t E J;rw[Ab E,Ac J]at A;split
   .split
    .exact Ka P S o g x t A (AA x (by simp[E])) (by assumption)
    .trivial
   .trivial
  .trivial
 .rename_i t x A;simp only[A]at h;exact F3 P S o t x A (one h x (by simp[Op.operands]))
 .rename_i x b A;simp only[A]at h;exact Ir P S o b x A (one h x (by simp[Op.operands]))
 .trivial
inductive XE where
 |normal
 |exit (id:Nat)
 |ret
 |panic (t:TypeId) (x:D)
def iU(n:Nat)(φ:aR)(G:Fr)(m:Mem)(w:World)(Q:XE->St->Prop):Exit->Act->World->Prop
 | .normal,A1,w'=>∃φ' M,M.n=n/\Q .normal M/\Rel φ' G M A1 w'/\aB φ m w φ' M.mem w'
 | .exit id,A1,w'=>∃φ' M,M.n=n/\Q (.exit id) M/\Rel φ' G M A1 w'/\aB φ m w φ' M.mem w'
 | .ret,A1,w'=>∃φ' M,M.n=n/\Q .ret M/\Rel φ' G M A1 w'/\aB φ m w φ' M.mem w'
 | .panic chain,A1,w'=>∃φ' M t x v,chain=[{v:=.iface t v,recovered:=false}]/\ar w' (Fo G φ' M.mem) x v/\M.n=n/\Q (.panic t x) M/\Rel φ' G M A1 w'/\aB φ m w φ' M.mem w'
 |_,_,_=>False
def iU.weaken{n φ G m w Q Ak m1 Ad e A1 w'}(Y:aB φ m w Ak m1 Ad)(h:iU n Ak G m1 Ad Q e A1 w'):iU n φ G m w Q e A1 w':=by
 cases e with
 |normal=>obtain⟨φ',M,A6,E,J,A5⟩:=h;exact⟨φ',M,A6,E,J,Y.trans A5⟩
 |exit id=>obtain⟨φ',M,A6,E,J,A5⟩:=h;exact⟨φ',M,A6,E,J,Y.trans A5⟩
 |ret=>obtain⟨φ',M,A6,E,J,A5⟩:=h;exact⟨φ',M,A6,E,J,Y.trans A5⟩
 |panic chain=>obtain⟨φ',M,t,x,v,O,A0,A6,E,J,A5⟩:=h;exact⟨φ',M,t,x,v,O,A0,A6,E,J,Y.trans A5⟩
 |_=>exact h.elim
def iU.mono{n φ G m w Q B0 e A1 w'}(AE:∀e S,Q e S->B0 e S)(h:iU n φ G m w Q e A1 w'):iU n φ G m w B0 e A1 w':=by
 cases e with
 |normal=>obtain⟨φ',M,A6,E,J⟩:=h;exact⟨φ',M,A6,AE _ _ E,J⟩
 |exit id=>obtain⟨φ',M,A6,E,J⟩:=h;exact⟨φ',M,A6,AE _ _ E,J⟩
 |ret=>obtain⟨φ',M,A6,E,J⟩:=h;exact⟨φ',M,A6,AE _ _ E,J⟩
 |panic chain=>obtain⟨φ',M,t,x,v,O,A0,A6,E,J⟩:=h;exact⟨φ',M,t,x,v,O,A0,A6,AE _ _ E,J⟩
 |_=>exact h.elim
def ir(P:Program)(c:Code)(S:St)(Q:XE->St->Prop):Prop:=
 ∀φ G a w,Rel φ G S a w->c.wp P (iU S.n φ G S.mem w Q) a w
def kc(all:List Oper)(S:St)(j:Nat):Option (Bool×AV):=
 match all[j]? with
 |some o=>match o.dst with
  |some t=>Env.lk S.env t
  |none=>none
 |none=>none
def fB(n:Nat)(ops:List Oper):Bool:=ops.all λo=>match o.dst with|some t=>decide (t<n)|none=>true
def hE(S:St)(d g x):(S.put d g x).n=S.n:=by cases d<;>rfl
def cM(S:St)(d g x):(S.put d g x).mem=S.mem:=by cases d<;>rfl
def s6.step{P:Program}{o:Oper}{a:Act}{w w':World}{v:Value}{next R}(h:s6 P o a w v w')(Z:next (a.put o.dst v) w'):o.wp P a w next R:=by
 unfold Oper.wp;rcases h with h|⟨h,rfl⟩<;>rw[h]<;>exact Z
def Rel.grow{φ G S a w w'}(h:Rel φ G S a w)(hold:∀b,b<w.heap.size->w'.heap[b]?=w.heap[b]?)(A2:w.heap.size<=w'.heap.size):Rel φ G S a w':=
 ⟨h.size,h.defers,λt x I=>(h.env t x I).mono (aR.le_refl _) (λb AD _=>hold b AD) A2 (λ_ _ h=>h),h.mem.grow hold A2,h.fX.mono (λb AD _=>hold b AD) A2 (λ_ _ h=>h)⟩
def F4{P:Program}{S:St}{o:Oper}{c:Bool}{x:AV}{gb:Bool}(H:aj P S o (.val c x))(O:c=true){φ G a w}(h:Rel φ G S a w)(A0:∀t,o.dst=some t->t<S.n){next:Act->World->Prop}{R}
 (Z:∀A1 w',Rel φ G (S.put o.dst gb x) A1 w'->aB φ S.mem w φ S.mem w'->next A1 w'):o.wp P a w next R:=by
 obtain⟨v,w',Bc,A7,hold,A2,BZ,AM,CE⟩:=H O φ G a w h;exact Bc.step (Z _ _ ((h.grow hold A2).put o.dst A0 gb x v (λ_=>A7)) (aB.grow hold A2 BZ AM CE))
def F5{P:Program}{S:St}{o:Oper}{c:Bool}{x:AV}{e:bn}(H:aj P S o (.bo c x e))(O:c=true){φ G a w}(h:Rel φ G S a w)(A0:∀t,o.dst=some t->t<S.n){next:Act->World->Prop}{R}
 (Z:∀φ' A1 w',Rel φ' G (({S with mem:=Mem.set S.mem e}:St).put o.dst true x) A1 w'->aB φ S.mem w φ' (Mem.set S.mem e) w'->next A1 w'):o.wp P a w next R:=by
 obtain⟨v,w',φ',Bc,A7,hm,Y,_⟩:=H O φ G a w h;exact Bc.step (Z φ' _ _ ((h.qU hm Y).put o.dst A0 true x v (λ_=>A7)) Y)
def D8{all:List Oper}{S:St}{j:Nat}{b:Bool}{φ G a w}(h:Rel φ G S a w)(W:kc all S j=some (true,.d (.bool b))):yielded all.toArray a.tmps j=some b:=by
 unfold kc at W;split at W
 .rename_i o A;split at W
  .rename_i t AM;have:=mI (h.env t _ W);unfold yielded;simp only[Xl,A,Xz,AM];rw[W4]at this;cases AE:a.tmps[t]? with
   |none=>simp[AE,undef]at this
   |some v=>simp[AE]at this;simp[this]
  .cases W
 .cases W
section
variable {P:Program} {S:St} {Q:XE->St->Prop}
theorem ir.mono{c:Code}{B0:XE->St->Prop}(h:ir P c S Q)(AE:∀e S,Q e S->B0 e S):ir P c S B0:=
 λφ G a w H=>wp_mono (h φ G a w H) λ_ _ _ A3=>A3.mono AE
def St.prune(S:St)(kf:List Nat):St:={S with env:=if kf=[0,0]then S.env else kf.filterMap λt=>(Env.lk S.env t).map λx=>(t,x)}
theorem np(env:Env):∀(kf:List Nat)(t:Nat)(x:Bool×AV),Env.lk (kf.filterMap λt=>(Env.lk env t).map λx=>(t,x)) t=some x->Env.lk env t=some x
 |[],t,x,h=>by simp[Env.lk]at h
 |k::r,t,x,h=>by
  simp only[List.filterMap_cons]at h;cases Y:Env.lk env k with
  |none=>simp[Y]at h;exact np env r t x h
  |some y=>
   simp only[Y,XB,Env.lk]at h;by_cases Bl:k=t
   .subst Bl;simp at h;subst h;exact Y
   .simp[Bl]at h;exact np env r t x h
theorem Rel.prune{φ G a w}(h:Rel φ G S a w)(kf:List Nat):Rel φ G (S.prune kf) a w:=
 ⟨h.size,h.defers,λt x I=>h.env t x (by
  simp only[St.prune]at I;split at I
  .exact I
  .exact np _ _ _ _ I),h.mem,h.fX⟩
theorem Bx{x y:Code}(h:ir P x S λe M=>match e with| .normal=>ir P y M Q|e=>Q e M):ir P (.seq x y) S Q:=by
 intro φ G a w H;refine wp_seq (wp_mono (h φ G a w H) λe A1 w' A3=>?_);cases e with
 |normal=>
  obtain⟨φ',M,Z,E,J,A5⟩:=A3;exact wp_mono (E φ' G A1 w' J) λe a2 B1 Bm=>by rw[Z]at Bm;exact Bm.weaken A5
 |_=>exact A3
theorem ze{c:Operand}{x y:Code}{b:Bool}(O:S.ag c=(true,.d (.bool b)))(AM:b=true->ir P x S Q)(Bb:b=false->ir P y S Q):ir P (.cond c x y) S Q:=by
 intro φ G a w H;have A4:=H.ag c (by rw[O]);rw[O]at A4;have e:=mI A4;cases b
 .exact wp_cond_false e (Bb rfl φ G a w H)
 .exact wp_cond_true e (AM rfl φ G a w H)
theorem F6(h:Q .normal S):ir P .skip S Q:=λφ _ _ _ H=>wp_skip ⟨φ,S,rfl,h,H,aB.refl ..⟩
theorem It(h:Q .ret S):ir P .ret S Q:=λφ _ _ _ H=>wp_ret ⟨φ,S,rfl,h,H,aB.refl ..⟩
theorem F7{id:Nat}(h:Q (.exit id) S):ir P (.exit id) S Q:=λφ _ _ _ H=>wp_exit ⟨φ,S,rfl,h,H,aB.refl ..⟩
theorem ru{id:Nat}{c:Code}(h:ir P c S λe M=>match e with| .exit BB=>if BB=id then Q .normal M else Q (.exit BB) M|e=>Q e M):ir P (.block id c) S Q:=by
 intro φ G a w H;refine wp_block (wp_mono (h φ G a w H) λe A1 w' A3=>?_);cases e with
 |exit BB=>
  obtain⟨φ',M,Z,E,J,A5⟩:=A3;simp only[Exit.inBlock];by_cases hid:BB=id
  .simp only[hid,XO]at E⊢;exact⟨φ',M,Z,E,J,A5⟩
  .simp only[hid,Xw]at E⊢;exact⟨φ',M,Z,E,J,A5⟩
 |_=>exact A3
theorem F8{c:Code}{α:Type}(AU:α->St)(BC:α->Prop)(BD:α->Nat)(Al:α)(CF:S=AU Al)(A6:BC Al)
 (round:∀x,BC x->ir P c (AU x) λe M=>match e with| .normal=>∃As,M=AU As/\BC As/\BD As<BD x|e=>Q e M):ir P (.loop c) S Q:=by
 intro φ G a w H;subst CF;intro b k cs;have key:∀n x Ak BE Ad,BD x=n->BC x->(AU x).n=(AU Al).n->Rel Ak G (AU x) BE Ad->aB φ (AU Al).mem w Ak (AU x).mem Ad->
  ∃e A1 w',iU (AU Al).n φ G (AU Al).mem w Q e A1 w'/\Arrives P (lone (b.at BE (.code c::.inLoop c::k)) cs Ad) b k cs e A1 w':=by
  intro n;induction n using Nat.strongRecOn with
  |_ n ih=>
   intro x Ak BE Ad Z CG BF AY BG;obtain⟨e,a2,B1,A3,At⟩:=round x CG Ak G BE Ad AY b (.inLoop c::k) cs;cases e with
   |normal=>
    obtain⟨BQ,CZ,CH,⟨As,rfl,CI,Ar⟩,Ao,CJ⟩:=A3;obtain⟨Az,a3,CK,CL,CM⟩:=ih (BD As) (by omega) As BQ a2 B1 rfl CI (CH.trans BF) Ao (BG.trans CJ);exact⟨Az,a3,CK,CL,.of_steps (Steps.trans At (.one step_inLoop)) CM⟩
   |exit id=>exact⟨.exit id,a2,B1,by rw[BF]at A3;exact iU.weaken (e:=.exit id) BG A3,.pass (x:=.inLoop c) rfl (λ_ _=>.inl (by simp)) At⟩
   |goto l=>exact A3.elim
   |ret=>exact⟨.ret,a2,B1,by rw[BF]at A3;exact iU.weaken (e:=.ret) BG A3,.pass (x:=.inLoop c) rfl (λ_ _=>.inl (by simp)) At⟩
   |panic Bn=>exact⟨.panic Bn,a2,B1,by rw[BF]at A3;exact iU.weaken (e:=.panic Bn) BG A3,.pass (x:=.inLoop c) rfl (λ_ _=>.inl (by simp)) At⟩
   |outgrown=>exact A3.elim
 obtain⟨e,A1,w',AE,At⟩:=key _ Al φ a w rfl A6 rfl H (aB.refl ..);exact⟨e,A1,w',AE,.of_steps (.one step_loop) At⟩
end
inductive Out where
 |ret (x:AV)
 |panic (t:TypeId) (x:D)
def jf(φ:aR)(w:World)(F:Nat->Prop):Out->Ending->Prop
 | .ret x,.returned v=>ai φ w F x v
 | .panic t x,.panicked chain=>∃v,chain=[{v:=.iface t v,recovered:=false}]/\ar w F x v
 |_,_=>False
def Ev(P:Program)(gl:List (Nat×D))(f:FuncId)(args:List AV)(m:Mem)(K:Out->Mem->Prop):Prop:=
 ∀φ G w (vs:Array Value),aI φ G m w->bY w (Fo G φ m) gl->args.length=vs.size->(∀(i:Nat) x v,args[i]?=some x->vs[i]?=some v->ai φ w (Fo G φ m) x v)->
  Calls P f vs w λe w'=>∃φ' m' out,K out m'/\aI φ' G m' w'/\aB φ m w φ' m' w'/\jf φ' w' (Fo G φ' m') out e
def Ev.mono{P gl f args m K K'}(h:Ev P gl f args m K)(E:∀o m,K o m->K' o m):Ev P gl f args m K':=
 λφ G w vs hm H A4 Aa=>(h φ G w vs hm H A4 Aa).mono λ_ _ ⟨φ',m',out,M,W⟩=>⟨φ',m',out,E _ _ M,W⟩
def fC:List Nat->Nat->Nat->Option Nat
 |[],_,_=>none
 |a::r,k,i=>if a=k then some i else fC r k (i+1)
def pQ:∀{ρ:List Nat}{k j i:Nat},fC ρ k j=some i->j<=i/\ρ[i-j]?=some k
 |[],k,j,i,h=>by simp[fC]at h
 |a::r,k,j,i,h=>by
  simp only[fC]at h;split at h
  .rename_i E;cases h;subst E;simp
  .obtain⟨M,W⟩:=pQ h;refine⟨by omega,?_⟩;rw[show i-j=(i-(j+1))+1 by omega];simpa using W
def eE:∀{ρ:List Nat}{k j:Nat},fC ρ k j=none↔k∉ρ
 |[],k,j=>by simp[fC]
 |a::r,k,j=>by
  simp only[fC,WK,not_or];split
  .rename_i E;subst E;simp
  .rename_i E;rw[eE];constructor
   .exact λh=>⟨λAb=>E Ab.symm,h⟩
   .exact λh=>h.2
def D9{ρ:List Nat}(AC:ρ.Nodup){i k:Nat}(h:ρ[i]?=some k):fC ρ k 0=some i:=by
 cases AA:fC ρ k 0 with
 |none=>exact absurd (WI h) (eE.1 AA)
 |some j=>
  obtain⟨_,W⟩:=pQ AA;simp only[Nat.sub_zero]at W;obtain⟨hi,AD⟩:=D1.1 h;obtain⟨V,AI⟩:=D1.1 W;have:=(List.getElem_inj AC).1 (AD.trans AI.symm);rw[this]
def n3:List AV->Option (List D)
 |[]=>some []
 | .d x::r=>match x.flat,n3 r with
  |true,some AO=>some (x::AO)
  |_,_=>none
 |_::_=>none
def xd:∀{l:List AV}{Y:List D},n3 l=some Y->l=Y.map .d/\∀d∈Y,d.flat=true
 |[],Y,h=>by simp[n3]at h;subst h;simp
 |x::r,Y,h=>by
  unfold n3 at h;split at h
  .rename_i heq;cases heq
  .rename_i y B3 heq;cases heq;split at h
   .rename_i AO AA Ac;cases h;obtain⟨M,W⟩:=xd Ac;refine⟨by rw[M];rfl,λd Z=>?_⟩;rcases WK.1 Z with rfl|Z
    .exact AA
    .exact W d Z
   .cases h
  .cases h
def F9:Option (List D)->AV
 |some Y=>.d (.list Y)
 |none=>.aC
mutual
def vw(m:Mem)(ρ:List Nat)(bor:Nat->Bool)(nv:Nat->Nat->Nat):AV->AV
 | .ptr k U off=>match Mem.get m k,fC ρ k 0 with
  |some e,some i=>if e.U=U then .ptr i (nv i U) off else .aC
  |_,_=>.aC
 | .tn k U t=>match Mem.get m k,fC ρ k 0 with
  |some e,some i=>if e.U=U then .tn i (nv i U) t else .aC
  |_,_=>.aC
 | .vec k U off len=>match Mem.get m k,fC ρ k 0 with
  |some e,some i=>if e.U=U then .vec i (nv i U) off len else .aC
  |some ⟨_,v,.vec _ rows⟩,none=>if bor k=true/\v=U/\off+len<=rows.length then .d (.list ((rows.drop off).take len))else .aC
  |some ⟨_,v,.box cs⟩,none=>if bor k=true/\v=U/\off+len<=cs.length then F9 (n3 ((cs.drop off).take len))else .aC
  |_,_=>.aC
 | .bb k U i j=>match Mem.get m k,fC ρ k 0 with
  |some e,some n=>if e.U=U then .bb n (nv n U) i j else .aC
  |_,_=>.aC
 | .agg cs=>.agg (lL m ρ bor nv cs)
 | .fn f cap=>.fn f (lL m ρ bor nv cap)
 | .bk vs=>.bk (lL m ρ bor nv vs)
 | .aC=>.aC
 | .d x=>.d x
 | .bR x j=>.bR x j
 | .dJ t x=>.dJ t x
 | .lit v=>.lit v
 | .nn=>.nn
 | .err=>.err
def lL(m:Mem)(ρ:List Nat)(bor:Nat->Bool)(nv:Nat->Nat->Nat):List AV->List AV
 |[]=>[]
 |x::r=>vw m ρ bor nv x::lL m ρ bor nv r
end
def mJ(m ρ bor nv):∀(l:List AV)(i:Nat),(lL m ρ bor nv l)[i]?=(l[i]?).map (vw m ρ bor nv)
 |[],i=>by simp[lL]
 |x::r,i=>by cases i with|zero=>simp[lL]|succ i=>simp[lL,mJ m ρ bor nv r i]
def gA(m ρ bor nv):∀(l:List AV),(lL m ρ bor nv l).length=l.length
 |[]=>rfl
 |x::r=>by simp[lL,gA m ρ bor nv r]
def aR.dY(φ:aR)(ρ:List Nat)(nv:Nat->Nat->Nat):aR:=λi=>
 match ρ[i]? with
 |some k=>(φ k).map λL=>{L with U:=nv i L.U}
 |none=>none
def ry(φ:aR)(m:Mem)(ρ:List Nat)(b:Nat):Prop:=∃k∈ρ,∃e L,Mem.get m k=some e/\φ k=some L/\e.cont.bg L b
def ry.own{φ m ρ b}(h:ry φ m ρ b):ei φ m b:=by
 obtain⟨k,_,e,L,H,A,A0⟩:=h;obtain⟨hm,rfl⟩:=Mem.get_mem H;exact⟨e,hm,L,A,A0⟩
def uZ{φ G m w}(h:aI φ G m w){ρ:List Nat}{k:Nat}{e:bn}{L:Loc}{b:Nat}(H:Mem.get m k=some e)(A:φ k=some L)(A0:e.cont.bg L b)(E:k∉ρ):¬ry φ m ρ b:=by
 rintro ⟨Ad,AE,e',L',Ae,J,Af⟩;obtain⟨hm,rfl⟩:=Mem.get_mem H;obtain⟨Ag,rfl⟩:=Mem.get_mem Ae;have:=h.apart e' Ag e hm L' L J A ⟨b,Af,A0⟩;exact E (this▸AE)
section
variable {φ:aR} {G:Fr} {m:Mem} {w:World} {ρ:List Nat} {bor:Nat->Bool} {nv:Nat->Nat->Nat} {AF:Nat->Prop}
theorem sC{k i:Nat}{L:Loc}(hi:fC ρ k 0=some i)(A:φ k=some L):φ.dY ρ nv i=some {L with U:=nv i L.U}:=by
 obtain⟨_,W⟩:=pQ hi;simp only[Nat.sub_zero]at W;simp[aR.dY,W,A]
theorem Kb(hm:aI φ G m w)(A3:∀b,AF b->Fo G φ m b)
 (AG:∀k e L b,Mem.get m k=some e->k∉ρ->bor k=true->φ k=some L->e.cont.bg L b->¬AF b) {y v} (h:ai φ w (Fo G φ m) y v):ai (φ.dY ρ nv) w AF (vw m ρ bor nv y) v:=by
 induction h with
 |aC v=>exact .aC v
 |d x v h=>exact .d x v (h.mono (λ_ _ _=>rfl) (Ds _) (λb _=>A3 b))
 |agg cs a A4 M _ ih=>
  refine .agg _ a (by rw[gA];exact A4) M (λi c v I q=>?_);rw[mJ]at I;obtain⟨y,A5,rfl⟩:=WH.1 I;exact ih i y v A5 q
 |ptr k U off v L A q h M=>
  unfold vw;split
  .rename_i e i H hi;split
   .rename_i he;obtain⟨_,_,L',J,T,_⟩:=hm.get H;rw[A]at J;cases J;have A2:L.U=U:=by rw[T];exact he
    refine .ptr i _ off v _ (sC hi A) (by simp[A2]) (λ_=>h A2.symm) M
   .exact .aC _
  .exact .aC _
 |tn k U t L A q h=>
  unfold vw;split
  .rename_i e i H hi;split
   .rename_i he;obtain⟨_,_,L',J,T,_⟩:=hm.get H;rw[A]at J;cases J;have A2:L.U=U:=by rw[T];exact he
    exact .tn i _ t _ (sC hi A) (by simp[A2]) (λ_=>h A2.symm)
   .exact .aC _
  .exact .aC _
 |vec k U off len v L A q h M=>
  unfold vw;split
  .rename_i e i H hi;split
   .rename_i he;obtain⟨_,_,L',J,T,_⟩:=hm.get H;rw[A]at J;cases J;have A2:L.U=U:=by rw[T];exact he
    refine .vec i _ off len v _ (sC hi A) (by simp[A2]) (λ_=>h A2.symm) M
   .exact .aC _
  .rename_i key AB sz rows H hi;split
   .rename_i I;obtain⟨A8,rfl,hle⟩:=I;obtain⟨_,_,L',J,T,O⟩:=hm.get H;rw[A]at J;cases J;refine .d _ _ (tT (.vec k AB off len v L A q h M) A T O hle A3 (λA0=>?_));exact AG k _ L _ H (eE.1 hi) A8 A ⟨A0,rfl⟩
   .exact .aC _
  .rename_i key AB cs H hi;split
   .rename_i I;obtain⟨A8,rfl,hle⟩:=I;obtain⟨_,_,L',J,T,O⟩:=hm.get H;rw[A]at J;cases J;obtain⟨⟨Ah,z2,z3⟩,arr,elem,AP,B4,Ai,Aj⟩:=O;cases Ak:n3 ((cs.drop off).take len)with
    |none=>exact .aC _
    |some Y=>
     obtain⟨AQ,Al⟩:=xd Ak;obtain⟨ao,cap,rfl,B5,AR⟩:=h T.symm;have An:Y.length=len:=by
      have:=Xi List.length AQ;simp at this;omega
     refine .d _ _ ?_;by_cases Ao:len=0
     .have:Y=[]:=W9 (by omega);subst this;subst Ao;refine .nil _ _ (λAC=>?_);cases cap with
      |zero=>rfl
      |succ c=>have:=(AR (by omega)).1;rw[AC]at this;cases this
     .obtain⟨rfl,_⟩:=AR (by omega);rw[<-An];have AS:∀(i:Nat) d,Y[i]?=some d->∃u,arr[off+i]?=some u/\ar w AF d u/\bd u=true:=by
       intro i d Z;have hi:i<Y.length:=(D1.1 Z).1;have Ap:cs[off+i]?=some (.d d):=by
        have:=Xi (·[i]?) AQ;simp only[WM,W6,WZ,Z]at this;rw[W2 (by omega)]at this;simpa using this
       have AT:off+i<arr.size:=by omega
       have AJ:=Aj (off+i) _ arr[off+i] Ap (by simp[AT]);cases AJ with
       |d _ _ AJ=>exact⟨_,by simp[AT],AJ.mono (λ_ _ _=>rfl) (Ds _) (λb _=>A3 b),Ai _ (by simp)⟩
      have Aq:L.ba<w.heap.size:=AP.lt;refine .list Y _ _ cap 1 (λi=>(arr[off+i]?).getD undef) (by omega) Aq (AG k _ L _ H (eE.1 hi) A8 A rfl) (λd Z=>?_) (λi d Z=>?_) (λi j c Ar V=>?_)
      .have:=Al d Z;cases d<;>simp_all [D.flat,D.size]
      .obtain⟨u,M,W,_⟩:=AS i d Z;simp only[M,Xy];exact W
      .obtain⟨u,M,W,AD⟩:=AS i Y[i] (by simp[Ar]);simp only[M,Xy,bV AD]at V;have As:j=0:=by
        have:=(WU.1 V).1;simpa using this
       subst As;simp at V;subst V;rw[dz AP,Ah,z2];simpa using M
   .exact .aC _
  .exact .aC _
 |bb k U i j v L A q h M=>
  unfold vw;split
  .rename_i e n H hi;split
   .rename_i he;obtain⟨_,_,L',J,T,_⟩:=hm.get H;rw[A]at J;cases J;have A2:L.U=U:=by rw[T];exact he
    refine .bb n _ i j v _ (sC hi A) (by simp[A2]) (λ_=>h A2.symm) M
   .exact .aC _
  .exact .aC _
 |bR x j b off At A8 Au AK I=>
  exact .bR x j b off At A8 (λh=>Au (A3 b h)) (AK.mono (λ_ _ _=>rfl) (Ds _) (λb _=>A3 b)) I
 |fn f cap a AA A4 _ ih=>
  refine .fn f _ a AA (by rw[gA];exact A4) (λi c v I q=>?_);rw[mJ]at I;obtain⟨y,A5,rfl⟩:=WH.1 I;exact ih i y v A5 q
 |lA f cap a A4 _ ih=>
  refine .lA f _ a (by rw[gA];exact A4) (λi c v I q=>?_);rw[mJ]at I;obtain⟨y,A5,rfl⟩:=WH.1 I;exact ih i y v A5 q
 |bk vs a A4 _ ih=>
  refine .bk _ a (by rw[gA];exact A4) (λi c v I q=>?_);rw[mJ]at I;obtain⟨y,A5,rfl⟩:=WH.1 I;exact ih i y v A5 q
 |dJ t x v h=>exact .dJ t x v (h.mono (λ_ _ _=>rfl) (Ds _) (λb _=>A3 b))
 |lit v h=>exact .lit v h
 |nn a cap=>exact .nn a cap
 |err t v=>exact .err t v
end
def bI:Nat->List (Nat×ax)->Mem
 |_,[]=>[]
 |i,(v,c)::r=>⟨i,v,c⟩::bI (i+1) r
def kQ:∀(l:List (Nat×ax))(i:Nat),(bI i l).map (·.key)=List.range' i l.length
 |[],i=>rfl
 |(v,c)::r,i=>by simp[bI,kQ r,XG]
def gg:∀{l:List (Nat×ax)}{i:Nat}{e:bn},e∈bI i l↔∃j v c,l[j]?=some (v,c)/\e=⟨i+j,v,c⟩
 |[],i,e=>by simp[bI]
 |(v,c)::r,i,e=>by
  simp only[bI,WK,gg (l:=r)];constructor
  .rintro (rfl|⟨j,AB,c',h,rfl⟩)
   .exact⟨0,v,c,by simp,by simp⟩
   .exact⟨j+1,AB,c',by simpa using h,by simp;omega⟩
  .rintro ⟨j,AB,c',h,rfl⟩;cases j with
   |zero=>simp at h;obtain⟨rfl,rfl⟩:=h;left;simp
   |succ j=>right;exact⟨j,AB,c',by simpa using h,by simp;omega⟩
def l7(m:Mem)(ρ:List Nat)(bor:Nat->Bool)(nv:Nat->Nat->Nat):ax->ax
 | .dead=>.dead
 | .box cs=>.box (lL m ρ bor nv cs)
 | .vec sz rows=>.vec sz rows
 | .vv rows y=>.vv rows (y.map (vw m ρ bor nv))
 | .buf t bs=>.buf t bs
 | .eP s p=>.eP s p
def oE(m:Mem)(ρ:List Nat)(bor:Nat->Bool)(nv:Nat->Nat->Nat)(i:Nat):Option bn->Nat×ax
 |some e=>(nv i e.U,l7 m ρ bor nv e.cont)
 |none=>(0,.dead)
def b9(m:Mem)(ρ:List Nat)(bor:Nat->Bool)(nv:Nat->Nat->Nat):Nat->List Nat->List (Nat×ax)
 |_,[]=>[]
 |i,k::r=>oE m ρ bor nv i (Mem.get m k)::b9 m ρ bor nv (i+1) r
def pR(m ρ bor nv):∀(l:List Nat)(i j:Nat),(b9 m ρ bor nv i l)[j]?=(l[j]?).map λk=>oE m ρ bor nv (i+j) (Mem.get m k)
 |[],i,j=>by simp[b9]
 |k::r,i,j=>by
  cases j with
  |zero=>simp[b9]
  |succ j=>simp[b9,pR m ρ bor nv r (i+1) j,W1,Nat.add_comm 1 j]
def ll(m ρ bor nv):∀(l:List Nat)(i:Nat),(b9 m ρ bor nv i l).length=l.length
 |[],i=>rfl
 |k::r,i=>by simp[b9,ll m ρ bor nv r]
def n4{m ρ bor nv L c b}:(l7 m ρ bor nv c).bg L b↔c.bg L b:=by cases c<;>exact Iff.rfl
def fM{L:Loc}{c:ax}{v b:Nat}:c.bg {L with U:=v} b↔c.bg L b:=by cases c<;>exact Iff.rfl
section
variable {φ:aR} {G G1:Fr} {m:Mem} {w:World} {ρ:List Nat} {bor:Nat->Bool} {nv:Nat->Nat->Nat}
theorem pc(AH:∀k∈ρ,(Mem.get m k).isSome=true)(b:Nat):ei (φ.dY ρ nv) (bI 0 (b9 m ρ bor nv 0 ρ)) b↔ry φ m ρ b:=by
 constructor
 .rintro ⟨e,he,L,A,A0⟩;obtain⟨j,v,c,V,rfl⟩:=gg.1 he;rw[pR]at V;obtain⟨k,E,A9⟩:=WH.1 V;simp only[Xt,aR.dY,E,WH]at A;obtain⟨A1,A7,rfl⟩:=A;have AU:=WI E;have:=AH k AU;obtain⟨A',A6⟩:=XN.1 this;rw[A6]at A9;simp only[oE,W0]at A9;obtain⟨rfl,rfl⟩:=A9;exact⟨k,AU,A',A1,A6,A7,fM.1 (n4.1 A0)⟩
 .rintro ⟨k,E,e,L,H,A,A0⟩;obtain⟨j,V,rfl⟩:=X0.1 E;refine⟨⟨0+j,nv j e.U,l7 m ρ bor nv e.cont⟩,gg.2 ⟨j,_,_,?_,rfl⟩,{L with U:=nv j L.U},?_,n4.2 (fM.2 A0)⟩
  .rw[pR];simp[V,H,oE]
  .simp[aR.dY,V,A]
theorem sD(hm:aI φ G m w)(AC:ρ.Nodup)(AH:∀k∈ρ,(Mem.get m k).isSome=true)(AW:∀b,G1 b->Fo G φ m b)(Av:∀b,ry φ m ρ b->¬G1 b)
 (AG:∀k e L b,Mem.get m k=some e->k∉ρ->bor k=true->φ k=some L->e.cont.bg L b->¬G1 b):
 aI (φ.dY ρ nv) G1 (bI 0 (b9 m ρ bor nv 0 ρ)) w/\(∀y v,ai φ w (Fo G φ m) y v->ai (φ.dY ρ nv) w (Fo G1 (φ.dY ρ nv) (bI 0 (b9 m ρ bor nv 0 ρ))) (vw m ρ bor nv y) v)/\
  (∀b,Fo G1 (φ.dY ρ nv) (bI 0 (b9 m ρ bor nv 0 ρ)) b->Fo G φ m b):=by
 have AL:=pc (φ:=φ) (nv:=nv) (bor:=bor) AH;have A3:∀b,Fo G1 (φ.dY ρ nv) (bI 0 (b9 m ρ bor nv 0 ρ)) b->Fo G φ m b:=by
  rintro b (h|h)
  .exact AW b h
  .exact .inr ((AL b).1 h).own
 have A8:∀k e L b,Mem.get m k=some e->k∉ρ->bor k=true->φ k=some L->e.cont.bg L b->¬Fo G1 (φ.dY ρ nv) (bI 0 (b9 m ρ bor nv 0 ρ)) b:=by
  rintro k e L b H E Aw A A0 (h|h)
  .exact AG k e L b H E Aw A A0 h
  .exact uZ hm H A A0 E ((AL _).1 h)
 have AM:∀y v,ai φ w (Fo G φ m) y v->ai (φ.dY ρ nv) w (Fo G1 (φ.dY ρ nv) (bI 0 (b9 m ρ bor nv 0 ρ))) (vw m ρ bor nv y) v:=λy v h=>Kb hm A3 A8 h;have Z:∀x v,ar w (Fo G φ m) x v->ar w (Fo G1 (φ.dY ρ nv) (bI 0 (b9 m ρ bor nv 0 ρ))) x v:=λx v h=>h.mono (λ_ _ _=>rfl) (Ds _) (λb _=>A3 b);have part:∀{e:bn},e∈bI 0 (b9 m ρ bor nv 0 ρ)->∃j k A' A1,ρ[j]?=some k/\Mem.get m k=some A'/\φ k=some A1/\A1.U=A'.U/\bw φ w (Fo G φ m) A1 A'.cont/\e=⟨j,nv j A'.U,l7 m ρ bor nv A'.cont⟩:=by
  intro e he;obtain⟨j,v,c,V,rfl⟩:=gg.1 he;rw[pR]at V;obtain⟨k,E,A9⟩:=WH.1 V;obtain⟨A',A6⟩:=XN.1 (AH k (WI E));rw[A6]at A9;simp only[oE,W0,Xt]at A9;obtain⟨rfl,rfl⟩:=A9;obtain⟨_,_,A1,A7,T,O⟩:=hm.get A6;exact⟨j,k,A',A1,E,A6,A7,T,O,by simp⟩
 refine⟨⟨?_,?_,?_,?_,?_,?_⟩,AM,A3⟩
 .rw[kQ];exact List.nodup_range'
 .intro i L A;rw[kQ,ll];simp only[aR.dY]at A;split at A
  .rename_i k E;have:=(D1.1 E).1;simp[List.mem_range'];omega
  .cases A
 .intro e he;obtain⟨j,k,A',A1,E,A6,A7,T,O,rfl⟩:=part he;refine⟨{A1 with U:=nv j A1.U},by simp[aR.dY,E,A7],by simp[T],?_⟩;cases I:A'.cont with
  |dead=>trivial
  |box cs=>
   rw[I]at O;obtain⟨g0,arr,elem,g1,g2,g3,g4⟩:=O;refine⟨by simpa [gA]using g0,arr,elem,g1,by simp[gA,g2],g3,λi c v AX q=>?_⟩;rw[mJ]at AX;obtain⟨y,A5,rfl⟩:=WH.1 AX;exact AM y v (g4 i y v A5 q)
  |vec sz rows=>
   rw[I]at O;exact eQ.mono O Z (λ_ _=>rfl)
  |eP s p=>rw[I]at O;exact O
  |buf t bs=>
   rw[I]at O;exact⟨O.1,eQ.mono O.2 Z (λ_ _=>rfl)⟩
  |vv rows y=>
   rw[I]at O;exact (fV.mono (vw m ρ bor nv) O (λ_ _ _ _ u hu=>Z _ u hu) (λx _ v AK=>AM x v AK) (λ_ _=>rfl)).U _
 .intro e he e' Ax L L' A J Ay;obtain⟨j,k,A',A1,E,A6,A7,T,O,rfl⟩:=part he;obtain⟨B6,Ad,Az,B',AE,B0,AY,B7,B8,rfl⟩:=part Ax;simp only[aR.dY,E,A7,AE,AY,XB,WR]at A J;subst A;subst J;obtain⟨B1,AZ⟩:=Mem.get_mem A6;obtain⟨B2,A_⟩:=Mem.get_mem B0;have:=hm.apart A' B1 Az B2 A1 B' (by rw[AZ];exact A7) (by rw[A_];exact AY) (Ay.imp λb h=>⟨fM.1 (n4.1 h.1),fM.1 (n4.1 h.2)⟩);rw[AZ,A_]at this;obtain⟨hi,AD⟩:=D1.1 E;obtain⟨V,AI⟩:=D1.1 AE;exact (List.getElem_inj AC).1 (AD.trans (this.trans AI.symm))
 .exact λb AN=>Av b ((AL b).1 AN)
 .exact λb AN=>tO hm b (AW b AN)
end
mutual
def eA:D->Bool
 | .list (_::_)=>false
 | .list []=>true
 | .agg cs=>gM cs
 | .int _ _=>true
 | .bool _=>true
 | .str _=>true
 | .jb=>true
def gM:List D->Bool
 |[]=>true
 |x::r=>eA x&&gM r
end
def lp:∀{l:List D},gM l=true->∀x∈l,eA x=true
 |[],_,x,O=>by simp at O
 |y::r,h,x,O=>by
  simp only[gM,WJ]at h;rcases WK.1 O with rfl|O
  .exact h.1
  .exact lp h.2 x O
def ar.plain{w w':World}{F F':Nat->Prop}{d v}(h:ar w F d v)(T:eA d=true):ar w' F' d v:=by
 induction h with
 |int k n=>exact .int k n
 |bool b=>exact .bool b
 |jb v h=>exact .jb v h
 |str b s h=>exact .str b s h
 |agg cs a A7 AY _ ih=>
  refine .agg cs a A7 AY (λi d v M V=>ih i d v M V (lp (by simpa only[eA]using T) d (WI M)))
 |nil a cap A8=>exact .nil a cap A8
 |list xs b off cap sz vs BL A3 BM BN V I _=>
  cases xs with
  |nil=>exact .nil _ _ (by simp)
  |cons=>simp[eA]at T
mutual
def bB:AV->Bool
 | .d x=>eA x
 | .bR _ _=>false
 | .agg cs=>fN cs
 | .fn _ cap=>fN cap
 | .bk vs=>fN vs
 | .dJ _ x=>eA x
 | .aC=>true
 | .ptr _ _ _=>true
 | .tn _ _ _=>true
 | .vec _ _ _ _=>true
 | .bb _ _ _ _=>true
 | .lit _=>true
 | .nn=>true
 | .err=>true
def fN:List AV->Bool
 |[]=>true
 |x::r=>bB x&&fN r
end
def gi:∀{l:List AV},fN l=true->∀x∈l,bB x=true
 |[],_,x,O=>by simp at O
 |y::r,h,x,O=>by
  simp only[fN,WJ]at h;rcases WK.1 O with rfl|O
  .exact h.1
  .exact gi h.2 x O
def fD:ax->Bool
 | .dead=>true
 | .box cs=>fN cs
 | .vec _ rows=>gM rows
 | .vv rows y=>rows.all gM&&(match y with|none=>true|some x=>bB x)
 | .buf _ _=>true
 | .eP _ _=>true
mutual
def up(ρ bs:List Nat):AV->AV
 | .ptr k U off=>.ptr (ρ.getD k 0) (bs.getD k 0+U) off
 | .tn k U t=>.tn (ρ.getD k 0) (bs.getD k 0+U) t
 | .vec k U off len=>.vec (ρ.getD k 0) (bs.getD k 0+U) off len
 | .bb k U i j=>.bb (ρ.getD k 0) (bs.getD k 0+U) i j
 | .agg cs=>.agg (n5 ρ bs cs)
 | .fn f cap=>.fn f (n5 ρ bs cap)
 | .bk vs=>.bk (n5 ρ bs vs)
 | .aC=>.aC
 | .d x=>.d x
 | .bR x j=>.bR x j
 | .dJ t x=>.dJ t x
 | .lit v=>.lit v
 | .nn=>.nn
 | .err=>.err
def n5(ρ bs:List Nat):List AV->List AV
 |[]=>[]
 |x::r=>up ρ bs x::n5 ρ bs r
end
def mK(ρ bs):∀(l:List AV)(i:Nat),(n5 ρ bs l)[i]?=(l[i]?).map (up ρ bs)
 |[],i=>by simp[n5]
 |x::r,i=>by cases i with|zero=>simp[n5]|succ i=>simp[n5,mK ρ bs r i]
def gB(ρ bs):∀(l:List AV),(n5 ρ bs l).length=l.length
 |[]=>rfl
 |x::r=>by simp[n5,gB ρ bs r]
def rz(ρ bs:List Nat):ax->ax
 | .dead=>.dead
 | .box cs=>.box (n5 ρ bs cs)
 | .vec sz rows=>.vec sz rows
 | .vv rows y=>.vv rows (y.map (up ρ bs))
 | .buf t b=>.buf t b
 | .eP s p=>.eP s p
def ep(ρ bs:List Nat):Nat->List (Nat×ax)->List bn
 |_,[]=>[]
 |i,(v,c)::r=>⟨ρ.getD i 0,bs.getD i 0+v,rz ρ bs c⟩::ep ρ bs (i+1) r
def n7{ρ bs:List Nat}:∀{l:List (Nat×ax)}{i:Nat}{e:bn},e∈ep ρ bs i l↔∃j v c,l[j]?=some (v,c)/\e=⟨ρ.getD (i+j) 0,bs.getD (i+j) 0+v,rz ρ bs c⟩
 |[],i,e=>by simp[ep]
 |(v,c)::r,i,e=>by
  simp only[ep,WK,n7 (l:=r)];constructor
  .rintro (rfl|⟨j,AI,c',h,rfl⟩)
   .exact⟨0,v,c,by simp,by simp⟩
   .exact⟨j+1,AI,c',by simpa using h,by rw[show i+(j+1)=i+1+j by omega]⟩
  .rintro ⟨j,AI,c',h,rfl⟩;cases j with
   |zero=>simp at h;obtain⟨rfl,rfl⟩:=h;left;simp
   |succ j=>right;exact⟨j,AI,c',by simpa using h,by rw[show i+(j+1)=i+1+j by omega]⟩
def u3{ρ bs:List Nat}:∀(l:List (Nat×ax))(i:Nat),(ep ρ bs i l).map (·.key)=(List.range' i l.length).map λj=>ρ.getD j 0
 |[],i=>rfl
 |(v,c)::r,i=>by simp[ep,u3 r,XG]
def aL(m:Mem):List bn->Mem
 |[]=>m
 |e::r=>aL (Mem.set m e) r
def fO:∀(es:List bn)(m:Mem),(aL m es).map (·.key)=m.map (·.key)
 |[],m=>rfl
 |e::r,m=>by rw[aL,fO r,Mem.dy]
def u4:∀(es:List bn)(m:Mem),(m.map (·.key)).Nodup->(es.map (·.key)).Nodup->(∀e∈es,e.key∈m.map (·.key))->∀e,e∈aL m es↔e∈es\/(e∈m/\e.key∉es.map (·.key))
 |[],m,_,_,_,e=>by simp[aL]
 |x::r,m,hm,A8,A0,e=>by
  simp only[Xn,List.nodup_cons]at A8;rw[aL,u4 r (Mem.set m x) (by rw[Mem.dy];exact hm) A8.2 (λe he=>by rw[Mem.dy];exact A0 e (by simp[he])),Mem.mem_set hm];have O:=A0 x (by simp);constructor
  .rintro (h|⟨⟨rfl,_⟩|⟨h,W⟩,AL⟩)
   .left;simp[h]
   .left;simp
   .right;exact⟨h,by simp only[Xn,WK,not_or];exact⟨W,AL⟩⟩
  .rintro (h|⟨h,AL⟩)
   .rcases WK.1 h with rfl|h
    .right;exact⟨.inl ⟨rfl,O⟩,A8.1⟩
    .left;exact h
   .simp only[Xn,WK,not_or]at AL;right;exact⟨.inr ⟨h,AL.1⟩,AL.2⟩
def base(m:Mem)(d:Nat):List Nat->List Nat
 |[]=>[]
 |k::r=>(match Mem.get m k with|some e=>e.U+d|none=>0)::base m d r
def tU(m:Mem)(d:Nat):∀(l:List Nat)(i:Nat),(base m d l)[i]?=(l[i]?).map λk=>match Mem.get m k with|some e=>e.U+d|none=>0
 |[],i=>by simp[base]
 |k::r,i=>by cases i with|zero=>simp[base]|succ i=>simp[base,tU m d r i]
def lq(m:Mem)(d:Nat):∀(l:List Nat),(base m d l).length=l.length
 |[]=>rfl
 |k::r=>by simp[base,lq m d r]
def dO:Nat->Nat->Nat:=λ_ _=>0
def gC(φ:aR)(G:Fr)(m:Mem)(ρ B:List Nat):Fr:=⟨λb=>Fo G φ m b/\¬ry φ m ρ b/\¬ry φ m B b,[]⟩
section
variable {φ:aR} {G:Fr} {m:Mem} {w:World} {ρ B:List Nat}
theorem xe(hm:aI φ G m w)(A8:ρ.Nodup)(AQ:∀k∈ρ,(Mem.get m k).isSome=true):
 aI (φ.dY ρ dO) (gC φ G m ρ B) (bI 0 (b9 m ρ (λk=>B.contains k) dO 0 ρ)) w/\
  (∀y v,ai φ w (Fo G φ m) y v->ai (φ.dY ρ dO) w (Fo (gC φ G m ρ B) (φ.dY ρ dO) (bI 0 (b9 m ρ (λk=>B.contains k) dO 0 ρ))) (vw m ρ (λk=>B.contains k) dO y) v)/\
  (∀b,Fo (gC φ G m ρ B) (φ.dY ρ dO) (bI 0 (b9 m ρ (λk=>B.contains k) dO 0 ρ)) b->Fo G φ m b):=
 sD hm A8 AQ (λb h=>h.1) (λb h AZ=>AZ.2.1 h) (λk e L b B3 _ A3 A H AZ=>AZ.2.2 ⟨k,by simpa using A3,e,L,B3,A,H⟩)
theorem ai.Rb{φ φ':aR}{ρ bs:List Nat}{w F F' x v}(h:ai φ w F x v)(AR:∀i L,φ i=some L->φ' (ρ.getD i 0)=some {L with U:=bs.getD i 0+L.U})
 (M:(∀b,F' b->F b)\/bB x=true):ai φ' w F' (up ρ bs x) v:=by
 have Aj:∀{d v},ar w F d v->((∀b,F' b->F b)\/eA d=true)->ar w F' d v:=λh M=>by
  rcases M with M|M
  .exact h.mono (λ_ _ _=>rfl) (Ds _) (λb _=>M b)
  .exact h.plain M
 induction h with
 |aC v=>exact .aC v
 |d x v h=>exact .d x v (Aj h (M.imp id (by simp[bB])))
 |agg cs a A7 A1 _ ih=>
  refine .agg _ a (by rw[gB];exact A7) A1 (λi c v I V=>?_);rw[mK]at I;obtain⟨y,A4,rfl⟩:=WH.1 I;exact ih i y v A4 V (M.imp id λT=>gi (by simpa only[bB]using T) y (WI A4))
 |ptr k U off v L A V h A1=>exact .ptr _ _ off v _ (AR k L A) (by simp only;omega) (λhe=>h (by simp only at he;omega)) A1
 |tn k U t L A V h=>exact .tn _ _ t _ (AR k L A) (by simp only;omega) (λhe=>h (by simp only at he;omega))
 |vec k U off len v L A V h A1=>exact .vec _ _ off len v _ (AR k L A) (by simp only;omega) (λhe=>h (by simp only at he;omega)) A1
 |bb k U i j v L A V h A1=>exact .bb _ _ i j v _ (AR k L A) (by simp only;omega) (λhe=>h (by simp only at he;omega)) A1
 |bR x j b off B4 A3 B5 O I=>
  rcases M with M|M
  .exact .bR x j b off B4 A3 (λh=>B5 (M b h)) (O.mono (λ_ _ _=>rfl) (Ds _) (λb _=>M b)) I
  .simp[bB]at M
 |fn f cap a AY A7 _ ih=>
  refine .fn f _ a AY (by rw[gB];exact A7) (λi c v I V=>?_);rw[mK]at I;obtain⟨y,A4,rfl⟩:=WH.1 I;exact ih i y v A4 V (M.imp id λT=>gi (by simpa only[bB]using T) y (WI A4))
 |lA f cap a A7 _ ih=>
  refine .lA f _ a (by rw[gB];exact A7) (λi c v I V=>?_);rw[mK]at I;obtain⟨y,A4,rfl⟩:=WH.1 I;exact ih i y v A4 V (M.imp id λT=>gi (by simpa only[bB]using T) y (WI A4))
 |bk vs a A7 _ ih=>
  refine .bk _ a (by rw[gB];exact A7) (λi c v I V=>?_);rw[mK]at I;obtain⟨y,A4,rfl⟩:=WH.1 I;exact ih i y v A4 V (M.imp id λT=>gi (by simpa only[bB]using T) y (WI A4))
 |dJ t x v h=>exact .dJ t x v (Aj h (M.imp id (by simp[bB])))
 |lit v h=>exact .lit v h
 |nn a cap=>exact .nn a cap
 |err t v=>exact .err t v
theorem kR{ρ bs L c b}:(rz ρ bs c).bg L b↔c.bg L b:=by cases c<;>exact Iff.rfl
theorem xf(h:aI φ G m w)(A8:ρ.Nodup)(AQ:∀k∈ρ,(Mem.get m k).isSome=true){fr:List Nat}(B6:fr.Nodup)(Ak:∀k∈fr,(Mem.get m k).isSome=true/\k∉ρ)
 {Z:aR} {J:List (Nat×ax)} {A5:World} (AS:aI Z (gC φ G m ρ B) (bI 0 J) A5)
 (A0:aB (φ.dY ρ dO) (bI 0 (b9 m ρ (λk=>B.contains k) dO 0 ρ)) w Z (bI 0 J) A5) (B7:J.length=ρ.length+fr.length)
 (B8:B=[]\/∀e∈J,fD e.2=true):
 ∃φ':aR,aI φ' G (aL m (ep (ρ++fr) (base m 0 ρ++base m 1 fr) 0 J)) A5/\aB φ m w φ' (aL m (ep (ρ++fr) (base m 0 ρ++base m 1 fr) 0 J)) A5/\
  ∀x v,(B=[]\/bB x=true)->ai Z A5 (Fo (gC φ G m ρ B) Z (bI 0 J)) x v->
   ai φ' A5 (Fo G φ' (aL m (ep (ρ++fr) (base m 0 ρ++base m 1 fr) 0 J))) (up (ρ++fr) (base m 0 ρ++base m 1 fr) x) v:=by
 obtain⟨E,AF⟩:∃E,E=ρ++fr:=⟨_,rfl⟩;obtain⟨bs,A_⟩:∃bs,bs=base m 0 ρ++base m 1 fr:=⟨_,rfl⟩;rw[<-AF,<-A_];have Al:E.Nodup:=by
  rw[AF,List.nodup_append];exact⟨A8,B6,λa B9 b A3 BA=>(Ak b A3).2 (BA▸B9)⟩
 have BB:J.length=E.length:=by rw[AF,WY];exact B7
 have An:∀k∈E,(Mem.get m k).isSome=true:=λk Y=>by
  rw[AF]at Y;rcases Xe.1 Y with A1|A1
  .exact AQ k A1
  .exact (Ak k A1).1
 have Ao:∀k∈E,k∈m.map (·.key):=λk Y=>by
  obtain⟨e,he⟩:=XN.1 (An k Y);obtain⟨hm,rfl⟩:=Mem.get_mem he;exact WW hm
 obtain⟨φ',Ap⟩:∃φ':aR,φ'=λk=>match fC E k 0 with|some i=>(Z i).map (λL=>{L with U:=bs.getD i 0+L.U})|none=>φ k:=⟨_,rfl⟩
 have BC:∀{i},i<E.length->E[i]?=some (E.getD i 0):=λhi=>by simp[hi]
 have BD:∀{i},i<E.length->φ' (E.getD i 0)=(Z i).map (λL=>{L with U:=bs.getD i 0+L.U}):=λhi=>by
  simp only[Ap,D9 Al (BC hi)]
 have A9:∀{k},k∉E->φ' k=φ k:=λY=>by simp only[Ap,eE.2 Y]
 have BE:∀{i L},Z i=some L->i<E.length:=λA=>by
  have:=AS.kG _ _ A;rw[kQ]at this;simp[List.mem_range']at this;omega
 have A6:∀i L,Z i=some L->φ' (E.getD i 0)=some {L with U:=bs.getD i 0+L.U}:=λi L A=>by
  rw[BD (BE A),A];rfl
 --BF entries behind
 have AA:=u4 (ep E bs 0 J) m h.nodup;have Aq:(ep E bs 0 J).map (·.key)=E:=by
  rw[u3,BB];apply List.ext_getElem?;intro i;by_cases hi:i<E.length
  .simp[hi]
  .rw[Xx (by simp;omega),Xx (by omega)]
 rw[Aq]at AA;replace AA:=AA Al (λe he=>Ao e.key (by rw[<-Aq];exact WW he));have AJ:∀{e},e∈ep E bs 0 J->∃j v c L,j<E.length/\J[j]?=some (v,c)/\e=⟨E.getD j 0,bs.getD j 0+v,rz E bs c⟩/\Z j=some L/\L.U=v/\bw Z A5 (Fo (gC φ G m ρ B) Z (bI 0 J)) L c:=by
  intro e he;obtain⟨j,v,c,q,rfl⟩:=n7.1 he;have AM:=(D1.1 q).1;obtain⟨L,A,AB,I⟩:=AS.dk ⟨0+j,v,c⟩ (gg.2 ⟨j,v,c,q,rfl⟩);simp only[Xt]at A⊢;exact⟨j,v,c,L,by omega,q,rfl,A,AB,I⟩
 have AN:=pc (φ:=φ) (nv:=dO) (bor:=λk=>B.contains k) AQ;have Aa:∀b,ei φ' (aL m (ep E bs 0 J)) b↔ei Z (bI 0 J) b\/∃e∈m,e.key∉E/\∃L,φ e.key=some L/\e.cont.bg L b:=by
  intro b;constructor
  .rintro ⟨e,he,L,A,H⟩;rcases (AA e).1 he with he|⟨he,W⟩
   .obtain⟨j,v,c,A',AM,q,rfl,A2,AB,I⟩:=AJ he;left;simp only[A6 j A' A2,WR]at A;subst A;exact⟨⟨0+j,v,c⟩,gg.2 ⟨j,v,c,q,rfl⟩,A',by simpa using A2,fM.1 (kR.1 H)⟩
   .right;exact⟨e,he,W,L,by rw[<-A9 W];exact A,H⟩
  .rintro (⟨BO,AO,L,A,H⟩|⟨e,he,W,L,A,H⟩)
   .obtain⟨j,v,c,q,rfl⟩:=gg.1 AO;simp only[Xt]at A;exact⟨⟨E.getD j 0,bs.getD j 0+v,rz E bs c⟩,(AA _).2 (.inl (n7.2 ⟨j,v,c,q,by simp⟩)),_,A6 j L A,kR.2 (fM.2 H)⟩
   .exact⟨e,(AA _).2 (.inr ⟨he,W⟩),L,by rw[A9 W];exact A,H⟩
 have Ab:∀{k},k∉E->k∉ρ:=λY A1=>Y (by rw[AF];exact X9 _ A1)
 --BP entry beside shares no block with BF BQ
 have Ac:∀e∈m,e.key∉ρ->∀L b,φ e.key=some L->e.cont.bg L b->¬ry φ m ρ b:=λe he W L b A H=>
  uZ h (Mem.get_of_mem h.nodup he) A H W
 have hle:φ.le φ':=by
  intro k L A;by_cases Y:k∈E
  .obtain⟨i,hi,rfl⟩:=X0.1 Y;have Ar:E.getD i 0=E[i]:=by simp[hi]
   obtain⟨e,he⟩:=XN.1 (An _ Y);obtain⟨_,_,BR,As,AB,_⟩:=h.get he;rw[A]at As;cases As;by_cases At:i<ρ.length
   .have AT:ρ[i]?=some E[i]:=by simp only[AF];rw[List.getElem_append_left At];simp
    have Au:bs.getD i 0=L.U:=by
     rw[A_,W8,WN (by rw[lq];exact At),tU,AT];simp[he,AB]
    obtain⟨L',AC,BS,BG⟩:=A0.le i {L with U:=0} (by simp[aR.dY,AT,A,dO]);refine⟨{L' with U:=bs.getD i 0+L'.U},by rw[<-Ar];exact A6 i L' AC,by simp only;omega,λAO=>?_⟩;simp only at AO;have AK:=BG (by simp only;omega);have g1:=Xi Loc.U AK;have g2:=Xi Loc.ba AK;have g3:=Xi Loc.sz AK;have g4:=Xi Loc.cap AK;have g5:=Xi Loc.base AK;have g6:=Xi Loc.ty AK;simp only at g1 g2 g3 g4 g5 g6⊢;rw[g1,g2,g3,g4,g5,g6,Au,Xq]
   .have BH:i<J.length:=by omega
    obtain⟨L',AD,_,_⟩:=AS.dk ⟨0+i,J[i].1,J[i].2⟩ (gg.2 ⟨i,_,_,by simp[BH],rfl⟩);simp only[Xt]at AD;have AT:fr[i-ρ.length]?=some E[i]:=by
     simp only[AF]at hi⊢;rw[List.getElem_append_right (by omega)];simp
    have Au:bs.getD i 0=L.U+1:=by
     rw[A_,W8,WT (by rw[lq];omega),lq,tU,AT];simp[he,AB]
    refine⟨{L' with U:=bs.getD i 0+L'.U},by rw[<-Ar];exact A6 i L' AD,by simp only;omega,λAO=>?_⟩;simp only at AO;omega
  .exact⟨L,by rw[A9 Y];exact A,Ds _,λ_=>rfl⟩
 have Av:∀b,b<w.heap.size->ei φ' (aL m (ep E bs 0 J)) b->ei φ m b:=by
  intro b A3 Ad;rcases (Aa b).1 Ad with AC|⟨e,he,_,L,A,H⟩
  .exact ((AN b).1 (A0.own b A3 AC)).own
  .exact⟨e,he,L,A,H⟩
 have hold:∀b,b<w.heap.size->¬ei φ m b->A5.heap[b]?=w.heap[b]?:=λb A3 Ae=>A0.qT b A3 (λH=>Ae ((AN b).1 H).own);have Aw:B=[]->∀b,Fo G φ' (aL m (ep E bs 0 J)) b->Fo (gC φ G m ρ B) Z (bI 0 J) b:=by
  rintro rfl b (AE|H)
  .refine .inl ⟨.inl AE,λH=>h.fW b H.own AE,?_⟩;rintro ⟨k,Y,_⟩;simp at Y
  .rcases (Aa b).1 H with AC|⟨e,he,W,L,A,Ax⟩
   .exact .inr AC
   .refine .inl ⟨.inr ⟨e,he,L,A,Ax⟩,Ac e he (Ab W) L b A Ax,?_⟩;rintro ⟨k,Y,_⟩;simp at Y
 have Af:∀x v,(B=[]\/bB x=true)->ai Z A5 (Fo (gC φ G m ρ B) Z (bI 0 J)) x v->ai φ' A5 (Fo G φ' (aL m (ep E bs 0 J))) (up E bs x) v:=
  λx v O AU=>AU.Rb A6 (O.imp Aw id)
 have Ag:∀d v,(B=[]\/eA d=true)->ar A5 (Fo (gC φ G m ρ B) Z (bI 0 J)) d v->ar A5 (Fo G φ' (aL m (ep E bs 0 J))) d v:=λd v O AU=>by
  rcases O with O|O
  .exact AU.mono (λ_ _ _=>rfl) (Ds _) (λb _=>Aw O b)
  .exact AU.plain O
 refine⟨φ',⟨?_,?_,?_,?_,?_,?_⟩,⟨hle,hold,Av,A0.size,A0.os,A0.tape,A0.output⟩,Af⟩
 .rw[fO];exact h.nodup
 .intro k L A;rw[fO];by_cases Y:k∈E
  .exact Ao k Y
  .rw[A9 Y]at A;exact h.kG k L A
 .intro e he;rcases (AA e).1 he with he|⟨he,W⟩
  .obtain⟨j,v,c,A',AM,q,rfl,A2,AB,I⟩:=AJ he;refine⟨_,A6 j A' A2,by simp[AB],?_⟩;have AW:B=[]\/fD c=true:=B8.imp id λT=>T (v,c) (WI q);cases c with
   |dead=>trivial
   |box cs=>
    obtain⟨g0,arr,elem,g1,g2,g3,g4⟩:=I;refine⟨by simpa [gB]using g0,arr,elem,g1,by simp[gB,g2],g3,λi c v Ay V=>?_⟩;rw[mK]at Ay;obtain⟨y,A4,rfl⟩:=WH.1 Ay;exact Af y v (AW.imp id λT=>gi (by simpa only[fD]using T) y (WI A4)) (g4 i y v A4 V)
   |vec sz rows=>exact eQ.BX I λd M v V=>Ag d v (AW.imp id λT=>lp (by simpa only[fD]using T) d M) V
   |eP s p=>exact I
   |buf t b=>
    refine⟨I.1,I.2.BX λd M v V=>Ag d v (.inr ?_) V⟩;obtain⟨x,_,rfl⟩:=WS.1 M;rfl
   |vv rows y=>
    refine (fV.mono (up E bs) I (λxs BI d M u hu=>Ag d u (AW.imp id λT=>?_) hu) (λx O v V=>Af x v (AW.imp id λT=>?_) V) (λ_ _=>rfl)).U _
    .simp only[fD,WJ,W7]at T;exact lp (T.1 xs BI) d M
    .simp only[fD,WJ,O]at T;exact T.2
  .obtain⟨L,A,AB,I⟩:=h.dk e he;refine⟨L,by rw[A9 W];exact A,AB,I.mono hle (λb A3 Ae=>hold b A3 (λH=>Ae (.inr H))) A0.size (λb A3=>Or.imp id (Av b A3)) (λb H=>?_)⟩;exact A0.qT _ (I.lt H) (λA1=>Ac e he (Ab W) L b A H ((AN _).1 A1))
 .rintro e he e' AG L L' A AD ⟨b,H,AX⟩;have Az:∀{j v c A' AH AP},J[j]?=some (v,c)->Z j=some A'->c.bg A' b->AH∈m->AH.key∉E->φ AH.key=some AP->AH.cont.bg AP b->False:=by
   intro j v c A' AH AP q A2 I B' W B0 B1;have BJ:b<w.heap.size:=h.uH ⟨AH,B',AP,B0,B1⟩;have AC:ei Z (bI 0 J) b:=⟨⟨0+j,v,c⟩,gg.2 ⟨j,v,c,q,rfl⟩,A',by simpa using A2,I⟩;exact Ac AH B' (Ab W) AP b B0 B1 ((AN _).1 (A0.own _ BJ AC))
  rcases (AA e).1 he with he|⟨he,W⟩<;>rcases (AA e').1 AG with AG|⟨AG,Ah⟩
  .obtain⟨j,v,c,A',AM,q,rfl,A2,_,_⟩:=AJ he;obtain⟨Ai,AI,c',L2',BT,BK,rfl,B2,_,_⟩:=AJ AG;simp only[A6 j A' A2,A6 Ai L2' B2,WR]at A AD;subst A;subst AD;have:=AS.apart ⟨0+j,v,c⟩ (gg.2 ⟨j,v,c,q,rfl⟩) ⟨0+Ai,AI,c'⟩ (gg.2 ⟨Ai,AI,c',BK,rfl⟩) A' L2' (by simpa using A2) (by simpa using B2) ⟨b,fM.1 (kR.1 H),fM.1 (kR.1 AX)⟩;simp only[Xt]at this;rw[this]
  .obtain⟨j,v,c,A',AM,q,rfl,A2,_,_⟩:=AJ he;simp only[A6 j A' A2,WR]at A;subst A;exact (Az q A2 (fM.1 (kR.1 H)) AG Ah (by rw[<-A9 Ah];exact AD) AX).elim
  .obtain⟨j,v,c,A',AM,q,rfl,A2,_,_⟩:=AJ AG;simp only[A6 j A' A2,WR]at AD;subst AD;exact (Az q A2 (fM.1 (kR.1 AX)) he W (by rw[<-A9 W];exact A) H).elim
  .exact h.apart e he e' AG L L' (by rw[<-A9 W];exact A) (by rw[<-A9 Ah];exact AD) ⟨b,H,AX⟩
 .intro b Ad AE;rcases (Aa b).1 Ad with AC|⟨e,he,_,L,A,H⟩
  .exact h.fW b ((AN b).1 (A0.own b (h.bound b AE) AC)).own AE
  .exact h.fW _ ⟨e,he,L,A,H⟩ AE
 .exact λb AE=>XA (h.bound b AE) A0.size
end
def bX(S AC:St):Prop:=AC.n=S.n/\AC.gl=S.gl/\∀φ G a w,Rel φ G S a w->∃φ',Rel φ' G AC a w/\aB φ S.mem w φ' AC.mem w
def bX.refl(S:St):bX S S:=⟨rfl,rfl,λφ _ _ _ h=>⟨φ,h,aB.refl ..⟩⟩
def bX.trans{S AC AX:St}(h:bX S AC)(k:bX AC AX):bX S AX:=
 ⟨k.1.trans h.1,k.2.1.trans h.2.1,λφ G a w AD=>by
  obtain⟨Ac,J,Ad⟩:=h.2.2 φ G a w AD;obtain⟨Ae,Af,Ag⟩:=k.2.2 Ac G a w J;exact⟨Ae,Af,Ad.trans Ag⟩⟩
def Cm(S:St)(kf:List Nat):bX S (S.prune kf):=⟨rfl,rfl,λφ _ _ _ h=>⟨φ,h.prune kf,aB.refl ..⟩⟩
def zn{w:World}{φ φ':aR}{m m':Mem}(h:∀b,ei φ' m' b->ei φ m b)(hle:φ.le φ'):aB φ m w φ' m' w:=
 ⟨hle,λ_ _ _=>rfl,λb _ A1=>h b A1,Ds _,rfl,rfl,rfl⟩
def jG(A:AV->AV):ax->ax
 | .box cs=>.box (cs.map A)
 | .dead=>.dead
 | .vec sz rows=>.vec sz rows
 | .vv rows y=>.vv rows (y.map A)
 | .buf t b=>.buf t b
 | .eP s p=>.eP s p
def mapM(A:AV->AV)(e':bn):Mem->Mem
 |[]=>[]
 |e::r=>(if e.key=e'.key then e' else ⟨e.key,e.U,jG A e.cont⟩)::mapM A e' r
def jg(A:AV->AV):Env->Env
 |[]=>[]
 |(t,g,x)::r=>(t,g,A x)::jg A r
def rA(A:AV->AV):∀(env:Env)(t:Nat)(g:Bool)(y:AV),Env.lk (jg A env) t=some (g,y)->∃x,Env.lk env t=some (g,x)/\y=A x
 |[],t,g,y,h=>by simp[jg,Env.lk]at h
 |(Ah,B5,AJ)::r,t,g,y,h=>by
  simp only[jg,Env.lk]at h⊢;by_cases AY:Ah=t
  .subst AY;simp at h⊢;obtain⟨rfl,rfl⟩:=h;simp
  .simp only[AY,Xw]at h⊢;exact rA A r t g y h
def rB(A:AV->AV)(e':bn):∀m:Mem,(mapM A e' m).map (·.key)=m.map (·.key)
 |[]=>rfl
 |e::r=>by
  simp only[mapM,Xn,rB A e' r];congr 1;split
  .rename_i h;exact h.symm
  .rfl
def mapM_mem{A:AV->AV}{e':bn}:∀{m:Mem}{x:bn},x∈mapM A e' m↔∃e∈m,x=if e.key=e'.key then e' else ⟨e.key,e.U,jG A e.cont⟩
 |[],x=>by simp[mapM]
 |e::r,x=>by simp[mapM,mapM_mem (m:=r)]
def gx{A L c b}:(jG A c).bg L b↔c.bg L b:=by cases c<;>exact Iff.rfl
def St.rC(S:St)(A:AV->AV)(e':bn):St:={S with env:=jg A S.env,mem:=mapM A e' S.mem}
def zp{φ:aR}{G S a w}(h:Rel φ G S a w)(A:AV->AV){e e':bn}(he:e∈S.mem){L L':Loc}(V:φ e.key=some L)(A6:e'.key=e.key)
 (W:L.U<L'.U) (Ai:L'.U=e'.U) (AZ:∀b,e'.cont.bg L' b->e.cont.bg L b)
 (Aj:∀(φ':aR)(F':Nat->Prop),φ' e.key=some L'->(∀k,k≠e.key->φ' k=φ k)->(∀b,F' b->Fo G φ S.mem b)->(∀b,¬e'.cont.bg L' b->e.cont.bg L b->¬F' b)->∀x v,ai φ w (Fo G φ S.mem) x v->ai φ' w F' (A x) v)
 (H:∀(φ':aR)(F':Nat->Prop),(∀b,F' b->Fo G φ S.mem b)->bw φ' w F' L' e'.cont):
 ∃φ',Rel φ' G (S.rC A e') a w/\aB φ S.mem w φ' (S.rC A e').mem w:=by
 have hm:=h.mem;obtain⟨φ',A_⟩:∃φ':aR,φ'=λk=>if k=e.key then some L' else φ k:=⟨_,rfl⟩
 have q:φ' e.key=some L':=by simp[A_]
 have A':∀k,k≠e.key->φ' k=φ k:=λk I=>by simp[A_,I]
 have hle:φ.le φ':=by
  intro k AF A8;by_cases I:k=e.key
  .subst I;rw[V]at A8;cases A8;exact⟨L',q,by omega,λhh=>by omega⟩
  .exact⟨AF,by rw[A' k I];exact A8,Ds _,λ_=>rfl⟩
 have AQ:∀b,ei φ' (mapM A e' S.mem) b->ei φ S.mem b:=by
  rintro b ⟨x,Y,AP,A2,A7⟩;obtain⟨y,M,rfl⟩:=mapM_mem.1 Y;by_cases I:y.key=e'.key
  .simp only[I,XO]at A2 A7;rw[A6,q]at A2;cases A2;exact⟨e,he,L,V,AZ b A7⟩
  .simp only[I,Xw]at A2 A7;rw[A6]at I;rw[A' _ I]at A2;exact⟨y,M,AP,A2,gx.1 A7⟩
 have Z:∀b,Fo G φ' (mapM A e' S.mem) b->Fo G φ S.mem b:=λb=>Or.imp id (AQ b);have AR:∀b,¬e'.cont.bg L' b->e.cont.bg L b->¬Fo G φ' (mapM A e' S.mem) b:=by
  rintro b Ak A1 (Al|⟨x,Y,AP,A2,A7⟩)
  .exact hm.fW _ ⟨e,he,L,V,A1⟩ Al
  .obtain⟨y,M,rfl⟩:=mapM_mem.1 Y;by_cases I:y.key=e'.key
   .simp only[I,XO]at A2 A7;rw[A6,q]at A2;cases A2;exact Ak A7
   .simp only[I,Xw]at A2 A7;rw[A6]at I;rw[A' _ I]at A2;exact I (hm.apart y M e he AP L A2 V ⟨b,gx.1 A7,A1⟩)
 have AS:=Aj φ' (Fo G φ' (mapM A e' S.mem)) q A' Z AR;refine⟨φ',⟨h.size,h.defers,?_,⟨?_,?_,?_,?_,?_,?_⟩,h.fX.mono (λ_ _ _=>rfl) (Ds _) (λb _=>Z b)⟩,zn AQ hle⟩
 .intro t x Y;obtain⟨y,M,rfl⟩:=rA A S.env t true x Y;exact AS _ _ (h.env t y M)
 .show ((mapM A e' S.mem).map (·.key)).Nodup;rw[rB];exact hm.nodup
 .intro k AF A8;show k∈(mapM A e' S.mem).map (·.key);rw[rB];by_cases I:k=e.key
  .subst I;exact WW he
  .rw[A' k I]at A8;exact hm.kG k AF A8
 .intro x Y;obtain⟨y,M,rfl⟩:=mapM_mem.1 Y;by_cases I:y.key=e'.key
  .simp only[I,XO];exact⟨L',by rw[A6];exact q,Ai,H _ _ Z⟩
  .simp only[I,Xw];obtain⟨An,Ao,Ap,A5⟩:=hm.dk y M;refine⟨An,by rw[A' _ (by rw[<-A6];exact I)];exact Ao,Ap,?_⟩;cases AK:y.cont with
   |dead=>trivial
   |box cs=>
    rw[AK]at A5;obtain⟨g0,arr,elem,g1,g2,g3,g4⟩:=A5;refine⟨by simpa using g0,arr,elem,g1,by simp[g2],g3,λi c v Aa W=>?_⟩;rw[WZ]at Aa;obtain⟨z,AL,rfl⟩:=WH.1 Aa;exact AS z v (g4 i z v AL W)
   |vec sz rows=>
    rw[AK]at A5;exact eQ.mono A5 (λ_ _ h=>h.mono (λ_ _ _=>rfl) (Ds _) (λb _=>Z b)) (λ_ _=>rfl)
   |eP s p=>rw[AK]at A5;exact A5
   |buf t b=>
    rw[AK]at A5;exact⟨A5.1,eQ.mono A5.2 (λ_ _ h=>h.mono (λ_ _ _=>rfl) (Ds _) (λb _=>Z b)) (λ_ _=>rfl)⟩
   |vv rows y=>
    rw[AK]at A5;exact fV.mono A A5 (λ_ _ _ _ u hu=>hu.mono (λ_ _ _=>rfl) (Ds _) (λb _=>Z b)) (λx _ v Y=>AS x v Y) (λ_ _=>rfl)
 .rintro x Y AJ Aq AP B6 A2 Ar ⟨b,A1,As⟩;obtain⟨y,M,rfl⟩:=mapM_mem.1 Y;obtain⟨B7,At,rfl⟩:=mapM_mem.1 Aq;have pull:∀{z:bn}{AG:Loc},z∈S.mem->φ' (if z.key=e'.key then e' else ⟨z.key,z.U,jG A z.cont⟩:bn).key=some AG->(if z.key=e'.key then e' else ⟨z.key,z.U,jG A z.cont⟩:bn).cont.bg AG b->
   ∃z0∈S.mem,∃AF,φ z0.key=some AF/\z0.cont.bg AF b/\(if z.key=e'.key then e' else ⟨z.key,z.U,jG A z.cont⟩:bn).key=z0.key:=by
   intro z AG AL A9 AH;by_cases I:z.key=e'.key
   .simp only[I,XO]at A9 AH⊢;rw[A6,q]at A9;cases A9;exact⟨e,he,L,V,AZ b AH,A6⟩
   .simp only[I,Xw]at A9 AH⊢;rw[A6]at I;rw[A' _ I]at A9;exact⟨z,AL,AG,A9,gx.1 AH,rfl⟩
  obtain⟨z,AL,AG,A9,AH,Au⟩:=pull M A2 A1;obtain⟨Av,Aw,Ax,Ay,Az,B'⟩:=pull At Ar As;rw[Au,B'];exact hm.apart z AL Av Aw AG Ax A9 Ay ⟨b,AH,Az⟩
 .exact λb AN=>hm.fW b (AQ b AN)
 .exact hm.bound
mutual
def fm(k v off len:Nat):AV->AV
 | .vec AA AB o l=>if AA=k/\AB=v/\off<=o/\o+l<=off+len then .vec k (v+1) (o-off) l else .vec AA AB o l
 | .bb AA AB i j=>if AA=k/\AB=v/\off<=i then .bb k (v+1) (i-off) j else .bb AA AB i j
 | .agg cs=>.agg (iG k v off len cs)
 | .fn f cap=>.fn f (iG k v off len cap)
 | .bk vs=>.bk (iG k v off len vs)
 | .aC=>.aC
 | .d x=>.d x
 | .ptr a b c=>.ptr a b c
 | .tn a b c=>.tn a b c
 | .bR x j=>.bR x j
 | .dJ t x=>.dJ t x
 | .lit v=>.lit v
 | .nn=>.nn
 | .err=>.err
def iG(k v off len:Nat):List AV->List AV
 |[]=>[]
 |x::r=>fm k v off len x::iG k v off len r
end
def lN(k v off len):∀(l:List AV)(i:Nat),(iG k v off len l)[i]?=(l[i]?).map (fm k v off len)
 |[],i=>by simp[iG]
 |x::r,i=>by cases i with|zero=>simp[iG]|succ i=>simp[iG,lN k v off len r i]
def iu(k v off len):∀(l:List AV),(iG k v off len l).length=l.length
 |[]=>rfl
 |x::r=>by simp[iG,iu k v off len r]
def St.trim(S:St)(k off len:Nat):St:=
 match Mem.get S.mem k with
 |some ⟨_,v,.vec sz rows⟩=>if off+len<=rows.length then S.rC (fm k v off len) ⟨k,v+1,.vec sz ((rows.drop off).take len)⟩else S
 |_=>S
def xh(S:St)(k off len:Nat):bX S (S.trim k off len):=by
 unfold St.trim;split
 .rename_i key v sz rows AT;split
  .rename_i hle;refine⟨rfl,rfl,λφ G a w AD=>?_⟩;obtain⟨hm,I,L,V,AI,AO⟩:=AD.mem.get AT;simp only at I AI AO;subst I;obtain⟨g1,g2,g3,g4⟩:=AO;refine zp AD (fm key v off len) (e:=⟨key,v,.vec sz rows⟩) (e':=⟨key,v+1,.vec sz ((rows.drop off).take len)⟩) hm V rfl (L':=⟨v+1,L.ba,L.sz,L.cap-off,L.base+off*L.sz,[],L.ty⟩)
    (by simp only;omega) rfl (λb A1=>⟨by have:=A1.1;simp only at this;omega,A1.2⟩) ?_ ?_
   .intro φ' F' q A' Z _ x u Y;induction Y with
    |aC v=>exact .aC v
    |d x v h=>exact .d x v (h.mono (λ_ _ _=>rfl) (Ds _) (λb _=>Z b))
    |agg cs a A3 J _ ih=>
     refine .agg _ a (by rw[iu];exact A3) J (λi c v H W=>?_);rw[lN]at H;obtain⟨y,M,rfl⟩:=WH.1 H;exact ih i y v M W
    |ptr O U o v2 A4 E A0 h J=>
     unfold fm;by_cases T:O=key
     .subst T;rw[V]at E;cases E;exact .ptr _ U o v2 _ q (by simp only;omega) (λhe=>by simp only at he;omega) J
     .exact .ptr O U o v2 A4 (by rw[A' _ T];exact E) A0 h J
    |tn O U t A4 E A0 h=>
     unfold fm;by_cases T:O=key
     .subst T;rw[V]at E;cases E;exact .tn _ U t _ q (by simp only;omega) (λhe=>by simp only at he;omega)
     .exact .tn O U t A4 (by rw[A' _ T];exact E) A0 h
    |vec O U o l v2 A4 E A0 h J=>
     unfold fm;split
     .rename_i H;obtain⟨rfl,rfl,A1,Ab⟩:=H;rw[V]at E;cases E;refine .vec _ _ _ l v2 _ q (Ds _) (λ_=>?_) J;obtain⟨a0,cap,rfl,B0,B1⟩:=h AI.symm;refine⟨a0,cap,rfl,B0,λB2=>?_⟩;obtain⟨rfl,B8⟩:=B1 B2;refine⟨?_,by simp only;omega⟩;congr 2;show L.base+o*L.sz=L.base+off*L.sz+(o-off)*L.sz;rw[W1,<-Xa];congr 2;omega
     .by_cases T:O=key
      .subst T;rw[V]at E;cases E;exact .vec _ U o l v2 _ q (by simp only;omega) (λhe=>by simp only at he;omega) J
      .exact .vec O U o l v2 A4 (by rw[A' _ T];exact E) A0 h J
    |bb O U i j v2 A4 E A0 h J=>
     unfold fm;split
     .rename_i H;obtain⟨rfl,rfl,A1⟩:=H;rw[V]at E;cases E;refine .bb _ _ _ j v2 _ q (Ds _) (λ_=>?_) J;rw[h AI.symm];congr 3;show L.base+i*L.sz+j=L.base+off*L.sz+(i-off)*L.sz+j;rw[W1 L.base (off*L.sz),<-Xa];congr 3;omega
     .by_cases T:O=key
      .subst T;rw[V]at E;cases E;exact .bb _ U i j v2 _ q (by simp only;omega) (λhe=>by simp only at he;omega) J
      .exact .bb O U i j v2 A4 (by rw[A' _ T];exact E) A0 h J
    |bR x j b o AJ AN AU Y H=>exact .bR x j b o AJ AN (λh=>AU (Z b h)) (Y.mono (λ_ _ _=>rfl) (Ds _) (λb _=>Z b)) H
    |fn f cap a AW A3 _ ih=>
     refine .fn f _ a AW (by rw[iu];exact A3) (λi c v H W=>?_);rw[lN]at H;obtain⟨y,M,rfl⟩:=WH.1 H;exact ih i y v M W
    |lA f cap a A3 _ ih=>
     refine .lA f _ a (by rw[iu];exact A3) (λi c v H W=>?_);rw[lN]at H;obtain⟨y,M,rfl⟩:=WH.1 H;exact ih i y v M W
    |bk vs a A3 _ ih=>
     refine .bk _ a (by rw[iu];exact A3) (λi c v H W=>?_);rw[lN]at H;obtain⟨y,M,rfl⟩:=WH.1 H;exact ih i y v M W
    |dJ t x v h=>exact .dJ t x v (h.mono (λ_ _ _=>rfl) (Ds _) (λb _=>Z b))
    |lit v h=>exact .lit v h
    |nn a cap=>exact .nn a cap
    |err t v=>exact .err t v
   .intro φ' F' Z;refine⟨g1,by simp only[Xj,XP];omega,λd AE=>g3 d (WX (W3 AE)),λA8=>?_⟩;simp only at A8;obtain⟨arr,elem,f1,f2,f3,f4⟩:=g4 (by omega);refine⟨arr,elem,f1,?_,f3,λi d AE=>?_⟩
    .rw[f2];show L.base+L.cap*L.sz=L.base+off*L.sz+(L.cap-off)*L.sz;rw[W1,<-Xa];congr 2;omega
    .rw[WM]at AE;split at AE
     .rw[W6]at AE;obtain⟨v,W,B3⟩:=f4 _ d AE;refine⟨v,W.mono (λ_ _ _=>rfl) (Ds _) (λb _=>Z b),λj c B4=>?_⟩;have:=B3 j c B4;rw[Xa]at this;rw[<-W1 L.base]at this;exact this
     .cases AE
  .exact bX.refl S
 .exact bX.refl S
mutual
def fo(k v:Nat)(rows:List D):AV->AV
 | .vec AA AB o l=>if AA=k/\AB=v/\o+l<=rows.length then .d (.list ((rows.drop o).take l))else .vec AA AB o l
 | .agg cs=>.agg (jw k v rows cs)
 | .fn f cap=>.fn f (jw k v rows cap)
 | .bk vs=>.bk (jw k v rows vs)
 | .bb a b c d=>.bb a b c d
 | .aC=>.aC
 | .d x=>.d x
 | .ptr a b c=>.ptr a b c
 | .tn a b c=>.tn a b c
 | .bR x j=>.bR x j
 | .dJ t x=>.dJ t x
 | .lit v=>.lit v
 | .nn=>.nn
 | .err=>.err
def jw(k v:Nat)(rows:List D):List AV->List AV
 |[]=>[]
 |x::r=>fo k v rows x::jw k v rows r
end
def lO(k v rows):∀(l:List AV)(i:Nat),(jw k v rows l)[i]?=(l[i]?).map (fo k v rows)
 |[],i=>by simp[jw]
 |x::r,i=>by cases i with|zero=>simp[jw]|succ i=>simp[jw,lO k v rows r i]
def iv(k v rows):∀(l:List AV),(jw k v rows l).length=l.length
 |[]=>rfl
 |x::r=>by simp[jw,iv k v rows r]
def St.freeze(S:St)(k:Nat):St:=
 match Mem.get S.mem k with
 |some ⟨_,v,.vec _ rows⟩=>S.rC (fo k v rows) ⟨k,v+1,.dead⟩
 |_=>S
def AM(S:St)(k:Nat):bX S (S.freeze k):=by
 unfold St.freeze;split
 .rename_i key v sz rows AT;refine⟨rfl,rfl,λφ G a w AD=>?_⟩;obtain⟨hm,I,L,V,AI,AO⟩:=AD.mem.get AT;simp only at I AI AO;subst I;refine zp AD (fo key v rows) (e:=⟨key,v,.vec sz rows⟩) (e':=⟨key,v+1,.dead⟩) hm V rfl (L':={L with U:=v+1})
   (by simp only;omega) rfl (λ_ A1=>A1.elim) ?_ (λ_ _ _=>trivial)
  intro φ' F' q A' Z AR x u Y;induction Y with
  |aC v=>exact .aC v
  |d x v h=>exact .d x v (h.mono (λ_ _ _=>rfl) (Ds _) (λb _=>Z b))
  |agg cs a A3 J _ ih=>
   refine .agg _ a (by rw[iv];exact A3) J (λi c v H W=>?_);rw[lO]at H;obtain⟨y,M,rfl⟩:=WH.1 H;exact ih i y v M W
  |ptr O U o v2 A4 E A0 h J=>
   unfold fo;by_cases T:O=key
   .subst T;rw[V]at E;cases E;exact .ptr _ U o v2 _ q (by simp only;omega) (λhe=>by simp only at he;omega) J
   .exact .ptr O U o v2 A4 (by rw[A' _ T];exact E) A0 h J
  |tn O U t A4 E A0 h=>
   unfold fo;by_cases T:O=key
   .subst T;rw[V]at E;cases E;exact .tn _ U t _ q (by simp only;omega) (λhe=>by simp only at he;omega)
   .exact .tn O U t A4 (by rw[A' _ T];exact E) A0 h
  |vec O U o l v2 A4 E A0 h J=>
   unfold fo;split
   .rename_i H;obtain⟨rfl,rfl,Ab⟩:=H;rw[V]at E;cases E;exact .d _ _ (tT (.vec _ _ o l v2 L V A0 h J) V AI AO Ab Z (λA1=>AR _ (λhh=>hh) ⟨A1,rfl⟩))
   .by_cases T:O=key
    .subst T;rw[V]at E;cases E;exact .vec _ U o l v2 _ q (by simp only;omega) (λhe=>by simp only at he;omega) J
    .exact .vec O U o l v2 A4 (by rw[A' _ T];exact E) A0 h J
  |bb O U i j v2 A4 E A0 h J=>
   unfold fo;by_cases T:O=key
   .subst T;rw[V]at E;cases E;exact .bb _ U i j v2 _ q (by simp only;omega) (λhe=>by simp only at he;omega) J
   .exact .bb O U i j v2 A4 (by rw[A' _ T];exact E) A0 h J
  |bR x j b o AJ AN AU Y H=>exact .bR x j b o AJ AN (λh=>AU (Z b h)) (Y.mono (λ_ _ _=>rfl) (Ds _) (λb _=>Z b)) H
  |fn f cap a AW A3 _ ih=>
   refine .fn f _ a AW (by rw[iv];exact A3) (λi c v H W=>?_);rw[lO]at H;obtain⟨y,M,rfl⟩:=WH.1 H;exact ih i y v M W
  |lA f cap a A3 _ ih=>
   refine .lA f _ a (by rw[iv];exact A3) (λi c v H W=>?_);rw[lO]at H;obtain⟨y,M,rfl⟩:=WH.1 H;exact ih i y v M W
  |bk vs a A3 _ ih=>
   refine .bk _ a (by rw[iv];exact A3) (λi c v H W=>?_);rw[lO]at H;obtain⟨y,M,rfl⟩:=WH.1 H;exact ih i y v M W
  |dJ t x v h=>exact .dJ t x v (h.mono (λ_ _ _=>rfl) (Ds _) (λb _=>Z b))
  |lit v h=>exact .lit v h
  |nn a cap=>exact .nn a cap
  |err t v=>exact .err t v
 .exact bX.refl S
def rE(P:Program)(S:St):ResultVar->br
 | .tmp t=>.val (S.ag (.tmp t)).1 (S.ag (.tmp t)).2
 | .cell p t=>match gV P S.mem t (S.ag (.tmp p)).2 with
  | .val c x=>.val ((S.ag (.tmp p)).1&&c) x
  |_=>.no
def nq(P:Program)(S:St):List ResultVar->Option (Bool×List AV)
 |[]=>some (true,[])
 |r::rs=>match rE P S r with
  | .val c x=>match nq P S rs with
   |some (c',xs)=>some (c&&c',x::xs)
   |none=>none
  |_=>none
def oneOf:List AV->AV
 |[x]=>x
 |xs=>.bk xs
def rF(tmps:Array Value):ResultVar->Sem Value
 | .tmp t=>pure (tmps.getD t undef)
 | .cell a t=>do loadVar t (<-asAddr (tmps.getD a undef))
def Cp{P:Program}{S:St}{r:ResultVar}{c:Bool}{x:AV}(h:rE P S r=.val c x)(J:c=true){φ G a w}(A4:Rel φ G S a w):
 ∃v,(rF a.tmps r).run P w=.ok v w/\ai φ w (Fo G φ S.mem) x v:=by
 unfold rE at h;split at h
 .rename_i t;simp only[br.val.injEq]at h;obtain⟨rfl,rfl⟩:=h;exact⟨_,rfl,A4.ag (.tmp t) J⟩
 .rename_i p t;split at h
  .rename_i c' Av A5;simp only[br.val.injEq]at h;obtain⟨rfl,rfl⟩:=h;simp only[WJ]at J;have:=Bg P S {dst:=none,op:=.load t (.tmp p),type:=0,pos:= "",after:=#[],guard:=none} t (.tmp p) rfl J.1;rw[A5]at this;obtain⟨v,W,Ac⟩:=this J.2 φ G a w A4;have Ad:a.eval (.tmp p)=a.tmps.getD p undef:=rfl;simp only[execOp,Instr.loadAt,Ad]at W;cases AI:a.tmps.getD p undef with
   |pointer AJ=>
    rw[AI]at W;cases AJ with
    |none=>simp[Instr.sureAddr,stuck]at W
    |some AJ=>
     simp only[Instr.sureAddr,Sem.run_bind,Sem.run_pure,Result.andThen_ok]at W;generalize Ae:(loadVar t AJ).run P w=q at W;cases q with
     |halt _ _=>simp at W
     |ok v2 Aw=>
      simp at W;obtain⟨rfl,rfl⟩:=W;refine⟨v2,?_,Ac⟩;simp only[rF,AI,asAddr,Sem.run_bind,Sem.run_pure,Result.andThen_ok,Ae]
   |_=>rw[AI]at W;simp[Instr.sureAddr,stuck]at W
  .cases h
def pS{P:Program}{S:St}{φ G a w}(A4:Rel φ G S a w):∀(rs:List ResultVar)(c:Bool)(xs:List AV),nq P S rs=some (c,xs)->c=true->
 ∃vs:List Value,(rs.mapM (rF a.tmps)).run P w=.ok vs w/\xs.length=vs.length/\
  ∀(i:Nat) x v,xs[i]?=some x->vs[i]?=some v->ai φ w (Fo G φ S.mem) x v
 |[],c,xs,h,_=>by
  simp only[nq,WR,W0]at h;obtain⟨_,rfl⟩:=h;exact⟨[],by simp,rfl,by simp⟩
 |r::rs,c,xs,h,J=>by
  simp only[nq]at h;split at h
  .rename_i Ax x H;split at h
   .rename_i c2 Af Ag;simp only[WR,W0]at h;obtain⟨rfl,rfl⟩:=h;simp only[WJ]at J;obtain⟨v,A6,A9⟩:=Cp H J.1 A4;obtain⟨vs,AK,Y,AA⟩:=pS (P:=P) A4 rs c2 Af Ag J.2;refine⟨v::vs,?_,by simp[Y],λi x v h AL=>?_⟩
    .rw[List.mapM_cons];simp only[Sem.run_bind,A6,Result.andThen_ok,AK,Sem.run_pure]
    .cases i with
     |zero=>simp at h AL;subst h;subst AL;exact A9
     |succ i=>exact AA i x v (by simpa using h) (by simpa using AL)
   .cases h
  .cases h
mutual
def fQ(k v:Nat):AV->Option (Nat×Nat)
 | .vec Ah Ai o l=>if Ah=k/\Ai=v then some (o,l)else none
 | .agg cs=>lP k v cs
 | .fn _ cap=>lP k v cap
 | .bk vs=>lP k v vs
 | .bb _ _ _ _=>none
 | .aC=>none
 | .d _=>none
 | .ptr _ _ _=>none
 | .tn _ _ _=>none
 | .bR _ _=>none
 | .dJ _ _=>none
 | .lit _=>none
 | .nn=>none
 | .err=>none
def lP(k v:Nat):List AV->Option (Nat×Nat)
 |[]=>none
 |x::r=>match fQ k v x with
  |some p=>some p
  |none=>lP k v r
end
def pe(k v:Nat):Mem->Option (Nat×Nat)
 |[]=>none
 |⟨_,_,.box cs⟩::r=>match lP k v cs with
  |some p=>some p
  |none=>pe k v r
 |_::r=>pe k v r
def u6(k v:Nat):Env->Option (Nat×Nat)
 |[]=>none
 |(_,_,x)::r=>match fQ k v x with
  |some p=>some p
  |none=>u6 k v r
def St.pT(S:St)(k:Nat):St:=
 match Mem.get S.mem k with
 |some ⟨_,v,.vec _ _⟩=>match pe k v S.mem with
  |some (o,l)=>S.trim k o l
  |none=>match u6 k v S.env with
   |some (o,l)=>S.trim k o l
   |none=>S
 |_=>S
def u7(S:St)(k:Nat):bX S (S.pT k):=by
 unfold St.pT;split
 .split
  .exact xh ..
  .split
   .exact xh ..
   .exact bX.refl S
 .exact bX.refl S
def St.pU(S:St):List Nat->St
 |[]=>S
 |k::r=>(S.pT k).pU r
def u9:∀(l:List Nat)(S:St),bX S (S.pU l)
 |[],S=>bX.refl S
 |k::r,S=>(u7 S k).trans (u9 r _)
mutual
def dP:AV->List Nat
 | .ptr k _ _=>[k]
 | .tn k _ _=>[k]
 | .vec k _ _ _=>[k]
 | .bb k _ _ _=>[k]
 | .agg cs=>gk cs
 | .fn _ cap=>gk cap
 | .bk vs=>gk vs
 | .aC=>[]
 | .d _=>[]
 | .bR _ _=>[]
 | .dJ _ _=>[]
 | .lit _=>[]
 | .nn=>[]
 | .err=>[]
def gk:List AV->List Nat
 |[]=>[]
 |x::r=>dP x++gk r
end
def eX:Option bn->List Nat
 |some ⟨_,_,.box cs⟩=>gk cs
 |some ⟨_,_,.vv _ (some x)⟩=>dP x
 |_=>[]
def collect(m:Mem):Nat->List Nat->List Nat->List Nat
 |0,_,I=>I
 |_+1,[],I=>I
 |n+1,k::todo,I=>match I.contains k||(Mem.get m k).isNone with
  |true=>collect m n todo I
  |false=>collect m n (todo++eX (Mem.get m k)) (I++[k])
def ki(m:Mem):∀(n:Nat)(todo I:List Nat),I.Nodup->(∀k∈I,(Mem.get m k).isSome=true)->(collect m n todo I).Nodup/\∀k∈collect m n todo I,(Mem.get m k).isSome=true
 |0,todo,I,h,A0=>⟨h,A0⟩
 |n+1,[],I,h,A0=>⟨h,A0⟩
 |n+1,k::todo,I,h,A0=>by
  simp only[collect];split
  .exact ki m n todo I h A0
  .rename_i J;simp only[Bool.or_eq_false_iff,List.contains_eq_mem,X2,Option.isNone_eq_false_iff]at J;refine ki m n _ _ ?_ ?_
   .rw[List.nodup_append];exact⟨h,by simp,λa A7 b O AB=>by simp at O;subst O;subst AB;exact J.1 A7⟩
   .intro x H;rcases Xe.1 H with H|H
    .exact A0 x H
    .simp at H;subst H;exact J.2
def dead(k:Nat):bn:=⟨k,0,.dead⟩
def aR.add(φ:aR)(ks:List Nat):aR:=λk=>if k∈ks then some ⟨0,0,0,0,0,[],none⟩else φ k
def sE{φ:aR}{m:Mem}{ks:List Nat}(M:∀k∈ks,k∉m.map (·.key))(b:Nat):ei (φ.add ks) (m++ks.map dead) b↔ei φ m b:=by
 constructor
 .rintro ⟨e,he,L,E,T⟩;rcases Xe.1 he with he|he
  .have:e.key∉ks:=λh=>M _ h (WW he);simp only[aR.add,this,Xw]at E;exact⟨e,he,L,E,T⟩
  .simp only[WS]at he;obtain⟨k,_,rfl⟩:=he;exact T.elim
 .rintro ⟨e,he,L,E,T⟩;have:e.key∉ks:=λh=>M _ h (WW he);exact⟨e,X9 _ he,L,by simp[aR.add,this,E],T⟩
def Kj{φ:aR}{G}{m:Mem}{ks:List Nat}(M:∀k∈ks,k∉m.map (·.key)):Fo G (φ.add ks) (m++ks.map dead)=Fo G φ m:=by
 funext b;simp only[Fo,sE M b]
def zq{φ:aR}{G m w}(h:aI φ G m w){ks:List Nat}(M:∀k∈ks,k∉m.map (·.key)):φ.le (φ.add ks):=by
 intro k L E;have:k∉ks:=λV=>M k V (h.kG k L E);exact⟨L,by simp[aR.add,this,E],Ds _,λ_=>rfl⟩
def aI.add{φ G m w}(h:aI φ G m w){ks:List Nat}(Aj:ks.Nodup)(M:∀k∈ks,k∉m.map (·.key)):aI (φ.add ks) G (m++ks.map dead) w:=by
 have hle:=zq h M;have Ak:=Kj (φ:=φ) (G:=G) M;refine⟨?_,?_,?_,?_,?_,h.bound⟩
 .rw[List.map_append,List.nodup_append];have e:(ks.map dead).map (·.key)=ks:=by simp[Function.comp_def,dead]
  rw[e];exact⟨h.nodup,Aj,λa A7 b O AB=>M b O (AB▸A7)⟩
 .intro k L E;simp only[aR.add]at E;split at E
  .rename_i V;rw[List.map_append];refine List.mem_append_right _ ?_;rw[List.map_map];exact WS.2 ⟨k,V,rfl⟩
  .rw[List.map_append];exact X9 _ (h.kG k L E)
 .intro e he;rw[Ak];rcases Xe.1 he with he|he
  .obtain⟨L,E,AM,J⟩:=h.dk e he;have:e.key∉ks:=λh=>M _ h (WW he);exact⟨L,by simp[aR.add,this,E],AM,J.mono hle (λ_ _ _=>rfl) (Ds _) (λ_ _ h=>h) (λ_ _=>rfl)⟩
  .simp only[WS]at he;obtain⟨k,V,rfl⟩:=he;exact⟨⟨0,0,0,0,0,[],none⟩,by simp[aR.add,dead,V],rfl,trivial⟩
 .rintro e he e' Z L L' E AP ⟨b,T,AQ⟩;rcases Xe.1 he with he|he
  .rcases Xe.1 Z with Z|Z
   .have A6:e.key∉ks:=λh=>M _ h (WW he);have A9:e'.key∉ks:=λh=>M _ h (WW Z);simp only[aR.add,A6,A9,Xw]at E AP;exact h.apart e he e' Z L L' E AP ⟨b,T,AQ⟩
   .simp only[WS]at Z;obtain⟨k,_,rfl⟩:=Z;exact AQ.elim
  .simp only[WS]at he;obtain⟨k,_,rfl⟩:=he;exact T.elim
 .intro b O Al;exact h.fW b ((sE M b).1 O) Al
def dV:Nat->List AV->Env
 |_,[]=>[]
 |i,x::r=>(i,true,x)::dV (i+1) r
def pV:∀(i:Nat)(xs:List AV)(t:Nat)(y:Bool×AV),Env.lk (dV i xs) t=some y->∃j,t=i+j/\xs[j]?=some y.2
 |i,[],t,y,h=>by simp[dV,Env.lk]at h
 |i,x::r,t,y,h=>by
  simp only[dV,Env.lk]at h;by_cases A1:i=t
  .subst A1;simp at h;subst h;exact⟨0,rfl,rfl⟩
  .simp only[A1,Xw]at h;obtain⟨j,rfl,AC⟩:=pV (i+1) r t y h;exact⟨j+1,by omega,by simpa using AC⟩
def bS:Nat->List ax->Mem
 |_,[]=>[]
 |i,c::r=>⟨i,0,c⟩::bS (i+1) r
def zr:∀(cs:List ax)(i:Nat),bS i cs=bI i (cs.map λc=>(0,c))
 |[],i=>rfl
 |c::r,i=>by simp[bS,bI,zr r]
def entry(n:Nat)(gl:List (Nat×D))(args:List AV)(cs:List ax)(sites:List Nat):St:={n,gl,env:=dV 0 args,mem:=bS 0 cs++sites.map dead}
def vd(A:Nat)(i v:Nat):Nat:=if i<A then (if v=0 then 0 else 1)else 0
structure dc where
 Pf:List Nat
 exp:Bool
 sites:List Nat
 oF:List Nat
 split:Bool
def kS(p:dc)(A:Nat)(m:Mem)(xs:List AV):List Nat:=
 match p.exp with
 |true=>List.range A++(collect m 64 (gk xs++List.range A) []).filter (λk=>!decide (k<A))
 |false=>List.range A
def gN:Env->List AV
 |[]=>[]
 |(_,_,x)::r=>x::gN r
def tp:Bool->AV->AV
 |true,x=>x
 |false,x=>x.norm
def ai.tp{b:Bool}{φ w F x v}(h:ai φ w F x v):ai φ w F (tp b x) v:=by
 cases b
 .exact h.norm
 .exact h
def zu(b:Bool)(K:List Nat)(A:Nat)(S:St)(one:List AV->Out):Option (Out×List (Nat×ax)):=
 if K.all (λk=>(Mem.get S.mem k).isSome)then some (one ((gN S.env).map λx=>tp b (vw S.mem K (λ_=>true) (vd A) x)),b9 S.mem K (λ_=>true) (vd A) 0 K)else none
def sF(p:dc)(K:List Nat)(S:St):St:=S.pU (K.filter λk=>!p.Pf.contains k)
def kT(p:dc)(A:Nat)(S:St)(xs:List AV)(one:List AV->Out):Option (Out×List (Nat×ax)):=
 let K:=kS p A S.mem xs
 zu (p.oF.contains 1000) K A (sF p K {S with n:=xs.length,env:=dV 0 xs}) one
def finish(P:Program)(p:dc)(A:Nat)(rs:List ResultVar)(S:St):Option (Out×List (Nat×ax)):=
 match nq P S rs with
 |some (c,xs)=>if c=true then kT p A S xs (λA8=>.ret (oneOf A8))else none
 |none=>none
def pW(p:dc)(A:Nat)(t:TypeId)(x:D)(S:St):Option (Out×List (Nat×ax)):=kT p A S [] (λ_=>.panic t x)
def c6:Env->List (Nat×Bool)
 |[]=>[]
 |(t,g,_)::r=>(t,g)::c6 r
def tr(AR:AV->AV):∀env:Env,c6 (jg AR env)=c6 env
 |[]=>rfl
 |(t,g,x)::r=>by simp[jg,c6,tr AR r]
def xj(S:St)(k o l:Nat):c6 (S.trim k o l).env=c6 S.env:=by
 unfold St.trim;split
 .split
  .exact tr _ _
  .rfl
 .rfl
def Cq(S:St)(k:Nat):c6 (S.pT k).env=c6 S.env:=by
 unfold St.pT;split
 .split
  .exact xj ..
  .split
   .exact xj ..
   .rfl
 .rfl
def ve:∀(l:List Nat)(S:St),c6 (S.pU l).env=c6 S.env
 |[],S=>rfl
 |k::r,S=>by rw[St.pU,ve r,Cq]
def vf:∀(i:Nat)(xs:List AV),c6 (dV i xs)=(List.range' i xs.length).map λj=>(j,true)
 |i,[]=>rfl
 |i,x::r=>by simp[dV,c6,vf (i+1) r,XG]
def Bz:∀(env:Env)(i n j:Nat),c6 env=(List.range' i n).map (λj=>(j,true))->∀x,(gN env)[j]?=some x->Env.lk env (i+j)=some (true,x)
 |[],i,n,j,_,x,H=>by simp[gN]at H
 |(t,g,y)::r,i,n,j,h,x,H=>by
  cases n with
  |zero=>simp[c6]at h
  |succ n=>
   simp only[c6,XG,Xn,List.cons.injEq,W0]at h;obtain⟨⟨rfl,rfl⟩,h⟩:=h;cases j with
   |zero=>simp[gN]at H;subst H;simp[Env.lk]
   |succ j=>
    have:=Bz r (t+1) n j h x (by simpa [gN]using H);simp only[Env.lk];rw[WO (by omega),show t+(j+1)=t+1+j by omega];exact this
def pf:∀env:Env,(gN env).length=(c6 env).length
 |[]=>rfl
 |(_,_,_)::r=>by simp[gN,c6,pf r]
def x4(p:dc)(A:Nat)(m:Mem)(xs:List AV):(kS p A m xs).Nodup:=by
 unfold kS;split
 .rw[List.nodup_append];refine⟨List.nodup_range,((ki m 64 _ [] List.nodup_nil (by simp)).1).filter _,λa A7 b O AB=>?_⟩;simp only[W5]at A7;simp only[Xc,Bool.not_eq_true',X2]at O;omega
 .exact List.nodup_range
def AN(p:dc)(A:Nat)(m:Mem)(xs:List AV){k:Nat}(V:k<A):(kS p A m xs)[k]?=some k:=by
 unfold kS;split
 .rw[WN (by simpa using V)];simp[V]
 .simp[V]
def mz{p:dc}{A:Nat}{S:St}{xs:List AV}{one:List AV->Out}{out:Out}{l:List (Nat×ax)}(h:kT p A S xs one=some (out,l))
 {φ:aR} {G:Fr} {w:World} (hm:aI φ G S.mem w) (AD:bY w (Fo G φ S.mem) S.gl) {vs:List Value} (A5:xs.length=vs.length)
 (H:∀(i:Nat) x v,xs[i]?=some x->vs[i]?=some v->ai φ w (Fo G φ S.mem) x v) {φ0:aR} {m0:Mem} {w0:World} (V:aB φ0 m0 w0 φ S.mem w) (An:∀k L,φ0 k=some L->k<A/\L.U=0):
 ∃φ' A8,out=one A8/\aI φ' G (bI 0 l) w/\aB φ0 m0 w0 φ' (bI 0 l) w/\A8.length=vs.length/\(∀(i:Nat) y v,A8[i]?=some y->vs[i]?=some v->ai φ' w (Fo G φ' (bI 0 l)) y v)/\
  ∀b,Fo G φ' (bI 0 l) b->Fo G φ S.mem b:=by
 unfold kT at h;obtain⟨K,AE⟩:∃K,K=kS p A S.mem xs:=⟨_,rfl⟩;have Ao:K.Nodup:=by rw[AE];exact x4 ..
 have Ap:∀k,k<A->K[k]?=some k:=λk h=>by rw[AE];exact AN _ _ _ _ h
 simp only[<-AE]at h;clear AE;have Aq:Rel φ G {S with n:=xs.length,env:=dV 0 xs} {tmps:=vs.toArray,defers:=G.dv} w:=by
  refine⟨by simp[A5],rfl,λt x A1=>?_,hm,AD⟩;obtain⟨j,rfl,AC⟩:=pV 0 xs t _ A1;have AS:j<vs.length:=by rw[<-A5];exact (D1.1 AC).1
  have e:vs.toArray.getD (0+j) undef=vs[j]:=by simp[AS]
  simp only[e];exact H j x _ AC (by simp[AS])
 obtain⟨A2,AF⟩:∃A2,A2=sF p K {S with n:=xs.length,env:=dV 0 xs}:=⟨_,rfl⟩;have A1:bX {S with n:=xs.length,env:=dV 0 xs} A2:=by rw[AF];exact u9 ..
 have AT:c6 A2.env=(List.range' 0 xs.length).map λj=>(j,true):=by
  rw[AF,sF,ve];exact vf 0 xs
 rw[<-AF]at h;clear AF;obtain⟨AU,AW,AX⟩:=A1.2.2 φ G _ w Aq;unfold zu at h;split at h
 .rename_i Ar;simp only[WR,W0]at h;obtain⟨rfl,rfl⟩:=h;have AG:=AW.mem;have AY:∀k∈K,(Mem.get A2.mem k).isSome=true:=by simpa using Ar
  obtain⟨s1,s2,As⟩:=sD (G1:=G) (ρ:=K) (bor:=λ_=>true) (nv:=vd A) AG Ao AY (λb h=>.inl h) (λb h=>AG.fW b h.own)
   (λk e L b AD _ _ E T=>AG.fW _ ⟨e,(Mem.get_mem AD).1,L,by rw[(Mem.get_mem AD).2];exact E,T⟩)
  have A':=V.trans AX;refine⟨AU.dY K (vd A),_,rfl,s1,⟨?_,A'.qT,?_,A'.size,A'.os,A'.tape,A'.output⟩,?_,?_,?_⟩
  .intro k L E;obtain⟨AO,AH⟩:=An k L E;obtain⟨AZ,A6,A9,AK⟩:=A'.le k L E;refine⟨{AZ with U:=vd A k AZ.U},by simp[aR.dY,Ap k AO,A6],by simp[AH],λhe=>?_⟩;simp only[vd,AO,XO,AH]at he;split at he
   .rename_i At;have Y:=AK (by rw[AH];exact At);have g1:=Xi Loc.U Y;have g2:=Xi Loc.ba Y;have g3:=Xi Loc.sz Y;have g4:=Xi Loc.cap Y;have g5:=Xi Loc.base Y;have g6:=Xi Loc.ty Y;simp only at g1 g2 g3 g4 g5 g6⊢;rw[g1,g2,g3,g4,g5,g6];simp only[vd,AO,XO,AH]
   .simp at he
  .intro b O T;exact A'.own b O ((pc (φ:=AU) (nv:=vd A) (bor:=λ_=>true) AY b).1 T).own
  .rw[List.length_map,pf,AT];simp[A5]
  .intro i y v A_ AM;rw[WZ]at A_;obtain⟨x,Au,rfl⟩:=WH.1 A_;have AA:=Bz A2.env 0 xs.length i AT x Au;rw[Xt]at AA;have Aa:=AW.env i x AA;have e:vs.toArray.getD i undef=v:=by simp[AM]
   simp only[e]at Aa;exact (s2 x v Aa).tp
  .intro b O;have A3:=As b O;rcases A3 with A3|A3
   .exact .inl A3
   .rcases Nat.lt_or_ge b w.heap.size with Ab|Ab
    .exact .inr (AX.own b Ab A3)
    .exact absurd (AG.uH A3) (by omega)
 .cases h
def aO:AV->List Nat
 | .ptr k _ _=>[k]
 | .vec k _ _ _=>[k]
 | .bb k _ _ _=>[k]
 |_=>[]
def mL(S:St):List Operand->List Nat
 |[]=>[]
 |x::r=>aO (S.ag x).2++mL S r
def vg(S:St):Op->List Nat
 | .move _=>[]
 | .assign _=>[]
 |op=>mL S op.operands.toList
def eF(S:St)(o:Oper):List Nat:=keyOf o::vg S o.op
def tt{S:St}:∀{l:List Operand}{x:Operand},x∈l->∀k∈aO (S.ag x).2,k∈mL S l
 |[],x,h,_,_=>by simp at h
 |y::r,x,h,k,J=>by
  simp only[mL,Xe];rcases WK.1 h with rfl|h
  .exact .inl J
  .exact .inr (tt h k J)
section
variable {P:Program} {m m':Mem}
theorem Ee{t p}(h:∀k∈aO p,Mem.get m' k=Mem.get m k):gV P m' t p=gV P m t p:=by
 cases p<;>simp_all [gV,aO]
theorem oG{sz x}(h:∀k∈aO x,Mem.get m' k=Mem.get m k):dq m' sz x=dq m sz x:=by
 cases x with
 |vec k U off len=>simp only[dq,h k (by simp[aO])]
 |d x=>cases x<;>rfl
 |lit v=>unfold dq;split<;>simp_all
 |_=>rfl
theorem Cr{t p x}(h:∀k∈aO p,Mem.get m' k=Mem.get m k):j4 P m' t p x=j4 P m t p x:=by
 cases p<;>simp_all [j4,aO]
theorem Cs{s f p}(h:∀k∈aO p,Mem.get m' k=Mem.get m k):jO P m' s f p=jO P m s f p:=by
 cases p<;>simp_all [jO,aO]
theorem x5{p}(h:∀k∈aO p,Mem.get m' k=Mem.get m k):eL m' p=eL m p:=by
 cases p<;>simp_all [eL,aO]
theorem Ct{t p i}(h:∀k∈aO p,Mem.get m' k=Mem.get m k):il P m' t p i=il P m t p i:=by
 cases p with
 |vec k U off len=>simp only[il,h k (by simp[aO])]
 |ptr k U off=>simp only[il,h k (by simp[aO])]
 |bb k U i j=>simp only[il,h k (by simp[aO])]
 |d x=>cases x<;>rfl
 |_=>rfl
theorem Cu{t p lo hi}(h:∀k∈aO p,Mem.get m' k=Mem.get m k):gf P m' t p lo hi=gf P m t p lo hi:=by
 cases p with
 |bb k U i j=>simp only[gf,h k (by simp[aO])]
 |vec k U off len=>simp only[gf,h k (by simp[aO])]
 |ptr k U off=>simp only[gf,h k (by simp[aO])]
 |d x=>cases x<;>rfl
 |_=>rfl
theorem Gb{k c cs}(h:Mem.get m' k=Mem.get m k):kM m' k c cs=kM m k c cs:=by simp only[kM,h]
theorem Cv{k t}(h:Mem.get m' k=Mem.get m k):nj P m' k t=nj P m k t:=by simp only[nj,y8,kM,yA,h]
theorem Gc{op t x y}(A:∀k∈aO x,Mem.get m' k=Mem.get m k):rq P m' op t x y=rq P m op t x y:=by
 unfold rq;split
 .rename_i k v o A5 A6 AH;rw[A k (by simp[aO])]
 .rfl
theorem Cw{k t x}(h:Mem.get m' k=Mem.get m k):nk P m' k t x=nk P m k t x:=by simp only[nk,h]
theorem Ef{b x}(A:∀k∈aO x,Mem.get m' k=Mem.get m k):pP m' b x=pP m b x:=by
 unfold pP;split
 .rename_i k v;rw[A k (by simp[aO])]
 .rfl
theorem Iu{x}(A:∀k∈aO x,Mem.get m' k=Mem.get m k):y5 m' x=y5 m x:=by
 unfold y5;split
 .rename_i k v l;rw[A k (by simp[aO])]
 .rfl
theorem Iv{t x y}(A:∀k∈aO x,Mem.get m' k=Mem.get m k):y6 P m' t x y=y6 P m t x y:=by
 unfold y6;split
 .rename_i k v l;rw[A k (by simp[aO])]
 .rfl
theorem Eg{k s d x}(h:Mem.get m' k=Mem.get m k)(A:∀k∈aO x,Mem.get m' k=Mem.get m k):gZ P m' k s d x=gZ P m k s d x:=by
 have e:=oG (m:=m) (m':=m') (sz:=1) A;cases A1:tk P d<;>cases x with
 |d x=>cases x<;>simp only[gZ,A1,e,h]
 |_=>simp only[gZ,A1,e]
theorem Eh{k s d x}(h:Mem.get m' k=Mem.get m k)(A:∀k∈aO x,Mem.get m' k=Mem.get m k):ka P m' k s d x=ka P m k s d x:=by
 have e:=Eg (P:=P) (s:=s) (d:=d) h A;cases x with
 |vec W U off len=>simp only[ka,e,A W (by simp[aO])]
 |ptr W U off=>simp only[ka,uX,A W (by simp[aO])]
 |_=>simp only[ka,e]
theorem Ei{k t l c}(h:Mem.get m' k=Mem.get m k):pM P m' k t l c=pM P m k t l c:=by simp only[pM,h]
theorem vh{k t n ps}(h:Mem.get m' k=Mem.get m k):fL P m' k t n ps=fL P m k t n ps:=by simp only[fL,lj,h]
theorem Gd{t x}(h:∀k∈aO x,Mem.get m' k=Mem.get m k):ju P m' t x=ju P m t x:=by
 cases x with
 |vec k U off len=>simp only[ju,h k (by simp[aO])]
 |d x=>cases x<;>rfl
 |lit v=>unfold ju;split<;>simp_all
 |_=>rfl
theorem Ge{u sz Y Z s x}(O:∀k∈aO s,Mem.get m' k=Mem.get m k)(A:∀k∈aO x,Mem.get m' k=Mem.get m k):pL P m' u sz Y Z s x=pL P m u sz Y Z s x:=by
 cases s with
 |vec k U off len=>
  cases x with
  |vec A7 AI A8 A9=>
   match A8,A9 with
   |0,1=>simp only[pL,O k (by simp[aO]),A A7 (by simp[aO])]
   |0,0=>rfl
   |0,_+2=>rfl
   |_+1,_=>rfl
  |_=>rfl
 |_=>rfl
theorem Gf{P:Program}{m:Mem}{u:TypeId}{sz Y:Nat}{Z:D}{s x:AV}{c:Bool}{k v off n:Nat}{e:bn}(h:pL P m u sz Y Z s x=.bo c (.vec k v off n) e):k∈aO s:=by
 unfold pL at h;split at h
 .split at h
  .cases h;simp[aO]
  .cases h
 .cases h
theorem Gg{k t u s x}(h:Mem.get m' k=Mem.get m k)(O:∀k∈aO s,Mem.get m' k=Mem.get m k)(A:∀k∈aO x,Mem.get m' k=Mem.get m k):l6 P m' k t u s x=l6 P m k t u s x:=by
 unfold l6 mY;simp only[oG A,h,Ge O A];cases s with
 |vec k U off len=>simp only[O k (by simp[aO])]
 |lit v=>
  cases v with
  |slice ao n c=>cases ao<;>cases n<;>cases c<;>simp only
  |_=>rfl
 |_=>rfl
theorem Gi{P:Program}{m:Mem}{A2:Nat}{t u:TypeId}{s x:AV}{c:Bool}{k v off n:Nat}{e:bn}(h:l6 P m A2 t u s x=.bo c (.vec k v off n) e):k=A2\/k∈aO s:=by
 unfold l6 at h;split at h
 .split at h
  .split at h
   .split at h
    .split at h
     .cases h;right;simp[aO]
     .split at h
      .cases h;right;simp[aO]
      .cases h
     .cases h
    .split at h
     .cases h;left;rfl
     .cases h
    .cases h
   .exact .inr (Gf h)
  .cases h
 .cases h
theorem Ej{P:Program}{m m':Mem}{k t u s x}(h:Mem.get m' k=Mem.get m k)(O:∀k∈aO s,Mem.get m' k=Mem.get m k)(A:∀k∈aO x,Mem.get m' k=Mem.get m k):
 nZ m' (Mem.get m' k).isSome k (l6 P m' k t u s x)=nZ m (Mem.get m k).isSome k (l6 P m k t u s x):=by
 rw[Gg h O A,h];unfold nZ;generalize AA:l6 P m k t u s x=r;split
 .rename_i c W v n A5 A6 sz rows;have J:Mem.get m' W=Mem.get m W:=by
   rcases Gi AA with rfl|J
   .exact h
   .exact O _ J
  rw[J]
 .rfl
theorem xk{k t x}(h:Mem.get m' k=Mem.get m k):mw P m' k t x=mw P m k t x:=by
 unfold mw;simp only[h]
theorem Gj{neg t x v}(h:∀k∈aO x,Mem.get m' k=Mem.get m k):fk P m' neg t x v=fk P m neg t x v:=by
 cases x with
 |vec k U off len=>unfold fk;simp only[h k (by simp[aO])]
 |ptr k U off=>unfold fk;simp only[h k (by simp[aO])]
 |d x=>unfold fk;cases x with
  |list xs=>cases xs<;>rfl
  |_=>rfl
 |lit u=>unfold fk;cases u with
  |slice ao n c=>cases ao<;>cases n<;>cases c<;>rfl
  |pointer a=>cases a<;>rfl
  |_=>rfl
 |_=>rfl
theorem Ek{t s x}(O:∀k∈aO s,Mem.get m' k=Mem.get m k)(A:∀k∈aO x,Mem.get m' k=Mem.get m k):pN P m' t s x=pN P m t s x:=by
 unfold pN;simp only[oG A];cases s with
 |vec k U off len=>simp only[O k (by simp[aO])]
 |_=>rfl
end
def xl{P:Program}{S H:St}{o:Oper}(A:∀x∈o.op.operands.toList,H.ag x=S.ag x)(J:∀k∈eF S o,Mem.get H.mem k=Mem.get S.mem k):bx P H o=bx P S o:=by
 have T:Mem.get H.mem (keyOf o)=Mem.get S.mem (keyOf o):=J _ (by simp[eF]);have M:match o.op with
  | .move _=>True
  | .assign _=>True
  |op=>∀x∈op.operands.toList,∀k∈aO (S.ag x).2,Mem.get H.mem k=Mem.get S.mem k:=by
  unfold eF at J;generalize o.op=op at J;cases op<;>first|trivial|exact λx E k q=>J k (Xb _ (tt E k q))
 have A':∀(l:List Operand),(∀x∈l,H.ag x=S.ag x)->l.map (λx=>(H.ag x).2)=l.map (λx=>(S.ag x).2):=λl A0=>List.map_congr_left (λx E=>by rw[A0 x E]);have A3:∀(l:List (Nat×Operand)),(∀x∈l,H.ag x.2=S.ag x.2)->l.map (λx=>(x.1,(H.ag x.2).2))=l.map (λx=>(x.1,(S.ag x.2).2)):=λl A0=>List.map_congr_left (λx E=>by rw[A0 x E]);unfold bx;generalize AJ:o.op=op at A M;cases op with
 |move x=>simp only[A x (by simp[Op.operands]),xk T]
 |assign x=>simp only[A x (by simp[Op.operands]),xk T]
 |pick c a b=>simp only[A c (by simp[Op.operands]),A a (by simp[Op.operands]),A b (by simp[Op.operands])]
 |alloc t=>simp only[Cv T]
 |box t x=>simp only[A x (by simp[Op.operands]),Gb T]
 |load t x=>simp only[A x (by simp[Op.operands]),Ee (M x (by simp[Op.operands]))]
 |store t p x=>simp only[A x (by simp[Op.operands]),A p (by simp[Op.operands]),Cr (M p (by simp[Op.operands]))]
 |fieldAddr s x f=>simp only[A x (by simp[Op.operands]),Cs (M x (by simp[Op.operands]))]
 |nilCheck x=>simp only[A x (by simp[Op.operands]),x5 (M x (by simp[Op.operands]))]
 |indexAddr t x i=>simp only[A x (by simp[Op.operands]),A i (by simp[Op.operands]),Ct (M x (by simp[Op.operands]))]
 |index t x i=>simp only[A x (by simp[Op.operands]),A i (by simp[Op.operands])]
 |slice t x lo hi AB=>
  cases AB with
  |none=>
   have AC:lo.map (λy=>(H.ag y).2)=lo.map (λy=>(S.ag y).2):=by cases lo with|none=>rfl|some y=>simp[A y (by simp[Op.operands])]
   have AD:hi.map (λy=>(H.ag y).2)=hi.map (λy=>(S.ag y).2):=by cases hi with|none=>rfl|some y=>simp[A y (by simp[Op.operands])]
   simp only[A x (by simp[Op.operands]),AC,AD,Cu (M x (by simp[Op.operands]))]
  |some _=>rfl
 |binOp op t x y AK=>
  have A4:=A x (by simp[Op.operands]);have AE:=A y (by simp[Op.operands]);have q:=M x (by simp[Op.operands]);simp only
  unfold lJ;cases y with
  |const v=>simp only[A4,Gj q];rfl
  |_=>simp only[A4,AE,Gc q]
 |unOp op t x=>simp only[A x (by simp[Op.operands])]
 |convert s d x=>simp only[A x (by simp[Op.operands]),Eh T (M x (by simp[Op.operands]))]
 |makeInterface t x=>simp only[A x (by simp[Op.operands])]
 |range t x=>simp only[A x (by simp[Op.operands]),Cw T]
 |next x b=>simp only[A x (by simp[Op.operands]),Ef (M x (by simp[Op.operands]))]
 |makeFunc f first cap=>simp only[A' cap.toList (λx E=>A x (by simp[Op.operands];right;simpa using E)),A' first.toList (λx E=>A x (by simp[Op.operands];left;simpa using E))]
 |makeSlice t l c=>simp only[A l (by simp[Op.operands]),A c (by simp[Op.operands]),Ei T]
 |build t ps=>simp only[A3 ps.toList (λx E=>A x.2 (by simp only[Op.operands,List.toList_toArray,WS];exact⟨x,E,rfl⟩))]
 |buildSlice t n ps=>simp only[A3 ps.toList (λx E=>A x.2 (by simp only[Op.operands,List.toList_toArray,WS];exact⟨x,E,rfl⟩)),vh T]
 |extract x i=>simp only[A x (by simp[Op.operands])]
 |field s x f=>simp only[A x (by simp[Op.operands])]
 |typeAssert x AL t ok=>simp only[A x (by simp[Op.operands])]
 |call c=>
  obtain⟨callee,args,AF⟩:=c;cases callee with
  |builtin b=>
   have I:∀x∈args.toList,H.ag x=S.ag x:=λx E=>A x (by simp[Op.operands,Call.operands];simpa using E);have V:∀x∈args.toList,∀k∈aO (S.ag x).2,Mem.get H.mem k=Mem.get S.mem k:=λx E=>M x (by simp[Op.operands,Call.operands];simpa using E);simp only
   unfold eW;have em:=A' args.toList I;generalize args.toList=AG at I V em;generalize AF.toList=AM;split
   .rename_i x t;simp only[I x (by simp),Gd (V x (by simp))]
   .rename_i s x t u;simp only[I x (by simp),I s (by simp),Ej T (V s (by simp)) (V x (by simp))]
   .rename_i s x t u;simp only[I x (by simp),I s (by simp),Ek (V s (by simp)) (V x (by simp))]
   .simp only[em]
   .simp only[em]
   .rename_i x t;simp only[I x (by simp)]
   .rename_i x t;simp only[I x (by simp),Iu (V x (by simp))]
   .rename_i x y t u;simp only[I x (by simp),I y (by simp),Iv (V x (by simp))]
   .rfl
  |value f=>
   cases f with
   |func g=>
    have I:∀x∈args.toList,H.ag x=S.ag x:=λx E=>A x (by simp[Op.operands,Call.operands];right;simpa using E);simp only
    unfold zb;generalize args.toList=AG at I;split
    .rw[I _ (by simp)]
    .rfl
   |_=>rfl
  |_=>rfl
 |_=>rfl
structure aD where
 ks:List Nat
 es:List bn
 g:Bool
 x:AV
def aD.app(p:aD)(o:Oper)(S:St):St:=({S with mem:=aL S.mem p.es}:St).put o.dst p.g p.x
def HL(all:List Oper)(j:Nat):List Nat:=
 match all[j]? with
 |some o=>match o.dst with|some t=>[t]|none=>[]
 |none=>[]
def looks(all:List Oper)(o:Oper):List Nat:=
 (o.op.operands.toList.filterMap λ| .tmp t=>some t|_=>none)++(match o.guard with|some (j,_)=>HL all j|none=>[])
structure fR(all:List Oper)(o:Oper)(ks:List Nat)(A S:St):Prop where
 n:A.n=S.n
 gl:A.gl=S.gl
 keys:A.mem.map (·.key)=S.mem.map (·.key)
 env:∀t∈looks all o,Env.lk A.env t=Env.lk S.env t
 mem:∀k∈ks,Mem.get A.mem k=Mem.get S.mem k
def fS(P:Program)(all:List Oper)(S:St)(o:Oper)(p:aD):Prop:=
 ∀A,fR all o p.ks A S->∀φ G a w,Rel φ G A a w->∀(next:Act->World->Prop)(R:Exit->Act->World->Prop),
  (∀φ' A2 w',Rel φ' G (p.app o A) A2 w'->aB φ A.mem w φ' (p.app o A).mem w'->next A2 w')->
  if Region.wanted o (yielded all.toArray a.tmps)then o.wp P a w next R else next (a.put o.dst undef) w
def mA(P:Program)(M:Mem->Prop)(all:List Oper)(S:St)(o:Oper)(p:aD):Prop:=
 ∀A,fR all o p.ks A S->M A.mem->∀φ G a w,Rel φ G A a w->∀(next:Act->World->Prop)(R:Exit->Act->World->Prop),
  (∀φ' A2 w',Rel φ' G (p.app o A) A2 w'->aB φ A.mem w φ' (p.app o A).mem w'->next A2 w')->
  if Region.wanted o (yielded all.toArray a.tmps)then o.wp P a w next R else next (a.put o.dst undef) w
def fS.toI{P:Program}{M:Mem->Prop}{all:List Oper}{S:St}{o:Oper}{p:aD}(h:fS P all S o p):mA P M all S o p:=λA AS _=>h A AS
inductive Cert(P:Program)(M:Mem->Prop)(all:List Oper):List Oper->St->List aD->St->Prop
 |nil (S):Cert P M all [] S [] S
 |cons (o rest S p ps S1) (E:∀e∈p.es,e.key∈p.ks) (B3:∀m,M m->M (aL m p.es)) (h:mA P M all S o p) (A0:Cert P M all rest (p.app o S) ps S1):Cert P M all (o::rest) S (p::ps) S1
def cq(o:Oper):List Nat:=(o.after.toList.filter (Region.binds .any)).map (·.on)
def dM:List Oper->List (List Nat)->List (List Nat)
 |[],J=>J
 |o::r,J=>dM r (J++[((cq o).flatMap λp=>p::J.getD p []).eraseDups])
def kV(l r:List Nat):Bool:=l.all λx=>!r.contains x
def rG(all:List Oper)(o H:Oper)(p A':aD):Bool:=
 kV o.dst.toList (looks all H)&&kV H.dst.toList (looks all o)&&kV o.dst.toList H.dst.toList&&kV (p.es.map (·.key)) A'.ks&&kV (A'.es.map (·.key)) p.ks
def yd(all:List Oper)(ps:List aD)(Ab:List (List Nat))(j:Nat):Bool:=
 match all[j]?,ps[j]? with
 |some o,some p=>(cq o).all (λi=>decide (i<j))&&(List.range j).all λi=>(Ab.getD j []).contains i||(match all[i]?,ps[i]? with
  |some H,some A'=>rG all H o A' p
  |_,_=>false)
 |_,_=>false
def kj(all:List Oper)(ps:List aD):Bool:=(List.range all.length).all (yd all ps (dM all []))
def tv:∀(l:List Oper)(J:List (List Nat)),∃r,dM l J=J++r/\r.length=l.length
 |[],J=>⟨[],by simp[dM]⟩
 |o::l,J=>by
  obtain⟨r,I,V⟩:=tv l (J++[((cq o).flatMap λp=>p::J.getD p []).eraseDups]);exact⟨((cq o).flatMap λp=>p::J.getD p []).eraseDups::r,by rw[dM,I,XY,List.singleton_append],by grind⟩
def mem_eraseDups{l:List Nat}{x:Nat}:x∈l.eraseDups↔x∈l:=List.mem_eraseDups
def xm:∀(l:List Oper)(J:List (List Nat))(j:Nat)(o:Oper),l[j]?=some o->(∀p∈cq o,p<J.length+j)->
 ∀i,i∈(dM l J).getD (J.length+j) []↔∃p∈cq o,i=p\/i∈(dM l J).getD p []
 |[],J,j,o,h,_=>by grind
 |x::l,J,j,o,h,T=>by
  simp only[dM];cases j with
  |zero=>
   obtain⟨r,I,_⟩:=tv l (J++[((cq x).flatMap λp=>p::J.getD p []).eraseDups]);rw[I];intro i;have A6:(J++[((cq x).flatMap λp=>p::J.getD p []).eraseDups]++r).getD (J.length+0) []=((cq x).flatMap λp=>p::J.getD p []).eraseDups:=by
    grind
   rw[A6,mem_eraseDups,List.mem_flatMap];grind
  |succ j=>
   have:=xm l (J++[((cq x).flatMap λp=>p::J.getD p []).eraseDups]) j o (by grind) (λp Ac=>by grind);grind
def fE{all:List Oper}{L:Nat->Prop}(T:∀j o,all[j]?=some o->∀p∈cq o,p<j)(BR:∀j o,all[j]?=some o->L j->∀p∈cq o,L p):
 ∀j,(∃o,all[j]?=some o)->∀i,i∈(dM all []).getD j []->i<j/\((∀o,all[j]?=some o->∀p∈cq o,L p)->L i):=by
 intro j;induction j using Nat.strongRecOn with
 |_ j ih=>
  rintro ⟨o,D⟩ i hi;have AI:=(xm all [] j o D (λp Ac=>by grind) i);simp at AI;obtain⟨p,Ac,h⟩:=AI.1 hi;have AJ:=T j o D p Ac;rcases h with rfl|h
  .grind
  .have B4:j<all.length:=(D1.1 D).1;obtain⟨op,B5⟩:∃op,all[p]?=some op:=⟨all[p],by grind⟩;obtain⟨I,V⟩:=ih p AJ ⟨op,B5⟩ i h;grind
def aw(all:List Oper)(ps:List aD)(S:St)(l:List Nat):St:=
 l.foldl (λS i=>match all[i]?,ps[i]? with|some o,some p=>p.app o S|_,_=>S) S
def n9(p:aD)(o:Oper)(S:St):(p.app o S).n=S.n:=by simp[aD.app,hE]
def lQ(p:aD)(o:Oper)(S:St):(p.app o S).gl=S.gl:=by cases h:o.dst<;>simp[aD.app,h,St.put]
def tW(p:aD)(o:Oper)(S:St):(p.app o S).mem.map (·.key)=S.mem.map (·.key):=by simp[aD.app,cM,fO]
def nt(p:aD)(o:Oper)(S:St)(t:Nat):Env.lk (p.app o S).env t=if o.dst=some t then some (p.g,p.x)else Env.lk S.env t:=by
 cases W:o.dst with
 |none=>simp[aD.app,St.put,W]
 |some d=>
  by_cases h:d=t
  .simp[aD.app,St.put,W,Env.lk]
  .simp[aD.app,St.put,W,Env.lk]
def qI:∀(es:List bn)(m:Mem)(k:Nat),k∉es.map (·.key)->Mem.get (aL m es) k=Mem.get m k
 |[],m,k,_=>rfl
 |e::r,m,k,h=>by
  simp only[Xn,WK,not_or]at h;rw[aL,qI r _ k h.2,Mem.j2 (λhe=>h.1 he.symm)]
def jx:∀(es:List bn)(m m':Mem)(k:Nat),m.map (·.key)=m'.map (·.key)->(k∈es.map (·.key)\/Mem.get m k=Mem.get m' k)->Mem.get (aL m es) k=Mem.get (aL m' es) k
 |[],m,m',k,_,h=>by simpa [aL]using h
 |e::r,m,m',k,E,h=>by
  refine jx r _ _ k (by rw[Mem.dy,Mem.dy,E]) ?_;by_cases he:e.key=k
  .right;subst he;by_cases Ap:e.key∈m.map (·.key)
   .rw[Mem.get_set_same Ap,Mem.get_set_same (E▸Ap)]
   .have BS:∀(m:Mem),e.key∉m.map (·.key)->Mem.get (Mem.set m e) e.key=none:=by
     intro m hm;cases AF:Mem.get (Mem.set m e) e.key with
     |none=>rfl
     |some y=>
      obtain⟨I,V⟩:=Mem.get_mem AF;have:y.key∈(Mem.set m e).map (·.key):=WW I;rw[Mem.dy,V]at this;grind
    grind
  .rw[Mem.j2 he,Mem.j2 he];grind
def vi(p:aD)(o:Oper)(S:St)(k:Nat)(h:k∉p.es.map (·.key)):Mem.get (p.app o S).mem k=Mem.get S.mem k:=by
 simp[aD.app,cM];exact qI _ _ _ h
section
variable {all:List Oper} {ps:List aD} {S:St}
theorem jH(l:List Nat):∀(S:St),(aw all ps S l).n=S.n:=by
 induction l with
 |nil=>exact λ_=>rfl
 |cons i l ih=>
  intro S;have A6:aw all ps S (i::l)=aw all ps (aw all ps S [i]) l:=by simp[aw]
  rw[A6,ih];simp[aw];split
  .exact n9 ..
  .rfl
theorem iw(l:List Nat):∀(S:St),(aw all ps S l).gl=S.gl:=by
 induction l with
 |nil=>exact λ_=>rfl
 |cons i l ih=>
  intro S;have A6:aw all ps S (i::l)=aw all ps (aw all ps S [i]) l:=by simp[aw]
  rw[A6,ih];simp[aw];split
  .exact lQ ..
  .rfl
theorem cr(l:List Nat):∀(S:St),(aw all ps S l).mem.map (·.key)=S.mem.map (·.key):=by
 induction l with
 |nil=>exact λ_=>rfl
 |cons i l ih=>
  intro S;have A6:aw all ps S (i::l)=aw all ps (aw all ps S [i]) l:=by simp[aw]
  rw[A6,ih];simp[aw];split
  .exact tW ..
  .rfl
theorem l8(l Aq:List Nat)(S:St):aw all ps S (l++Aq)=aw all ps (aw all ps S l) Aq:=by simp[aw]
theorem oa(t:Nat)(q:Nat->Bool)(l:List Nat):∀(S A:St),(∀i∈l,∀o,all[i]?=some o->o.dst=some t->q i=true)->Env.lk S.env t=Env.lk A.env t->Env.lk (aw all ps S l).env t=Env.lk (aw all ps A (l.filter q)).env t:=by
 induction l with
 |nil=>intro S A _ h;exact h
 |cons i l ih=>
  intro S A AD h;have AK:∀A7∈l,∀o,all[A7]?=some o->o.dst=some t->q A7=true:=λA7 Ad=>AD A7 (Xb _ Ad);by_cases A8:q i=true
  .rw[List.filter_cons_of_pos A8];refine ih _ _ AK ?_;simp[X6];split
   .rw[nt,nt,h]
   grind
  .rw[X4 A8];refine ih _ _ AK ?_;simp[X6];split
   .rename_i o p D T;rw[nt,WO (λW=>A8 (AD i (by simp) o D W)),h]
   grind
theorem iH(k:Nat)(q:Nat->Bool)(l:List Nat):∀(S A:St),(∀i∈l,∀p,ps[i]?=some p->k∈p.es.map (·.key)->q i=true)->S.mem.map (·.key)=A.mem.map (·.key)->Mem.get S.mem k=Mem.get A.mem k->Mem.get (aw all ps S l).mem k=Mem.get (aw all ps A (l.filter q)).mem k:=by
 induction l with
 |nil=>intro S A _ _ h;exact h
 |cons i l ih=>
  intro S A AD E h;have A6:aw all ps S (i::l)=aw all ps (aw all ps S [i]) l:=by simp[aw]
  have AK:∀A7∈l,∀p,ps[A7]?=some p->k∈p.es.map (·.key)->q A7=true:=λA7 Ad=>AD A7 (Xb _ Ad);rw[A6];by_cases A8:q i=true
  .rw[List.filter_cons_of_pos A8];have AT:aw all ps A (i::l.filter q)=aw all ps (aw all ps A [i]) (l.filter q):=by simp[aw]
   rw[AT];refine ih _ _ AK (by rw[cr,cr,E]) ?_;simp[aw,X6];split
   .simp[aD.app,cM];exact jx _ _ _ k E (.inr h)
   grind
  .rw[X4 A8];refine ih _ _ AK (by rw[cr,E]) ?_;simp[aw,X6];split
   .rename_i o p D T;rw[vi _ _ _ _ (λW=>A8 (AD i (by simp) p T W)),h]
   grind
end
structure dE(A S:St):Prop where
 n:A.n=S.n
 gl:A.gl=S.gl
 mem:A.mem=S.mem
 env:∀t,Env.lk A.env t=Env.lk S.env t
def Rel.eqv{φ G S A a w}(h:Rel φ G A a w)(he:dE A S):Rel φ G S a w:=
 ⟨by rw[<-he.n];exact h.size,h.defers,λt x Ae=>by rw[<-he.mem];exact h.env t x (by rw[he.env];exact Ae),by rw[<-he.mem];exact h.mem,by rw[<-he.gl,<-he.mem];exact h.fX⟩
def Mem.ext{m m':Mem}(Ar:(m.map (·.key)).Nodup)(E:m.map (·.key)=m'.map (·.key))(h:∀k,Mem.get m k=Mem.get m' k):m=m':=by
 induction m generalizing m' with
 |nil=>simp_all
 |cons e r ih=>
  cases m' with
  |nil=>grind
  |cons e' BT=>
   simp at E;simp at Ar;have Af:=h e.key;simp[Mem.get,E.1]at Af;congr 1;refine ih Ar.2 E.2 λk=>?_;have:=h k;simp[Mem.get]at this;by_cases he:e.key=k
   .have nn:∀{r:Mem},e.key∉r.map (·.key)->Mem.get r e.key=none:=by
     intro r A0;cases AF:Mem.get r e.key with
     |none=>rfl
     |some y=>obtain⟨I,V⟩:=Mem.get_mem AF;grind
    grind
   grind
def dZ(n:Nat)(f:Nat->Bool):List Nat:=(List.range n).filter f
def tw{j n:Nat}(h:j<n):List.range n=List.range j++j::List.range' (j+1) (n-j-1):=by
 have V:(j::List.range' (j+1) (n-j-1))=List.range' j (n-j):=by
  rw[show n-j=(n-j-1)+1 by omega,XG];simp
 rw[V,List.range_eq_range',List.range_eq_range'];rw[show List.range' 0 n=List.range' 0 (j+(n-j)) by grind];rw[<-List.range'_append_1];simp
def rH{j n:Nat}{f:Nat->Bool}(h:j<n)(AE:f j=false):dZ n f=(List.range j).filter f++(List.range' (j+1) (n-j-1)).filter f:=by
 rw[dZ,tw h,XJ,X4 (by grind)]
def Cx{j n:Nat}{f g:Nat->Bool}(h:j<n)(AF:g j=true)(As:∀i,i≠j->g i=f i):dZ n g=(List.range j).filter f++j::(List.range' (j+1) (n-j-1)).filter f:=by
 rw[dZ,tw h,XJ,List.filter_cons_of_pos AF];congr 1
 .exact XX λi hi=>As i (by grind)
 .congr 1;exact XX λi hi=>As i (by grind)
def lR{l r:List Nat}(h:kV l r=true){x:Nat}(U:x∈l)(A0:x∈r):False:=by
 have:=W7.1 h x U;grind
structure vj(all:List Oper)(o H:Oper)(p A':aD):Prop where
 a:∀t,o.dst=some t->t∉looks all H
 b:∀t,H.dst=some t->t∉looks all o
 c:∀t,o.dst=some t->H.dst≠some t
 d:∀k∈p.es.map (·.key),k∉A'.ks
 e:∀k∈A'.es.map (·.key),k∉p.ks
def AO{all o H p A'}(h:rG all o H p A'=true):vj all o H p A':=by
 simp[rG]at h;obtain⟨⟨⟨⟨I,V⟩,AL⟩,B6⟩,B7⟩:=h;exact⟨λt AM U=>lR I (by grind) U,λt AM U=>lR V (by grind) U,λt AM U=>lR AL (x:=t) (by grind) (by grind),λk E U=>lR B6 E U,λk E U=>lR B7 E U⟩
section
variable {all:List Oper} {ps:List aD}
theorem cd(h:kj all ps=true){j:Nat}{o:Oper}(D:all[j]?=some o):∃p,ps[j]?=some p/\(∀i∈cq o,i<j)/\
 ∀i,i<j->i∈(dM all []).getD j []\/∃H A',all[i]?=some H/\ps[i]?=some A'/\vj all H o A' p:=by
 have Z:j<all.length:=(D1.1 D).1;have I:=W7.1 h j (W5.2 Z);unfold yd at I;rw[D]at I;cases T:ps[j]? with
 |none=>grind
 |some p=>
  rw[T]at I;simp at I;refine⟨p,rfl,I.1,λi hi=>?_⟩;rcases I.2 i hi with V|V
  .grind
  .right;split at V
   .rename_i H A' A1 AN;exact⟨H,A',A1,AN,AO V⟩
   grind
theorem Cert.at{P:Program}{M:Mem->Prop}{rest:List Oper}{S0 S:St}{Ag:List aD}{S1:St}(h:Cert P M all rest S Ag S1):∀(pre:List Oper)(pp:List aD),pre.length=pp.length->all=pre++rest->ps=pp++Ag->aw all ps S0 (List.range pre.length)=S->
 aw all ps S0 (List.range all.length)=S1/\ps.length=all.length/\∀j o p,pre.length<=j->all[j]?=some o->ps[j]?=some p->(∀e∈p.es,e.key∈p.ks)/\(∀m,M m->M (aL m p.es))/\mA P M all (aw all ps S0 (List.range j)) o p:=by
 induction h with
 |nil S=>
  grind
 |cons o rest S p Ag S1 E B3 AU A0 ih=>
  intro pre pp U AS BU B8;have A6:all[pre.length]?=some o:=by rw[AS];simp
  have AT:ps[pre.length]?=some p:=by grind
  obtain⟨I,V,AL⟩:=ih (pre++[o]) (pp++[p]) (by simp[U]) (by rw[AS];simp) (by grind) (by
   rw[WY,Xo,List.range_succ,l8,B8];simp[aw,A6,AT])
  refine⟨I,V,λj H A' Z A1 AN=>?_⟩;rcases Nat.eq_or_lt_of_le Z with rfl|Z
  .grind
  .exact AL j H A' (by simp;omega) A1 AN
variable {S:St} {f:Nat->Bool}
def kl(all:List Oper)(f:Nat->Bool):Prop:=∀j o,all[j]?=some o->f j=true->∀p∈cq o,f p=true
theorem lr(AW:ps.length=all.length)(A3:kj all ps=true)(AA:kl all f){j:Nat}{o:Oper}{p:aD}(D:all[j]?=some o)(T:ps[j]?=some p)(Z:f j=false)(At:∀i∈cq o,f i=true):
 fR all o p.ks (aw all ps S (dZ all.length f)) (aw all ps S (List.range j)):=by
 have AX:j<all.length:=(D1.1 D).1;have AY:∀j o,all[j]?=some o->∀p∈cq o,p<j:=λj o D=>(cd A3 D).choose_spec.2.1;obtain⟨BV,BW,_,BX⟩:=cd A3 D;have BY:∀i∈(dM all []).getD j [],i<j/\f i=true:=λi hi=>by
  obtain⟨I,V⟩:=fE (L:=λi=>f i=true) AY (λj o D AE=>AA j o D AE) j ⟨o,D⟩ i hi;grind
 let q:Nat->Bool:=λi=>(dM all []).getD j [] |>.contains i
 have Au:∀i,(i<j\/(j<i/\f i=true))->q i=false->∀O pi,all[i]?=some O->ps[i]?=some pi->vj all O o pi p\/vj all o O p pi:=by
  rintro i (hi|⟨hi,AZ⟩) A8 O pi Y A5
  .grind
  .obtain⟨B9,BA,_,Ah⟩:=cd A3 Y;rcases Ah j hi with h|⟨H,A',A1,AN,h⟩
   .have:=(fE (L:=λi=>f i=true) AY (λj o D AE=>AA j o D AE) i ⟨O,Y⟩ j h).2 (λH A1=>by rw[Y]at A1;cases A1;exact AA i O Y AZ);grind
   grind
 have Av:(dZ all.length f).filter q=(List.range j).filter q:=by
  rw[rH AX Z,XJ,XI,XI];have:(List.range' (j+1) (all.length-j-1)).filter (λa=>q a&&f a)=[]:=by
   rw[Xv];grind
  grind
 have U:∀i∈dZ all.length f,i<j\/(j<i/\f i=true):=λi hi=>by
  have AZ:=(Xc.1 hi).2;grind
 have A0:∀i∈List.range j,i<j\/(j<i/\f i=true):=λi hi=>.inl (W5.1 hi);refine⟨by rw[jH,jH],by rw[iw,iw],by rw[cr,cr],λt AM=>?_,λk E=>?_⟩
 .have key:∀l:List Nat,(∀i∈l,i<j\/(j<i/\f i=true))->∀i∈l,∀O,all[i]?=some O->O.dst=some t->q i=true:=by
   intro l U i hi O Y W;cases A8:q i with
   |true=>rfl
   |false=>
    obtain⟨pi,A5,_⟩:=cd A3 Y;rcases Au i (U i hi) A8 O pi Y A5 with h|h
    .exact absurd AM (h.a t W)
    .exact absurd AM (h.b t W)
  rw[oa t q _ S S (key _ U) rfl,oa t q (List.range j) S S (key _ A0) rfl,Av]
 .have key:∀l:List Nat,(∀i∈l,i<j\/(j<i/\f i=true))->∀i∈l,∀pi,ps[i]?=some pi->k∈pi.es.map (·.key)->q i=true:=by
   intro l U i hi pi A5 W;cases A8:q i with
   |true=>rfl
   |false=>
    cases Y:all[i]? with
    |none=>
     grind
    |some O=>
     rcases Au i (U i hi) A8 O pi Y A5 with h|h
     .exact absurd E (h.d k W)
     .exact absurd E (h.e k W)
  rw[iH k q _ S S (key _ U) rfl rfl,iH k q (List.range j) S S (key _ A0) rfl rfl,Av]
theorem pX(AW:ps.length=all.length)(A3:kj all ps=true)(AA:kl all f)(Aw:∀(j:Nat) (p:aD),ps[j]?=some p->∀e∈p.es,e.key∈p.ks)(Ax:(S.mem.map (·.key)).Nodup){j:Nat}{o:Oper}{p:aD}(D:all[j]?=some o)(T:ps[j]?=some p)(Z:f j=false){g:Nat->Bool}(AF:g j=true)(BB:∀i,i≠j->g i=f i):
 dE (p.app o (aw all ps S (dZ all.length f))) (aw all ps S (dZ all.length g)):=by
 have AX:j<all.length:=(D1.1 D).1;have AY:∀j o,all[j]?=some o->∀p∈cq o,p<j:=λj o D=>(cd A3 D).choose_spec.2.1;have Ai:∀i∈(List.range' (j+1) (all.length-j-1)).filter f,∀O pi,all[i]?=some O->ps[i]?=some pi->vj all o O p pi:=by
  intro i hi O pi Y A5;obtain⟨hi,AZ⟩:=Xc.1 hi;have BZ:=(List.mem_range'_1.1 hi).1;obtain⟨B9,BA,_,Ah⟩:=cd A3 Y;rcases Ah j (by omega)with h|⟨H,A',A1,AN,h⟩
  .have:=(fE (L:=λi=>f i=true) AY (λj o D AE=>AA j o D AE) i ⟨O,Y⟩ j h).2 (λH A1=>by rw[Y]at A1;cases A1;exact AA i O Y AZ);grind
  grind
 rw[Cx AX AF BB,rH AX Z];generalize B_:(List.range j).filter f=A9;generalize Ba:(List.range' (j+1) (all.length-j-1)).filter f=AB at Ai;have BC:∀{i pi},ps[i]?=some pi->∃O,all[i]?=some O:=λ{i pi} h=>by
  have:=(D1.1 h).1;exact⟨all[i]'(by omega),Xh _⟩
 let q:Nat->Bool:=λi=>i != j
 have Ay:(A9++j::AB).filter q=A9++AB:=by
  rw[XJ,X4 (by simp[q]),<-XJ,List.filter_eq_self];grind
 have Az:∀S,aw all ps S (A9++j::AB)=aw all ps (p.app o (aw all ps S A9)) AB:=λS=>by
  simp[aw,D,T]
 have BD:(p.app o (aw all ps S (A9++AB))).mem.map (·.key)=(aw all ps S (A9++j::AB)).mem.map (·.key):=by
  rw[tW,cr,cr]
 refine⟨by rw[n9,jH,jH],by rw[lQ,iw,iw],Mem.ext (by rw[tW,cr];grind) BD λk=>?_,λt=>?_⟩
 .by_cases E:k∈p.es.map (·.key)
  .have I:Mem.get (p.app o (aw all ps S (A9++AB))).mem k=Mem.get (p.app o (aw all ps S A9)).mem k:=by
    simp[aD.app,cM];exact jx _ _ _ k (by rw[cr,cr]) (.inl E)
   rw[I,Az];rw[iH k (λ_=>false) AB _ (p.app o (aw all ps S A9)) ?_ rfl rfl]
   .rw[Xv.2 (by simp)];rfl
   .intro i hi pi A5 AG;obtain⟨O,Y⟩:=BC A5;have:=(Ai i hi O pi Y A5).e k AG;grind
  .rw[vi _ _ _ _ E,iH k q (A9++j::AB) S S ?_ rfl rfl,Ay];grind
 .rw[nt];by_cases W:o.dst=some t
  .rw[W2 W,Az];rw[oa t (λ_=>false) AB _ (p.app o (aw all ps S A9)) ?_ rfl]
   .rw[Xv.2 (by simp)];simp[aw,nt,W]
   .intro i hi O Y BE;obtain⟨pi,A5,_⟩:=cd A3 Y;exact absurd BE ((Ai i hi O pi Y A5).c t W)
  .rw[WO W,oa t q (A9++j::AB) S S ?_ rfl,Ay];grind
theorem Cz{P:Program}{S0 S1:St}{φ0:aR}{G:Fr}{w0:World}{Q:Exit->Act->World->Prop}{M:Mem->Prop}(Aj:M S0.mem)(AQ:Cert P M all all S0 ps S1)(A3:kj all ps=true)(Ax:(S0.mem.map (·.key)).Nodup)
 (Ak:∀φ' A2 w',Rel φ' G S1 A2 w'->aB φ0 S0.mem w0 φ' S1.mem w'->Q .normal A2 w'):
 ∀(fuel:Nat)(listed:Array Bool) φ a w,listed.size=all.length->kl all (λi=>listed.getD i false)->Rel φ G (aw all ps S0 (dZ all.length λi=>listed.getD i false)) a w->aB φ0 S0.mem w0 φ (aw all ps S0 (dZ all.length λi=>listed.getD i false)).mem w->
  ((List.range all.length).filter λi=>!listed.getD i false).length<=fuel->wpAny P .any all.toArray Q fuel listed a w:=by
 obtain⟨Al,AW,AU⟩:=Cert.at (ps:=ps) (S0:=S0) AQ [] [] rfl rfl rfl rfl;have Aw:∀(j:Nat)(p:aD),ps[j]?=some p->∀e∈p.es,e.key∈p.ks:=λj p T=>by
  have B4:j<ps.length:=(D1.1 T).1;exact (AU j (all[j]'(by omega)) p (by simp) (by simp) T).1
 have BF:∀l:List Nat,M (aw all ps S0 l).mem:=by
  have key:∀(l:List Nat)(S:St),M S.mem->M (aw all ps S l).mem:=by
   intro l;induction l with
   |nil=>exact λ_ h=>h
   |cons i l ih=>
    intro S h;refine ih _ ?_;simp;split
    .rename_i o p D T;simp[aD.app,cM];exact (AU i o p (by simp) D T).2.1 _ h
    omega
  exact λl=>key l S0 Aj
 --Bb first Bc Bd listed is ready
 have first:∀(f:Nat->Bool)(n:Nat),n<=all.length->(∀i,i<n->f i=true)\/∃i,i<n/\f i=false/\∀A7,A7<i->f A7=true:=by
  intro f n;induction n with
  |zero=>simp
  |succ n ih=>
   grind
 have done:∀(listed:Array Bool) φ a w,listed.size=all.length->Rel φ G (aw all ps S0 (dZ all.length λi=>listed.getD i false)) a w->aB φ0 S0.mem w0 φ (aw all ps S0 (dZ all.length λi=>listed.getD i false)).mem w->Region.ready .any all.toArray listed=[]->Q .normal a w:=by
  intro listed φ a w AR A0 E A_;have Be:∀i,i<all.length->listed.getD i false=true:=by
   rcases first (λi=>listed.getD i false) all.length (Ds _)with h|⟨i,I,V,AL⟩
   .exact h
   .have:i∈Region.ready .any all.toArray listed:=by
     rw[mem_ready];refine⟨?_,all[i],by simp,λe he BG=>?_⟩
     .grind
     .obtain⟨p,_,T,_⟩:=cd A3 (show all[i]?=some all[i] by simp);exact AL e.on (T e.on (by
       simp[cq,WS,Xc];exact⟨e,⟨by simpa using he,BG⟩,rfl⟩))
    rw[A_]at this;cases this
  have U:(dZ all.length λi=>listed.getD i false)=List.range all.length:=by
   rw[dZ,List.filter_eq_self];grind
  rw[U,Al]at A0 E;exact Ak φ a w A0 E
 intro fuel;induction fuel with
 |zero=>
  intro listed φ a w AR AA A0 E AE;have A_:Region.ready .any all.toArray listed=[]:=by
   cases h:Region.ready .any all.toArray listed with
   |nil=>rfl
   |cons i r=>
    have hi:i∈Region.ready .any all.toArray listed:=by rw[h];simp
    rw[mem_ready]at hi;obtain⟨Af,o,D,_⟩:=hi;have B':i<all.length:=by
     grind
    simp_all
  exact⟨A_,done listed φ a w AR A0 E A_⟩
 |succ fuel ih=>
  intro listed φ a w AR AA A0 E AE;refine⟨done listed φ a w AR A0 E,λi hi=>?_⟩;rw[mem_ready]at hi;obtain⟨Af,o,D,Bf⟩:=hi;have A1:all[i]?=some o:=by simpa using D
  have B':i<all.length:=(D1.1 A1).1;have BH:i<listed.size:=by omega
  have An:listed.getD i false=false:=by
   grind
  have At:∀k∈cq o,listed.getD k false=true:=by
   intro k AH;simp[cq,WS]at AH;grind
  obtain⟨p,T,_⟩:=cd A3 A1;obtain⟨Bg,_,BI⟩:=AU i o p (by simp) A1 T;have BJ:=lr (S:=S0) AW A3 AA A1 T An At;have B0:(listed.setIfInBounds i true).getD i false=true:=by simp[BH]
  have Aa:∀k,k≠i->(listed.setIfInBounds i true).getD k false=listed.getD k false:=λk AH=>getD_set_ne false (Xs AH);have heq:=pX (S:=S0) (f:=λi=>listed.getD i false) (g:=λk=>(listed.setIfInBounds i true).getD k false) AW A3 AA Aw Ax A1 T An B0 Aa;have BK:kl all (λk=>(listed.setIfInBounds i true).getD k false):=by
   intro k ok BL BM x Ae;by_cases B1:x=i
   .subst B1;omega
   .show (listed.setIfInBounds i true).getD x false=true;rw[Aa x B1];by_cases AG:k=i
    .grind
    .exact AA k ok BL ((Aa k AG).symm.trans BM) x Ae
  have BN:((List.range all.length).filter λk=>!(listed.setIfInBounds i true).getD k false).length<=fuel:=by
   have I:(List.range all.length).filter (λk=>!(listed.setIfInBounds i true).getD k false)=((List.range all.length).filter λk=>!listed.getD k false).filter (λk=>k != i):=by
    rw[XI];refine XX λk _=>?_;by_cases AG:k=i
    .subst AG;rw[B0];simp
    .rw[Aa k AG];simp[AG]
   have BO:i∈(List.range all.length).filter λk=>!listed.getD k false:=Xc.2 ⟨W5.2 B',by simp[An]⟩;rw[I];have:(((List.range all.length).filter λk=>!listed.getD k false).filter (λk=>k != i)).length<((List.range all.length).filter λk=>!listed.getD k false).length:=by
    rw[XZ];exact⟨i,BO,by simp⟩
   omega
  have AI:=BI _ BJ (BF _) φ G a w A0 (wpAny P .any all.toArray Q fuel (listed.setIfInBounds i true)) Q (λφ' A2 w' Ao AH=>
   ih _ φ' A2 w' (by simpa using AR) BK (Ao.eqv heq) (by rw[<-heq.mem];exact E.trans AH) BN)
  unfold wpOp;grind
end
def AP{P:Program}{S S1:St}{id:Nat}{ops:List Oper}{ps:List aD}{M:Mem->Prop}(Aj:M S.mem)(hm:P.follows .mixedOrders=true)(AQ:Cert P M ops ops S ps S1)(A3:kj ops ps=true){φ G a w}(A0:Rel φ G S a w){Q:Exit->Act->World->Prop}
 (Ak:∀φ' A2 w',Rel φ' G S1 A2 w'->aB φ S.mem w φ' S1.mem w'->Q .normal A2 w'):(Code.region id ops.toArray true).wp P Q a w:=by
 refine wp_region_any hm ?_;have BP:Rel φ G S a {w with drawn:=w.drawn+1}:=A0.grow (λ_ _=>rfl) (Ds _);have B2:(dZ ops.length λi=>(Array.replicate ops.length false).getD i false)=[]:=by
  rw[dZ,Xv];simp_all
 refine Cz (S0:=S) (φ0:=φ) (w0:=w) (G:=G) Aj AQ A3 A0.mem.nodup (λφ' A2 w' Ao AH=>Ak φ' A2 w' Ao AH) _ _ φ a _ (by simp) ?_ ?_ ?_ ?_
 .intro j o _ Z;simp at Z;grind
 .simp only[Xg];rw[B2];exact BP
 .simp only[Xg];rw[B2];exact aB.grow (λ_ _=>rfl) (Ds _) rfl rfl rfl
 grind
def Kp{P:Program}{M:Mem->Prop}{ops:List Oper}{S S1:St}{ps:List aD}(AQ:Cert P M ops ops S ps S1):S1.n=S.n/\S1.gl=S.gl:=by
 obtain⟨Al,_,_⟩:=Cert.at (ps:=ps) (S0:=S) AQ [] [] rfl rfl rfl rfl;rw[<-Al];exact⟨jH ..,iw ..⟩
def tY(all:List Oper)(o H:Oper):Bool:=kV o.dst.toList (looks all H)&&kV H.dst.toList (looks all o)&&kV o.dst.toList H.dst.toList
def rJ(all:List Oper)(A4:List (List Nat))(Ab:List (List Nat))(j:Nat):Bool:=
 match all[j]? with
 |some o=>(cq o).all (λi=>decide (i<j))&&(List.range j).all λi=>(Ab.getD j []).contains i||(match all[i]? with
  |some H=>tY all H o&&((A4.getD i []).contains j&&(A4.getD j []).contains i)
  |none=>false)
 |none=>false
def tZ(all:List Oper)(A4:List (List Nat)):Bool:=(List.range all.length).all (rJ all A4 (dM all []))
def wm(ps:List aD)(es:List bn):List Nat->Bool
 |[]=>true
 |j::r=>(match ps[j]? with|some q=>kV (es.map (·.key)) q.ks|none=>false)&&wm ps es r
def wo(ps:List aD)(AC:List Nat):List bn->Bool
 |[]=>true
 |e::es=>wm ps (e::es) AC
def pY(ps:List aD):List (List Nat)->List aD->Bool
 |_,[]=>true
 |[],p::r=>wo ps [] p.es&&pY ps [] r
 |AC::A4,p::r=>wo ps AC p.es&&pY ps A4 r
def jI(A4:List (List Nat))(ps:List aD):Bool:=pY ps A4 ps
def kY{ps:List aD}:∀{A4:List (List Nat)}{l:List aD},pY ps A4 l=true->∀i p,l[i]?=some p->wo ps (A4.getD i []) p.es=true
 |_,[],_,i,p,T=>by grind
 |[],q::r,h,i,p,T=>by
  simp[pY]at h;cases i with
  |zero=>grind
  |succ i=>have:=kY h.2 i p (by grind);grind
 |AC::A4,q::r,h,i,p,T=>by
  simp[pY]at h;cases i with
  |zero=>grind
  |succ i=>have:=kY h.2 i p (by grind);grind
def zx{ps:List aD}{es:List bn}:∀{AC:List Nat},wm ps es AC=true->∀j∈AC,∀q,ps[j]?=some q->kV (es.map (·.key)) q.ks=true
 |[],_,j,Z,_,_=>by grind
 |k::r,h,j,Z,q,AD=>by
  simp[wm]at h;rcases WK.1 Z with rfl|Z
  .grind
  .exact zx h.2 j Z q AD
def pZ{ps:List aD}{AC:List Nat}:∀{es:List bn},wo ps AC es=true->∀j∈AC,∀q,ps[j]?=some q->kV (es.map (·.key)) q.ks=true
 |[],_,_,_,_,_=>rfl
 |_::_,h,j,Z,q,AD=>zx h j Z q AD
def En{all:List Oper}{A4:List (List Nat)}{ps:List aD}(AI:tZ all A4=true)(W:jI A4 ps=true)(U:ps.length=all.length):kj all ps=true:=by
 refine W7.2 λj Z=>?_;have I:=W7.1 AI j Z;have Bh:j<all.length:=W5.1 Z;unfold rJ at I;unfold yd;have AJ:ps[j]?=some (ps[j]'(by omega)):=by grind
 rw[AJ];cases D:all[j]? with
 |none=>grind
 |some o=>
  rw[D]at I;simp at I⊢;refine⟨I.1,λi hi=>?_⟩;rcases I.2 i hi with V|V
  .grind
  .have A5:ps[i]?=some (ps[i]'(by omega)):=by grind
   cases Y:all[i]? with
   |none=>grind
   |some H=>
    rw[Y]at V;simp at V;simp[rG];have A6:=pZ (kY W i _ A5) j (by grind) _ AJ;have AT:=pZ (kY W j _ AJ) i (by grind) _ A5;have BQ:=V.1;simp[tY]at BQ;grind
def ub(all:List Oper):Prop:=∀i,i+1<all.length->i∈(dM all []).getD (all.length-1) []
def AQ{all:List Oper}{AW:List (List Nat)}(T:tZ all AW=true)(AX:AW.getD (all.length-1) []=[]):ub all:=by
 intro i hi;have I:=W7.1 T (all.length-1) (W5.2 (by omega));unfold rJ at I;rw[Xh (by omega)]at I;simp only[WJ,W7,Bool.or_eq_true,W5]at I;rcases I.2 i (by omega)with A|A
 .simpa using A
 .rw[Xh (by omega)]at A;simp only[WJ]at A;have:=A.2.2;rw[AX]at this;cases this
def xo:aD:=⟨[],[],false,.aC⟩
section
variable {all:List Oper} {ps:List aD}
theorem Cert.Rl{P:Program}{E:Mem->Prop}{rest:List Oper}{S0 S:St}{O:List aD}{S1:St}(h:Cert P E all rest S O S1):∀(pre:List Oper)(pp:List aD)(A9:List Oper)(AA:List aD),pre.length=pp.length->all=pre++rest++A9->ps=pp++O++AA->aw all ps S0 (List.range pre.length)=S->
 aw all ps S0 (List.range (pre.length+rest.length))=S1/\O.length=rest.length/\∀j o p,pre.length<=j->j<pre.length+rest.length->all[j]?=some o->ps[j]?=some p->(∀e∈p.es,e.key∈p.ks)/\(∀m,E m->E (aL m p.es))/\mA P E all (aw all ps S0 (List.range j)) o p:=by
 induction h with
 |nil S=>
  intro pre pp A9 AA A4 AG Y AB;exact⟨by simpa using AB,rfl,λj o p U AH _=>by simp at AH;omega⟩
 |cons o rest S p O S1 c Al A5 W ih=>
  intro pre pp A9 AA A4 AG Y AB;have q:all[pre.length]?=some o:=by rw[AG];simp
  have AY:ps[pre.length]?=some p:=by rw[Y,A4];simp
  obtain⟨I,A,A6⟩:=ih (pre++[o]) (pp++[p]) A9 AA (by simp[A4]) (by rw[AG];simp) (by rw[Y];simp) (by
   rw[WY,Xo,List.range_succ,l8,AB];simp[aw,q,AY])
  refine⟨by rw[<-I];simp;congr 2;omega,by simp[A],λj AZ An U AH J AI=>?_⟩;rcases Nat.eq_or_lt_of_le U with rfl|U
  .rw[q]at J;rw[AY]at AI;cases J;cases AI;exact⟨c,Al,by rw[AB];exact A5⟩
  .exact A6 j AZ An (by simp;omega) (by simp at AH⊢;omega) J AI
theorem CA{P:Program}{S0 S1:St}{φ0:aR}{G:Fr}{w0:World}{Q:Exit->Act->World->Prop}{E:Mem->Prop}{init:List Oper}{ol:Oper}(y:all=init++[ol])(AJ:ub all)(AK:E S0.mem){O:List aD}(AL:Cert P E all init S0 O S1)(Y:ps=O++[xo])(Z:kj all ps=true)(Ao:(S0.mem.map (·.key)).Nodup)
 (AM:∀φ a w,Rel φ G S1 a w->aB φ0 S0.mem w0 φ S1.mem w->∀next:Act->World->Prop,(∀H w',Q .normal H w'->next H w')->if Region.wanted ol (yielded all.toArray a.tmps)then ol.wp P a w next Q else next (a.put ol.dst undef) w):
 ∀(fuel:Nat)(listed:Array Bool) φ a w,listed.size=all.length->listed.getD init.length false=false->kl all (λi=>listed.getD i false)->Rel φ G (aw all ps S0 (dZ all.length λi=>listed.getD i false)) a w->aB φ0 S0.mem w0 φ (aw all ps S0 (dZ all.length λi=>listed.getD i false)).mem w->
  ((List.range all.length).filter λi=>!listed.getD i false).length<=fuel->wpAny P .any all.toArray Q fuel listed a w:=by
 obtain⟨Ap,A_,A5⟩:=Cert.Rl (ps:=ps) (S0:=S0) AL [] [] [ol] [xo] rfl (by simp[y]) (by simp[Y]) rfl;have AN:all.length=init.length+1:=by rw[y];simp
 have Aa:ps.length=all.length:=by rw[Y,AN];simp[A_]
 have AO:all[init.length]?=some ol:=by rw[y];simp
 have Ab:ps[init.length]?=some xo:=by rw[Y,<-A_];simp
 have Aq:∀(j:Nat)(p:aD),ps[j]?=some p->∀e∈p.es,e.key∈p.ks:=λj p D=>by
  have B7:j<ps.length:=(D1.1 D).1;by_cases U:j<init.length
  .exact (A5 j (all[j]'(by omega)) p (by simp) (by simpa using U) (by simp) D).1
  .have:j=init.length:=by omega
   subst this;rw[Ab]at D;cases D;simp[xo]
 have Ar:∀j o,all[j]?=some o->∀p∈cq o,p<j:=λj o M=>(cd Z M).choose_spec.2.1;have As:∀l:List Nat,E (aw all ps S0 l).mem:=by
  have key:∀(l:List Nat)(S:St),E S.mem->E (aw all ps S l).mem:=by
   intro l;induction l with
   |nil=>exact λ_ h=>h
   |cons i l ih=>
    intro S h;have q:aw all ps S (i::l)=aw all ps (aw all ps S [i]) l:=by simp[aw]
    rw[q];refine ih _ ?_;simp only[aw,List.foldl_cons,X6];split
    .rename_i o p M D;simp only[aD.app,cM];have AC:i<all.length:=(D1.1 M).1;by_cases hi:i<init.length
     .exact (A5 i o p (by simp) (by simpa using hi) M D).2.1 _ h
     .have:i=init.length:=by omega
      subst this;rw[Ab]at D;cases D;exact h
    .exact h
  exact λl=>key l S0 AK
 have first:∀(f:Nat->Bool)(n:Nat),n<=all.length->(∀i,i<n->f i=true)\/∃i,i<n/\f i=false/\∀Ac,Ac<i->f Ac=true:=by
  intro f n;induction n with
  |zero=>exact λ_=>.inl (λi hi=>by omega)
  |succ n ih=>
   intro AX;rcases ih (by omega)with h|⟨i,I,A,A6⟩
   .cases A':f n with
    |true=>
     refine .inl λi hi=>?_;rcases Nat.lt_succ_iff_lt_or_eq.1 hi with AP|AP
     .exact h i AP
     .rw[AP];exact A'
    |false=>exact .inr ⟨n,by omega,A',h⟩
   .exact .inr ⟨i,by omega,A,A6⟩
 have At:∀(listed:Array Bool),listed.size=all.length->Region.ready .any all.toArray listed=[]->∀i,i<all.length->listed.getD i false=true:=by
  intro listed A0 A1;rcases first (λi=>listed.getD i false) all.length (Ds _)with h|⟨i,I,A,A6⟩
  .exact h
  .exfalso;have:i∈Region.ready .any all.toArray listed:=by
    rw[mem_ready];refine⟨?_,all[i],by simp[I],λe he AS=>?_⟩
    .have:i<listed.size:=by omega
     simp only[W4,XL this,Xy]at A⊢;exact A
    .obtain⟨p,_,D,_⟩:=cd Z (show all[i]?=some all[i] by simp[I]);exact A6 e.on (D e.on (by
      simp only[cq,WS,Xc];exact⟨e,⟨by simpa using he,AS⟩,rfl⟩))
   rw[A1]at this;cases this
 have Au:∀(listed:Array Bool),listed.size=all.length->(∀i,i<all.length->listed.getD i false=true)->Region.ready .any all.toArray listed=[]:=by
  intro listed A0 Av;cases h:Region.ready .any all.toArray listed with
  |nil=>rfl
  |cons i r=>
   exfalso;have hi:i∈Region.ready .any all.toArray listed:=by rw[h];simp
   rw[mem_ready]at hi;obtain⟨A7,o,M,_⟩:=hi;have AC:i<all.length:=by
    have:=(WU.1 M).1;simpa using this
   have:=Av i AC;have A:i<listed.size:=by omega
   simp only[W4,XL A,Xy]at A7 this;rw[A7]at this;cases this
 intro fuel;induction fuel with
 |zero=>
  intro listed φ a w A0 AD A8 W c A';exfalso;have:init.length∈(List.range all.length).filter λi=>!listed.getD i false:=Xc.2 ⟨W5.2 (by omega),by simp only[AD];rfl⟩;have:=List.length_pos_of_mem this;omega
 |succ fuel ih=>
  intro listed φ a w A0 AD A8 W c A';refine⟨λA1=>?_,λi hi=>?_⟩
  .have:=At listed A0 A1 init.length (by omega);rw[AD]at this;cases this
  rw[mem_ready]at hi;obtain⟨A7,o,M,Aw⟩:=hi;have J:all[i]?=some o:=by simpa using M
  have AC:i<all.length:=(D1.1 J).1;have Ad:i<listed.size:=by omega
  have AE:listed.getD i false=false:=by
   simp only[W4,XL Ad,Xy]at A7⊢;exact A7
  have AT:∀k∈cq o,listed.getD k false=true:=by
   intro k A2;simp only[cq,WS,Xc]at A2;obtain⟨e,⟨he,AS⟩,rfl⟩:=A2;exact Aw e (by simpa using he) AS
  have AF:(listed.setIfInBounds i true).getD i false=true:=by simp[Ad]
  have A3:∀k,k≠i->(listed.setIfInBounds i true).getD k false=listed.getD k false:=λk A2=>getD_set_ne false (Xs A2);by_cases Ae:i=init.length
  .subst Ae;rw[AO]at J;cases J;have Af:∀k,k<init.length->listed.getD k false=true:=by
    intro k AU;have Ax:k∈(dM all []).getD init.length []:=by
     have:=AJ k (by omega);rw[AN]at this;simpa using this
    exact (fE (L:=λi=>listed.getD i false=true) Ar (λj o M A'=>A8 j o M A') init.length ⟨ol,AO⟩ k Ax).2 (λAZ Ag=>by rw[AO]at Ag;cases Ag;exact AT)
   have A4:(dZ all.length λi=>listed.getD i false)=List.range init.length:=by
    rw[dZ,AN,List.range_succ,XJ];have q:(List.range init.length).filter (λi=>listed.getD i false)=List.range init.length:=by
     rw[List.filter_eq_self];intro k AU;exact Af k (W5.1 AU)
    rw[q];simp only[List.filter_cons,List.filter_nil];rw[AE];simp
   have Ay:aw all ps S0 (List.range init.length)=S1:=by simpa using Ap
   rw[A4,Ay]at W c;have T:=AM φ a w W c (wpAny P .any all.toArray Q fuel (listed.setIfInBounds init.length true)) (λH w' Ah=>by
    have A1:=Au (listed.setIfInBounds init.length true) (by simpa using A0) (λk AU=>by
     by_cases V:k=init.length
     .subst V;exact AF
     .rw[A3 k V];exact Af k (by omega))
    cases fuel with
    |zero=>exact⟨A1,Ah⟩
    |succ fuel=>exact⟨λ_=>Ah,λi hi=>by rw[A1]at hi;cases hi⟩)
   unfold wpOp;rw[M];simp only
   split at T
   .rename_i hw;rw[W2 hw];exact .inl T
   .rename_i hw;rw[WO hw];exact T
  .have Az:i<init.length:=by omega
   obtain⟨p,D,_⟩:=cd Z J;obtain⟨B8,_,B'⟩:=A5 i o p (by simp) (by simpa using Az) J D;have B0:=lr (S:=S0) Aa Z A8 J D AE AT;have heq:=pX (S:=S0) (f:=λi=>listed.getD i false) (g:=λk=>(listed.setIfInBounds i true).getD k false) Aa Z A8 Aq Ao J D AE AF A3;have B1:kl all (λk=>(listed.setIfInBounds i true).getD k false):=by
    intro k ok AV B2 x Ai;by_cases Aj:x=i
    .subst Aj;exact AF
    .show (listed.setIfInBounds i true).getD x false=true;rw[A3 x Aj];by_cases V:k=i
     .subst V;rw[J]at AV;cases AV;exact AT x Ai
     .exact A8 k ok AV ((A3 k V).symm.trans B2) x Ai
   have B3:((List.range all.length).filter λk=>!(listed.setIfInBounds i true).getD k false).length<=fuel:=by
    have I:(List.range all.length).filter (λk=>!(listed.setIfInBounds i true).getD k false)=((List.range all.length).filter λk=>!listed.getD k false).filter (λk=>k != i):=by
     rw[XI];refine XX λk _=>?_;by_cases V:k=i
     .subst V;rw[AF];simp
     .rw[A3 k V];simp[V]
    have B4:i∈(List.range all.length).filter λk=>!listed.getD k false:=Xc.2 ⟨W5.2 AC,by simp[AE]⟩;rw[I];have:(((List.range all.length).filter λk=>!listed.getD k false).filter (λk=>k != i)).length<((List.range all.length).filter λk=>!listed.getD k false).length:=by
     rw[XZ];exact⟨i,B4,by simp⟩
    omega
   have T:=B' _ B0 (As _) φ G a w W (wpAny P .any all.toArray Q fuel (listed.setIfInBounds i true)) Q (λφ' H w' B5 A2=>
    ih _ φ' H w' (by simpa using A0) (by rw[A3 _ (Xs Ae)];exact AD) B1 (B5.eqv heq) (by rw[<-heq.mem];exact c.trans A2) B3)
   unfold wpOp;rw[M];simp only
   split at T
   .rename_i hw;rw[W2 hw];exact .inl T
   .rename_i hw;rw[WO hw];exact T
end
def AR{P:Program}{S S1:St}{id:Nat}{ops init:List Oper}{ol:Oper}{O:List aD}{E:Mem->Prop}(y:ops=init++[ol])(AJ:ub ops)(AK:E S.mem)(hm:P.follows .mixedOrders=true)(AL:Cert P E ops init S O S1)(Z:kj ops (O++[xo])=true){φ G a w}(W:Rel φ G S a w){Q:Exit->Act->World->Prop}
 (AM:∀φ' H w',Rel φ' G S1 H w'->aB φ S.mem w φ' S1.mem w'->∀next:Act->World->Prop,(∀H w',Q .normal H w'->next H w')->if Region.wanted ol (yielded ops.toArray H.tmps)then ol.wp P H w' next Q else next (H.put ol.dst undef) w'):(Code.region id ops.toArray true).wp P Q a w:=by
 refine wp_region_any hm ?_;have B6:Rel φ G S a {w with drawn:=w.drawn+1}:=W.grow (λ_ _=>rfl) (Ds _);have Ak:(dZ ops.length λi=>(Array.replicate ops.length false).getD i false)=[]:=by
  rw[dZ,Xv];intro i hi;simp[W4,W5.1 hi]
 refine CA (S0:=S) (φ0:=φ) (w0:=w) (G:=G) y AJ AK AL rfl Z W.mem.nodup AM _ _ φ a _ (by simp) ?_ ?_ ?_ ?_ ?_
 .simp only[W4];rw[y];simp
 .intro j o _ U;exfalso;simp only[W4]at U;by_cases h:j<ops.length
  .simp[h]at U
  .simp[h]at U
 .simp only[Xg];rw[Ak];exact B6
 .simp only[Xg];rw[Ak];exact aB.grow (λ_ _=>rfl) (Ds _) rfl rfl rfl
 .simp only[Xg];exact X5 (List.length_filter_le _ _) (by simp)
def de:Mem->Nat
 |[]=>0
 |e::r=>e.U+de r
def c7:List aD->Nat
 |[]=>0
 |p::r=>de p.es+c7 r
def fG(N:Nat):Mem->Mem
 |[]=>[]
 |e::r=>(match decide (100<=e.key)with|true=>⟨e.key,N,.dead⟩|false=>e)::fG N r
def St.kill(S:St)(N:Nat):St:={S with env:=[],mem:=fG N S.mem}
def wq:List bn->Bool
 |[]=>true
 |e::r=>decide (100<=e.key)&&wq r
def rM(ps:List aD):List Nat->Bool
 |[]=>true
 |i::r=>(match ps[i]? with|some p=>wq p.es|none=>false)&&rM ps r
def rN:∀{m:Mem}{e:bn},e∈m->e.U<=de m
 |_::r,e,h=>by
  rcases WK.1 h with rfl|h
  .simp only[de];omega
  .have:=rN (m:=r) h;simp only[de];omega
def vo:∀{ps:List aD}{p:aD},p∈ps->de p.es<=c7 ps
 |_::r,p,h=>by
  rcases WK.1 h with rfl|h
  .simp only[c7];omega
  .have:=vo (ps:=r) h;simp only[c7];omega
def km(N:Nat):∀m:Mem,(fG N m).map (·.key)=m.map (·.key)
 |[]=>rfl
 |e::r=>by
  simp only[fG,Xn,km N r];split<;>rfl
def lS{N:Nat}:∀{m:Mem}{e:bn},e∈fG N m->(∃Z∈m,100<=Z.key/\e=⟨Z.key,N,.dead⟩)\/(e∈m/\e.key<100)
 |Z::r,e,h=>by
  simp only[fG,WK]at h;rcases h with h|h
  .by_cases T:100<=Z.key
   .simp only[T,decide_true]at h;exact .inl ⟨Z,by simp,T,h⟩
   .simp only[T,decide_false]at h;subst h;exact .inr ⟨by simp,by omega⟩
  .rcases lS h with ⟨AC,A,J,A1⟩|⟨A,J⟩
   .exact .inl ⟨AC,Xb _ A,J,A1⟩
   .exact .inr ⟨Xb _ A,J⟩
def rO(N:Nat)(k:Nat):∀m:Mem,Mem.get (fG N m) k=(Mem.get m k).map λe=>match decide (100<=e.key)with|true=>⟨e.key,N,.dead⟩|false=>e
 |[]=>rfl
 |e::r=>by
  have AC:(match decide (100<=e.key)with|true=>(⟨e.key,N,.dead⟩:bn)|false=>e).key=e.key:=by split<;>rfl
  simp only[fG,Mem.get,AC];split
  .rfl
  .exact rO N k r
def ko(φ:aR)(N:Nat):aR:=λk=>match φ k with
 |some L=>some (match decide (100<=k)with|true=>{L with U:=N}|false=>L)
 |none=>none
def kp{φ:aR}{N k:Nat}(h:k<100):ko φ N k=φ k:=by
 unfold ko;have:decide (100<=k)=false:=by simp;omega
 rw[this];cases φ k<;>rfl
def xp{φ:aR}{N k:Nat}{L:Loc}(h:100<=k)(H:φ k=some L):ko φ N k=some {L with U:=N}:=by
 unfold ko;have:decide (100<=k)=true:=by simp;omega
 rw[this,H]
def Iw{φ:aR}{G:Fr}{S:St}{a:Act}{w:World}{N:Nat}(h:Rel φ G S a w)(AO:∀e∈S.mem,e.U<N):
 Rel (ko φ N) G (S.kill N) a w/\aB φ S.mem w (ko φ N) (S.kill N).mem w:=by
 have hle:φ.le (ko φ N):=by
  intro k L H;by_cases T:100<=k
  .obtain⟨e,he,rfl⟩:=WS.1 (h.mem.kG k L H);obtain⟨L',AF,Ad,_⟩:=h.mem.dk e he;rw[H]at AF;cases AF;have:=AO e he;exact⟨_,xp T H,by simp only;omega,λhh=>by simp only at hh;omega⟩
  .exact⟨L,by rw[kp (by omega)];exact H,Ds _,λ_=>rfl⟩
 have AP:∀b,ei (ko φ N) (fG N S.mem) b->ei φ S.mem b:=by
  rintro b ⟨e,he,L,H,E⟩;rcases lS he with ⟨Z,V,A,rfl⟩|⟨V,A⟩
  .exact E.elim
  .rw[kp A]at H;exact⟨e,V,L,H,E⟩
 have Ae:∀b,Fo G (ko φ N) (fG N S.mem) b->Fo G φ S.mem b:=λb=>Or.imp id (AP b);have T:aB φ S.mem w (ko φ N) (S.kill N).mem w:=⟨hle,λ_ _ _=>rfl,λb _ O=>AP b O,Ds _,rfl,rfl,rfl⟩;refine⟨⟨h.size,h.defers,(λt x AL=>nomatch AL),⟨?_,?_,?_,?_,?_,h.mem.bound⟩,h.fX.mono (λ_ _ _=>rfl) (Ds _) (λb _ O=>Ae b O)⟩,T⟩
 .show ((fG N S.mem).map (·.key)).Nodup;rw[km];exact h.mem.nodup
 .intro k L H;show k∈(fG N S.mem).map (·.key);rw[km];unfold ko at H;cases I:φ k with
  |none=>rw[I]at H;cases H
  |some Av=>exact h.mem.kG k Av I
 .intro e he;rcases lS he with ⟨Z,V,A,rfl⟩|⟨V,A⟩
  .obtain⟨L,H,_,_⟩:=h.mem.dk Z V;exact⟨_,xp A H,rfl,trivial⟩
  .obtain⟨L,H,Ad,Aw⟩:=h.mem.dk e V;exact⟨L,by rw[kp A];exact H,Ad,Aw.mono hle (λ_ _ _=>rfl) (Ds _) (λb _ O=>Ae b O) (λ_ _=>rfl)⟩
 .rintro e he e' Ax L L' H AF ⟨b,E,M⟩;rcases lS he with ⟨Z,V,A,rfl⟩|⟨V,A⟩
  .exact E.elim
  .rcases lS Ax with ⟨AC,J,A1,rfl⟩|⟨J,A1⟩
   .exact M.elim
   .rw[kp A]at H;rw[kp A1]at AF;exact h.mem.apart e V e' J L L' H AF ⟨b,E,M⟩
 .intro b O;exact h.mem.fW b (AP b O)
def sH(P:Program)(all:List Oper)(S:St)(o:Oper)(p:aD)(t:TypeId)(x:D):Prop:=
 ∀A5,fR all o p.ks A5 S->∀φ G a w,Rel φ G A5 a w->∀(next:Act->World->Prop)(R:Exit->Act->World->Prop),
  (∀φ' c w' v,Rel φ' G {A5 with mem:=aL A5.mem p.es} c w'->aB φ A5.mem w φ' (aL A5.mem p.es) w'->ar w' (Fo G φ' (aL A5.mem p.es)) x v->R (.panic [{v:=.iface t v,recovered:=false}]) c w')->
  if Region.wanted o (yielded all.toArray a.tmps)then o.wp P a w next R else next (a.put o.dst undef) w
section
variable {all:List Oper} {ps:List aD}
theorem CB{m:Mem}{x e:bn}(h:e∈Mem.set m x):e∈m\/e=x:=by
 induction m with
 |nil=>exact .inl h
 |cons y r ih=>
  simp only[Mem.set]at h;split at h
  .rcases WK.1 h with h|h
   .exact .inr h
   .exact .inl (Xb _ h)
  .rcases WK.1 h with h|h
   .exact .inl (by simp[h])
   .rcases ih h with h|h
    .exact .inl (Xb _ h)
    .exact .inr h
theorem rP:∀{es:List bn}{m:Mem}{e:bn},e∈aL m es->e∈m\/e∈es
 |[],m,e,h=>.inl h
 |x::r,m,e,h=>by
  have A:e∈aL (Mem.set m x) r:=h;rcases rP A with h|h
  .rcases CB h with h|h
   .exact .inl h
   .exact .inr (by simp[h])
  .exact .inr (Xb _ h)
theorem vp(B:Nat)(Af:∀p∈ps,∀e∈p.es,e.U<B):∀(l:List Nat)(S:St),(∀e∈S.mem,e.U<B)->∀e∈(aw all ps S l).mem,e.U<B
 |[],S,h=>h
 |i::l,S,h=>by
  have AC:aw all ps S (i::l)=aw all ps (aw all ps S [i]) l:=by simp[aw]
  rw[AC];refine vp B Af l _ ?_;simp only[aw,List.foldl_cons,X6];split
  .rename_i o p E I;simp only[aD.app,cM];intro e he;rcases rP he with he|he
   .exact h e he
   .exact Af p (WI I) e he
  .exact h
variable {S:St} {f:Nat->Bool}
theorem AS(AG:ps.length=all.length)(A':kj all ps=true)(W:kl all f){j:Nat}{o:Oper}(E:all[j]?=some o)(AQ:f j=false)(A6:∀i∈cq o,f i=true)
 (AR:∀i p,ps[i]?=some p->i≠j->i∉(dM all []).getD j []->j∉(dM all []).getD i []->∀e∈p.es,100<=e.key) {k:Nat} (T:k<100):
 Mem.get (aw all ps S (dZ all.length f)).mem k=Mem.get (aw all ps S (List.range j)).mem k:=by
 have Ay:j<all.length:=(D1.1 E).1;have AH:∀j o,all[j]?=some o->∀p∈cq o,p<j:=λj o E=>(cd A' E).choose_spec.2.1;have Ag:∀i∈(dM all []).getD j [],i<j/\f i=true:=λi hi=>by
  obtain⟨A,J⟩:=fE (L:=λi=>f i=true) AH (λj o E Y=>W j o E Y) j ⟨o,E⟩ i hi;exact⟨A,J λAh M=>by rw[E]at M;cases M;exact A6⟩
 have AT:∀i,f i=true->i<all.length->j∉(dM all []).getD i []:=by
  intro i Az AD A7;obtain⟨A2,AI⟩:∃A2,all[i]?=some A2:=⟨all[i],by simp[AD]⟩;have:=(fE (L:=λi=>f i=true) AH (λj o E Y=>W j o E Y) i ⟨A2,AI⟩ j A7).2 (λAh M=>by rw[AI]at M;cases M;exact W i A2 AI Az);simp[AQ]at this
 let q:Nat->Bool:=λi=>(dM all []).getD j [] |>.contains i
 have AU:∀i,q i=true↔i∈(dM all []).getD j []:=λi=>by simp[q]
 have B':(dZ all.length f).filter q=(List.range j).filter q:=by
  rw[rH Ay AQ,XJ,XI,XI];have J:(List.range' (j+1) (all.length-j-1)).filter (λa=>q a&&f a)=[]:=by
   rw[Xv];intro i hi;have:=(List.mem_range'_1.1 hi).1;simp only[WJ,not_and];intro A3;have:=(Ag i ((AU i).1 A3)).1;omega
  rw[J,XF];refine XX λi hi=>?_;cases A3:q i with
  |false=>simp
  |true=>simp[(Ag i ((AU i).1 A3)).2]
 have B0:∀i p,ps[i]?=some p->i≠j->q i=false->j∉(dM all []).getD i []->k∉p.es.map (·.key):=by
  intro i p I A8 A3 A7 A0;obtain⟨e,he,rfl⟩:=WS.1 A0;have:=AR i p I A8 (λh=>by rw[(AU i).2 h]at A3;cases A3) A7 e he;omega
 have side:∀(i:Nat)(p:aD),i≠j->j∉(dM all []).getD i []->ps[i]?=some p->k∈p.es.map (·.key)->q i=true:=by
  intro i p A8 A7 I A0;cases A3:q i with
  |true=>rfl
  |false=>exact absurd A0 (B0 i p I A8 A3 A7)
 rw[iH k q (dZ all.length f) S S (λi hi p I A0=>by
  have AV:=Xc.1 hi;have AD:=W5.1 AV.1;refine side i p (λh=>by subst h;simp[AQ]at AV) (AT i AV.2 AD) I A0) rfl rfl,
  iH k q (List.range j) S S (λi hi p I A0=>by
   have AD:=W5.1 hi;refine side i p (by omega) (λh=>?_) I A0;obtain⟨A2,AI⟩:∃A2,all[i]?=some A2:=⟨all[i]'(by omega),by simp[show i<all.length by omega]⟩
   have:=(fE (L:=λ_=>True) AH (λ_ _ _ _ _ _=>trivial) i ⟨A2,AI⟩ j h).1;omega) rfl rfl,B']
theorem Eo{P:Program}{S0 S1:St}{φ0:aR}{G:Fr}{w0:World}{Q:Exit->Act->World->Prop}{j:Nat}{Ai:Oper}{A9:aD}{t:TypeId}{x:D}
 (AG:ps.length=all.length) (A':kj all ps=true) (Aj:(S0.mem.map (·.key)).Nodup) (B1:∀(i:Nat)(p:aD),ps[i]?=some p->∀e∈p.es,e.key∈p.ks)
 (B2:∀i o p,all[i]?=some o->ps[i]?=some p->i≠j->j∉(dM all []).getD i []->fS P all (aw all ps S0 (List.range i)) o p)
 (AM:all[j]?=some Ai) (Ak:ps[j]?=some A9) (B3:sH P all (aw all ps S0 (List.range j)) Ai A9 t x)
 (AR:∀i p,ps[i]?=some p->i≠j->i∉(dM all []).getD j []->j∉(dM all []).getD i []->∀e∈p.es,100<=e.key)
 (B4:S1.n=S0.n) (B5:S1.gl=S0.gl) (B6:S1.env=[]) (B7:S1.mem=fG (de S0.mem+c7 ps+1) (aL (aw all ps S0 (List.range j)).mem A9.es))
 (B8:∀φ' c w' v,Rel φ' G S1 c w'->aB φ0 S0.mem w0 φ' S1.mem w'->ar w' (Fo G φ' S1.mem) x v->Q (.panic [{v:=.iface t v,recovered:=false}]) c w'):
 ∀(fuel:Nat)(listed:Array Bool) φ a w,listed.size=all.length->kl all (λi=>listed.getD i false)->listed.getD j false=false->Rel φ G (aw all ps S0 (dZ all.length λi=>listed.getD i false)) a w->aB φ0 S0.mem w0 φ (aw all ps S0 (dZ all.length λi=>listed.getD i false)).mem w->
  ((List.range all.length).filter λi=>!listed.getD i false).length<=fuel->wpAny P .any all.toArray Q fuel listed a w:=by
 have Al:j<all.length:=(D1.1 AM).1;have AH:∀j o,all[j]?=some o->∀p∈cq o,p<j:=λj o E=>(cd A' E).choose_spec.2.1;have first:∀(f:Nat->Bool)(n:Nat),n<=all.length->(∀i,i<n->f i=true)\/∃i,i<n/\f i=false/\∀An,An<i->f An=true:=by
  intro f n;induction n with
  |zero=>exact λ_=>.inl (λi hi=>by omega)
  |succ n ih=>
   intro BN;rcases ih (by omega)with h|⟨i,A,J,A1⟩
   .cases Y:f n with
    |true=>
     refine .inl λi hi=>?_;rcases Nat.lt_succ_iff_lt_or_eq.1 hi with AW|AW
     .exact h i AW
     .rw[AW];exact Y
    |false=>exact .inr ⟨n,by omega,Y,h⟩
   .exact .inr ⟨i,by omega,J,A1⟩
 have done:∀(listed:Array Bool),listed.size=all.length->listed.getD j false=false->Region.ready .any all.toArray listed=[]->False:=by
  intro listed AN AA B9;rcases first (λi=>listed.getD i false) all.length (Ds _)with h|⟨i,A,J,A1⟩
  .have:=h j Al;simp only[AA]at this;cases this
  .have:i∈Region.ready .any all.toArray listed:=by
    rw[mem_ready];refine⟨?_,all[i],by simp[A],λe he O=>?_⟩
    .have:i<listed.size:=by omega
     simp only[W4,XL this,Xy]at J⊢;exact J
    .obtain⟨p,_,I,_⟩:=cd A' (show all[i]?=some all[i] by simp[A]);exact A1 e.on (I e.on (by
      simp only[cq,WS,Xc];exact⟨e,⟨by simpa using he,O⟩,rfl⟩))
   rw[B9]at this;cases this
 intro fuel;induction fuel with
 |zero=>
  intro listed φ a w AN W AA AX T Y;exfalso;have:j∈(List.range all.length).filter λi=>!listed.getD i false:=Xc.2 ⟨W5.2 Al,by simp[AA]⟩;have:=List.length_pos_of_mem this;omega
 |succ fuel ih=>
  intro listed φ a w AN W AA AX T Y;refine⟨λh=>(done listed AN AA h).elim,λi hi=>?_⟩;rw[mem_ready]at hi;obtain⟨V,o,E,BA⟩:=hi;have M:all[i]?=some o:=by simpa using E
  have AD:i<all.length:=(D1.1 M).1;have Ao:i<listed.size:=by omega
  have AJ:listed.getD i false=false:=by
   simp only[W4,XL Ao,Xy]at V⊢;exact V
  have A6:∀k∈cq o,listed.getD k false=true:=by
   intro k A4;simp only[cq,WS,Xc]at A4;obtain⟨e,⟨he,O⟩,rfl⟩:=A4;exact BA e (by simpa using he) O
  by_cases A8:i=j
  .subst A8;rw[AM]at M;cases M;have AY:=lr (S:=S0) AG A' W AM Ak AJ A6;have AB:=B3 _ AY φ G a w AX (wpAny P .any all.toArray Q fuel (listed.setIfInBounds i true)) Q (λφ' c w' v AZ A4 AO=>by
    have Ap:∀p∈ps,∀e∈p.es,e.U<de S0.mem+c7 ps+1:=by
     intro p I e he;have A:=rN he;have J:=vo I;omega
    have BB:∀e∈S0.mem,e.U<de S0.mem+c7 ps+1:=by
     intro e he;have A:=rN he;omega
    have BC:∀e∈aL (aw all ps S0 (dZ all.length λi=>listed.getD i false)).mem A9.es,e.U<de S0.mem+c7 ps+1:=by
     intro e he;rcases rP he with he|he
     .exact vp _ Ap _ _ BB e he
     .exact Ap A9 (WI Ak) e he
    obtain⟨Aq,A_⟩:=Iw AZ BC;have Aa:fG (de S0.mem+c7 ps+1) (aL (aw all ps S0 (dZ all.length λi=>listed.getD i false)).mem A9.es)=S1.mem:=by
     rw[B7];refine Mem.ext ?_ ?_ λk=>?_
     .rw[km,fO,cr];exact Aj
     .simp only[km,fO,cr]
     .rw[rO,rO];by_cases BD:k<100
      .congr 1;exact jx _ _ _ k (by simp only[cr]) (.inr (AS AG A' W AM AJ A6 AR BD))
      .have Ar:∀(m:Mem),(Mem.get m k).map (λe:bn=>match decide (100<=e.key)with|true=>(⟨e.key,de S0.mem+c7 ps+1,.dead⟩:bn)|false=>e)=if k∈m.map (·.key)then some ⟨k,de S0.mem+c7 ps+1,.dead⟩else none:=by
        intro m;cases As:Mem.get m k with
        |none=>
         rw[WO]
         .rfl
         .intro A0;obtain⟨e,he,BE⟩:=WS.1 A0;have:∀(m:Mem),e∈m->Mem.get m k≠none:=by
           intro m;induction m with
           |nil=>intro h;cases h
           |cons y r BF=>
            intro h;simp only[Mem.get];split
            .simp
            .rename_i BG;rcases WK.1 h with rfl|h
             .exact absurd BE BG
             .exact BF h
          exact this m he As
        |some e=>
         obtain⟨A,J⟩:=Mem.get_mem As;have:decide (100<=e.key)=true:=by simp;omega
         simp only[XB,this];rw[W2 (J▸WW A),J]
       rw[Ar,Ar];simp only[fO,cr]
    have BH:({(aw all ps S0 (dZ all.length λi=>listed.getD i false))with mem:=aL (aw all ps S0 (dZ all.length λi=>listed.getD i false)).mem A9.es}:St).kill (de S0.mem+c7 ps+1)=S1:=by
     have BI:(aw all ps S0 (dZ all.length λi=>listed.getD i false)).n=S1.n:=by rw[jH,B4]
     have a2:(aw all ps S0 (dZ all.length λi=>listed.getD i false)).gl=S1.gl:=by rw[iw,B5]
     unfold St.kill;simp only[Aa,BI,a2];rw[<-B6]
    rw[BH]at Aq A_;refine B8 _ c w' v Aq (T.trans (A4.trans A_)) (AO.mono (λ_ _ _=>rfl) (Ds _) (λb O=>Or.imp id (A_.own b O))))
   unfold wpOp;rw[E];simp only
   split at AB
   .rename_i hw;rw[W2 hw];exact .inl AB
   .rename_i hw;rw[WO hw];exact AB
  .obtain⟨p,I,_⟩:=cd A' M;have AT:j∉(dM all []).getD i []:=by
    intro A7;have:=(fE (L:=λi=>listed.getD i false=true) AH (λj o E Y=>W j o E Y) i ⟨o,M⟩ j A7).2 (λAh At=>by rw[M]at At;cases At;exact A6);rw[AA]at this;cases this
   have BJ:=B2 i o p M I A8 AT;have AY:=lr (S:=S0) AG A' W M I AJ A6;have Ab:(listed.setIfInBounds i true).getD i false=true:=by simp[Ao]
   have AK:∀k,k≠i->(listed.setIfInBounds i true).getD k false=listed.getD k false:=λk A4=>getD_set_ne false (Xs A4);have heq:=pX (S:=S0) (f:=λi=>listed.getD i false) (g:=λk=>(listed.setIfInBounds i true).getD k false) AG A' W B1 Aj M I AJ Ab AK;have BK:kl all (λk=>(listed.setIfInBounds i true).getD k false):=by
    intro k ok Ac BL x AL;by_cases Au:x=i
    .subst Au;exact Ab
    .show (listed.setIfInBounds i true).getD x false=true;rw[AK x Au];by_cases AE:k=i
     .subst AE;rw[M]at Ac;cases Ac;exact A6 x AL
     .exact W k ok Ac ((AK k AE).symm.trans BL) x AL
   have BM:((List.range all.length).filter λk=>!(listed.setIfInBounds i true).getD k false).length<=fuel:=by
    have A:(List.range all.length).filter (λk=>!(listed.setIfInBounds i true).getD k false)=((List.range all.length).filter λk=>!listed.getD k false).filter (λk=>k != i):=by
     rw[XI];refine XX λk _=>?_;by_cases AE:k=i
     .subst AE;rw[Ab];simp
     .rw[AK k AE];simp[AE]
    have Aa:i∈(List.range all.length).filter λk=>!listed.getD k false:=Xc.2 ⟨W5.2 AD,by simp[AJ]⟩;rw[A];have:(((List.range all.length).filter λk=>!listed.getD k false).filter (λk=>k != i)).length<((List.range all.length).filter λk=>!listed.getD k false).length:=by
     rw[XZ];exact⟨i,Aa,by simp⟩
    omega
   have AB:=BJ _ AY φ G a w AX (wpAny P .any all.toArray Q fuel (listed.setIfInBounds i true)) Q (λφ' c w' AZ A4=>
    ih _ φ' c w' (by simpa using AN) BK (by rw[AK j (λh=>A8 h.symm)];exact AA) (AZ.eqv heq) (by rw[<-heq.mem];exact T.trans A4) BM)
   unfold wpOp;rw[E];simp only
   split at AB
   .rename_i hw;rw[W2 hw];exact .inl AB
   .rename_i hw;rw[WO hw];exact AB
end
inductive Gh where
 |trim (k:Nat)
 |freeze (k:Nat)
 |lu (W j k sz:Nat)
 |p2 (k H:Nat)
 |zA (k H:Nat)
 |cls (k H:Nat)
 |shut (k:Nat)
 |nw (W j k:Nat)
abbrev aN:=FuncId->List AV->List ax->Option (Out×List (Nat×ax))
structure Ctx where
 P:Program
 gl:List (Nat×D)
 kf:FuncId->Nat->List Nat
 gh:FuncId->Nat->List Gh
 md:FuncId->Nat->Bool
 fp:FuncId->dc
 od:FuncId->Nat->List (List Nat)
 qK:FuncId->Option (List AV->Option AV)
 fl:FuncId->Nat->List (Nat×Nat)
 ov:Option aN
def dF(P:Program)(g:FuncId):Bool:=
 match P.funcs[g]? with
 |some fn=>fn.body.isSome&&!(fn.name == "runtime.NumGoroutine")
 |none=>false
mutual
def iI:AV->List Nat
 | .vec _ _ _ _=>[]
 | .ptr k _ _=>[k]
 | .bb k _ _ _=>[k]
 | .agg cs=>nx cs
 | .fn _ cap=>gk cap
 | .bk vs=>nx vs
 |_=>[]
def nx:List AV->List Nat
 |[]=>[]
 |x::r=>iI x++nx r
end
mutual
def mM:AV->List Nat
 | .vec k _ _ _=>[k]
 | .agg cs=>ny cs
 | .bk vs=>ny vs
 |_=>[]
def ny:List AV->List Nat
 |[]=>[]
 |x::r=>mM x++ny r
end
def gO(mt:List Nat):Nat->List AV->List Nat
 |_,[]=>[]
 |i,x::r=>(match mt.contains i with|true=>dP x|false=>iI x)++gO mt (i+1) r
def nz(mt:List Nat):Nat->List AV->List Nat
 |_,[]=>[]
 |i,x::r=>(match mt.contains i with|true=>[]|false=>mM x)++nz mt (i+1) r
structure cQ where
 out:Out
 es:List bn
 ks:List Nat
def Ks(ρ bs:List Nat):Out->Out
 | .ret x=>.ret (up ρ bs x)
 | .panic t x=>.panic t x
def plainO:Out->Bool
 | .ret x=>bB x
 | .panic _ x=>eA x
def jj:List (Nat×ax)->Bool
 |[]=>true
 |(_,c)::r=>fD c&&jj r
def p3(m:Mem)(ρ:List Nat):List Nat->Bool
 |[]=>true
 |k::r=>(Mem.get m k).isSome&&!ρ.contains k&&p3 m ρ r
def cR(m:Mem)(T:Nat)(ρ B:List Nat):Option (Out×List (Nat×ax))->Option cQ
 |some (out,V)=>
  if (decide (ρ.length<=V.length)&&p3 m ρ (List.range' (T+1) (V.length-ρ.length))&&(B.isEmpty||(plainO out&&jj V)))=true then
   some ⟨Ks (ρ++List.range' (T+1) (V.length-ρ.length)) (base m 0 ρ++base m 1 (List.range' (T+1) (V.length-ρ.length))) out,
    ep (ρ++List.range' (T+1) (V.length-ρ.length)) (base m 0 ρ++base m 1 (List.range' (T+1) (V.length-ρ.length))) 0 V,ρ++B++List.range' (T+1) (V.length-ρ.length)⟩
  else none
 |none=>none
def wu(O:Nat)(V:List (Nat×ax)):Out->Out
 | .ret x=>.ret (vw (bI 0 V) (List.range O) (λ_=>true) (λ_ v=>v) x).norm
 | .panic t x=>.panic t x
def kZ(O:Nat)(b:Bool):Option (Out×List (Nat×ax))->Option (Out×List (Nat×ax))
 |some (out,V)=>if (b&&decide (O<V.length))=true then some (wu O V out,b9 (bI 0 V) (List.range O) (λ_=>true) (λ_ v=>v) 0 (List.range O))else some (out,V)
 |none=>none
def dQ(rw:Bool)(m:Mem)(ρ B:List Nat):List AV->List AV
 |[]=>[]
 |y::r=>tp rw (vw m ρ (λk=>B.contains k) dO y)::dQ rw m ρ B r
def jz:List (Nat×ax)->List ax
 |[]=>[]
 |(_,c)::r=>c::jz r
def iJ(A:aN)(m:Mem)(T:Nat)(g:FuncId)(Y:List AV)(rw:Bool)(ρ B:List Nat):Option cQ:=
 cR m T ρ B (kZ ρ.length (Mem.get m (T+1)).isNone (A g (dQ rw m ρ B Y) (jz (b9 m ρ (λk=>B.contains k) dO 0 ρ))))
def iK(A:aN)(m:Mem)(T:Nat)(g:FuncId)(Y:List AV)(mt ρ:List Nat):Option cQ:=
 iJ A m T g Y (mt.contains 1000) ρ ((nz mt 0 Y).filter λk=>!ρ.contains k)
def cm(A:aN)(m:Mem)(T:Nat)(g:FuncId)(Y:List AV)(mt:List Nat):Option cQ:=
 iK A m T g Y mt (collect m 64 (gO mt 0 Y) [])
def rR(S:St)(d:Option Nat):Option cQ->Option (XE×St)
 |some ⟨.ret x,es,_⟩=>some (.normal,({S with mem:=aL S.mem es}:St).put d true x)
 |some ⟨.panic t x,es,_⟩=>some (.panic t x,{S with mem:=aL S.mem es})
 |none=>none
def bz(S:St):List Operand->List AV
 |[]=>[]
 |x::r=>(S.ag x).2::bz S r
def sI(n g:Nat):FuncId:=
 match decide (n<=g)with
 |true=>g-n
 |false=>g
def iV(g:FuncId):FuncId:=sI mg g
def mN(n g:Nat)(Y A':List AV):List AV:=
 match decide (n<=g)with
 |true=>A'++Y
 |false=>Y++A'
def eg(g:FuncId)(Y A':List AV):List AV:=mN mg g Y A'
mutual
def rS:D->D->Bool
 | .int k n,.int A0 A1=>decide (k=A0)&&decide (n=A1)
 | .bool b,.bool A2=>decide (b=A2)
 | .str s,.str AE=>decide (s=AE)
 | .list a,.list b=>p4 a b
 | .agg a,.agg b=>p4 a b
 | .jb,.jb=>true
 |_,_=>false
def p4:List D->List D->Bool
 |[],[]=>true
 |a::r,b::s=>rS a b&&p4 r s
 |_,_=>false
end
def wv:AV->AV->Bool
 | .d x,.d y=>rS x y
 | .ptr k v o,.ptr A0 A7 A8=>decide (k=A0)&&(decide (v=A7)&&decide (o=A8))
 | .vec k v o n,.vec A0 A7 A8 A1=>decide (k=A0)&&(decide (v=A7)&&(decide (o=A8)&&decide (n=A1)))
 |_,_=>false
def sJ:List AV->List AV->Bool
 |[],[]=>true
 |a::r,b::s=>wv a b&&sJ r s
 |_,_=>false
def rT:ax->ax->Bool
 | .box a,.box b=>sJ a b
 | .vec n a,.vec A1 b=>decide (n=A1)&&p4 a b
 |_,_=>false
def ye(e:bn):Option bn->Bool
 |some x=>decide (x.U=e.U)&&rT x.cont e.cont
 |none=>false
def k4(m:Mem):List bn->Bool
 |[]=>true
 |e::r=>ye e (Mem.get m e.key)&&k4 m r
def CD:Bool->cQ->cQ
 |true,c=>⟨c.out,[],c.ks⟩
 |false,c=>c
def p5:Bool->Mem->Option cQ->Option cQ
 |true,m,some c=>some (CD (k4 m c.es) c)
 |true,_,none=>none
 |false,_,r=>r
def bf(X:Ctx)(A:aN)(S:St)(o:Oper)(args:List Operand):Bool×AV->Option cQ
 |(true,.fn g A')=>if eo S args=true then p5 ((X.fp (iV g)).oF.contains 2000) S.mem (cm A S.mem (keyOf o) (iV g) (eg g (bz S args) A') (X.fp (iV g)).oF)else none
 |_=>none
def uc(S:St):Bool×AV->Option (XE×St)
 |(true,.dJ t d)=>some (.panic t d,S)
 |_=>none
def lU(X:Ctx)(A:aN)(S:St)(o:Oper):Option (XE×St):=
 match o.op with
 | .call {callee:=.value A3,args,..}=>rR S o.dst (bf X A S o args.toList (S.ag A3))
 | .panic x=>uc S (S.ag x)
 |_=>none
def dR(X:Ctx)(A:aN)(S:St)(o:Oper):br->Option (XE×St)
 | .val c x=>if (dt S o&&c)=true then some (.normal,S.put o.dst true x)else none
 | .bo c x e=>if (dt S o&&c)=true then some (.normal,({S with mem:=Mem.set S.mem e}:St).put o.dst true x)else none
 | .no=>lU X A S o
def jS(X:Ctx)(A:aN)(S:St)(o:Oper)(b:Bool):br->Option (XE×St)
 | .val c x=>if b=true->(dt S o&&c)=true then some (.normal,S.put o.dst b x)else none
 |r=>if b=true then dR X A S o r else some (.normal,S.put o.dst true .aC)
def St.cz(S:St)(d:Option Nat)(b:Bool):St:=S.put d true (.d (.bool b))
def gD(all:List Oper)(j:Nat):Option Nat:=
 match all[j]? with
 |some o=>o.dst
 |none=>none
inductive GV where
 |vq (t:Bool)
 |skip
 |bad
def Ku:D->GV
 | .bool t=>.vq t
 |_=>.bad
def Kv:List AV->GV
 |[]=>.skip
 |_::_=>.bad
def Ep:AV->GV
 | .d x=>Ku x
 | .bk vs=>Kv vs
 |_=>.bad
def kq:Option (Bool×AV)->GV
 |some (true,x)=>Ep x
 |_=>.bad
def zB{x:Option (Bool×AV)}{t:Bool}(h:kq x=.vq t):x=some (true,.d (.bool t)):=by
 rcases x with _|⟨g,y⟩
 .cases h
 .cases g
  .cases h
  .cases y with
   |d y=>cases y<;>simp_all [kq,Ep,Ku]
   |bk vs=>cases vs<;>simp_all [kq,Ep,Kv]
   |_=>cases h
def xq{x:Option (Bool×AV)}(h:kq x=.skip):x=some (true,.bk []):=by
 rcases x with _|⟨g,y⟩
 .cases h
 .cases g
  .cases h
  .cases y with
   |d y=>cases y<;>simp_all [kq,Ep,Ku]
   |bk vs=>cases vs<;>simp_all [kq,Ep,Kv]
   |_=>cases h
def iL(X:Ctx)(A:aN)(md:Bool)(all:List Oper)(S:St)(o:Oper):Option (XE×St):=
 match o.guard with
 |none=>dR X A S o (bx X.P S o)
 |some (j,Z)=>match kq (kc all S j)with
  | .vq t=>match md with
   |false=>jS X A S o (t == Z) (bx X.P S o)
   |true=>if (t == Z)=true then dR X A (S.cz (gD all j) Z) o (bx X.P (S.cz (gD all j) Z) o)else some (.normal,(S.cz (gD all j) (!Z)).put o.dst true (.bk []))
  | .skip=>some (.normal,S.put o.dst true (.bk []))
  | .bad=>none
def andThen(r:Option (XE×St))(k:St->Option (XE×St)):Option (XE×St):=
 match r with
 |some (.normal,S)=>k S
 |r=>r
def eh(X:Ctx)(A:aN)(md:Bool)(all:List Oper):List Oper->St->Option (XE×St)
 |[],S=>some (.normal,S)
 |o::r,S=>andThen (iL X A md all S o) (eh X A md all r)
def p6(S:St)(o:Oper):Option cQ->Option (St×aD)
 |some ⟨.ret x,es,ks⟩=>some ((⟨ks,es,true,x⟩:aD).app o S,⟨ks,es,true,x⟩)
 |_=>none
def jA(X:Ctx)(A:aN)(S:St)(o:Oper):Option (St×aD):=
 match o.op with
 | .call {callee:=.value A3,args,..}=>p6 S o (bf X A S o args.toList (S.ag A3))
 |_=>none
def cO(X:Ctx)(A:aN)(S:St)(o:Oper):br->Option (St×aD)
 | .val c x=>if (dt S o&&c)=true then some (S.put o.dst true x,⟨eF S o,[],true,x⟩)else none
 | .bo c x e=>if (dt S o&&c&&(eF S o).contains e.key)=true then some (({S with mem:=Mem.set S.mem e}:St).put o.dst true x,⟨eF S o,[e],true,x⟩)else none
 | .no=>jA X A S o
def lV(X:Ctx)(A:aN)(S:St)(o:Oper)(b:Bool):br->Option (St×aD)
 | .val c x=>if b=true->(dt S o&&c)=true then some (S.put o.dst b x,⟨eF S o,[],b,x⟩)else none
 |r=>if b=true then cO X A S o r else some (S.put o.dst true .aC,⟨[],[],true,.aC⟩)
def cv(X:Ctx)(A:aN)(md:Bool)(all:List Oper)(S:St)(o:Oper):Option (St×aD):=
 match o.guard with
 |none=>cO X A S o (bx X.P S o)
 |some (j,Z)=>match kq (kc all S j)with
  | .vq t=>match md with
   |false=>lV X A S o (t == Z) (bx X.P S o)
   |true=>if (t == Z)=true then cO X A (S.cz (gD all j) Z) o (bx X.P (S.cz (gD all j) Z) o)else some ((S.cz (gD all j) (!Z)).put o.dst true (.bk []),⟨[],[],true,.bk []⟩)
  | .skip=>some (S.put o.dst true (.bk []),⟨[],[],true,.bk []⟩)
  | .bad=>none
def yf(I:List aD)(r:Option (St×aD))(k:St->List aD->Option (XE×St)):Option (XE×St):=
 match r with
 |some (S,p)=>k S (p::I)
 |none=>none
structure zC where
 S:St
 t:TypeId
 x:D
 es:List bn
 ks:List Nat
def oH(S:St):Option cQ->Option zC
 |some ⟨.panic t x,es,ks⟩=>some ⟨{S with mem:=aL S.mem es},t,x,es,ks⟩
 |_=>none
def zD(X:Ctx)(A:aN)(S:St)(o:Oper):Option zC:=
 match o.op with
 | .call {callee:=.value A3,args,..}=>oH S (bf X A S o args.toList (S.ag A3))
 |_=>none
def ud(X:Ctx)(A:aN)(S:St)(o:Oper):br->Option zC
 | .no=>zD X A S o
 |_=>none
def gm(X:Ctx)(A:aN)(S:St)(o:Oper):Option zC:=
 match o.guard with
 |none=>ud X A S o (bx X.P S o)
 |some _=>none
def l9(X:Ctx)(md:Bool)(all:List Oper)(A5:List Nat):Nat->List Oper->St->List aD->Option (List aD)
 |_,[],_,I=>some I.reverse
 |i,o::r,S,I=>match A5.contains i with
  |true=>match cv X (λ_ _ _=>none) md all S o with
   |some (S1,p)=>l9 X md all A5 (i+1) r S1 (p::I)
   |none=>none
  |false=>l9 X md all A5 (i+1) r (S.put o.dst false .aC) (⟨[],[],false,.aC⟩::I)
def CE(J:Nat×List (List Nat))(A5:List Nat)(t:TypeId)(x:D)(S:St):Option (List aD)->Option (XE×St)
 |some ps=>if (jI J.2 ps&&rM ps A5)=true then some (.panic t x,S.kill (J.1+c7 ps+1))else none
 |none=>none
def CF(X:Ctx)(md:Bool)(J:Nat×List (List Nat))(all r:List Oper)(d:Option Nat)(I:List aD)(q:zC):Option (XE×St):=
 CE J (J.2.getD I.length []) q.t q.x q.S (l9 X md all (J.2.getD I.length []) (I.length+1) r (q.S.put d true .aC) (⟨q.ks,q.es,true,.aC⟩::I))
def iW(X:Ctx)(A:aN)(md:Bool)(J:Nat×List (List Nat))(all r:List Oper)(S:St)(o:Oper)(I:List aD)(k:St->List aD->Option (XE×St)):Option zC->Option (XE×St)
 |some q=>CF X md J all r o.dst I q
 |none=>yf I (cv X A md all S o) k
def dS(X:Ctx)(A:aN)(md:Bool)(J:Nat×List (List Nat))(all:List Oper):List Oper->St->List aD->Option (XE×St)
 |[],S,I=>if jI J.2 I.reverse=true then some (.normal,S)else none
 |o::r,S,I=>iW X A md J all r S o I (dS X A md J all r) (gm X A S o)
structure Cl where
 k:Nat
 v:Nat
 j:Nat
 x:AV
 vv:Bool
def HO:AV->AV->Bool
 | .vec a b c d,.vec A9 A2 c' AF=>decide (a=A9)&&decide (b=A2)&&decide (c=c')&&decide (d=AF)
 | .ptr a b c,.ptr A9 A2 c'=>decide (a=A9)&&decide (b=A2)&&decide (c=c')
 | .d (.int k n),.d (.int A0 A1)=>decide (k=A0)&&decide (n=A1)
 | .d (.bool b),.d (.bool A2)=>decide (b=A2)
 |_,_=>false
def dk(m:Mem):List (Nat×Nat)->Option (List Cl)
 |[]=>some []
 |(k,j)::r=>match Mem.get m k,dk m r with
  |some ⟨_,v,.box cs⟩,some l=>match cs[j]? with
   |some x=>some (⟨k,v,j,x,false⟩::l)
   |none=>none
  |some ⟨_,v,.vv rows (some x)⟩,some l=>some (⟨k,v,rows.length,x,true⟩::l)
  |_,_=>none
def Ok(q:Cl):Option AV->Bool
 |some x=>HO x q.x
 |none=>false
def Kw(q:Cl)(v:Nat):ax->Bool
 | .box cs=>!q.vv&&decide (v=q.v)&&Ok q cs[q.j]?
 | .vv rows (some x)=>q.vv&&decide (v=q.v)&&decide (rows.length=q.j)&&HO x q.x
 |_=>false
def CG(e:bn):List Cl->Bool
 |[]=>true
 |q::r=>(match decide (e.key=q.k)with|true=>Kw q e.U e.cont|false=>true)&&CG e r
def vr(E:List Cl):List bn->Bool
 |[]=>true
 |e::r=>CG e E&&vr E r
def sK(b:Bool)(k v j:Nat):List Cl->Option AV
 |[]=>none
 |q::r=>match decide (b=q.vv)&&decide (k=q.k)&&decide (v=q.v)&&decide (j=q.j)with|true=>some q.x|false=>sK b k v j r
def ue(b:Bool)(k v:Nat):List Cl->Bool
 |[]=>false
 |q::r=>match decide (b=q.vv)&&decide (k=q.k)&&decide (v=q.v)with|true=>true|false=>ue b k v r
def HP(P:Program)(E:List Cl)(t:TypeId):Bool×AV->Option AV
 |(true,.ptr k v off)=>match (tk P t).agg,decide (tk P t=.other)with
  |false,false=>sK false k v off E
  |_,_=>none
 |(true,.bb k v i j)=>match (tk P t).agg,decide (tk P t=.other),decide (j=0)with
  |false,false,true=>sK true k v i E
  |_,_,_=>none
 |_=>none
def HQ(E:List Cl):Option Nat->Bool×AV->Option AV
 |some n,(true,.ptr k v off)=>match ue false k v E with|true=>some (.ptr k v (off+n))|false=>none
 |_,_=>none
def HR(E:List Cl):Bool×AV->Option AV
 |(true,.ptr k v off)=>match ue false k v E with|true=>some (.ptr k v off)|false=>none
 |_=>none
def HS(P:Program)(E:List Cl):TK->Bool×AV->Bool×AV->Option AV
 | .slice e,(true,.vec k v off len),(true,.d (.int _ n))=>match decide (b5 P e=some 1),ue true k v E,decide (0<=n),decide (n.toNat<len)with
  |true,true,true,true=>some (.bb k v (off+n.toNat) 0)
  |_,_,_,_=>none
 |_,_,_=>none
def sL(P:Program)(E:List Cl)(S:St):Op->Option AV
 | .load t x=>HP P E t (S.ag x)
 | .fieldAddr s x f=>HQ E (pF P s f) (S.ag x)
 | .nilCheck x=>HR E (S.ag x)
 | .indexAddr t x i=>HS P E (tk P t) (S.ag x) (S.ag i)
 |_=>none
def sM(P:Program)(E:List Cl)(S:St)(o:Oper):Option AV:=
 match o.guard with
 |none=>sL P E S o.op
 |some _=>none
def Gn(E:List Cl):Option (St×aD)->Option (St×aD)
 |some (S,p)=>if vr E p.es=true then some (S,p)else none
 |none=>none
def yg(X:Ctx)(A:aN)(md:Bool)(E:List Cl)(all:List Oper)(S:St)(o:Oper):Option AV->Option (St×aD)
 |some x=>some (S.put o.dst true x,⟨[],[],true,x⟩)
 |none=>Gn E (cv X A md all S o)
def pk:List Nat->List Oper->Bool
 |[],[]=>true
 |_,_=>false
def CH(X:Ctx)(A:aN)(md:Bool)(J:List (List Nat))(all:List Oper)(S:St)(o:Oper)(I:List aD):Option (XE×St):=
 if jI J I.reverse=true then eh X A md all [o] S else none
def k5(X:Ctx)(A:aN)(md:Bool)(J:List (List Nat))(E:List Cl)(all:List Oper):List Oper->St->List aD->Option (XE×St)
 |[],S,I=>if jI J I.reverse=true then some (.normal,S)else none
 |o::r,S,I=>match pk (J.getD I.length []) r with
  |true=>CH X A md J all S o I
  |false=>yf I (yg X A md E all S o (sM X.P E S o)) (k5 X A md J E all r)
def Gp(X:Ctx)(A:aN)(md:Bool)(J:List (List Nat))(all:List Oper)(S:St):Option (List Cl)->Option (XE×St)
 |some E=>k5 X A md J E all all S []
 |none=>none
def oI(X:Ctx)(A:aN)(md:Bool)(J:List (List Nat))(all:List Oper)(S:St):List (Nat×Nat)->Option (XE×St)
 |[]=>dS X A md (de S.mem,J) all all S []
 |q::r=>Gp X A md J all S (dk S.mem (q::r))
def p7(sz:Nat):ax:=if sz<1000000 then .vec sz []else .buf (sz-1000000) []
def St.lu(S:St)(W j k sz:Nat):St:=
 match Mem.get S.mem W,Mem.get S.mem k with
 |some ⟨_,AA,.box cs⟩,some ⟨_,v,_⟩=>match cs[j]? with
  |some (.lit (.slice none 0 0))=>if W=k then S else {S with mem:=Mem.set (Mem.set S.mem ⟨k,v+1,p7 sz⟩) ⟨W,AA,.box (cs.set j (.vec k (v+1) 0 0))⟩}
  |_=>S
 |_,_=>S
def wx(k v H v2:Nat):AV->AV
 | .vec T v0 o l=>if T=k/\v0=v then .vec H v2 o l else .vec T v0 o l
 |x=>x
def nA(AB:AV->AV):Mem->Mem
 |[]=>[]
 |e::r=>⟨e.key,e.U,jG AB e.cont⟩::nA AB r
def St.p2(S:St)(k H:Nat):St:=
 match Mem.get S.mem k,Mem.get S.mem H with
 |some ⟨_,v,.vec sz rows⟩,some ⟨_,v2,_⟩=>if k=H then S else {S with env:=jg (wx k v H (v2+1)) S.env,mem:=Mem.set (Mem.set (nA (wx k v H (v2+1)) S.mem) ⟨k,v+1,.dead⟩) ⟨H,v2+1,.vec sz rows⟩}
 |_,_=>S
def St.zA(S:St)(k H:Nat):St:=
 match Mem.get S.mem k,Mem.get S.mem H with
 |some ⟨_,v,.vv rows none⟩,some ⟨_,v2,_⟩=>match rows.getLast? with
  |some xs=>if k=H then S else {S with mem:=Mem.set (Mem.set S.mem ⟨k,v,.vv rows.dropLast (some (.vec H (v2+1) 0 xs.length))⟩) ⟨H,v2+1,.vec 1 xs⟩}
  |none=>S
 |_,_=>S
def St.cls(S:St)(k H:Nat):St:=
 match Mem.get S.mem k,Mem.get S.mem H with
 |some ⟨_,v,.vv rows (some (.vec AG v3 0 len))⟩,some ⟨_,v2,.vec 1 xs⟩=>if k=H then S else if AG=H/\v3=v2/\len=xs.length then {S with mem:=Mem.set (Mem.set S.mem ⟨k,v,.vv (rows++[xs]) none⟩) ⟨H,v2+1,.dead⟩} else S
 |_,_=>S
def St.shut(S:St)(k:Nat):St:=
 match Mem.get S.mem k with
 |some ⟨_,v,.vv rows (some _)⟩=>{S with mem:=Mem.set S.mem ⟨k,v,.vv rows none⟩}
 |_=>S
def St.nw(S:St)(W j k:Nat):St:=
 match Mem.get S.mem W,Mem.get S.mem k with
 |some ⟨_,AA,.box cs⟩,some ⟨_,v,_⟩=>match cs[j]? with
  |some (.lit (.slice none 0 0))=>if W=k then S else {S with mem:=Mem.set (Mem.set S.mem ⟨W,AA,.box (cs.set j (.vec k (v+1) 0 0))⟩) ⟨k,v+1,.vv [] none⟩}
  |_=>S
 |_,_=>S
def Gh.go(S:St):Gh->St
 | .zA k H=>S.zA k H
 | .cls k H=>S.cls k H
 | .shut k=>S.shut k
 | .nw W j k=>S.nw W j k
 | .trim k=>S.pT k
 | .freeze k=>S.freeze k
 | .lu W j k sz=>S.lu W j k sz
 | .p2 k H=>S.p2 k H
def vt(S:St):List Gh->St
 |[]=>S
 |g::r=>vt (g.go S) r
def p8(k:St->St):Option (XE×St)->Option (XE×St)
 |some (.normal,S)=>some (.normal,k S)
 |r=>r
def vu(id:Nat):Option (XE×St)->Option (XE×St)
 |some (.exit AC,S)=>if AC=id then some (.normal,S)else some (.exit AC,S)
 |r=>r
def iter(f:St->Option (XE×St)):Nat->St->Option (XE×St)
 |0,_=>none
 |n+1,S=>andThen (f S) (iter f n)
def vy(a b:Option (XE×St)):Bool×AV->Option (XE×St)
 |(true,.d (.bool t))=>if t=true then a else b
 |_=>none
def St.leave(X:Ctx)(f:FuncId)(id:Nat)(S:St):St:=vt (S.prune (X.kf f id)) (X.gh f id)
def St.enter(X:Ctx)(f:FuncId)(id:Nat)(S:St):St:=vt S (X.gh f (id+2000000))
def den(X:Ctx)(f:FuncId)(A:aN)(n:Nat):Code->St->Option (XE×St)
 | .skip,S=>some (.normal,S)
 | .region id ops draw,S=>match draw with
  |false=>p8 (St.leave X f id) (eh X A (X.md f id) ops.toList ops.toList S)
  |true=>p8 (St.leave X f id) (oI X A (X.md f id) (X.od f id) ops.toList S (X.fl f id))
 | .seq a b,S=>andThen (den X f A n a S) (den X f A n b)
 | .cond c a b,S=>vy (den X f A n a S) (den X f A n b S) (S.ag c)
 | .block id c,S=>vu id (den X f A n c (S.enter X f id))
 | .loop c,S=>iter (den X f A n c) n S
 | .exit id,S=>some (.exit id,vt S (X.gh f (id+1000000)))
 | .ret,S=>some (.ret,S)
 |_,_=>none
def fin(P:Program)(p:dc)(O:Nat)(rs:List ResultVar):Option (XE×St)->Option (Out×List (Nat×ax))
 |some (.normal,S)=>finish P p O rs S
 |some (.ret,S)=>finish P p O rs S
 |some (.panic t x,S)=>pW p O t x S
 |_=>none
def lv(X:Ctx)(f:FuncId)(A:aN)(n:Nat)(fn:Func)(c:Code)(args:List AV)(cs:List ax):Option (Out×List (Nat×ax)):=
 if (decide (args.length<=fn.ntmps)&&decide (cs.length<=100)&&(X.fp f).sites.all (λk=>decide (100<=k))&&decide (X.fp f).sites.Nodup)=true then
  fin X.P (X.fp f) cs.length fn.results.toList (den X f A n c (entry fn.ntmps X.gl args cs (X.fp f).sites))
 else none
def k6:Option (Out×List (Nat×ax))->Option Nat
 |some (.ret (.vec 0 0 0 0),[(0,.vec sz [])])=>some sz
 |_=>none
def gE(AD AH:Option (Out×List (Nat×ax))):Option (Out×List (Nat×ax)):=
 match k6 AD,k6 AH with
 |some a,some b=>if a=b then AD else none
 |_,_=>none
def eY(run:List AV->Option (Out×List (Nat×ax)))(args:List AV):Bool->Option (Out×List (Nat×ax))
 |true=>match args with
  | .d (.list [])::r=>gE (run (.lit (.slice none 0 0)::r)) (run (.nn::r))
  |args=>run args
 |false=>run args
def gn(h:List AV->Option AV)(args:List AV):List ax->Option (Out×List (Nat×ax))
 |[]=>match h args with
  |some d=>some (.ret d,[])
  |none=>none
 |_::_=>none
def jB(h:List D->Option D)(args:List AV):Option AV:=match toDs args with
 |some M=>(h M).map .d
 |none=>none
abbrev DF:=FuncId×List AV
def Ol(S:St)(args:List Operand):Bool×AV->Option DF
 |(true,.fn g A')=>if (eo S args&&decide (g<mg))=true then some (g,bz S args++A')else none
 |_=>none
def jT(S:St)(o:Oper):Option DF:=
 match o.guard,o.op with
 |none,.defer {callee:=.value A3,args,..}=>Ol S args.toList (S.ag A3)
 |_,_=>none
def Ix(o:Oper):Bool:=
 match o.op with
 | .defer _=>true
 |_=>false
abbrev XD:=Option (XE×St×List DF)
def yh(k:St->XD)(M:List DF):Option (XE×St)->XD
 |some (.normal,S)=>k S
 |some (e,S)=>some (e,S,M)
 |none=>none
def cW(X:Ctx)(A:aN)(md:Bool)(all:List Oper):List Oper->St->List DF->XD
 |[],S,M=>some (.normal,S,M)
 |o::r,S,M=>match jT S o with
  |some d=>cW X A md all r (S.put o.dst true .aC) (d::M)
  |none=>yh (λS1=>cW X A md all r S1 M) M (iL X A md all S o)
def vz(ops:List Oper):Bool:=ops.any Ix
def rU(k:St->St):XD->XD
 |some (.normal,S,M)=>some (.normal,k S,M)
 |r=>r
def p9(M:List DF):Option (XE×St)->XD
 |some (e,S)=>some (e,S,M)
 |none=>none
def zE(k:St->List DF->XD):XD->XD
 |some (.normal,S,M)=>k S M
 |r=>r
def eG(X:Ctx)(f:FuncId)(A:aN)(n:Nat):Code->St->List DF->XD
 | .seq a b,S,M=>zE (eG X f A n b) (eG X f A n a S M)
 | .region id ops draw,S,M=>match !draw&&vz ops.toList with
  |true=>rU (St.leave X f id) (cW X A (X.md f id) ops.toList ops.toList S M)
  |false=>p9 M (den X f A n (.region id ops draw) S)
 |c,S,M=>p9 M (den X f A n c S)
def rV(o:Oper):Bool:=
 match o.guard,o.op with
 |none,.call {callee:=.builtin .recover,args,..}=>args.toList.isEmpty
 |_,_=>false
def ma(X:Ctx)(f:FuncId)(A:aN)(n:Nat)(A4:AV):Code->St->Option (XE×St)
 | .seq a b,S=>andThen (ma X f A n A4 a S) (den X f A n b)
 | .region id ops draw,S=>match draw,ops.toList with
  |false,o::r=>if rV o=true then p8 (St.leave X f id) (eh X A (X.md f id) (o::r) r (S.put o.dst true A4))else none
  |_,_=>none
 |_,_=>none
def Gq(P:Program)(p:dc)(O:Nat)(rs:List ResultVar):Option (XE×St)->Option (Out×List (Nat×ax))
 |some (.normal,S)=>finish P p O rs S
 |some (.ret,S)=>finish P p O rs S
 |_=>none
def rW(X:Ctx)(f:FuncId)(A:aN)(n:Nat)(fn:Func)(c:Code)(args:List AV)(cs:List ax):Option (Out×List (Nat×ax)):=
 match args.getLast? with
 |some A4=>if (decide (args.dropLast.length<=fn.ntmps)&&decide (cs.length<=100)&&(X.fp f).sites.all (λk=>decide (100<=k))&&decide (X.fp f).sites.Nodup)=true then
  Gq X.P (X.fp f) cs.length fn.results.toList (ma X f A n A4 c (entry fn.ntmps X.gl args.dropLast cs (X.fp f).sites))
  else none
 |none=>none
def uf:XE->Option AV
 | .normal=>some (.lit .nilIface)
 | .ret=>some (.lit .nilIface)
 | .panic t x=>some (.dJ t x)
 | .exit _=>none
def qa(S:St):Option cQ->Option St
 |some ⟨.ret _,es,_⟩=>some {S with mem:=aL S.mem es}
 |_=>none
def ug(X:Ctx)(p:dc)(O:Nat)(rs:List ResultVar):Option St->Option (Out×List (Nat×ax))
 |some S=>finish X.P p O rs S
 |none=>none
def sN(X:Ctx)(p:dc)(O:Nat)(rs:List ResultVar)(A6:aN)(S:St)(d:DF):Option AV->Option (Out×List (Nat×ax))
 |some A4=>ug X p O rs (qa S (cm A6 S.mem 0 d.1 (d.2++[A4]) (X.fp d.1).oF))
 |none=>none
def uh(X:Ctx)(p:dc)(O:Nat)(rs:List ResultVar)(A6:aN):XD->Option (Out×List (Nat×ax))
 |some (e,S,[])=>fin X.P p O rs (some (e,S))
 |some (e,S,[d])=>sN X p O rs A6 S d (uf e)
 |_=>none
def rX(X:Ctx)(f:FuncId)(A A6:aN)(n:Nat)(fn:Func)(c:Code)(args:List AV)(cs:List ax):Option (Out×List (Nat×ax)):=
 if (decide (args.length<=fn.ntmps)&&decide (cs.length<=100)&&(X.fp f).sites.all (λk=>decide (100<=k))&&decide (X.fp f).sites.Nodup)=true then
  uh X (X.fp f) cs.length fn.results.toList A6 (eG X f A n c (entry fn.ntmps X.gl args cs (X.fp f).sites) [])
 else none
def qb:Code->Bool
 | .seq a b=>qb a||qb b
 | .region _ ops _=>vz ops.toList
 |_=>false
def qc(X:Ctx)(n:Nat)(A:aN):aN:=λg args cs=>
 match X.P.funcs[g]? with
 |some fn=>match fn.body with
  |some c=>rW X g A n fn c args cs
  |none=>none
 |none=>none
def sO(X:Ctx)(f:FuncId)(A:aN)(n:Nat)(fn:Func)(c:Code)(args:List AV)(cs:List ax):Bool->Option (Out×List (Nat×ax))
 |true=>rX X f A (qc X n A) n fn c args cs
 |false=>eY (λargs=>lv X f A n fn c args cs) args (X.fp f).split
def aH(X:Ctx):Nat->aN
 |0,_,_,_=>none
 |n+1,f,args,cs=>match X.ov with
  |some A=>A f args cs
  |none=>match X.qK f with
   |some h=>gn h args cs
   |none=>match X.P.funcs[f]? with
    |some fn=>match fn.body with
     |some c=>sO X f (aH X n) n fn c args cs (qb c)
     |none=>none
    |none=>none
end Go.Am
end
