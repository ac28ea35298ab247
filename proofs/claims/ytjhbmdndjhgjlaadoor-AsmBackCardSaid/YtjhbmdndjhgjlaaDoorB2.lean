/-
  Texts of one proof, one behind the other.
-/
import Derived.Test.YtjhbmdndjhgjlaaDoorB1
import Derived.Lib.Builder
import Derived.Lib.UnsafeStr
import Derived.Lib.OthersKept
import Derived.Orders
set_option linter.all false
section
namespace Go.Am
open Go
set_option maxRecDepth 20000
set_option maxHeartbeats 4000000
def uO(sz:Nat):∀(vs:List (Nat×Value))(k:Nat)(cells:Array Value),vs.map (·.1)=List.range' k vs.length->(∀v∈vs,v.2.cells.size=sz)->(k+vs.length)*sz=cells.size->
 ∃out,Instr.fill (λi=>some (i*sz,sz)) cells vs=some out/\out.toList=cells.toList.take (k*sz)++vs.flatMap (λv=>v.2.cells.toList)
 |[],k,cells,_,_,O=>by
  refine⟨cells,rfl,?_⟩;simp only[Yr,XZ]at O;simp only[O,List.flatMap_nil,X2];rw[<-Xs,List.take_length]
 |(i,v)::vs,k,cells,hi,T,O=>by
  simp only[XU,Yk,Yj,List.cons.injEq]at hi;obtain⟨rfl,hi⟩:=hi;have M:=T (i,v) (by simp);simp only at M;simp only[Yk]at O;have Ad:i*sz+v.cells.size<=cells.size:=by
   rw[M,<-O,<-X9];exact Xo _ (by omega)
  have H:=Aa cells v.cells (i*sz) Ad;obtain⟨AP,As⟩:∃AP,AP=v.cells.zipIdx.foldl (λcs (x:Value×Nat)=>cs.setIfInBounds (i*sz+x.2) x.1) cells:=⟨_,rfl⟩;rw[<-As]at H;have At:i*sz+v.cells.toList.length<=cells.toList.length:=by simpa using Ad
  have A3:AP.size=cells.size:=by rw[<-Xs,H,aV _ _ _ At];simp
  obtain⟨out,U,AQ⟩:=uO sz vs (i+1) AP hi (λx J=>T x (by simp[J])) (by rw[A3,<-O];congr 1;omega);refine⟨out,?_,?_⟩
  .simp only[Instr.fill];rw[Xq (by simp;omega),<-U,As]
  .rw[AQ,H,bC _ _ _ At];have BQ:v.cells.toList.length=sz:=by simpa using M
   rw[X9,List.take_append_of_le_length (by simp;omega),Yw (by simp;omega)];simp
def vM{φ w F}{sz:Nat}:∀(A:List D)(vs:List Value),A.length=vs.length->(∀d∈A,d.size=sz)->(∀(i:Nat) d v,A[i]?=some d->vs[i]?=some v->ai φ w F (.d d) v)->
 a8 w F sz A (vs.flatMap λv=>v.cells.toList)
 |[],vs,O,_,_=>by
  have:vs=[]:=XH (by simpa using O.symm);subst this;exact a8.nil ..
 |d::A,vs,O,T,E=>by
  cases vs with
  |nil=>simp at O
  |cons v vs=>
   have ih:=vM (φ:=φ) (w:=w) (F:=F) A vs (by simpa using O) (λx J=>T x (by simp[J])) (λi d v h A6=>E (i+1) d v (by simpa using h) (by simpa using A6));have A7:=E 0 d v (by simp) (by simp);cases A7 with|d _ _ A7=>
   have A8:=T d (by simp);have AR:v.cells.size=sz:=by rw[A7.size,A8]
   have one:a8 w F sz [d] v.cells.toList:=by
    refine⟨by simp[AR],λu hu=>A7.cells.2.1 u (by simpa using hu),λx J=>by simp at J;subst J;exact A8,λi x J=>?_⟩;cases i with
    |zero=>simp at J;subst J;exact⟨v,A7,λj c AB=>by simpa using AB⟩
    |succ i=>simp at J
   simpa using one.append ih
def Ab{w:World}{F F':Nat->Prop}{sz:Nat}{A:List D}{cs rest:List Value}{elem:TypeId}{fr}{N:World}{arr:Array Value}(E:a8 w F sz A cs)(hh:N.heap[w.heap.size]?=some (.cells arr elem fr))(AC:arr.toList=cs++rest)
 (hm:∀x v,aq w F x v->aq N F' x v) (B0:¬F' w.heap.size) (cap:Nat) (AH:A.length<=cap):aq N F' (.list A) (.slice (some ⟨w.heap.size,0,none⟩) A.length cap):=by
 obtain⟨BS,a2,a3,a4⟩:=E;have Ae:∀i,∃v,∀d,A[i]?=some d->aq w F d v/\∀(j:Nat) c,v.cells[j]?=some c->cs[i*sz+j]?=some c:=by
  intro i;cases I:A[i]? with
  |none=>exact⟨undef,λd h=>by cases h⟩
  |some d=>obtain⟨v,H,U⟩:=a4 i d I;exact⟨v,λAu h=>by cases h;exact⟨H,U⟩⟩
 obtain⟨vs,AR⟩:=XP Ae;refine .list A w.heap.size 0 cap sz vs AH ?_ B0 a3 (λi d I=>hm _ _ (AR i d I).1) (λi j c hi AB=>?_)
 .exact (Xv.1 hh).1
 .obtain⟨H,U⟩:=AR i A[i] (by simp[hi]);have AQ:=U j c AB;rw[rQ hh,<-X1,AC,X8,Xr (D1.1 AQ).1];exact AQ
def Ac{φ:aQ}{G:Fr}{m:Mem}{w N:World}(hold:∀b,b<w.heap.size->N.heap[b]?=w.heap[b]?)(T:w.heap.size<=N.heap.size)(x v)(J:aq w (Fo G φ m) x v):aq N (Fo G φ m) x v:=
 J.mono (λb Y _=>hold b Y) T (λ_ _ h=>h)
def lQ:List (Nat×AV)->Option (List D)
 |[]=>some []
 |(_,x)::r=>match x.norm,lQ r with
  | .d d,some A=>some (d::A)
  |_,_=>none
def vN{φ w F}:∀(ps:List (Nat×AV))(A:List D)(vs:List Value),lQ ps=some A->ps.length=vs.length->(∀(i:Nat) p v,ps[i]?=some p->vs[i]?=some v->ai φ w F p.2 v)->
 A.length=vs.length/\∀(i:Nat) d v,A[i]?=some d->vs[i]?=some v->ai φ w F (.d d) v
 |[],A,vs,h,O,_=>by
  simp[lQ]at h;subst h;exact⟨by simpa using O,λi d v A6=>by simp at A6⟩
 |(i,x)::ps,A,vs,h,O,E=>by
  simp only[lQ]at h;split at h<;>simp at h;rename_i d B1 J A8;subst h;cases vs with
  |nil=>simp at O
  |cons v vs=>
   have ih:=vN (φ:=φ) (w:=w) (F:=F) ps B1 vs A8 (by simpa using O) (λi p v h A6=>E (i+1) p v (by simpa using h) (by simpa using A6));refine⟨by simp[ih.1],λj Au Av h A6=>?_⟩;cases j with
   |zero=>
    simp at h A6;subst h;subst A6;have:=(E 0 (i,x) v (by simp) (by simp)).norm;simp only[J]at this;exact this
   |succ j=>exact ih.2 j Au Av (by simpa using h) (by simpa using A6)
def dA(P:Program)(t:TypeId)(A0:Nat)(len:Nat):List (Nat×AV)->Option bk->Option bp
 |[(0,.lit (.slice none 0 0))],some ⟨_,v,_⟩=>match tk P t with
  | .slice e=>match b7 P e,gE P e with
   |some sz,some _=>some (.bl (sz=1/\len=1) (.vec A0 (v+1) 0 1) ⟨A0,v+1,.box [.lit (.slice none 0 0)]⟩)
   |_,_=>none
  |_=>none
 |_,_=>none
def lu(P:Program)(m:Mem)(A0:Nat)(t:TypeId)(len:Nat)(ps:List (Nat×AV)):bp:=
 match tk P t with
 | .slice e=>match b7 P e,gE P e,lQ ps with
  |some sz,some A4,some A=>match Mem.get m A0 with
   |some ⟨_,v,_⟩=>.bl (A4.size=sz/\len*sz<=2^24/\ps.map (·.1)=List.range' 0 len/\(∀d∈A,d.size=sz)) (.vec A0 (v+1) 0 len) ⟨A0,v+1,.vec sz A⟩
   |none=>.val (A4.size=sz/\len*sz<=2^24/\ps.map (·.1)=List.range' 0 len/\(∀d∈A,d.size=sz)) (.d (.list A))
  |_,_,_=>.no
 |_=>.no
def fL(P:Program)(m:Mem)(A0:Nat)(t:TypeId)(len:Nat)(ps:List (Nat×AV)):bp:=
 match dA P t A0 len ps (Mem.get m A0)with
 |some r=>r
 |none=>lu P m A0 t len ps
def pv{P:Program}{w:World}{t e:TypeId}{sz len:Nat}{A4:D}(AS:tk P t=.slice e)(T:b7 P e=some sz)(AD:gE P e=some A4)(Y:len*sz<=2^24)
 {vs:List (Nat×Value)} (hi:vs.map (·.1)=List.range' 0 len) (M:∀v∈vs,v.2.cells.size=sz):
 ∃arr:Array Value,arr.toList=vs.flatMap (λv=>v.2.cells.toList)/\(Instr.buildSlice t len vs.toArray).run P w=.ok (.slice (some ⟨w.heap.size,0,none⟩) len len) (w.alloc (.cells arr e)):=by
 obtain⟨z,Z,BT,BU,_⟩:=vF AD w;have V:vs.length=len:=by
  have:=XR List.length hi;simpa using this
 have B2:¬(len*sz>2^24):=by omega
 by_cases A7:len*sz=0
 .obtain⟨out,H,U⟩:=uO sz vs 0 #[] (by rw[V];exact hi) M (by rw[V];simp[A7]);refine⟨out,by simpa using U,?_⟩;simp only[Instr.buildSlice,Sem.run_bind,run_underlying (cR AS),Result.andThen_ok,run_sizeOf T,A7,Yh,show Array.range 0=#[]from rfl,Array.map_empty,H,show ¬(0>2^24) by decide,X3,Sem.run_bind,Sem.run_pure,dy]
 .obtain⟨out,H,U⟩:=uO sz vs 0 ((Array.range (len*sz)).map (z.cells[·%z.cells.size]!)) (by rw[V];exact hi) M (by rw[V];simp);refine⟨out,by simpa using U,?_⟩;simp only[Instr.buildSlice,Sem.run_bind,run_underlying (cR AS),Result.andThen_ok,run_sizeOf T,B2,X3,A7,Z,Sem.run_pure,H,dy]
def y7(P:Program)(S:St)(o:Oper)(t:TypeId)(len:Nat)(ps:Array (Nat×Operand))(AT:o.op=.buildSlice t len ps)(J:∀x∈ps.toList,(S.ag x.2).1=true):
 ak P S o (fL P S.mem (keyOf o) t len (ps.toList.map λx=>(x.1,(S.ag x.2).2))):=by
 have parts:∀{φ G a w},Rel φ G S a w->∀(i:Nat)(p:Nat×AV)(v:Value),(ps.toList.map λx=>(x.1,(S.ag x.2).2))[i]?=some p->(ps.toList.map λx=>a.eval x.2)[i]?=some v->ai φ w (Fo G φ S.mem) p.2 v:=by
  intro φ G a w E i p v H U;simp only[XA,Xj]at H U;obtain⟨x,Aw,rfl⟩:=H;obtain⟨y,Ax,rfl⟩:=U;rw[Aw]at Ax;cases Ax;exact E.ag _ (J x (Xk Aw))
 have main:∀{e sz A4 A},tk P t=.slice e->b7 P e=some sz->gE P e=some A4->lQ (ps.toList.map λx=>(x.1,(S.ag x.2).2))=some A->A4.size=sz->len*sz<=2^24->
  (ps.toList.map λx=>(x.1,(S.ag x.2).2)).map (·.1)=List.range' 0 len->(∀d∈A,d.size=sz)->∀{φ G a w},Rel φ G S a w->
  A.length=len/\∃arr:Array Value,a8 w (Fo G φ S.mem) sz A arr.toList/\(execOp a.eval o).run P w=.ok (.value (.slice (some ⟨w.heap.size,0,none⟩) len len)) (w.alloc (.cells arr e)):=by
  intro e sz A4 A AS T AD A8 AU Y hi A3 φ G a w E;obtain⟨H,U⟩:=vN (φ:=φ) (w:=w) (F:=Fo G φ S.mem) _ A (ps.toList.map λx=>a.eval x.2) A8 (by simp) (parts E);have AE:=vM A _ H A3 U;have B3:(ps.toList.map λx=>(x.1,a.eval x.2)).map (·.1)=List.range' 0 len:=by rw[<-hi];simp
  have M:∀v∈(ps.toList.map λx=>(x.1,a.eval x.2)),v.2.cells.size=sz:=by
   intro v M;simp only[Xt]at M;obtain⟨x,B4,rfl⟩:=M;obtain⟨i,Ay,B5⟩:=Ys.1 B4;have hid:i<A.length:=by rw[H];simpa using Ay
   have:=U i A[i] (a.eval x.2) (by simp[hid]) (by simp[XM Ay,B5]);cases this with|d _ _ h=>rw[h.size];exact A3 _ (XQ hid)
  obtain⟨arr,Af,Z⟩:=pv (P:=P) (w:=w) AS T AD Y B3 M;refine⟨?_,arr,?_,?_⟩
  .have:=XR List.length hi;simp at this;rw[H];simp;exact this
  .rw[Af];have e:(ps.toList.map λx=>(x.1,a.eval x.2)).flatMap (λv=>v.2.cells.toList)=(ps.toList.map λx=>a.eval x.2).flatMap (λv=>v.cells.toList):=by simp[List.flatMap_map]
   rw[e];exact AE
  .have B6:(ps.map λx=>(x.1,a.eval x.2))=(ps.toList.map λx=>(x.1,a.eval x.2)).toArray:=by apply Array.ext';simp
   simp only[execOp,AT,Sem.run_bind];have Ag:(ps.map λ(i,x)=>(i,a.eval x))=(ps.toList.map λx=>(x.1,a.eval x.2)).toArray:=B6;rw[Ag,Z];rfl
 have nil:∀r,dA P t (keyOf o) len (ps.toList.map λx=>(x.1,(S.ag x.2).2)) (Mem.get S.mem (keyOf o))=some r->ak P S o r:=by
  intro r A1;unfold dA at A1;split at A1
  .rename_i key v cont AK AI;split at A1
   .rename_i e AW;split at A1
    .rename_i sz A4 T AD;cases A1;refine ak.jD ?_;rintro ⟨rfl,rfl⟩ φ G a w E;have B7:ps.toList.length=1:=by have:=XR List.length AK;simpa using this
     obtain⟨q,Ah⟩:∃q,ps.toList=[q]:=by
      match BV:ps.toList,B7 with
      |[q],_=>exact⟨q,rfl⟩
     have Ai:=parts E 0 (0,.lit (.slice none 0 0)) (a.eval q.2) (by rw[AK];rfl) (by rw[Ah];rfl);simp only at Ai;have Aj:a.eval q.2=.slice none 0 0:=by
      generalize a.eval q.2=u at Ai;cases Ai;rfl
     have B8:q.1=0:=by
      rw[Ah]at AK;simp only[XU,List.map_nil,List.cons.injEq,XB]at AK;exact AK.1.1
     obtain⟨arr,Af,Z⟩:=pv (P:=P) (w:=w) (len:=1) AW T AD (by decide) (vs:=[(0,.slice none 0 0)]) rfl (by simp[Value.cells]);have AC:arr=#[.slice none 0 0]:=by apply Array.ext';rw[Af];simp[Value.cells]
     subst AC;obtain⟨hm,AF,L,AL,AG,_⟩:=E.mem.get AI;simp only at AF AG;subst AF;obtain⟨φ',Ak,Al,An,Ao⟩:=E.mem.fresh (e:=⟨keyOf o,v,cont⟩) hm AL AG w rfl rfl rfl rfl #[.slice none 0 0] e 1 1 (.box [.lit (.slice none 0 0)]) (λ_ Y=>Y) (λφ' hle B9 Az A9=>by
      refine⟨⟨rfl,rfl,rfl⟩,#[.slice none 0 0],e,.new A9,rfl,by simp[ba],λn c u A2 hu=>?_⟩;cases n with
      |zero=>simp at A2 hu;subst A2;subst hu;exact .lit _ rfl
      |succ n=>simp at A2)
     refine⟨.slice (some ⟨w.heap.size,0,none⟩) 1 1,_,φ',.inl ?_,.vec _ (v+1) 0 _ _ _ An (Ds _) (λ_=>⟨_,_,rfl,Ds _,λ_=>⟨by simp,by simp⟩⟩) rfl,Ak,Al,Ao⟩;have Ag:(ps.map λ(i,x)=>(i,a.eval x))=#[(0,.slice none 0 0)]:=by
      apply Array.ext';simp[Ah,B8,Aj]
     simp only[execOp,AT,Sem.run_bind];rw[Ag];have BA:(Instr.buildSlice t 1 #[(0,Value.slice none 0 0)]).run P w=_:=Z;rw[BA];rfl
    .cases A1
   .cases A1
  .cases A1
 unfold fL;split
 .rename_i r A1;exact nil r A1
 rename_i A1;clear A1 nil;unfold lu;split
 .rename_i e AW;split
  .rename_i sz A4 A T AD A8;split
   .rename_i key v cont AI;refine ak.jD ?_;rintro ⟨AU,Y,hi,A3⟩ φ G a w E;obtain⟨V,arr,AE,Z⟩:=main AW T AD A8 AU Y hi A3 E;obtain⟨hm,AF,L,AL,AG,_⟩:=E.mem.get AI;simp only at AF AG;subst AF;obtain⟨φ',Ak,Al,An,Ao⟩:=E.mem.fresh (e:=⟨keyOf o,v,cont⟩) hm AL AG w rfl rfl rfl rfl arr e sz len (.vec sz A) (λ_ Y=>Y.2) (λφ' hle B9 Az A9=>by
     refine oO (cs:=arr.toList) (rest:=[]) (elem:=e) rfl rfl (AE.mono Az) (by simp) (by simpa using Nat.le_of_eq V) (by rw[X2,AE.1,V]) (λ_=>?_);refine cy.new ?_;rw[A9,X2,YO];rfl)
    exact⟨_,_,φ',.inl Z,.vec _ (v+1) 0 _ _ _ An (Ds _) (λ_=>⟨_,_,rfl,Ds _,λ_=>⟨by simp,by simp⟩⟩) rfl,Ak,Al,Ao⟩
   .refine ak.P8 ?_;rintro ⟨AU,Y,hi,A3⟩ φ G a w E;obtain⟨V,arr,AE,Z⟩:=main AW T AD A8 AU Y hi A3 E;have hold:∀b,b<w.heap.size->(w.alloc (.cells arr e)).heap[b]?=w.heap[b]?:=λb Y=>RowKit.Below.heap_alloc w _ b Y;have A9:=heap_alloc_new w (.cells arr e);refine⟨_,_,.inl Z,.d _ _ ?_,hold,by simp,rfl,rfl,rfl⟩;have:=Ab (cap:=len) AE A9 (rest:=[]) (by simp) (λx v h=>Ac hold (by simp) x v h) (λh=>absurd (uL E.mem _ h) (Nat.lt_irrefl _)) (Nat.le_of_eq V);rw[V]at this;exact this
  .trivial
 .trivial
def lR(s:List UInt8):List D:=s.map λb=>.int .u8 b.toNat
def byteOf:D->UInt8
 | .int _ n=>UInt8.ofNat n.toNat
 |_=>0
def D.isByte:D->Bool
 | .int .u8 _=>true
 |_=>false
def D.E0{d:D}(h:d.isByte=true):∃n,d=.int .u8 n:=by
 unfold D.isByte at h;split at h<;>simp_all
def hE(P:Program)(m:Mem)(A0:Nat)(src dst:TypeId)(x:AV):bp:=
 match tk P dst,x with
 | .int k,.d (.int _ n)=>.val (tk P src≠.other) (.d (.int k (k.wrap n)))
 | .str,.d (.int _ n)=>.val (tk P src≠.other) (.d (.str (Utf8.encode n).data.toList))
 | .str,.d (.str s)=>.val (tk P src=.str) (.d (.str s))
 | .str,x=>match tk P src with
  | .slice e=>match di m 1 x with
   |some (c,A5)=>.val (c/\tk P e=.int .u8/\b7 P e=some 1/\∀d∈A5,d.isByte=true) (.d (.str (A5.map byteOf)))
   |none=>.no
  |_=>.no
 | .slice e,.d (.str s)=>match tk P src,tk P e,Mem.get m A0 with
  | .str,.int .u8,none=>.val True (.d (.list (lR s)))
  |_,_,_=>.no
 |_,_=>.no
def vO{P:Program}{w:World}:∀(cs:List Value)(AM:ByteArray)(W:List Int),cs=W.map (Value.int .u8)->
 (forIn cs AM (λc s=>(match c with| .int .u8 n=>pure (ForInStep.yield (s.push (UInt8.ofNat n.toNat)))|_=>(do stuck "bytesToString: byte expected";pure (ForInStep.yield s)):Sem (ForInStep ByteArray)))).run P w=.ok ⟨(AM.data.toList++W.map λn=>UInt8.ofNat n.toNat).toArray⟩ w
 |[],AM,W,h=>by
  have:W=[]:=by simpa using h.symm
  subst this;simp
 |c::cs,AM,W,h=>by
  cases W with
  |nil=>simp at h
  |cons n W=>
   simp at h;obtain⟨rfl,rfl⟩:=h;simp only[List.forIn_cons,Sem.run_bind,Sem.run_pure,Result.andThen_ok];rw[vO (W.map (Value.int .u8)) (AM.push (UInt8.ofNat n.toNat)) W rfl];simp
def BR{P:Program}{w:World}{e:TypeId}{b:ByteArray}:∃(arr:Array Value)(fr:Nat×Nat)(w':World)(cap:Nat)(rest:List Value),b.size<=cap/\(Conv.stringToBytes e b).run P w=.ok (.slice (some ⟨w.heap.size,0,none⟩) b.size cap) w'/\
 arr.toList=(b.data.toList.map λx=>Value.int .u8 x.toNat)++rest/\w'.heap[w.heap.size]?=some (.cells arr e fr)/\(∀k,k<w.heap.size->w'.heap[k]?=w.heap[k]?)/\w.heap.size<=w'.heap.size/\w'.os=w.os/\w'.tape=w.tape/\w'.output=w.output:=by
 obtain⟨cap,AH⟩:∃cap,cap=(Question.appendCap b.size 0 e).cut (w.tape w.drawn (.appendCap b.size 0 e)):=⟨_,rfl⟩;obtain⟨arr,AC⟩:∃arr:Array Value,arr=(b.data.map λx=>Value.int .u8 x.toNat)++Array.replicate (cap-b.size) (.int .u8 0):=⟨_,rfl⟩;obtain⟨N,AJ⟩:∃N,N=w.drew.alloc (.cells arr e):=⟨_,rfl⟩;have A9:N.heap[w.heap.size]?=some (.cells arr e (0,0)):=by
  have:=heap_alloc_new w.drew (.cells arr e);rw[<-AJ]at this;exact this
 have Ad:w.heap.size<N.heap.size:=(Xv.1 A9).1;have BB:N.shape? w.heap.size=some (e,arr.size):=by simp[World.shape?,A9]
 refine⟨arr,(arr.size,arr.size+1),N.freeze ⟨w.heap.size,arr.size,none⟩ 1,cap,List.replicate (cap-b.size) (.int .u8 0),?_,?_,?_,?_,?_,?_,?_,?_,?_⟩
 .rw[AH];simp[Question.cut]
 .have Ae:(choose (.appendCap b.size 0 e)).run P w=.ok cap w.drew:=by
   rw[AH];rfl
  have BC:(newRow e arr).run P w.drew=.ok ⟨w.heap.size,0,none⟩ N:=by rw[AJ];rfl
  have BD:(markStringish ⟨w.heap.size,0,none⟩).run P N=.ok () (N.freeze ⟨w.heap.size,arr.size,none⟩ 1):=by
   simp only[markStringish,shape,Sem.run_bind,Sem.run,BB,Result.andThen_ok,freeze]
  simp only[Conv.stringToBytes,Sem.run_bind,Ae,Result.andThen_ok,<-AC,BC,BD,Sem.run_pure]
 .rw[AC];simp
 .simp[World.freeze,YA,A9]
 .intro k AF;have H:(N.freeze ⟨w.heap.size,arr.size,none⟩ 1).heap[k]?=N.heap[k]?:=by
   simp only[World.freeze,Nat.one_ne_zero,X3,YA];rw[Xq (by omega)]
  rw[H,AJ];exact RowKit.Below.heap_alloc w.drew _ k AF
 .simp[World.freeze];omega
 .simp[World.freeze,AJ];rfl
 .simp[World.freeze,AJ]
 .simp[World.freeze,AJ];rfl
def Dg(n:Int):byteOf (.int .u8 n)=UInt8.ofNat n.toNat:=rfl
def Cv(P:Program)(S:St)(o:Oper)(src dst:TypeId)(x:Operand)(AT:o.op=.convert src dst x)(J:(S.ag x).1=true):ak P S o (hE P S.mem (keyOf o) src dst (S.ag x).2):=by
 have Z:∀(a:Act)(w w':World)(v:Value),(convert src dst (a.eval x)).run P w=.ok v w'->(execOp a.eval o).run P w=.ok (.value v) w':=by
  intro a w w' v h;simp[execOp,AT,h]
 unfold hE;split
 .rename_i k BW n I A';refine ak.pure λA2 φ G a w E=>?_;have H:=E.ag x J;rw[A']at H;obtain⟨BE,hu⟩:=uN A2;refine⟨.int k (k.wrap n),Z a w w _ ?_,.d _ _ (.int _ _)⟩;rw[eU H];simp[convert,run_underlying hu,run_underlying (pr I),Conv.intToInt]
 .rename_i k n I A';refine ak.pure λA2 φ G a w E=>?_;have H:=E.ag x J;rw[A']at H;obtain⟨BE,hu⟩:=uN A2;refine⟨.string (Utf8.encode n),Z a w w _ ?_,.d _ _ (.str _ _ rfl)⟩;rw[eU H];simp[convert,run_underlying hu,run_underlying (il I),Conv.intToString]
 .rename_i s I A';refine ak.pure λA2 φ G a w E=>?_;have H:=E.ag x J;rw[A']at H;obtain⟨b,Ap,rfl⟩:=lO H;refine⟨.string b,Z a w w _ ?_,.d _ _ (.str _ _ rfl)⟩;rw[Ap];simp[convert,run_underlying (il A2),run_underlying (il I)]
 .rename_i I _ _;split
  .rename_i e AX;split
   .rename_i c A5 AA;refine ak.pure ?_;rintro ⟨A2,AY,BX,AN⟩ φ G a w E;replace AN:=λd I=>D.E0 (AN d I);have A':=E.ag x J;obtain⟨BF,Aq⟩:=zL (P:=P) E.mem A' AA A2 (λd I=>by obtain⟨n,rfl⟩:=AN d I;rfl);have V:=Aq.len w;have AO:=Aq.first w (λ_ _=>rfl);obtain⟨BG,BY,BZ,BH⟩:=Aq.rows
    --B_ cells as numbers
    have AZ:∃W:List Int,BF=W.map (Value.int .u8)/\A5=W.map (D.int .u8):=by
     refine⟨A5.map λd=>(match d with| .int _ n=>n|_=>0),?_,?_⟩
     .apply List.ext_getElem?;intro i;by_cases hi:i<A5.length
      .obtain⟨v,M,BI⟩:=BH i A5[i] (by simp[hi]);obtain⟨n,A_⟩:=AN A5[i] (XQ hi);rw[A_]at M;cases M;have:=BI 0 (.int .u8 n) rfl;simp only[Yv,XZ]at this;rw[this];simp[hi,A_]
      .rw[Yd (by rw[BG];omega),Yd (by simp;omega)]
     .apply List.ext_getElem?;intro i;by_cases hi:i<A5.length
      .obtain⟨n,A_⟩:=AN A5[i] (XQ hi);simp[hi,A_]
      .rw[Yd (by omega),Yd (by simp;omega)]
    obtain⟨W,rfl,rfl⟩:=AZ;generalize Aj:a.eval x=Ar at V AO A';have M:(∃ao m cap,Ar=.slice ao m cap)\/(∃b,Ar=.string b):=by
     cases Ar<;>first|exact .inl ⟨_,_,_,rfl⟩|exact .inr ⟨_,rfl⟩|(simp[Builtin.lenOf,stuck]at V)
    refine⟨.string ⟨(W.map λn=>UInt8.ofNat n.toNat).toArray⟩,Z a w w _ ?_,.d _ _ (.str _ _ ?_)⟩
    .rw[Aj];rcases M with ⟨ao,m,cap,rfl⟩|⟨b,rfl⟩
     .simp only[Builtin.lenOf,Sem.run_pure,Result.ok.injEq,and_true]at V;subst V;cases ao with
      |none=>
       have BJ:W=[]:=by
        simp only[Builtin.firstCells,Sem.run_pure,Result.ok.injEq,and_true]at AO;have:=XR Array.size AO;simp at this;exact XH this.symm
       subst BJ;simp[convert,run_underlying (cR AX),run_underlying (il I),run_underlying (pr AY),Conv.bytesToString];rfl
      |some Ba=>
       simp only[Builtin.firstCells,Yv]at AO;have Y:=vO (P:=P) (w:=w) (W.map (Value.int .u8)) ByteArray.empty W rfl;simp only[convert,run_underlying (cR AX),run_underlying (il I),run_underlying (pr AY),Sem.run_bind,Result.andThen_ok,Conv.bytesToString,AO];rw[<-Array.forIn_toList];simp only[Sem.run_pure];refine Eq.trans (XR (λr=>Result.andThen r λa w'=>Result.ok (Value.string a) w') Y) ?_;rfl
     .exfalso;have AZ:∀s,(S.ag x).2=.d (.str s)->False:=by assumption
      generalize (S.ag x).2=y at AA A' AZ;unfold di at AA;split at AA
      .cases A' with|d _ _ h=>cases h
      .exact AZ _ rfl
      .cases A'
      .cases A'
      .split at AA
       .rename_i key Av Bb rows AI;simp only[Xn,XB]at AA;obtain⟨rfl,_⟩:=AA;obtain⟨_,_,L,AL,AG,_⟩:=E.mem.get AI;cases A' with
        |vec _ _ _ _ _ L' B' _ h _=>
         rw[AL]at B';cases B';obtain⟨_,_,U,_⟩:=h (by rw[<-(XW A2).1];exact AG.symm);cases U
       .cases AA
      .cases AA
    .simp[Dg,Function.comp_def]
   .trivial
  .trivial
 .rename_i e s I A';split
  .rename_i AX AY AI;intro _ φ G a w E;have H:=E.ag x J;rw[A']at H;obtain⟨b,Ap,rfl⟩:=lO H;have BK:b.size=b.data.toList.length:=by rw[Xs];rfl
   obtain⟨arr,fr,w',cap,rest,AH,BL,AC,hh,hold,A3,BM,BN,BO⟩:=BR (P:=P) (w:=w) (e:=e) (b:=b);have AE:a8 w (Fo G φ S.mem) 1 (lR b.data.toList) (b.data.toList.map λx=>Value.int .u8 x.toNat):=by
    refine⟨by simp[lR],?_,?_,?_⟩
    .intro v M;simp only[Xt]at M;obtain⟨y,_,rfl⟩:=M;rfl
    .intro d I;simp only[lR,Xt]at I;obtain⟨y,_,rfl⟩:=I;rfl
    .intro i d I;simp only[lR,XA,Xj]at I;obtain⟨y,BP,rfl⟩:=I;refine⟨.int .u8 y.toNat,.int _ _,λj c AB=>?_⟩;cases j with
     |zero=>simp only[Value.cells]at AB;simp at AB;subst AB;simp only[XA,Yv,XZ,BP];rfl
     |succ j=>simp[Value.cells]at AB
   have O:=Ab (cap:=cap) AE hh AC (λx v h=>Ac hold A3 x v h) (λh=>absurd (uL E.mem _ h) (Nat.lt_irrefl _)) (by simp[lR];exact AH);refine⟨_,w',.inl (Z a w w' _ ?_),.d _ _ O,hold,A3,BM,BN,BO⟩;have V:(lR b.data.toList).length=b.size:=by rw[BK];simp[lR]
   rw[Ap,V];simp only[convert,run_underlying (il AX),run_underlying (cR I),run_underlying (pr AY),Sem.run_bind,Result.andThen_ok];exact BL
  .trivial
 .trivial
def er(S:St):List Operand->Bool
 |[]=>true
 |x::r=>(S.ag x).1&&er S r
def og{S:St}:∀{l:List Operand},er S l=true->∀x∈l,(S.ag x).1=true
 |[],_,x,I=>by grind
 |y::r,h,x,I=>by
  simp[er]at h;rcases Xm.1 I with rfl|I
  .grind
  .exact og h.2 x I
def dj(S:St)(o:Oper):Bool:=
 match o.op with
 | .pick _ _ _=>true
 |op=>er S op.operands.toList
def mJ(P:Program)(m:Mem)(AL:Nat)(t:TypeId)(x:AV):bp:=
 match x with
 | .lit (.slice none 0 0)=>match Mem.get m AL with
  |some ⟨_,v,_⟩=>match tk P t with
   | .slice e=>match b7 P e with
    |some sz=>.bl true (.vec AL (v+1) 0 0) ⟨AL,v+1,.vec sz []⟩
    |none=>.val true x
   |_=>.val true x
  |none=>.val true x
 |x=>.val true x
def Ae(P:Program)(S:St)(o:Oper)(x:Operand)(A:o.op=.move x\/o.op=.assign x)(I:(S.ag x).1=true):ak P S o (mJ P S.mem (keyOf o) o.type (S.ag x).2):=by
 have plain:ak P S o (.val true (S.ag x).2):=by
  have:=JJ P S o x A I;grind
 unfold mJ;split
 .rename_i Z;split
  .rename_i key v cont V;split
   .split
    .rename_i sz A1;intro _ φ G a w H;obtain⟨hm,W,L,O,T,AS⟩:=H.mem.get V;subst W;have A3:=H.ag x I;rw[Z]at A3;generalize BN:a.eval x=u at A3;cases A3;obtain⟨φ',AE,AF,AM,AB⟩:=H.mem.bl (e':=⟨keyOf o,v+1,.vec sz []⟩) hm O rfl (L':=⟨v+1,0,sz,0,0,[],none⟩) (by grind) (λhh=>by grind) rfl
      (w':=w) (λ_ _ _=>rfl) (Ds _) (λ_ A=>absurd A.1 (by simp)) rfl rfl rfl (λφ' BQ Bw=>
       ⟨rfl,by simp,by simp,λN=>by grind⟩)
     refine⟨.slice none 0 0,w,φ',.inl ?_,?_,AE,AF,AB⟩
     .rcases A with A|A<;>simp[execOp,A,BN]
     .exact .vec _ (v+1) 0 _ _ _ AM (Ds _) (λ_=>⟨_,_,rfl,by simp,λh=>by omega⟩) rfl
    grind
   grind
  grind
 grind
def sc:Value->Bool
 | .slice none 0 0=>true
 | .pointer none=>true
 | .nilIface=>true
 |_=>false
def sd(P:Program)(m:Mem)(op:BinOp)(t:TypeId)(x y:AV):bp:=
 match op,x,y with
 | .neq,.ptr k v o,.ptr A7 AG B'=>match Mem.get m k,tk P t with
  |some ⟨_,v0,_⟩,.ptr e=>.val (v0=v/\A7=k/\AG=v/\B'=o/\(b7 P e).isSome=true) (.d (.bool false))
  |_,_=>.no
 |op,x,y=>j9 P op t x y
def K5(P:Program)(m:Mem)(op:BinOp)(t:TypeId)(x:D)(y:AV):sd P m op t (.d x) y=j9 P op t (.d x) y:=by cases op<;>rfl
def uP{P:Program}{t:TypeId}(h:(b7 P t).isSome=true):∃j,P.info? t=some j/\b7 P t=some j.size:=by
 unfold b7 at h⊢;cases hi:P.info? t with
 |none=>simp[hi]at h
 |some j=>exact⟨j,rfl,rfl⟩
def JK(P:Program)(S:St)(o:Oper)(At:BinOp)(t AN:TypeId)(x y:Operand)(A:o.op=.binOp At t x y AN)(I:(S.ag x).1=true)(A8:(S.ag y).1=true):ak P S o (sd P S.mem At t (S.ag x).2 (S.ag y).2):=by
 unfold sd;split
 .rename_i k v CS A7 AG B' Z BR;split
  .rename_i key v0 cont e V B0;refine ak.pure ?_;rintro ⟨rfl,rfl,rfl,rfl,A1⟩ φ G a w H;obtain⟨hm,W,L,O,T,_⟩:=H.mem.get V;have E:=H.ag x I;have J:=H.ag y A8;rw[Z]at E;rw[BR]at J;obtain⟨j,AA,_⟩:=uP A1;refine⟨.bool false,?_,.d _ _ (.bool _)⟩;have AC:=Lib.run_neq_ptr_same (P:=P) w ⟨L.a7,B',none⟩ (zY B0) AA;have V:(eqGuard .neq t x y (.pointer (some ⟨L.a7,B',none⟩)) (.pointer (some ⟨L.a7,B',none⟩))).run P w=.ok () w:=rZ P w _ t x y _ _ (by simp);simp[execOp,A,E.ga O T,J.ga O T,AC,V]
  .trivial
 .exact Cr P S o _ t AN x y A I A8
def lS(P:Program)(S:St)(op:BinOp)(t:TypeId)(x y:Operand):bp:=
 match y with
 | .const v=>match sc v,op with
  |true,.eql=>fk P S.mem false t (S.ag x).2 v
  |true,.neq=>fk P S.mem true t (S.ag x).2 v
  |_,_=>j9 P op t (S.ag x).2 (S.ag (.const v)).2
 |y=>sd P S.mem op t (S.ag x).2 (S.ag y).2
def E2(P:Program)(S:St)(o:Oper)(At:BinOp)(t AN:TypeId)(x y:Operand)(A:o.op=.binOp At t x y AN)(I:(S.ag x).1=true)(A8:(S.ag y).1=true):ak P S o (lS P S At t x y):=by
 unfold lS;split
 .split
  .exact Ct P S o false t AN x _ (by grind) I
  .exact Ct P S o true t AN x _ (by grind) I
  .exact Cr P S o _ t AN x _ A I A8
 .exact JK P S o At t AN x y A I A8
def Af{w:World}{F F':Nat->Prop}{sz:Nat}{AT:List D}{cs:List Value}{b off cap:Nat}(H:a8 w F sz AT cs)(N:∀(j:Nat) v,cs[j]?=some v->w.cell? ⟨b,off+j,none⟩=some v)
 (AC:b<w.heap.size) (B1:∀b,F' b->F b) (BT:¬F' b) (BU:AT.length<=cap):aq w F' (.list AT) (.slice (some ⟨b,off,none⟩) AT.length cap):=by
 obtain⟨E,J,A4,Ab⟩:=H;refine .list AT b off cap sz (λi=>if h:i<AT.length then Classical.choose (Ab i AT[i] (by simp))else undef) BU AC BT A4 (λi d A'=>?_) (λi j c hi AA=>?_)
 .have hi:=(D1.1 A').1;have:=Classical.choose_spec (Ab i AT[i] (by grind));simp[hi];have e:AT[i]=d:=(D1.1 A').2;rw[<-e];exact this.1.mono (λ_ _ _=>rfl) (Ds _) (λb _=>B1 b)
 grind
def uQ{φ w F F'}{k U off len sz:Nat}{rows:List D}{L:Loc}{v:Value}(A3:ai φ w F (.vec k U off len) v)(O:φ k=some L)(T:L.U=U)(N:bt φ w F L (.vec sz rows))(hle:off+len<=rows.length)
 (B1:∀b,F' b->F b) (BT:0<L.cap->¬F' L.a7):aq w F' (.list ((rows.drop off).take len)) v:=by
 have Bx:((rows.drop off).take len).length=len:=by grind
 cases A3 with
 |vec _ _ _ _ _ L' AW _ h _=>
  rw[O]at AW;cases AW;obtain⟨ao,cap,rfl,BV,B2⟩:=h T.symm;by_cases By:len=0
  .subst By;exact .nil _ _ (λY=>by
    grind)
  .obtain⟨arr,elem,hh,Ac,BW,H⟩:=je N (by omega);have Au:=(H.drop off).take len (by grind);have:=Af (F':=F') (b:=L.a7) (off:=L.base+off*L.sz) (cap:=cap) Au (λj u AA=>by
    rw[dt hh,N.1];grind) hh.lt B1 (BT (by omega)) (by omega)
   grind
def Mem.set_set{e e':bk}(W:e'.key=e.key):∀m:Mem,Mem.set (Mem.set m e) e'=Mem.set m e'
 |[]=>rfl
 |x::r=>by
  simp[Mem.set];by_cases h:x.key=e.key
  .rw[Xz h,Xz (by grind)];simp[Mem.set];grind
  .rw[Xq h,Xq (by grind)];simp[Mem.set];rw[Xq (by grind),Mem.set_set W r]
def K6{φ:aQ}{G m w}(h:aE φ G m w){k v sz n:Nat}{rows:List D}(V:Mem.get m k=some ⟨k,v,.vec sz rows⟩){x:Value}(I:ai φ w (Fo G φ m) (.vec k v 0 n) x)(Y:n<=rows.length):
 ∃φ',aE φ' G (Mem.set m ⟨k,v+1,.dead⟩) w/\az φ m w φ' (Mem.set m ⟨k,v+1,.dead⟩) w/\(∀j,j≠k->φ' j=φ j)/\aq w (Fo G φ' (Mem.set m ⟨k,v+1,.dead⟩)) (.list (rows.take n)) x:=by
 obtain⟨hm,_,L,O,T,AS⟩:=h.get V;obtain⟨φ',AE,AF,AM,AB⟩:=h.bl (e:=⟨k,v,.vec sz rows⟩) (e':=⟨k,v+1,.dead⟩) hm O rfl (L':={L with U:=v+1}) (by grind) (λhh=>by grind) rfl
  (w':=w) (λ_ _ _=>rfl) (Ds _) (λ_ A=>A.elim) rfl rfl rfl (λ_ _ _=>trivial)
 have Bz:∀b,ek φ' (Mem.set m ⟨k,v+1,.dead⟩) b->ek φ m b/\∀(_:0<L.cap),b≠L.a7:=by
  rintro b ⟨y,A8,B8,AO,Av⟩;rcases (Mem.mem_set h.nodup).1 A8 with ⟨rfl,_⟩|⟨B9,AH⟩
  .exact Av.elim
  .simp only at AH;rw[AB _ AH]at AO;refine⟨⟨y,B9,B8,AO,Av⟩,λN heq=>AH (h.apart y B9 _ hm B8 L AO O ⟨b,Av,N,heq.symm⟩)⟩
 have:=uQ I O T AS (by omega) (F':=Fo G φ' (Mem.set m ⟨k,v+1,.dead⟩)) (λb=>Or.imp id (λAC=>(Bz b AC).1)) (λN=>by
  rintro (BX|A)
  .exact h.fX _ ⟨_,hm,L,O,N,rfl⟩ BX
  grind)
 grind
def oh(m:Mem)(b:Bool)(AL:Nat):bp->bp
 | .bl c (.vec k v 0 n) ⟨A7,AG,.vec sz rows⟩=>if b=true/\k≠AL/\A7=k/\AG=v/\n<=rows.length/\(Mem.get m k).isSome=true then .bl c (.d (.list (rows.take n))) ⟨k,v+1,.dead⟩else .bl c (.vec k v 0 n) ⟨A7,AG,.vec sz rows⟩
 |r=>r
def Hg{P:Program}{S:St}{o:Oper}{b:Bool}{AL:Nat}{r:bp}(h:ak P S o r):ak P S o (oh S.mem b AL r):=by
 unfold oh;split
 .rename_i c k v n A7 AG sz rows;split
  .rename_i hh;obtain⟨_,_,rfl,rfl,Y,A1⟩:=hh;intro N φ G a w H;obtain⟨x,w',φ',E,J,A4,Ab,Bm⟩:=h N φ G a w H;have BY:A7∈S.mem.map (·.key):=by
    cases V:Mem.get S.mem A7 with
    |none=>grind
    |some e=>
     obtain⟨C',CT⟩:=Mem.get_mem V;grind
   obtain⟨BZ,q1,q2,q3,Bn⟩:=K6 A4 (Mem.get_set_same (x:=⟨A7,AG,.vec sz rows⟩) BY) J Y;rw[Mem.set_set (e:=⟨A7,AG,.vec sz rows⟩) (e':=⟨A7,AG+1,.dead⟩) rfl]at q1 q2 Bn;exact⟨x,w',BZ,E,.d _ _ Bn,q1,Ab.trans q2,λj AA=>by grind⟩
  grind
 grind
def Dh(P:Program)(t:TypeId):AV->bp
 | .lit (.slice none 0 0)=>match tk P t with
  | .slice _=>.val True (.d (.int .i64 0))
  |_=>.no
 |_=>.no
def K7(P:Program)(S:St)(o:Oper)(x:Operand)(t:TypeId)(A:o.op=.call {callee:=.builtin .cap,args:=#[x],argTypes:=#[t]})(I:(S.ag x).1=true):ak P S o (Dh P t (S.ag x).2):=by
 have B_:∀(a:Act)(w:World)(v:Value),(Builtin.cap_ #[t] o.type #[a.eval x]).run P w=.ok v w->(execOp a.eval o).run P w=.ok (.value v) w:=by
  intro a w v h;simp[execOp,A,resolve,invoke,builtin,h]
 unfold Dh;split
 .rename_i Z;split
  .rename_i e B0;refine ak.pure λ_ φ G a w H=>?_;have E:=H.ag x I;rw[Z]at E;generalize A6:a.eval x=av at E;cases E with|lit _ h=>
   refine⟨_,B_ a w (.int .i64 0) ?_,.d _ _ (.int _ _)⟩;rw[A6];simp[Builtin.cap_,run_underlying (cR B0),goInt]
  .trivial
 .trivial
def Ag(m:Mem):AV->bp
 | .vec k U 0 len=>match Mem.get m k with
  |some ⟨_,v,.buf _ _⟩=>.val (v=U/\0<len) (.bb k U 0 0)
  |_=>.no
 |_=>.no
def NO(P:Program)(S:St)(o:Oper)(x:Operand)(t:TypeId)(A:o.op=.call {callee:=.builtin .unsafeSliceData,args:=#[x],argTypes:=#[t]})(I:(S.ag x).1=true):ak P S o (Ag S.mem (S.ag x).2):=by
 unfold Ag;split
 .rename_i k U len Z;split
  .rename_i key v tb AJ V;refine ak.pure ?_;rintro ⟨rfl,B3⟩ φ G a w H;obtain⟨hm,W,L,O,T,AS⟩:=H.mem.get V;have E:=H.ag x I;rw[Z]at E;generalize A6:a.eval x=av at E;cases E with
   |vec _ _ _ _ _ L' AW _ h _=>
    rw[O]at AW;cases AW;obtain⟨ao,cap,rfl,BV,B2⟩:=h T.symm;obtain⟨rfl,_⟩:=B2 (by omega);refine⟨.pointer (some ⟨L.a7,L.base+0*L.sz,none⟩),?_,.bb k v 0 0 _ L O (Nat.le_of_eq T.symm) (λ_=>rfl) rfl⟩;have:=Lib.run_unsafeSliceData_row (P:=P) w #[t] o.type ⟨L.a7,L.base+0*L.sz,none⟩ len cap (by omega);simp[execOp,A,resolve,invoke,builtin,A6]at this⊢;simp[this]
  .trivial
 .trivial
def Ah(P:Program)(m:Mem)(C0:TypeId)(p n:AV):bp:=
 match p,n with
 | .bb k U 0 0,.d (.int .i64 len)=>match Mem.get m k,tk P C0 with
  |some ⟨_,v,.buf tb AJ⟩,.ptr e=>.bl (v=U/\0<AJ.length/\len=AJ.length/\AJ.length<=4611686018427387904/\tb=e/\P.cellsOf e=1) (.d (.str AJ)) ⟨k,U+1,.dead⟩
  |_,_=>.no
 |_,_=>.no
def NP(P:Program)(S:St)(o:Oper)(x y:Operand)(t u:TypeId)(A:o.op=.call {callee:=.builtin .unsafeString,args:=#[x,y],argTypes:=#[t,u]})(I:(S.ag x).1=true)(A8:(S.ag y).1=true):ak P S o (Ah P S.mem t (S.ag x).2 (S.ag y).2):=by
 unfold Ah;split
 .rename_i k U len Z BR;split
  .rename_i key v tb AJ e V B0;refine ak.jD ?_;rintro ⟨rfl,B3,rfl,CU,rfl,C1⟩ φ G a w H;obtain⟨hm,W,L,O,T,⟨Ba,Ad⟩,Bb,BU,Bo,Bc⟩:=H.mem.get V;simp only at W;subst W;have E:=H.ag x I;have J:=H.ag y A8;rw[Z]at E;rw[BR]at J;have AP:=E.fw O T;have Aw:=eU J;have CV:(iW AJ).length=AJ.length:=by simp[iW]
   have Ao:0<L.cap:=by omega
   obtain⟨arr,elem,⟨fr,hh,Bd⟩,Ac,BW,AX⟩:=Bc Ao;rw[Ad Ao]at hh;rw[Ba,Bb]at AP;have Ap:w.shape? L.a7=some (tb,arr.size):=by simp[World.shape?,hh]
   have BA:=Lib.run_unsafeString_row (P:=P) w t u o.type tb (zY B0) C1 L.a7 arr.size Ap AJ (by intro h;simp[h]at B3) (by rw[Ac,Ba,Bb];omega) (by omega) (λj b AA=>by
    obtain⟨q,AD,C2⟩:=AX j (.int .u8 b.toNat) (by simp[iW,AA]);cases AD;have:=C2 0 (.int .u8 b.toNat) rfl;rw[Ba,Bb]at this;rw[cD,rQ hh];simpa using this)
   obtain⟨φ',AE,AF,AM,AB⟩:=H.mem.bl (e':=⟨key,v+1,.dead⟩) hm O rfl (L':={L with U:=v+1}) (by simp only at T⊢;omega) (λhh=>by simp only at T hh;omega) rfl
    (w':=w.freeze ⟨L.a7,0,none⟩ AJ.length) (λb _ Y=>by
     have AH:b≠L.a7:=λh=>Y ⟨Ao,h.symm⟩;simp[World.freeze];grind) (by simp[World.freeze];grind) (λ_ A=>A.elim) (by simp[World.freeze];grind) (by simp[World.freeze];grind) (by simp[World.freeze];grind) (λ_ _ _=>trivial)
   refine⟨.string ⟨AJ.toArray⟩,_,φ',.inl ?_,.d _ _ (.str _ _ (by simp)),AE,AF,AB⟩;have B4:a.eval x=.pointer (some ⟨L.a7,0,none⟩):=by rw[AP]
   simp[execOp,A,resolve,invoke,builtin,B4,Aw,BA]
  .trivial
 .trivial
def eX(P:Program)(S:St)(o:Oper)(b:Builtin)(args:List Operand)(AK:List TypeId):bp:=
 match b,args,AK with
 | .len,[x],[t]=>jt P S.mem t (S.ag x).2
 | .append,[s,x],[t,u]=>oh S.mem (Mem.get S.mem (keyOf o)).isSome (keyOf o) (mm P S.mem (keyOf o) t u (S.ag s).2 (S.ag x).2)
 | .copy,[s,x],[t,_]=>pZ P S.mem t (S.ag s).2 (S.ag x).2
 | .max,args,_=>xu true (args.map λx=>(S.ag x).2)
 | .min,args,_=>xu false (args.map λx=>(S.ag x).2)
 | .cap,[x],[t]=>Dh P t (S.ag x).2
 | .unsafeSliceData,[x],[_]=>Ag S.mem (S.ag x).2
 | .unsafeString,[x,y],[t,_]=>Ah P S.mem t (S.ag x).2 (S.ag y).2
 |_,_,_=>.no
def zeroOf:TK->Option D
 | .int k=>some (.int k 0)
 | .bool=>some (.bool false)
 |_=>none
def BS{t:TK}{z:D}(h:zeroOf t=some z):z.size=1/\∀(w:World)(F:Nat->Prop),∃v,aq w F z v/\v.cells=#[v]/\∀u,aq w F z u->u=v:=by
 cases t with
 |int k=>cases h;exact⟨rfl,λw F=>⟨_,.int k 0,rfl,λu hu=>by cases hu;rfl⟩⟩
 |bool=>cases h;exact⟨rfl,λw F=>⟨_,.bool false,rfl,λu hu=>by cases hu;rfl⟩⟩
 |_=>cases h
def E4:D->AV->Bool
 | .int k n,.d (.int A7 C3)=>k == A7&&n == C3
 | .bool b,.d (.bool C4)=>b == C4
 |_,_=>false
def K8{z:D}{c:AV}(h:E4 z c=true):c=.d z:=by
 unfold E4 at h;split at h<;>simp_all
def Ai(m:Mem)(k n:Nat)(z:D)(zs:List AV):bp:=
 match Mem.get m k with
 |some ⟨_,v,_⟩=>.bl (zs.length=n/\zs.all (E4 z)=true) (.bb k (v+1) 0 0) ⟨k,v+1,.vec 1 (List.replicate n z)⟩
 |none=>.no
def nB(P:Program)(m:Mem)(k:Nat)(t:TypeId):bp:=
 match j6 P t with
 |some (.lit (.pointer none)::.lit (.slice none 0 0)::zs)=>zH m k t (.lit (.slice none 0 0)::zs)
 |some zs=>match tk P t with
  | .arr n e=>if n<=3 then kP m k true zs else match zeroOf (tk P e)with
   |some z=>Ai m k n z zs
   |none=>kP m k true zs
  |_=>kP m k true zs
 |none=>.no
def K9(P:Program)(S:St)(o:Oper)(t:TypeId)(A:o.op=.alloc t)(n:Nat)(BB:D)(Bp:TK)(BC:zeroOf Bp=some BB)(zs:List AV)(AY:j6 P t=some zs):ak P S o (Ai S.mem (keyOf o) n BB zs):=by
 obtain⟨CW,Bq⟩:=BS BC;unfold Ai;split
 .rename_i key v cont V;refine ak.jD ?_;rintro ⟨Y,C5⟩ φ G a w H;obtain⟨z,B_,BD,E,AX⟩:=ij AY w;obtain⟨hm,W,L,O,T,AS⟩:=H.mem.get V;subst W;have C6:∀(w:World)(F:Nat->Prop)(i:Nat) u,z.cells[i]?=some u->aq w F BB u:=by
   intro w' F i u hu;have hi:i<zs.length:=by
    grind
   have A4:=AX φ w (λ_=>False) i zs[i] u (by grind) hu;rw[K8 (XN.1 C5 _ (XQ hi))]at A4;cases A4 with
   |d _ _ Ab=>
    cases Bp with
    |int k=>cases BC;cases Ab;exact .int k 0
    |bool=>cases BC;cases Ab;exact .bool false
    |_=>cases BC
  obtain⟨φ',AE,AF,AM,AB⟩:=H.mem.fresh (e:=⟨keyOf o,v,cont⟩) hm O T w rfl rfl rfl rfl z.cells t 1 n (.vec 1 (List.replicate n BB)) (λ_ AC=>AC.2) (λφ' hle A6 CX Be=>by
   refine⟨rfl,by simp,λd A'=>by grind,λ_=>⟨z.cells,t,cy.new Be,by grind,E,λi d A'=>?_⟩⟩;obtain⟨hi,rfl⟩:=D1.1 A';simp at hi;have Bm:=λw F=>C6 w F i z.cells[i] (by grind);have C':=(Bm w (λ_=>False)).size;refine⟨z.cells[i],by grind,λj c AA=>?_⟩;rw[bX (E _ (by simp))]at AA;grind)
  refine⟨.pointer (some ⟨w.heap.size,0,none⟩),_,φ',.inl ?_,?_,AE,AF,AB⟩
  .simp[execOp,A,Instr.alloc,newVar,dy,B_]
  .exact .bb _ (v+1) 0 0 _ _ AM (Ds _) (λ_=>by simp) rfl
 .trivial
def E5(P:Program)(S:St)(o:Oper)(t:TypeId)(A:o.op=.alloc t):ak P S o (nB P S.mem (keyOf o) t):=by
 unfold nB;split
 .rename_i zs AY;exact EH P S o t A _ AY
 .rename_i zs _ AY;split
  .split
   .exact uM P S o t A zs AY
   .split
    .rename_i Bq;exact K9 P S o t A _ _ _ Bq zs AY
    .exact uM P S o t A zs AY
  .exact uM P S o t A zs AY
 .trivial
def vP(P:Program)(m:Mem)(src dst:TypeId)(k U off:Nat):bp:=
 match Mem.get m k,P.underlying src,P.underlying dst with
 |some ⟨_,v,.box cs⟩,some (.pointer t),some .unsafePointer=>.val (v=U/\off<cs.length/\(b7 P t).isSome=true/\b7 P t≠some 0) (.ptr k U off)
 |some ⟨_,v,.box cs⟩,some .unsafePointer,some (.pointer u)=>match cs[off]? with
  |some (.tn A7 AG t)=>.val (v=U/\A7=k/\AG=v/\(b7 P u).isSome=true/\liesAt P P.depth t (cs.length/P.cellsOf t) off u 1=true) (.ptr k U off)
  |_=>.no
 |_,_,_=>.no
def Hh(P:Program)(S:St)(o:Oper)(src dst:TypeId)(x:Operand)(A:o.op=.convert src dst x)(I:(S.ag x).1=true){k U off:Nat}(Z:(S.ag x).2=.ptr k U off):ak P S o (vP P S.mem src dst k U off):=by
 unfold vP;split
 .rename_i key v cs t V A1 A';refine ak.pure ?_;rintro ⟨rfl,Ax,BD,AH⟩ φ G a w H;obtain⟨hm,W,L,O,T,A5,arr,elem,⟨fr,hh,Bd⟩,Ac,E,AX⟩:=H.mem.get V;have A3:=H.ag x I;rw[Z]at A3;obtain⟨j,AA,Bf⟩:=uP BD;have e:=A3.ga O T;refine⟨_,?_,A3⟩;have Ap:w.shape? L.a7=some (L.ty.getD elem,arr.size):=by simp[World.shape?,hh]
  have:=Lib.run_to_unsafe (P:=P) w ⟨L.a7,off,none⟩ A1 A' AA (by intro h;rw[h]at Bf;exact AH Bf) Ap (by simp only;omega);simp[execOp,A,e,this]
 .rename_i key v cs u V A1 A';split
  .rename_i A7 AG t N;refine ak.pure ?_;rintro ⟨rfl,rfl,rfl,BD,B3⟩ φ G a w H;obtain⟨hm,W,L,O,T,A5,arr,elem,⟨fr,hh,Bd⟩,Ac,E,AX⟩:=H.mem.get V;have A3:=H.ag x I;rw[Z]at A3;obtain⟨j,AA,Bf⟩:=uP BD;have e:=A3.ga O T;have Ad:L.ty=some t:=by
    have hi:=(D1.1 N).1;have Au:=AX off _ arr[off] N (by simp);generalize arr[off]=q at Au;cases Au with
    |tn _ _ _ CY Br _ h=>rw[O]at Br;cases Br;exact h T.symm
   rw[Ad]at hh;refine⟨_,?_,A3⟩;have Ap:w.shape? L.a7=some (t,arr.size):=by simp[World.shape?,hh]
   have:=Lib.run_from_unsafe (P:=P) w ⟨L.a7,off,none⟩ A1 A' AA Ap (by rw[Ac];exact B3);simp[execOp,A,e,this]
  .trivial
 .trivial
def kc(P:Program)(m:Mem)(AL:Nat)(src dst:TypeId)(x:AV):bp:=
 match x with
 | .vec k U off len=>match tk P dst with
  | .slice e=>match decide (src=dst),tk P e,Mem.get m k with
   |true,.int .u8,some ⟨_,v,.vec sz rows⟩=>.bl (decide (v=U/\0<len)) (.vec k U off len) ⟨k,U,.vec sz rows⟩
   |_,_,_=>.no
  |_=>hE P m AL src dst (.vec k U off len)
 | .ptr k U off=>vP P m src dst k U off
 |x=>hE P m AL src dst x
def Hi(P:Program)(S:St)(o:Oper)(src dst:TypeId)(x:Operand)(A:o.op=.convert src dst x)(I:(S.ag x).1=true):ak P S o (kc P S.mem (keyOf o) src dst (S.ag x).2):=by
 unfold kc;split
 .rename_i k U off len Z;split
  .rename_i e A';split
   .rename_i key v sz rows Bg C7 V;refine ak.jD ?_;rintro ⟨rfl,Bx⟩ φ G a w H;have Bg:src=dst:=XW Bg;subst Bg;obtain⟨hm,W,L,O,T,AS⟩:=H.mem.get V;subst W;have A3:=H.ag x I;rw[Z]at A3;have C8:=A3;generalize BN:a.eval x=CZ at A3 C8;cases A3 with
    |vec _ _ _ _ _ L' AW _ h C9=>
     rw[O]at AW;cases AW;obtain⟨ao,cap,rfl,BV,B2⟩:=h T.symm;obtain⟨rfl,BU⟩:=B2 (by omega);have Ao:0<L.cap:=by omega
     obtain⟨CA,CB,Bo,Bc⟩:=AS;obtain⟨arr,elem,⟨fr,hh,Bd⟩,Ac,BW,AX⟩:=Bc Ao;obtain⟨w',Aq⟩:∃w',w'=w.freeze ⟨L.a7,arr.size,none⟩ 1:=⟨_,rfl⟩;have Be:cy w' L.a7 arr (L.ty.getD elem):=by
      obtain⟨lo,hi⟩:=fr;rw[Aq];by_cases he:lo=hi
      .refine⟨(arr.size,arr.size+1),?_,.inr (Ds _)⟩;simp[World.freeze,YA,hh,he]
      .refine⟨(min lo arr.size,max hi (arr.size+1)),?_,?_⟩
       .simp[World.freeze,YA,hh,he]
       grind
     have hold:∀b,b≠L.a7->w'.heap[b]?=w.heap[b]?:=by
      rw[Aq];simp[World.freeze];grind
     have C_:w'.heap.size=w.heap.size:=by rw[Aq];simp[World.freeze]
     have Bh:w'.os=w.os:=by rw[Aq];simp[World.freeze]
     have CC:w'.tape=w.tape:=by rw[Aq];simp[World.freeze]
     have CD:w'.output=w.output:=by rw[Aq];simp[World.freeze]
     have BY:Fo G φ S.mem L.a7:=.inr ⟨_,hm,L,O,Ao,rfl⟩;obtain⟨φ',AE,AF,AM,AB⟩:=H.mem.bl (e:=⟨key,v,.vec sz rows⟩) (e':=⟨key,v,.vec sz rows⟩) hm O rfl (L':=L) (Ds _) (λ_=>rfl) T
      (w':=w') (λb _ Y=>hold b (λhe=>Y ⟨Ao,he.symm⟩)) (by omega) (λ_ A=>.inl A) Bh CC CD (λφ' BQ Bw=>by
       have B1:∀b,Fo G φ' (Mem.set S.mem ⟨key,v,.vec sz rows⟩) b->Fo G φ S.mem b:=by
        rintro b (BX|⟨y,A8,B8,AO,Av⟩)
        .exact .inl BX
        .right;rcases (Mem.mem_set H.mem.nodup).1 A8 with ⟨rfl,_⟩|⟨B9,AH⟩
         .rw[BQ]at AO;simp at AO;subst AO;exact⟨_,hm,L,O,Av⟩
         .rw[BQ]at AO;simp[AH]at AO;exact⟨y,B9,B8,AO,Av⟩
       exact⟨CA,CB,Bo,λ_=>⟨arr,elem,Be,Ac,BW,λi d A'=>let ⟨u,hu,AA⟩:=AX i d A'
        ⟨u,hu.mono (λb _ Y=>hold b (λhe=>Y (he▸BY))) (by omega) (λb _=>B1 b),AA⟩⟩⟩)
     refine⟨.slice (some ⟨L.a7,L.base+off*L.sz,none⟩) len cap,w',φ',.inl ?_,.vec key v off len _ L AM (Nat.le_of_eq T.symm) (λ_=>⟨_,_,rfl,BV,B2⟩) C9,AE,AF,AB⟩;have Ap:w.shape? L.a7=some (L.ty.getD elem,arr.size):=by simp[World.shape?,hh]
     have CE:(markStringish ⟨L.a7,L.base+off*L.sz,none⟩).run P w=.ok () w':=by
      simp[markStringish,Sem.run,Ap,Aq]
     simp[execOp,A,BN,convert,run_underlying (cR A'),run_underlying (pr C7),CE]
   .trivial
  .rw[<-Z];exact Cv P S o src dst x A I
 .rename_i Z;exact Hh P S o src dst x A I Z
 .exact Cv P S o src dst x A I
def Aj(P:Program)(s:TypeId)(f:Nat):Option TypeId:=
 match P.underlying s with
 |some (.struct fs)=>match fs[f]? with
  |some fl=>some fl.type
  |none=>none
 |_=>none
def pw(P:Program)(s:TypeId)(x:AV)(f:Nat):bp:=
 match x with
 | .d (.agg cs)=>match pS P s f,Aj P s f with
  |some off,some e=>match (tk P e).agg,b7 P e with
   |false,some 1=>.val (off<cs.length/\tk P e≠.other) (.d (D.at cs off))
   |true,some sz=>.val (off+sz<=cs.length) (.d (.agg ((cs.drop off).take sz)))
   |_,_=>.no
  |_,_=>.no
 | .agg cs=>match pS P s f,Aj P s f with
  |some off,some e=>match (tk P e).agg,b7 P e,cs[off]? with
   |false,some 1,some c=>.val (tk P e≠.other) c
   |_,_,_=>.no
  |_,_=>.no
 |_=>.no
def ye{P:Program}{s:TypeId}{f off:Nat}{e:TypeId}(h:pS P s f=some off)(he:Aj P s f=some e):∃fs fl,P.underlying s=some (.struct fs)/\fs[f]?=some fl/\fl.offset=off/\fl.type=e:=by
 unfold pS at h;unfold Aj at he;grind
def E6(P:Program)(S:St)(o:Oper)(s:TypeId)(x:Operand)(f:Nat)(A:o.op=.field s x f)(I:(S.ag x).1=true):ak P S o (pw P s (S.ag x).2 f):=by
 unfold pw;split
 .rename_i cs Z;split
  .rename_i off e Bi Ad;obtain⟨fs,fl,BE,BF,rfl,rfl⟩:=ye Bi Ad;split
   .rename_i B5 A1;refine ak.pure ?_;rintro ⟨B3,AH⟩ φ G a w H;have E:=H.ag x I;rw[Z]at E;generalize A6:a.eval x=av at E;cases E with|d _ _ E=>
    cases E with|agg _ AQ Bs CF BG=>
    refine⟨AQ[fl.offset],?_,.d _ _ (BG fl.offset _ _ (getD_at (by omega)) (by grind))⟩;have A2:=nw (P:=P) (w:=w) (t:=fl.type) (cs:=AQ) (off:=fl.offset) B5 AH (v:=AQ[fl.offset]) (by grind);simp[execOp,A,A6,Instr.field,run_underlying BE,BF,asAgg,A2]
   .rename_i sz B5 A1;refine ak.pure ?_;rintro hle φ G a w H;have E:=H.ag x I;rw[Z]at E;generalize A6:a.eval x=av at E;cases E with|d _ _ E=>
    have CG:=E;cases E with|agg _ AQ Bs CF BG=>
    refine⟨_,?_,.d _ _ (rp CG fl.offset sz hle)⟩;have A2:=yc (P:=P) (w:=w) (t:=fl.type) (cs:=AQ) (off:=fl.offset) B5 A1;simp[execOp,A,A6,Instr.field,run_underlying BE,BF,asAgg,A2]
   .trivial
  .trivial
 .rename_i cs Z;split
  .rename_i off e Bi Ad;obtain⟨fs,fl,BE,BF,rfl,rfl⟩:=ye Bi Ad;split
   .rename_i c B5 A1 N;refine ak.pure ?_;rintro AH φ G a w H;have E:=H.ag x I;rw[Z]at E;generalize A6:a.eval x=av at E;cases E with|agg _ AQ Bs Ca BG=>
    have Cb:fl.offset<AQ.size:=by grind
    refine⟨AQ[fl.offset],?_,BG fl.offset c _ N (by grind)⟩;have A2:=nw (P:=P) (w:=w) (t:=fl.type) (cs:=AQ) (off:=fl.offset) B5 AH (v:=AQ[fl.offset]) (by grind);simp[execOp,A,A6,Instr.field,run_underlying BE,BF,asAgg,A2]
   .trivial
  .trivial
 .trivial
def tB(P:Program)(x:AV)(asserted:TypeId)(ok:Bool):bp:=
 match x with
 | .dF t d=>match decide (t=asserted),ok with
  |true,true=>.val (tk P asserted≠.other/\tk P asserted≠.iface) (.bc [.d d,.d (.bool true)])
  |true,false=>.val (tk P asserted≠.other/\tk P asserted≠.iface) (.d d)
  |_,_=>.no
 |_=>.no
def Lc{P:Program}{t:TypeId}(h:tk P t≠.other)(J:tk P t≠.iface):∃d,P.underlying t=some d/\∀ms,d≠.interface ms:=by
 unfold tk at h J;grind
def vQ{P:Program}{w:World}{t CH asserted:TypeId}{v:Value}{ok:Bool}(h:tk P asserted≠.other)(J:tk P asserted≠.iface)(AI:t=asserted):
 (Instr.typeAssert (.iface t v) CH asserted ok).run P w=.ok (if ok then .tuple #[v,.bool true]else v) w:=by
 obtain⟨d,A',Y⟩:=Lc h J;simp[Instr.typeAssert,run_underlying A'];simp_all
def E7(P:Program)(S:St)(o:Oper)(x:Operand)(Bj asserted:TypeId)(ok:Bool)(A:o.op=.typeAssert x Bj asserted ok)(I:(S.ag x).1=true):ak P S o (tB P (S.ag x).2 asserted ok):=by
 unfold tB;split
 .rename_i t d Z;split
  .have AI:t=asserted:=by grind
   refine ak.pure ?_;rintro ⟨E,J⟩ φ G a w H;have AU:=H.ag x I;rw[Z]at AU;generalize A6:a.eval x=av at AU;cases AU with|dF _ _ v A'=>
   refine⟨.tuple #[v,.bool true],by simp[execOp,A,A6,vQ E J AI],.bc _ _ rfl λi c u N hu=>?_⟩;match i,N,hu with
   |0,N,hu=>simp at N hu;subst N hu;exact .d _ _ A'
   |1,N,hu=>simp at N hu;subst N hu;exact .d _ _ (.bool _)
   |i+2,N,hu=>grind
  .have AI:t=asserted:=by grind
   refine ak.pure ?_;rintro ⟨E,J⟩ φ G a w H;have AU:=H.ag x I;rw[Z]at AU;generalize A6:a.eval x=av at AU;cases AU with|dF _ _ v A'=>
   exact⟨v,by simp[execOp,A,A6,vQ E J AI],.d _ _ A'⟩
  .trivial
 .trivial
def nC(P:Program)(m:Mem)(k:Nat)(t:TypeId)(x:AV):bp:=
 match tk P t,x,Mem.get m k with
 | .str,.d (.str s),some ⟨_,v,_⟩=>.bl true (.ptr k (v+1) 0) ⟨k,v+1,.ej s 0⟩
 |_,_,_=>.no
def p7(m:Mem)(b:Bool)(x:AV):bp:=
 match b,x with
 |true,.ptr k U 0=>match Mem.get m k with
  |some ⟨_,v,.ej s pos⟩=>if pos<s.length then .bl (v=U/\(fR s pos).toNat<128) (.bc [.d (.bool true),.d (.int .i64 pos),.d (.int .i32 (fR s pos).toNat)]) ⟨k,U,.ej s (pos+1)⟩
   else .val (v=U) (.bc [.d (.bool false)])
  |_=>.no
 |_,_=>.no
def Hj(P:Program)(S:St)(o:Oper)(t:TypeId)(x:Operand)(A:o.op=.range t x)(I:(S.ag x).1=true):ak P S o (nC P S.mem (keyOf o) t (S.ag x).2):=by
 unfold nC;split
 .rename_i s key v cont AI Z V;intro N φ G a w H;obtain⟨hm,W,L,O,T,AS⟩:=H.mem.get V;simp only at W T;subst W;have E:=H.ag x I;rw[Z]at E;obtain⟨b,AP,rfl⟩:=lO E;obtain⟨φ',AE,AF,AM,AB⟩:=H.mem.bl (e':=⟨keyOf o,v+1,.ej b.data.toList 0⟩) hm O rfl (L':=⟨v+1,w.heap.size,1,0,0,[],none⟩) (by simp only;omega) (λhh=>by simp only at hh;omega) rfl
   (w':=w.iter b 0) (λb AC _=>RowKit.Below.heap_alloc w _ b AC) (by simp[World.iter]) (λb A=>.inr (Nat.le_of_eq A)) rfl rfl rfl (λ_ _ _=>World.iter_heap w b 0)
  refine⟨.pointer (some ⟨w.heap.size,0,none⟩),_,φ',.inl ?_,.ptr _ (v+1) 0 _ _ AM (Ds _) (λ_=>rfl) rfl,AE,AF,AB⟩;simp[execOp,A,AP,run_range_string w t b (il AI)]
 .trivial
def JL(P:Program)(S:St)(o:Oper)(b:Bool)(x:Operand)(A:o.op=.next x b)(I:(S.ag x).1=true):ak P S o (p7 S.mem b (S.ag x).2):=by
 unfold p7;split
 .rename_i k U Z;split
  .rename_i key v s pos V;have run:∀{φ G}{a:Act}{w:World},Rel φ G S a w->v=U->∃L,φ k=some L/\L.U=v/\(⟨k,v,.ej s pos⟩:bk)∈S.mem/\w.heap[L.a7]?=some (.stringIter ⟨s.toArray⟩ pos)/\a.eval x=.pointer (some ⟨L.a7,0,none⟩):=by
    intro φ G a w H e;subst e;obtain⟨hm,W,L,O,T,AS⟩:=H.mem.get V;simp only at W T;subst W;have E:=H.ag x I;rw[Z]at E;exact⟨L,O,T,hm,AS,E.ga O T⟩
   split
   .rename_i Ax;refine ak.jD ?_;rintro ⟨rfl,A9⟩ φ G a w H;obtain⟨L,O,T,hm,hh,AP⟩:=run H rfl;have A1:pos<(⟨s.toArray⟩:ByteArray).size:=by simpa [ByteArray.size]using Ax
    have Aw:((⟨s.toArray⟩:ByteArray)[pos]'A1)=fR s pos:=by
     simp[fR,Ax,ByteArray.getElem_eq_getElem_data]
    have BA:=Lib.run_next_ascii_at (P:=P) w L.a7 ⟨s.toArray⟩ pos o.type hh A1 (by rw[Aw];exact A9);rw[Aw]at BA;obtain⟨φ',AE,AF,AM,AB⟩:=H.mem.bl (e':=⟨k,v,.ej s (pos+1)⟩) hm O rfl (L':=L) (Ds _) (λ_=>rfl) T
     (w':=w.iterAt L.a7 ⟨s.toArray⟩ (pos+1)) (λb _ Y=>Lib.iterAt_other w L.a7 b _ _ (λh=>Y h.symm)) (by rw[Lib.iterAt_size];exact Ds _) (λ_ h=>.inl h) rfl rfl rfl (λ_ _ _=>Lib.iterAt_heap w L.a7 _ pos (pos+1) hh)
    refine⟨_,_,φ',.inl (by simp[execOp,A,AP,BA];rfl),.bc _ _ rfl (λi c u N hu=>?_),AE,AF,AB⟩;match i,N,hu with
    |0,N,hu=>cases N;cases hu;exact .d _ _ (.bool _)
    |1,N,hu=>cases N;cases hu;exact .d _ _ (.int _ _)
    |2,N,hu=>cases N;cases hu;exact .d _ _ (.int _ _)
   .rename_i Ax;refine ak.pure ?_;rintro rfl φ G a w H;obtain⟨L,O,T,hm,hh,AP⟩:=run H rfl;have A1:¬pos<(⟨s.toArray⟩:ByteArray).size:=by simpa [ByteArray.size]using Ax
    refine⟨.tuple #[.bool false],by simp[execOp,A,AP,Lib.run_next_end_at (P:=P) w L.a7 ⟨s.toArray⟩ pos o.type hh A1],.bc _ _ rfl (λi c u N hu=>?_)⟩;match i,N,hu with
    |0,N,hu=>cases N;cases hu;exact .d _ _ (.bool _)
  .trivial
 .trivial
def zj(P:Program)(g:FuncId):Bool:=
 match P.funcs[g]? with
 |some fn=>fn.name == "internal/abi.NoEscape" &&(fn.origin == "" &&fn.body.isNone)
 |none=>false
def Ak(P:Program)(S:St)(g:FuncId)(args:List Operand)(AK:List TypeId):bp:=
 match args,AK with
 |[x],[t]=>match tk P t with
  | .other=>match zj P g with
   |true=>.val True (S.ag x).2
   |false=>.no
  |_=>.no
 |_,_=>.no
def Ld(P:Program)(S:St)(o:Oper)(g:FuncId)(x:Operand)(t:TypeId)(A:o.op=.call {callee:=.value (.func g),args:=#[x],argTypes:=#[t]})(I:(S.ag x).1=true)(Y:zj P g=true):ak P S o (.val True (S.ag x).2):=by
 refine ak.pure λ_ φ G a w H=>⟨a.eval x,?_,H.ag x I⟩;unfold zj at Y;split at Y
 .rename_i fn Bk;simp only[Xl,beq_iff_eq]at Y;obtain⟨E,J,A4⟩:=Y;have AP:Extern.findNext fn=none:=by
   unfold Extern.findNext;rw[E,J];have q1:Extern.allNextRows.lookup "internal/abi.NoEscape" =none:=by kernel_rfl
   have q2:Extern.allNextRows.lookup "" =none:=by kernel_rfl
   simp only[q1,q2];rfl
  have Aw:Extern.find fn=some Extern.AbiNoEscape.same:=by
   unfold Extern.find;rw[E,J];have q1:Extern.allGenericRows.lookup "internal/abi.NoEscape" =none:=by kernel_rfl
   have q2:Extern.allTypedRows.lookup "internal/abi.NoEscape" =none:=by kernel_rfl
   have q3:Extern.allRows.lookup "internal/abi.NoEscape" =some Extern.AbiNoEscape.same:=by kernel_rfl
   simp only[q1,q2,q3];rfl
  have:=run_callFunc_extern (w:=w) Bk (by rw[E];rfl) A4 AP Aw #[a.eval x];rw[Lib.run_noEscape]at this;have B4:a.eval (.func g)=.func (.func g) #[] #[]:=rfl;simp[execOp,A,resolve,invoke,B4,Deferred.ofValue,this]
 .cases Y
def bu(P:Program)(S:St)(o:Oper):bp:=
 match o.op with
 | .move x=>mJ P S.mem (keyOf o) o.type (S.ag x).2
 | .assign x=>mJ P S.mem (keyOf o) o.type (S.ag x).2
 | .pick c a b=>zi (S.ag c) (S.ag a) (S.ag b)
 | .alloc t=>nB P S.mem (keyOf o) t
 | .box _ x=>kP S.mem (keyOf o) (S.ag x).2.gu (S.ag x).2.cells
 | .load t x=>gW P S.mem t (S.ag x).2
 | .store t p x=>j5 P S.mem t (S.ag p).2 (S.ag x).2
 | .fieldAddr s x f=>jM P S.mem s f (S.ag x).2
 | .nilCheck x=>eN S.mem (S.ag x).2
 | .indexAddr t x i=>iq P S.mem t (S.ag x).2 (S.ag i).2
 | .index t x i=>kS P t (S.ag x).2 (S.ag i).2
 | .slice t x lo hi none=>gg P S.mem t (S.ag x).2 (lo.map λy=>(S.ag y).2) (hi.map λy=>(S.ag y).2)
 | .binOp op t x y _=>lS P S op t x y
 | .unOp op _ x=>z7 op (S.ag x).2
 | .convert s d x=>kc P S.mem (keyOf o) s d (S.ag x).2
 | .makeInterface t x=>mI P t (S.ag x).2
 | .makeFunc f first cap=>jN f (first.toList.map λx=>(S.ag x).2) (cap.toList.map λx=>(S.ag x).2)
 | .makeSlice t l c=>pY P S.mem (keyOf o) t (S.ag l).2 (S.ag c).2
 | .build t ps=>vL P t (ps.toList.map λx=>(x.1,(S.ag x.2).2))
 | .buildSlice t len ps=>fL P S.mem (keyOf o) t len (ps.toList.map λx=>(x.1,(S.ag x.2).2))
 | .extract x i=>nz i (S.ag x).2
 | .field s x f=>pw P s (S.ag x).2 f
 | .typeAssert x _ t ok=>tB P (S.ag x).2 t ok
 | .call {callee:=.builtin b,args,argTypes}=>eX P S o b args.toList argTypes.toList
 | .call {callee:=.value (.func g),args,argTypes}=>Ak P S g args.toList argTypes.toList
 | .range t x=>nC P S.mem (keyOf o) t (S.ag x).2
 | .next x b=>p7 S.mem b (S.ag x).2
 |_=>.no
def Al(P:Program)(S:St)(o:Oper)(h:dj S o=true):ak P S o (bu P S o):=by
 unfold dj at h;unfold bu;have one:∀{l:List Operand},er S l=true->∀x∈l,(S.ag x).1=true:=og;split
 .rename_i x A;simp only[A]at h;exact Ae P S o x (.inl A) (one h x (by simp[Op.operands]))
 .rename_i x A;simp only[A]at h;exact Ae P S o x (.inr A) (one h x (by simp[Op.operands]))
 .rename_i c a b A;exact JI P S o c a b A
 .rename_i t A;exact E5 P S o t A
 .rename_i t x A;simp only[A]at h;exact KJ P S o t x A (one h x (by simp[Op.operands]))
 .rename_i t x A;simp only[A]at h;exact (Ci P S o t x A (one h x (by simp[Op.operands]))).res
 .rename_i t p x A;simp only[A]at h;exact G6 P S o t p x A (one h p (by simp[Op.operands])) (one h x (by simp[Op.operands]))
 .rename_i s x f A;simp only[A]at h;exact Hb P S o s x f A (one h x (by simp[Op.operands]))
 .rename_i x A;simp only[A]at h;exact BO P S o x A (one h x (by simp[Op.operands]))
 .rename_i t x i A;simp only[A]at h;exact Hc P S o t x i A (one h x (by simp[Op.operands])) (one h i (by simp[Op.operands]))
 .rename_i t x i A;simp only[A]at h;exact EV P S o t x i A (one h x (by simp[Op.operands])) (one h i (by simp[Op.operands]))
 .rename_i t x lo hi A;simp only[A]at h;exact He P S o t x lo hi A (one h x (by simp[Op.operands])) (λy A8=>one h y (by simp[Op.operands,A8])) (λy A8=>one h y (by simp[Op.operands,A8]))
 .rename_i op t x y AN A;simp only[A]at h;exact E2 P S o op t AN x y A (one h x (by simp[Op.operands])) (one h y (by simp[Op.operands]))
 .rename_i op t x A;simp only[A]at h;exact NN P S o op t x A (one h x (by simp[Op.operands]))
 .rename_i s d x A;simp only[A]at h;exact Hi P S o s d x A (one h x (by simp[Op.operands]))
 .rename_i t x A;simp only[A]at h;exact z8 P S o t x A (one h x (by simp[Op.operands]))
 .rename_i f first cap A;simp only[A]at h;exact BP P S o f first cap A (λx I=>one h x (by simp[Op.operands];left;simpa using I)) (λx I=>one h x (by simp[Op.operands];right;simpa using I))
 .rename_i t l c A;simp only[A]at h;exact JE P S o t l c A (one h l (by simp[Op.operands])) (one h c (by simp[Op.operands]))
 .rename_i t ps A;simp only[A]at h;exact Hf P S o t ps A (λx I=>one h x.2 (by simp only[Op.operands,List.toList_toArray,Xt];exact⟨x,I,rfl⟩))
 .rename_i t len ps A;simp only[A]at h;exact y7 P S o t len ps A (λx I=>one h x.2 (by simp only[Op.operands,List.toList_toArray,Xt];exact⟨x,I,rfl⟩))
 .rename_i x i A;simp only[A]at h;exact Df P S o x i A (one h x (by simp[Op.operands]))
 .rename_i s x f A;simp only[A]at h;exact E6 P S o s x f A (one h x (by simp[Op.operands]))
 .rename_i x Bj t ok A;simp only[A]at h;exact E7 P S o x Bj t ok A (one h x (by simp[Op.operands]))
 .rename_i b args AK A;simp only[A]at h;have A9:∀x∈args.toList,(S.ag x).1=true:=λx I=>one h x (by simp[Op.operands,Call.operands];simpa using I);have AZ:∀{l:List Operand},args.toList=l->args=l.toArray:=λh=>by rw[<-h]
  have A_:∀{l:List TypeId},AK.toList=l->AK=l.toArray:=λh=>by rw[<-h]
  unfold eX;split
  .rename_i x t E J;rw[AZ E,A_ J]at A;exact K0 P S o x t A (A9 x (by simp[E]))
  .rename_i s x t u E J;rw[AZ E,A_ J]at A;exact Hg <| KV P S o s x t u A (A9 s (by simp[E])) (A9 x (by simp[E]))
  .rename_i s x t u E J;rw[AZ E,A_ J]at A;exact JF P S o s x t u A (A9 s (by simp[E])) (A9 x (by simp[E]))
  .exact EX P S o true args AK (by simpa using A) A9
  .exact EX P S o false args AK (by simpa using A) A9
  .rename_i x t E J;rw[AZ E,A_ J]at A;exact K7 P S o x t A (A9 x (by simp[E]))
  .rename_i x t E J;rw[AZ E,A_ J]at A;exact NO P S o x t A (A9 x (by simp[E]))
  .rename_i x y t u E J;rw[AZ E,A_ J]at A;exact NP P S o x y t u A (A9 x (by simp[E])) (A9 y (by simp[E]))
  .trivial
 .rename_i g args AK A;simp only[A]at h;have A9:∀x∈args.toList,(S.ag x).1=true:=λx I=>one h x (by simp[Op.operands,Call.operands];right;simpa using I);have AZ:∀{l:List Operand},args.toList=l->args=l.toArray:=λh=>by rw[<-h]
  have A_:∀{l:List TypeId},AK.toList=l->AK=l.toArray:=λh=>by rw[<-h]
  unfold Ak;split
  .rename_i x t E J;rw[AZ E,A_ J]at A;split
   .split
    .exact Ld P S o g x t A (A9 x (by simp[E])) (by assumption)
    .trivial
   .trivial
  .trivial
 .rename_i t x A;simp only[A]at h;exact Hj P S o t x A (one h x (by simp[Op.operands]))
 .rename_i x b A;simp only[A]at h;exact JL P S o b x A (one h x (by simp[Op.operands]))
 .trivial
inductive XE where
 |normal
 |exit (id:Nat)
 |ret
 |panic (t:TypeId) (x:D)
def iY(n:Nat)(φ:aQ)(G:Fr)(m:Mem)(w:World)(Q:XE->St->Prop):Exit->Act->World->Prop
 | .normal,A0,w'=>∃φ' M,M.n=n/\Q .normal M/\Rel φ' G M A0 w'/\az φ m w φ' M.mem w'
 | .exit id,A0,w'=>∃φ' M,M.n=n/\Q (.exit id) M/\Rel φ' G M A0 w'/\az φ m w φ' M.mem w'
 | .ret,A0,w'=>∃φ' M,M.n=n/\Q .ret M/\Rel φ' G M A0 w'/\az φ m w φ' M.mem w'
 | .panic chain,A0,w'=>∃φ' M t x v,chain=[{v:=.iface t v,recovered:=false}]/\aq w' (Fo G φ' M.mem) x v/\M.n=n/\Q (.panic t x) M/\Rel φ' G M A0 w'/\az φ m w φ' M.mem w'
 |_,_,_=>False
def iY.weaken{n φ G m w Q Ar m1 Aa e A0 w'}(W:az φ m w Ar m1 Aa)(h:iY n Ar G m1 Aa Q e A0 w'):iY n φ G m w Q e A0 w':=by
 cases e with
 |normal=>obtain⟨φ',M,A5,E,J,A4⟩:=h;exact⟨φ',M,A5,E,J,W.trans A4⟩
 |exit id=>obtain⟨φ',M,A5,E,J,A4⟩:=h;exact⟨φ',M,A5,E,J,W.trans A4⟩
 |ret=>obtain⟨φ',M,A5,E,J,A4⟩:=h;exact⟨φ',M,A5,E,J,W.trans A4⟩
 |panic chain=>obtain⟨φ',M,t,x,v,N,A',A5,E,J,A4⟩:=h;exact⟨φ',M,t,x,v,N,A',A5,E,J,W.trans A4⟩
 |_=>exact h.elim
def iY.mono{n φ G m w Q B6 e A0 w'}(AD:∀e S,Q e S->B6 e S)(h:iY n φ G m w Q e A0 w'):iY n φ G m w B6 e A0 w':=by
 cases e with
 |normal=>obtain⟨φ',M,A5,E,J⟩:=h;exact⟨φ',M,A5,AD _ _ E,J⟩
 |exit id=>obtain⟨φ',M,A5,E,J⟩:=h;exact⟨φ',M,A5,AD _ _ E,J⟩
 |ret=>obtain⟨φ',M,A5,E,J⟩:=h;exact⟨φ',M,A5,AD _ _ E,J⟩
 |panic chain=>obtain⟨φ',M,t,x,v,N,A',A5,E,J⟩:=h;exact⟨φ',M,t,x,v,N,A',A5,AD _ _ E,J⟩
 |_=>exact h.elim
def iv(P:Program)(c:Code)(S:St)(Q:XE->St->Prop):Prop:=
 ∀φ G a w,Rel φ G S a w->c.wp P (iY S.n φ G S.mem w Q) a w
def ke(all:List Oper)(S:St)(j:Nat):Option (Bool×AV):=
 match all[j]? with
 |some o=>match o.dst with
  |some t=>Env.lk S.env t
  |none=>none
 |none=>none
def fC(n:Nat)(ops:List Oper):Bool:=ops.all λo=>match o.dst with|some t=>decide (t<n)|none=>true
def hH(S:St)(d g x):(S.put d g x).n=S.n:=by cases d<;>rfl
def cH(S:St)(d g x):(S.put d g x).mem=S.mem:=by cases d<;>rfl
def uc.step{P:Program}{o:Oper}{a:Act}{w w':World}{v:Value}{next R}(h:uc P o a w v w')(Y:next (a.put o.dst v) w'):o.wp P a w next R:=by
 unfold Oper.wp;rcases h with h|⟨h,rfl⟩<;>rw[h]<;>exact Y
def Rel.grow{φ G S a w w'}(h:Rel φ G S a w)(hold:∀b,b<w.heap.size->w'.heap[b]?=w.heap[b]?)(A1:w.heap.size<=w'.heap.size):Rel φ G S a w':=
 ⟨h.size,h.defers,λt x I=>(h.env t x I).mono (aQ.le_refl _) (λb AC _=>hold b AC) A1 (λ_ _ h=>h),h.mem.grow hold A1,h.fY.mono (λb AC _=>hold b AC) A1 (λ_ _ h=>h)⟩
def Hk{P:Program}{S:St}{o:Oper}{c:Bool}{x:AV}{gb:Bool}(H:ak P S o (.val c x))(N:c=true){φ G a w}(h:Rel φ G S a w)(A':∀t,o.dst=some t->t<S.n){next:Act->World->Prop}{R}
 (Y:∀A0 w',Rel φ G (S.put o.dst gb x) A0 w'->az φ S.mem w φ S.mem w'->next A0 w'):o.wp P a w next R:=by
 obtain⟨v,w',Bl,A6,hold,A1,Bh,AI,CI⟩:=H N φ G a w h;exact Bl.step (Y _ _ ((h.grow hold A1).put o.dst A' gb x v (λ_=>A6)) (az.grow hold A1 Bh AI CI))
def Hl{P:Program}{S:St}{o:Oper}{c:Bool}{x:AV}{e:bk}(H:ak P S o (.bl c x e))(N:c=true){φ G a w}(h:Rel φ G S a w)(A':∀t,o.dst=some t->t<S.n){next:Act->World->Prop}{R}
 (Y:∀φ' A0 w',Rel φ' G (({S with mem:=Mem.set S.mem e}:St).put o.dst true x) A0 w'->az φ S.mem w φ' (Mem.set S.mem e) w'->next A0 w'):o.wp P a w next R:=by
 obtain⟨v,w',φ',Bl,A6,hm,W,_⟩:=H N φ G a w h;exact Bl.step (Y φ' _ _ ((h.rO hm W).put o.dst A' true x v (λ_=>A6)) W)
def E8{all:List Oper}{S:St}{j:Nat}{b:Bool}{φ G a w}(h:Rel φ G S a w)(V:ke all S j=some (true,.d (.bool b))):yielded all.toArray a.tmps j=some b:=by
 unfold ke at V;split at V
 .rename_i o A;split at V
  .rename_i t AI;have:=mU (h.env t _ V);unfold yielded;simp only[XX,A,X4,AI];rw[XG]at this;cases AD:a.tmps[t]? with
   |none=>simp[AD,undef]at this
   |some v=>simp[AD]at this;simp[this]
  .cases V
 .cases V
section
variable {P:Program} {S:St} {Q:XE->St->Prop}
theorem iv.mono{c:Code}{B6:XE->St->Prop}(h:iv P c S Q)(AD:∀e S,Q e S->B6 e S):iv P c S B6:=
 λφ G a w H=>wp_mono (h φ G a w H) λ_ _ _ A2=>A2.mono AD
def St.prune(S:St)(kg:List Nat):St:={S with env:=if kg=[0,0]then S.env else kg.filterMap λt=>(Env.lk S.env t).map λx=>(t,x)}
theorem nD(env:Env):∀(kg:List Nat)(t:Nat)(x:Bool×AV),Env.lk (kg.filterMap λt=>(Env.lk env t).map λx=>(t,x)) t=some x->Env.lk env t=some x
 |[],t,x,h=>by simp[Env.lk]at h
 |k::r,t,x,h=>by
  simp only[List.filterMap_cons]at h;cases W:Env.lk env k with
  |none=>simp[W]at h;exact nD env r t x h
  |some y=>
   simp only[W,Yc,Env.lk]at h;by_cases Bt:k=t
   .subst Bt;simp at h;subst h;exact W
   .simp[Bt]at h;exact nD env r t x h
theorem Rel.prune{φ G a w}(h:Rel φ G S a w)(kg:List Nat):Rel φ G (S.prune kg) a w:=
 ⟨h.size,h.defers,λt x I=>h.env t x (by
  simp only[St.prune]at I;split at I
  .exact I
  .exact nD _ _ _ _ I),h.mem,h.fY⟩
theorem Cx{x y:Code}(h:iv P x S λe M=>match e with| .normal=>iv P y M Q|e=>Q e M):iv P (.seq x y) S Q:=by
 intro φ G a w H;refine wp_seq (wp_mono (h φ G a w H) λe A0 w' A2=>?_);cases e with
 |normal=>
  obtain⟨φ',M,Y,E,J,A4⟩:=A2;exact wp_mono (E φ' G A0 w' J) λe a2 B7 Bu=>by rw[Y]at Bu;exact Bu.weaken A4
 |_=>exact A2
theorem An{c:Operand}{x y:Code}{b:Bool}(N:S.ag c=(true,.d (.bool b)))(AI:b=true->iv P x S Q)(Bk:b=false->iv P y S Q):iv P (.cond c x y) S Q:=by
 intro φ G a w H;have A3:=H.ag c (by rw[N]);rw[N]at A3;have e:=mU A3;cases b
 .exact wp_cond_false e (Bk rfl φ G a w H)
 .exact wp_cond_true e (AI rfl φ G a w H)
theorem Hm(h:Q .normal S):iv P .skip S Q:=λφ _ _ _ H=>wp_skip ⟨φ,S,rfl,h,H,az.refl ..⟩
theorem JM(h:Q .ret S):iv P .ret S Q:=λφ _ _ _ H=>wp_ret ⟨φ,S,rfl,h,H,az.refl ..⟩
theorem Hn{id:Nat}(h:Q (.exit id) S):iv P (.exit id) S Q:=λφ _ _ _ H=>wp_exit ⟨φ,S,rfl,h,H,az.refl ..⟩
theorem se{id:Nat}{c:Code}(h:iv P c S λe M=>match e with| .exit BH=>if BH=id then Q .normal M else Q (.exit BH) M|e=>Q e M):iv P (.block id c) S Q:=by
 intro φ G a w H;refine wp_block (wp_mono (h φ G a w H) λe A0 w' A2=>?_);cases e with
 |exit BH=>
  obtain⟨φ',M,Y,E,J,A4⟩:=A2;simp only[Exit.inBlock];by_cases hid:BH=id
  .simp only[hid,Yh]at E⊢;exact⟨φ',M,Y,E,J,A4⟩
  .simp only[hid,X3]at E⊢;exact⟨φ',M,Y,E,J,A4⟩
 |_=>exact A2
theorem Ho{c:Code}{α:Type}(AR:α->St)(BI:α->Prop)(BJ:α->Nat)(As:α)(CJ:S=AR As)(A5:BI As)
 (round:∀x,BI x->iv P c (AR x) λe M=>match e with| .normal=>∃Ay,M=AR Ay/\BI Ay/\BJ Ay<BJ x|e=>Q e M):iv P (.loop c) S Q:=by
 intro φ G a w H;subst CJ;intro b k cs;have key:∀n x Ar BK Aa,BJ x=n->BI x->(AR x).n=(AR As).n->Rel Ar G (AR x) BK Aa->az φ (AR As).mem w Ar (AR x).mem Aa->
  ∃e A0 w',iY (AR As).n φ G (AR As).mem w Q e A0 w'/\Arrives P (lone (b.at BK (.code c::.inLoop c::k)) cs Aa) b k cs e A0 w':=by
  intro n;induction n using Nat.strongRecOn with
  |_ n ih=>
   intro x Ar BK Aa Y CK BL AU BM;obtain⟨e,a2,B7,A2,Az⟩:=round x CK Ar G BK Aa AU b (.inLoop c::k) cs;cases e with
   |normal=>
    obtain⟨BZ,Cc,CL,⟨Ay,rfl,CM,Ax⟩,Au,CN⟩:=A2;obtain⟨B4,a3,CO,CP,CQ⟩:=ih (BJ Ay) (by omega) Ay BZ a2 B7 rfl CM (CL.trans BL) Au (BM.trans CN);exact⟨B4,a3,CO,CP,.of_steps (Steps.trans Az (.one step_inLoop)) CQ⟩
   |exit id=>exact⟨.exit id,a2,B7,by rw[BL]at A2;exact iY.weaken (e:=.exit id) BM A2,.pass (x:=.inLoop c) rfl (λ_ _=>.inl (by simp)) Az⟩
   |goto l=>exact A2.elim
   |ret=>exact⟨.ret,a2,B7,by rw[BL]at A2;exact iY.weaken (e:=.ret) BM A2,.pass (x:=.inLoop c) rfl (λ_ _=>.inl (by simp)) Az⟩
   |panic Bv=>exact⟨.panic Bv,a2,B7,by rw[BL]at A2;exact iY.weaken (e:=.panic Bv) BM A2,.pass (x:=.inLoop c) rfl (λ_ _=>.inl (by simp)) Az⟩
   |outgrown=>exact A2.elim
 obtain⟨e,A0,w',AD,Az⟩:=key _ As φ a w rfl A5 rfl H (az.refl ..);exact⟨e,A0,w',AD,.of_steps (.one step_loop) Az⟩
end
inductive Out where
 |ret (x:AV)
 |panic (t:TypeId) (x:D)
def jh(φ:aQ)(w:World)(F:Nat->Prop):Out->Ending->Prop
 | .ret x,.returned v=>ai φ w F x v
 | .panic t x,.panicked chain=>∃v,chain=[{v:=.iface t v,recovered:=false}]/\aq w F x v
 |_,_=>False
def Ev(P:Program)(gl:List (Nat×D))(f:FuncId)(args:List AV)(m:Mem)(K:Out->Mem->Prop):Prop:=
 ∀φ G w (vs:Array Value),aE φ G m w->b5 w (Fo G φ m) gl->args.length=vs.size->(∀(i:Nat) x v,args[i]?=some x->vs[i]?=some v->ai φ w (Fo G φ m) x v)->
  Calls P f vs w λe w'=>∃φ' m' out,K out m'/\aE φ' G m' w'/\az φ m w φ' m' w'/\jh φ' w' (Fo G φ' m') out e
def Ev.mono{P gl f args m K K'}(h:Ev P gl f args m K)(E:∀o m,K o m->K' o m):Ev P gl f args m K':=
 λφ G w vs hm H A3 Aa=>(h φ G w vs hm H A3 Aa).mono λ_ _ ⟨φ',m',out,M,V⟩=>⟨φ',m',out,E _ _ M,V⟩
def fD:List Nat->Nat->Nat->Option Nat
 |[],_,_=>none
 |a::r,k,i=>if a=k then some i else fD r k (i+1)
def p8:∀{ρ:List Nat}{k j i:Nat},fD ρ k j=some i->j<=i/\ρ[i-j]?=some k
 |[],k,j,i,h=>by simp[fD]at h
 |a::r,k,j,i,h=>by
  simp only[fD]at h;split at h
  .rename_i E;cases h;subst E;simp
  .obtain⟨M,V⟩:=p8 h;refine⟨by omega,?_⟩;rw[show i-j=(i-(j+1))+1 by omega];simpa using V
def eG:∀{ρ:List Nat}{k j:Nat},fD ρ k j=none↔k∉ρ
 |[],k,j=>by simp[fD]
 |a::r,k,j=>by
  simp only[fD,Xm,not_or];split
  .rename_i E;subst E;simp
  .rename_i E;rw[eG];constructor
   .exact λh=>⟨λAb=>E Ab.symm,h⟩
   .exact λh=>h.2
def E9{ρ:List Nat}(AB:ρ.Nodup){i k:Nat}(h:ρ[i]?=some k):fD ρ k 0=some i:=by
 cases A9:fD ρ k 0 with
 |none=>exact absurd (Xk h) (eG.1 A9)
 |some j=>
  obtain⟨_,V⟩:=p8 A9;simp only[Nat.sub_zero]at V;obtain⟨hi,AC⟩:=D1.1 h;obtain⟨T,AH⟩:=D1.1 V;have:=(List.getElem_inj AB).1 (AC.trans AH.symm);rw[this]
def om:List AV->Option (List D)
 |[]=>some []
 | .d x::r=>match x.flat,om r with
  |true,some AN=>some (x::AN)
  |_,_=>none
 |_::_=>none
def yf:∀{l:List AV}{W:List D},om l=some W->l=W.map .d/\∀d∈W,d.flat=true
 |[],W,h=>by simp[om]at h;subst h;simp
 |x::r,W,h=>by
  unfold om at h;split at h
  .rename_i heq;cases heq
  .rename_i y B3 heq;cases heq;split at h
   .rename_i AN A9 Ac;cases h;obtain⟨M,V⟩:=yf Ac;refine⟨by rw[M];rfl,λd Y=>?_⟩;rcases Xm.1 Y with rfl|Y
    .exact A9
    .exact V d Y
   .cases h
  .cases h
def Hp:Option (List D)->AV
 |some W=>.d (.list W)
 |none=>.aA
mutual
def vw(m:Mem)(ρ:List Nat)(bor:Nat->Bool)(nv:Nat->Nat->Nat):AV->AV
 | .ptr k U off=>match Mem.get m k,fD ρ k 0 with
  |some e,some i=>if e.U=U then .ptr i (nv i U) off else .aA
  |_,_=>.aA
 | .tn k U t=>match Mem.get m k,fD ρ k 0 with
  |some e,some i=>if e.U=U then .tn i (nv i U) t else .aA
  |_,_=>.aA
 | .vec k U off len=>match Mem.get m k,fD ρ k 0 with
  |some e,some i=>if e.U=U then .vec i (nv i U) off len else .aA
  |some ⟨_,v,.vec _ rows⟩,none=>if bor k=true/\v=U/\off+len<=rows.length then .d (.list ((rows.drop off).take len))else .aA
  |some ⟨_,v,.box cs⟩,none=>if bor k=true/\v=U/\off+len<=cs.length then Hp (om ((cs.drop off).take len))else .aA
  |_,_=>.aA
 | .bb k U i j=>match Mem.get m k,fD ρ k 0 with
  |some e,some n=>if e.U=U then .bb n (nv n U) i j else .aA
  |_,_=>.aA
 | .agg cs=>.agg (lU m ρ bor nv cs)
 | .fn f cap=>.fn f (lU m ρ bor nv cap)
 | .bc vs=>.bc (lU m ρ bor nv vs)
 | .aA=>.aA
 | .d x=>.d x
 | .bR x j=>.bR x j
 | .dF t x=>.dF t x
 | .lit v=>.lit v
 | .nn=>.nn
 | .err=>.err
def lU(m:Mem)(ρ:List Nat)(bor:Nat->Bool)(nv:Nat->Nat->Nat):List AV->List AV
 |[]=>[]
 |x::r=>vw m ρ bor nv x::lU m ρ bor nv r
end
def mV(m ρ bor nv):∀(l:List AV)(i:Nat),(lU m ρ bor nv l)[i]?=(l[i]?).map (vw m ρ bor nv)
 |[],i=>by simp[lU]
 |x::r,i=>by cases i with|zero=>simp[lU]|succ i=>simp[lU,mV m ρ bor nv r i]
def gv(m ρ bor nv):∀(l:List AV),(lU m ρ bor nv l).length=l.length
 |[]=>rfl
 |x::r=>by simp[lU,gv m ρ bor nv r]
def aQ.dX(φ:aQ)(ρ:List Nat)(nv:Nat->Nat->Nat):aQ:=λi=>
 match ρ[i]? with
 |some k=>(φ k).map λL=>{L with U:=nv i L.U}
 |none=>none
def sf(φ:aQ)(m:Mem)(ρ:List Nat)(b:Nat):Prop:=∃k∈ρ,∃e L,Mem.get m k=some e/\φ k=some L/\e.cont.bg L b
def sf.own{φ m ρ b}(h:sf φ m ρ b):ek φ m b:=by
 obtain⟨k,_,e,L,H,A,A'⟩:=h;obtain⟨hm,rfl⟩:=Mem.get_mem H;exact⟨e,hm,L,A,A'⟩
def vR{φ G m w}(h:aE φ G m w){ρ:List Nat}{k:Nat}{e:bk}{L:Loc}{b:Nat}(H:Mem.get m k=some e)(A:φ k=some L)(A':e.cont.bg L b)(E:k∉ρ):¬sf φ m ρ b:=by
 rintro ⟨Ad,AD,e',L',Ae,J,Af⟩;obtain⟨hm,rfl⟩:=Mem.get_mem H;obtain⟨Ag,rfl⟩:=Mem.get_mem Ae;have:=h.apart e' Ag e hm L' L J A ⟨b,Af,A'⟩;exact E (this▸AD)
section
variable {φ:aQ} {G:Fr} {m:Mem} {w:World} {ρ:List Nat} {bor:Nat->Bool} {nv:Nat->Nat->Nat} {AE:Nat->Prop}
theorem tC{k i:Nat}{L:Loc}(hi:fD ρ k 0=some i)(A:φ k=some L):φ.dX ρ nv i=some {L with U:=nv i L.U}:=by
 obtain⟨_,V⟩:=p8 hi;simp only[Nat.sub_zero]at V;simp[aQ.dX,V,A]
theorem Lg(hm:aE φ G m w)(A2:∀b,AE b->Fo G φ m b)
 (AF:∀k e L b,Mem.get m k=some e->k∉ρ->bor k=true->φ k=some L->e.cont.bg L b->¬AE b) {y v} (h:ai φ w (Fo G φ m) y v):ai (φ.dX ρ nv) w AE (vw m ρ bor nv y) v:=by
 induction h with
 |aA v=>exact .aA v
 |d x v h=>exact .d x v (h.mono (λ_ _ _=>rfl) (Ds _) (λb _=>A2 b))
 |agg cs a A3 M _ ih=>
  refine .agg _ a (by rw[gv];exact A3) M (λi c v I Z=>?_);rw[mV]at I;obtain⟨y,A4,rfl⟩:=Xj.1 I;exact ih i y v A4 Z
 |ptr k U off v L A Z h M=>
  unfold vw;split
  .rename_i e i H hi;split
   .rename_i he;obtain⟨_,_,L',J,O,_⟩:=hm.get H;rw[A]at J;cases J;have A1:L.U=U:=by rw[O];exact he
    refine .ptr i _ off v _ (tC hi A) (by simp[A1]) (λ_=>h A1.symm) M
   .exact .aA _
  .exact .aA _
 |tn k U t L A Z h=>
  unfold vw;split
  .rename_i e i H hi;split
   .rename_i he;obtain⟨_,_,L',J,O,_⟩:=hm.get H;rw[A]at J;cases J;have A1:L.U=U:=by rw[O];exact he
    exact .tn i _ t _ (tC hi A) (by simp[A1]) (λ_=>h A1.symm)
   .exact .aA _
  .exact .aA _
 |vec k U off len v L A Z h M=>
  unfold vw;split
  .rename_i e i H hi;split
   .rename_i he;obtain⟨_,_,L',J,O,_⟩:=hm.get H;rw[A]at J;cases J;have A1:L.U=U:=by rw[O];exact he
    refine .vec i _ off len v _ (tC hi A) (by simp[A1]) (λ_=>h A1.symm) M
   .exact .aA _
  .rename_i key AA sz rows H hi;split
   .rename_i I;obtain⟨A7,rfl,hle⟩:=I;obtain⟨_,_,L',J,O,N⟩:=hm.get H;rw[A]at J;cases J;refine .d _ _ (uQ (.vec k AA off len v L A Z h M) A O N hle A2 (λA'=>?_));exact AF k _ L _ H (eG.1 hi) A7 A ⟨A',rfl⟩
   .exact .aA _
  .rename_i key AA cs H hi;split
   .rename_i I;obtain⟨A7,rfl,hle⟩:=I;obtain⟨_,_,L',J,O,N⟩:=hm.get H;rw[A]at J;cases J;obtain⟨⟨Ah,z2,z3⟩,arr,elem,AO,B4,Ai,Aj⟩:=N;cases Ak:om ((cs.drop off).take len)with
    |none=>exact .aA _
    |some W=>
     obtain⟨AP,Al⟩:=yf Ak;obtain⟨ao,cap,rfl,B5,AQ⟩:=h O.symm;have An:W.length=len:=by
      have:=XR List.length AP;simp at this;omega
     refine .d _ _ ?_;by_cases Ao:len=0
     .have:W=[]:=XH (by omega);subst this;subst Ao;refine .nil _ _ (λAB=>?_);cases cap with
      |zero=>rfl
      |succ c=>have:=(AQ (by omega)).1;rw[AB]at this;cases this
     .obtain⟨rfl,_⟩:=AQ (by omega);rw[<-An];have AR:∀(i:Nat) d,W[i]?=some d->∃u,arr[off+i]?=some u/\aq w AE d u/\ba u=true:=by
       intro i d Y;have hi:i<W.length:=(D1.1 Y).1;have Ap:cs[off+i]?=some (.d d):=by
        have:=XR (·[i]?) AP;simp only[Xp,XJ,XA,Y]at this;rw[Xz (by omega)]at this;simpa using this
       have AS:off+i<arr.size:=by omega
       have AI:=Aj (off+i) _ arr[off+i] Ap (by simp[AS]);cases AI with
       |d _ _ AI=>exact⟨_,by simp[AS],AI.mono (λ_ _ _=>rfl) (Ds _) (λb _=>A2 b),Ai _ (by simp)⟩
      have Aq:L.a7<w.heap.size:=AO.lt;refine .list W _ _ cap 1 (λi=>(arr[off+i]?).getD undef) (by omega) Aq (AF k _ L _ H (eG.1 hi) A7 A rfl) (λd Y=>?_) (λi d Y=>?_) (λi j c Ar T=>?_)
      .have:=Al d Y;cases d<;>simp_all [D.flat,D.size]
      .obtain⟨u,M,V,_⟩:=AR i d Y;simp only[M,Ye];exact V
      .obtain⟨u,M,V,AC⟩:=AR i W[i] (by simp[Ar]);simp only[M,Ye,bX AC]at T;have As:j=0:=by
        have:=(Xv.1 T).1;simpa using this
       subst As;simp at T;subst T;rw[dt AO,Ah,z2];simpa using M
   .exact .aA _
  .exact .aA _
 |bb k U i j v L A Z h M=>
  unfold vw;split
  .rename_i e n H hi;split
   .rename_i he;obtain⟨_,_,L',J,O,_⟩:=hm.get H;rw[A]at J;cases J;have A1:L.U=U:=by rw[O];exact he
    refine .bb n _ i j v _ (tC hi A) (by simp[A1]) (λ_=>h A1.symm) M
   .exact .aA _
  .exact .aA _
 |bR x j b off At A7 Au AJ I=>
  exact .bR x j b off At A7 (λh=>Au (A2 b h)) (AJ.mono (λ_ _ _=>rfl) (Ds _) (λb _=>A2 b)) I
 |fn f cap a A9 A3 _ ih=>
  refine .fn f _ a A9 (by rw[gv];exact A3) (λi c v I Z=>?_);rw[mV]at I;obtain⟨y,A4,rfl⟩:=Xj.1 I;exact ih i y v A4 Z
 |lJ f cap a A3 _ ih=>
  refine .lJ f _ a (by rw[gv];exact A3) (λi c v I Z=>?_);rw[mV]at I;obtain⟨y,A4,rfl⟩:=Xj.1 I;exact ih i y v A4 Z
 |bc vs a A3 _ ih=>
  refine .bc _ a (by rw[gv];exact A3) (λi c v I Z=>?_);rw[mV]at I;obtain⟨y,A4,rfl⟩:=Xj.1 I;exact ih i y v A4 Z
 |dF t x v h=>exact .dF t x v (h.mono (λ_ _ _=>rfl) (Ds _) (λb _=>A2 b))
 |lit v h=>exact .lit v h
 |nn a cap=>exact .nn a cap
 |err t v=>exact .err t v
end
def bH:Nat->List (Nat×ay)->Mem
 |_,[]=>[]
 |i,(v,c)::r=>⟨i,v,c⟩::bH (i+1) r
def kT:∀(l:List (Nat×ay))(i:Nat),(bH i l).map (·.key)=List.range' i l.length
 |[],i=>rfl
 |(v,c)::r,i=>by simp[bH,kT r,Yj]
def gi:∀{l:List (Nat×ay)}{i:Nat}{e:bk},e∈bH i l↔∃j v c,l[j]?=some (v,c)/\e=⟨i+j,v,c⟩
 |[],i,e=>by simp[bH]
 |(v,c)::r,i,e=>by
  simp only[bH,Xm,gi (l:=r)];constructor
  .rintro (rfl|⟨j,AA,c',h,rfl⟩)
   .exact⟨0,v,c,by simp,by simp⟩
   .exact⟨j+1,AA,c',by simpa using h,by simp;omega⟩
  .rintro ⟨j,AA,c',h,rfl⟩;cases j with
   |zero=>simp at h;obtain⟨rfl,rfl⟩:=h;left;simp
   |succ j=>right;exact⟨j,AA,c',by simpa using h,by simp;omega⟩
def mn(m:Mem)(ρ:List Nat)(bor:Nat->Bool)(nv:Nat->Nat->Nat):ay->ay
 | .dead=>.dead
 | .box cs=>.box (lU m ρ bor nv cs)
 | .vec sz rows=>.vec sz rows
 | .vv rows y=>.vv rows (y.map (vw m ρ bor nv))
 | .buf t AT=>.buf t AT
 | .ej s p=>.ej s p
def oQ(m:Mem)(ρ:List Nat)(bor:Nat->Bool)(nv:Nat->Nat->Nat)(i:Nat):Option bk->Nat×ay
 |some e=>(nv i e.U,mn m ρ bor nv e.cont)
 |none=>(0,.dead)
def cd(m:Mem)(ρ:List Nat)(bor:Nat->Bool)(nv:Nat->Nat->Nat):Nat->List Nat->List (Nat×ay)
 |_,[]=>[]
 |i,k::r=>oQ m ρ bor nv i (Mem.get m k)::cd m ρ bor nv (i+1) r
def p9(m ρ bor nv):∀(l:List Nat)(i j:Nat),(cd m ρ bor nv i l)[j]?=(l[j]?).map λk=>oQ m ρ bor nv (i+j) (Mem.get m k)
 |[],i,j=>by simp[cd]
 |k::r,i,j=>by
  cases j with
  |zero=>simp[cd]
  |succ j=>simp[cd,p9 m ρ bor nv r (i+1) j,XC,Nat.add_comm 1 j]
def lv(m ρ bor nv):∀(l:List Nat)(i:Nat),(cd m ρ bor nv i l).length=l.length
 |[],i=>rfl
 |k::r,i=>by simp[cd,lv m ρ bor nv r]
def oo{m ρ bor nv L c b}:(mn m ρ bor nv c).bg L b↔c.bg L b:=by cases c<;>exact Iff.rfl
def fM{L:Loc}{c:ay}{v b:Nat}:c.bg {L with U:=v} b↔c.bg L b:=by cases c<;>exact Iff.rfl
section
variable {φ:aQ} {G G1:Fr} {m:Mem} {w:World} {ρ:List Nat} {bor:Nat->Bool} {nv:Nat->Nat->Nat}
theorem py(AG:∀k∈ρ,(Mem.get m k).isSome=true)(b:Nat):ek (φ.dX ρ nv) (bH 0 (cd m ρ bor nv 0 ρ)) b↔sf φ m ρ b:=by
 constructor
 .rintro ⟨e,he,L,A,A'⟩;obtain⟨j,v,c,T,rfl⟩:=gi.1 he;rw[p9]at T;obtain⟨k,E,A8⟩:=Xj.1 T;simp only[X8,aQ.dX,E,Xj]at A;obtain⟨A0,A6,rfl⟩:=A;have AU:=Xk E;have:=AG k AU;obtain⟨q,A5⟩:=Yt.1 this;rw[A5]at A8;simp only[oQ,XB]at A8;obtain⟨rfl,rfl⟩:=A8;exact⟨k,AU,q,A0,A5,A6,fM.1 (oo.1 A')⟩
 .rintro ⟨k,E,e,L,H,A,A'⟩;obtain⟨j,T,rfl⟩:=Ys.1 E;refine⟨⟨0+j,nv j e.U,mn m ρ bor nv e.cont⟩,gi.2 ⟨j,_,_,?_,rfl⟩,{L with U:=nv j L.U},?_,oo.2 (fM.2 A')⟩
  .rw[p9];simp[T,H,oQ]
  .simp[aQ.dX,T,A]
theorem tD(hm:aE φ G m w)(AB:ρ.Nodup)(AG:∀k∈ρ,(Mem.get m k).isSome=true)(AW:∀b,G1 b->Fo G φ m b)(Av:∀b,sf φ m ρ b->¬G1 b)
 (AF:∀k e L b,Mem.get m k=some e->k∉ρ->bor k=true->φ k=some L->e.cont.bg L b->¬G1 b):
 aE (φ.dX ρ nv) G1 (bH 0 (cd m ρ bor nv 0 ρ)) w/\(∀y v,ai φ w (Fo G φ m) y v->ai (φ.dX ρ nv) w (Fo G1 (φ.dX ρ nv) (bH 0 (cd m ρ bor nv 0 ρ))) (vw m ρ bor nv y) v)/\
  (∀b,Fo G1 (φ.dX ρ nv) (bH 0 (cd m ρ bor nv 0 ρ)) b->Fo G φ m b):=by
 have AK:=py (φ:=φ) (nv:=nv) (bor:=bor) AG;have A2:∀b,Fo G1 (φ.dX ρ nv) (bH 0 (cd m ρ bor nv 0 ρ)) b->Fo G φ m b:=by
  rintro b (h|h)
  .exact AW b h
  .exact .inr ((AK b).1 h).own
 have A7:∀k e L b,Mem.get m k=some e->k∉ρ->bor k=true->φ k=some L->e.cont.bg L b->¬Fo G1 (φ.dX ρ nv) (bH 0 (cd m ρ bor nv 0 ρ)) b:=by
  rintro k e L b H E Aw A A' (h|h)
  .exact AF k e L b H E Aw A A' h
  .exact vR hm H A A' E ((AK _).1 h)
 have AL:∀y v,ai φ w (Fo G φ m) y v->ai (φ.dX ρ nv) w (Fo G1 (φ.dX ρ nv) (bH 0 (cd m ρ bor nv 0 ρ))) (vw m ρ bor nv y) v:=λy v h=>Lg hm A2 A7 h;have Y:∀x v,aq w (Fo G φ m) x v->aq w (Fo G1 (φ.dX ρ nv) (bH 0 (cd m ρ bor nv 0 ρ))) x v:=λx v h=>h.mono (λ_ _ _=>rfl) (Ds _) (λb _=>A2 b);have part:∀{e:bk},e∈bH 0 (cd m ρ bor nv 0 ρ)->∃j k q A0,ρ[j]?=some k/\Mem.get m k=some q/\φ k=some A0/\A0.U=q.U/\bt φ w (Fo G φ m) A0 q.cont/\e=⟨j,nv j q.U,mn m ρ bor nv q.cont⟩:=by
  intro e he;obtain⟨j,v,c,T,rfl⟩:=gi.1 he;rw[p9]at T;obtain⟨k,E,A8⟩:=Xj.1 T;obtain⟨q,A5⟩:=Yt.1 (AG k (Xk E));rw[A5]at A8;simp only[oQ,XB,X8]at A8;obtain⟨rfl,rfl⟩:=A8;obtain⟨_,_,A0,A6,O,N⟩:=hm.get A5;exact⟨j,k,q,A0,E,A5,A6,O,N,by simp⟩
 refine⟨⟨?_,?_,?_,?_,?_,?_⟩,AL,A2⟩
 .rw[kT];exact List.nodup_range'
 .intro i L A;rw[kT,lv];simp only[aQ.dX]at A;split at A
  .rename_i k E;have:=(D1.1 E).1;simp[List.mem_range'];omega
  .cases A
 .intro e he;obtain⟨j,k,q,A0,E,A5,A6,O,N,rfl⟩:=part he;refine⟨{A0 with U:=nv j A0.U},by simp[aQ.dX,E,A6],by simp[O],?_⟩;cases I:q.cont with
  |dead=>trivial
  |box cs=>
   rw[I]at N;obtain⟨g0,arr,elem,g1,g2,g3,g4⟩:=N;refine⟨by simpa [gv]using g0,arr,elem,g1,by simp[gv,g2],g3,λi c v AX Z=>?_⟩;rw[mV]at AX;obtain⟨y,A4,rfl⟩:=Xj.1 AX;exact AL y v (g4 i y v A4 Z)
  |vec sz rows=>
   rw[I]at N;exact eR.mono N Y (λ_ _=>rfl)
  |ej s p=>rw[I]at N;exact N
  |buf t AT=>
   rw[I]at N;exact⟨N.1,eR.mono N.2 Y (λ_ _=>rfl)⟩
  |vv rows y=>
   rw[I]at N;exact (fW.mono (vw m ρ bor nv) N (λ_ _ _ _ u hu=>Y _ u hu) (λx _ v AJ=>AL x v AJ) (λ_ _=>rfl)).U _
 .intro e he e' Ax L L' A J Ay;obtain⟨j,k,q,A0,E,A5,A6,O,N,rfl⟩:=part he;obtain⟨B6,Ad,Az,B',AD,B0,AY,B7,B8,rfl⟩:=part Ax;simp only[aQ.dX,E,A6,AD,AY,Yc,Xn]at A J;subst A;subst J;obtain⟨B1,AZ⟩:=Mem.get_mem A5;obtain⟨B2,A_⟩:=Mem.get_mem B0;have:=hm.apart q B1 Az B2 A0 B' (by rw[AZ];exact A6) (by rw[A_];exact AY) (Ay.imp λb h=>⟨fM.1 (oo.1 h.1),fM.1 (oo.1 h.2)⟩);rw[AZ,A_]at this;obtain⟨hi,AC⟩:=D1.1 E;obtain⟨T,AH⟩:=D1.1 AD;exact (List.getElem_inj AB).1 (AC.trans (this.trans AH.symm))
 .exact λb AM=>Av b ((AK b).1 AM)
 .exact λb AM=>uL hm b (AW b AM)
end
mutual
def eB:D->Bool
 | .list (_::_)=>false
 | .list []=>true
 | .agg cs=>gL cs
 | .int _ _=>true
 | .bool _=>true
 | .str _=>true
 | .jd=>true
def gL:List D->Bool
 |[]=>true
 |x::r=>eB x&&gL r
end
def ly:∀{l:List D},gL l=true->∀x∈l,eB x=true
 |[],_,x,O=>by simp at O
 |y::r,h,x,O=>by
  simp only[gL,Xl]at h;rcases Xm.1 O with rfl|O
  .exact h.1
  .exact ly h.2 x O
def aq.plain{w w':World}{F F':Nat->Prop}{d v}(h:aq w F d v)(T:eB d=true):aq w' F' d v:=by
 induction h with
 |int k n=>exact .int k n
 |bool b=>exact .bool b
 |jd v h=>exact .jd v h
 |str b s h=>exact .str b s h
 |agg cs a A7 AY _ ih=>
  refine .agg cs a A7 AY (λi d v N V=>ih i d v N V (ly (by simpa only[eB]using T) d (Xk N)))
 |nil a cap A8=>exact .nil a cap A8
 |list xs b off cap sz vs BL A3 BM BN V J _=>
  cases xs with
  |nil=>exact .nil _ _ (by simp)
  |cons=>simp[eB]at T
mutual
def bB:AV->Bool
 | .d x=>eB x
 | .bR _ _=>false
 | .agg cs=>fN cs
 | .fn _ cap=>fN cap
 | .bc vs=>fN vs
 | .dF _ x=>eB x
 | .aA=>true
 | .ptr _ _ _=>true
 | .tn _ _ _=>true
 | .vec _ _ _ _=>true
 | .bb _ _ _ _=>true
 | .lit _=>true
 | .nn=>true
 | .err=>true
def fN:List AV->Bool
 |[]=>true
 |x::r=>bB x&&fN r
end
def gj:∀{l:List AV},fN l=true->∀x∈l,bB x=true
 |[],_,x,O=>by simp at O
 |y::r,h,x,O=>by
  simp only[fN,Xl]at h;rcases Xm.1 O with rfl|O
  .exact h.1
  .exact gj h.2 x O
def fE:ay->Bool
 | .dead=>true
 | .box cs=>fN cs
 | .vec _ rows=>gL rows
 | .vv rows y=>rows.all gL&&(match y with|none=>true|some x=>bB x)
 | .buf _ _=>true
 | .ej _ _=>true
mutual
def up(ρ A:List Nat):AV->AV
 | .ptr k U off=>.ptr (ρ.getD k 0) (A.getD k 0+U) off
 | .tn k U t=>.tn (ρ.getD k 0) (A.getD k 0+U) t
 | .vec k U off len=>.vec (ρ.getD k 0) (A.getD k 0+U) off len
 | .bb k U i j=>.bb (ρ.getD k 0) (A.getD k 0+U) i j
 | .agg cs=>.agg (oq ρ A cs)
 | .fn f cap=>.fn f (oq ρ A cap)
 | .bc vs=>.bc (oq ρ A vs)
 | .aA=>.aA
 | .d x=>.d x
 | .bR x j=>.bR x j
 | .dF t x=>.dF t x
 | .lit v=>.lit v
 | .nn=>.nn
 | .err=>.err
def oq(ρ A:List Nat):List AV->List AV
 |[]=>[]
 |x::r=>up ρ A x::oq ρ A r
end
def mW(ρ A):∀(l:List AV)(i:Nat),(oq ρ A l)[i]?=(l[i]?).map (up ρ A)
 |[],i=>by simp[oq]
 |x::r,i=>by cases i with|zero=>simp[oq]|succ i=>simp[oq,mW ρ A r i]
def gw(ρ A):∀(l:List AV),(oq ρ A l).length=l.length
 |[]=>rfl
 |x::r=>by simp[oq,gw ρ A r]
def sg(ρ A:List Nat):ay->ay
 | .dead=>.dead
 | .box cs=>.box (oq ρ A cs)
 | .vec sz rows=>.vec sz rows
 | .vv rows y=>.vv rows (y.map (up ρ A))
 | .buf t b=>.buf t b
 | .ej s p=>.ej s p
def et(ρ A:List Nat):Nat->List (Nat×ay)->List bk
 |_,[]=>[]
 |i,(v,c)::r=>⟨ρ.getD i 0,A.getD i 0+v,sg ρ A c⟩::et ρ A (i+1) r
def ot{ρ A:List Nat}:∀{l:List (Nat×ay)}{i:Nat}{e:bk},e∈et ρ A i l↔∃j v c,l[j]?=some (v,c)/\e=⟨ρ.getD (i+j) 0,A.getD (i+j) 0+v,sg ρ A c⟩
 |[],i,e=>by simp[et]
 |(v,c)::r,i,e=>by
  simp only[et,Xm,ot (l:=r)];constructor
  .rintro (rfl|⟨j,AI,c',h,rfl⟩)
   .exact⟨0,v,c,by simp,by simp⟩
   .exact⟨j+1,AI,c',by simpa using h,by rw[show i+(j+1)=i+1+j by omega]⟩
  .rintro ⟨j,AI,c',h,rfl⟩;cases j with
   |zero=>simp at h;obtain⟨rfl,rfl⟩:=h;left;simp
   |succ j=>right;exact⟨j,AI,c',by simpa using h,by rw[show i+(j+1)=i+1+j by omega]⟩
def vU{ρ A:List Nat}:∀(l:List (Nat×ay))(i:Nat),(et ρ A i l).map (·.key)=(List.range' i l.length).map λj=>ρ.getD j 0
 |[],i=>rfl
 |(v,c)::r,i=>by simp[et,vU r,Yj]
def aI(m:Mem):List bk->Mem
 |[]=>m
 |e::r=>aI (Mem.set m e) r
def fO:∀(es:List bk)(m:Mem),(aI m es).map (·.key)=m.map (·.key)
 |[],m=>rfl
 |e::r,m=>by rw[aI,fO r,Mem.dr]
def vV:∀(es:List bk)(m:Mem),(m.map (·.key)).Nodup->(es.map (·.key)).Nodup->(∀e∈es,e.key∈m.map (·.key))->∀e,e∈aI m es↔e∈es\/(e∈m/\e.key∉es.map (·.key))
 |[],m,_,_,_,e=>by simp[aI]
 |x::r,m,hm,A8,A0,e=>by
  simp only[XU,List.nodup_cons]at A8;rw[aI,vV r (Mem.set m x) (by rw[Mem.dr];exact hm) A8.2 (λe he=>by rw[Mem.dr];exact A0 e (by simp[he])),Mem.mem_set hm];have O:=A0 x (by simp);constructor
  .rintro (h|⟨⟨rfl,_⟩|⟨h,W⟩,AL⟩)
   .left;simp[h]
   .left;simp
   .right;exact⟨h,by simp only[XU,Xm,not_or];exact⟨W,AL⟩⟩
  .rintro (h|⟨h,AL⟩)
   .rcases Xm.1 h with rfl|h
    .right;exact⟨.inl ⟨rfl,O⟩,A8.1⟩
    .left;exact h
   .simp only[XU,Xm,not_or]at AL;right;exact⟨.inr ⟨h,AL.1⟩,AL.2⟩
def base(m:Mem)(d:Nat):List Nat->List Nat
 |[]=>[]
 |k::r=>(match Mem.get m k with|some e=>e.U+d|none=>0)::base m d r
def uR(m:Mem)(d:Nat):∀(l:List Nat)(i:Nat),(base m d l)[i]?=(l[i]?).map λk=>match Mem.get m k with|some e=>e.U+d|none=>0
 |[],i=>by simp[base]
 |k::r,i=>by cases i with|zero=>simp[base]|succ i=>simp[base,uR m d r i]
def lz(m:Mem)(d:Nat):∀(l:List Nat),(base m d l).length=l.length
 |[]=>rfl
 |k::r=>by simp[base,lz m d r]
def dL:Nat->Nat->Nat:=λ_ _=>0
def gx(φ:aQ)(G:Fr)(m:Mem)(ρ B:List Nat):Fr:=⟨λb=>Fo G φ m b/\¬sf φ m ρ b/\¬sf φ m B b,[]⟩
section
variable {φ:aQ} {G:Fr} {m:Mem} {w:World} {ρ B:List Nat}
theorem yg(hm:aE φ G m w)(A8:ρ.Nodup)(AQ:∀k∈ρ,(Mem.get m k).isSome=true):
 aE (φ.dX ρ dL) (gx φ G m ρ B) (bH 0 (cd m ρ (λk=>B.contains k) dL 0 ρ)) w/\
  (∀y v,ai φ w (Fo G φ m) y v->ai (φ.dX ρ dL) w (Fo (gx φ G m ρ B) (φ.dX ρ dL) (bH 0 (cd m ρ (λk=>B.contains k) dL 0 ρ))) (vw m ρ (λk=>B.contains k) dL y) v)/\
  (∀b,Fo (gx φ G m ρ B) (φ.dX ρ dL) (bH 0 (cd m ρ (λk=>B.contains k) dL 0 ρ)) b->Fo G φ m b):=
 tD hm A8 AQ (λb h=>h.1) (λb h AZ=>AZ.2.1 h) (λk e L b B3 _ A3 E I AZ=>AZ.2.2 ⟨k,by simpa using A3,e,L,B3,E,I⟩)
theorem ai.Sg{φ φ':aQ}{ρ A:List Nat}{w F F' x v}(h:ai φ w F x v)(AR:∀i L,φ i=some L->φ' (ρ.getD i 0)=some {L with U:=A.getD i 0+L.U})
 (N:(∀b,F' b->F b)\/bB x=true):ai φ' w F' (up ρ A x) v:=by
 have Aj:∀{d v},aq w F d v->((∀b,F' b->F b)\/eB d=true)->aq w F' d v:=λh N=>by
  rcases N with N|N
  .exact h.mono (λ_ _ _=>rfl) (Ds _) (λb _=>N b)
  .exact h.plain N
 induction h with
 |aA v=>exact .aA v
 |d x v h=>exact .d x v (Aj h (N.imp id (by simp[bB])))
 |agg cs a A7 A1 _ ih=>
  refine .agg _ a (by rw[gw];exact A7) A1 (λi c v J V=>?_);rw[mW]at J;obtain⟨y,A4,rfl⟩:=Xj.1 J;exact ih i y v A4 V (N.imp id λT=>gj (by simpa only[bB]using T) y (Xk A4))
 |ptr k U off v L E V h A1=>exact .ptr _ _ off v _ (AR k L E) (by simp only;omega) (λhe=>h (by simp only at he;omega)) A1
 |tn k U t L E V h=>exact .tn _ _ t _ (AR k L E) (by simp only;omega) (λhe=>h (by simp only at he;omega))
 |vec k U off len v L E V h A1=>exact .vec _ _ off len v _ (AR k L E) (by simp only;omega) (λhe=>h (by simp only at he;omega)) A1
 |bb k U i j v L E V h A1=>exact .bb _ _ i j v _ (AR k L E) (by simp only;omega) (λhe=>h (by simp only at he;omega)) A1
 |bR x j b off B4 A3 B5 O J=>
  rcases N with N|N
  .exact .bR x j b off B4 A3 (λh=>B5 (N b h)) (O.mono (λ_ _ _=>rfl) (Ds _) (λb _=>N b)) J
  .simp[bB]at N
 |fn f cap a AY A7 _ ih=>
  refine .fn f _ a AY (by rw[gw];exact A7) (λi c v J V=>?_);rw[mW]at J;obtain⟨y,A4,rfl⟩:=Xj.1 J;exact ih i y v A4 V (N.imp id λT=>gj (by simpa only[bB]using T) y (Xk A4))
 |lJ f cap a A7 _ ih=>
  refine .lJ f _ a (by rw[gw];exact A7) (λi c v J V=>?_);rw[mW]at J;obtain⟨y,A4,rfl⟩:=Xj.1 J;exact ih i y v A4 V (N.imp id λT=>gj (by simpa only[bB]using T) y (Xk A4))
 |bc vs a A7 _ ih=>
  refine .bc _ a (by rw[gw];exact A7) (λi c v J V=>?_);rw[mW]at J;obtain⟨y,A4,rfl⟩:=Xj.1 J;exact ih i y v A4 V (N.imp id λT=>gj (by simpa only[bB]using T) y (Xk A4))
 |dF t x v h=>exact .dF t x v (Aj h (N.imp id (by simp[bB])))
 |lit v h=>exact .lit v h
 |nn a cap=>exact .nn a cap
 |err t v=>exact .err t v
theorem kU{ρ A L c b}:(sg ρ A c).bg L b↔c.bg L b:=by cases c<;>exact Iff.rfl
theorem yh(h:aE φ G m w)(A8:ρ.Nodup)(AQ:∀k∈ρ,(Mem.get m k).isSome=true){fr:List Nat}(B6:fr.Nodup)(Ak:∀k∈fr,(Mem.get m k).isSome=true/\k∉ρ)
 {Z:aQ} {M:List (Nat×ay)} {A5:World} (AS:aE Z (gx φ G m ρ B) (bH 0 M) A5)
 (A0:az (φ.dX ρ dL) (bH 0 (cd m ρ (λk=>B.contains k) dL 0 ρ)) w Z (bH 0 M) A5) (B7:M.length=ρ.length+fr.length)
 (B8:B=[]\/∀e∈M,fE e.2=true):
 ∃φ':aQ,aE φ' G (aI m (et (ρ++fr) (base m 0 ρ++base m 1 fr) 0 M)) A5/\az φ m w φ' (aI m (et (ρ++fr) (base m 0 ρ++base m 1 fr) 0 M)) A5/\
  ∀x v,(B=[]\/bB x=true)->ai Z A5 (Fo (gx φ G m ρ B) Z (bH 0 M)) x v->
   ai φ' A5 (Fo G φ' (aI m (et (ρ++fr) (base m 0 ρ++base m 1 fr) 0 M))) (up (ρ++fr) (base m 0 ρ++base m 1 fr) x) v:=by
 obtain⟨H,AF⟩:∃H,H=ρ++fr:=⟨_,rfl⟩;obtain⟨A,A_⟩:∃A,A=base m 0 ρ++base m 1 fr:=⟨_,rfl⟩;rw[<-AF,<-A_];have Al:H.Nodup:=by
  rw[AF,List.nodup_append];exact⟨A8,B6,λa B9 b A3 BA=>(Ak b A3).2 (BA▸B9)⟩
 have BB:M.length=H.length:=by rw[AF,Xx];exact B7
 have An:∀k∈H,(Mem.get m k).isSome=true:=λk Y=>by
  rw[AF]at Y;rcases XL.1 Y with A1|A1
  .exact AQ k A1
  .exact (Ak k A1).1
 have Ao:∀k∈H,k∈m.map (·.key):=λk Y=>by
  obtain⟨e,he⟩:=Yt.1 (An k Y);obtain⟨hm,rfl⟩:=Mem.get_mem he;exact Xw hm
 obtain⟨φ',Ap⟩:∃φ':aQ,φ'=λk=>match fD H k 0 with|some i=>(Z i).map (λL=>{L with U:=A.getD i 0+L.U})|none=>φ k:=⟨_,rfl⟩
 have BC:∀{i},i<H.length->H[i]?=some (H.getD i 0):=λhi=>by simp[hi]
 have BD:∀{i},i<H.length->φ' (H.getD i 0)=(Z i).map (λL=>{L with U:=A.getD i 0+L.U}):=λhi=>by
  simp only[Ap,E9 Al (BC hi)]
 have A9:∀{k},k∉H->φ' k=φ k:=λY=>by simp only[Ap,eG.2 Y]
 have BE:∀{i L},Z i=some L->i<H.length:=λE=>by
  have:=AS.kI _ _ E;rw[kT]at this;simp[List.mem_range']at this;omega
 have A6:∀i L,Z i=some L->φ' (H.getD i 0)=some {L with U:=A.getD i 0+L.U}:=λi L E=>by
  rw[BD (BE E),E];rfl
 --BF entries behind
 have AA:=vV (et H A 0 M) m h.nodup;have Aq:(et H A 0 M).map (·.key)=H:=by
  rw[vU,BB];apply List.ext_getElem?;intro i;by_cases hi:i<H.length
  .simp[hi]
  .rw[Yd (by simp;omega),Yd (by omega)]
 rw[Aq]at AA;replace AA:=AA Al (λe he=>Ao e.key (by rw[<-Aq];exact Xw he));have AJ:∀{e},e∈et H A 0 M->∃j v c L,j<H.length/\M[j]?=some (v,c)/\e=⟨H.getD j 0,A.getD j 0+v,sg H A c⟩/\Z j=some L/\L.U=v/\bt Z A5 (Fo (gx φ G m ρ B) Z (bH 0 M)) L c:=by
  intro e he;obtain⟨j,v,c,q,rfl⟩:=ot.1 he;have AM:=(D1.1 q).1;obtain⟨L,E,AB,J⟩:=AS.de ⟨0+j,v,c⟩ (gi.2 ⟨j,v,c,q,rfl⟩);simp only[X8]at E⊢;exact⟨j,v,c,L,by omega,q,rfl,E,AB,J⟩
 have AN:=py (φ:=φ) (nv:=dL) (bor:=λk=>B.contains k) AQ;have Aa:∀b,ek φ' (aI m (et H A 0 M)) b↔ek Z (bH 0 M) b\/∃e∈m,e.key∉H/\∃L,φ e.key=some L/\e.cont.bg L b:=by
  intro b;constructor
  .rintro ⟨e,he,L,E,I⟩;rcases (AA e).1 he with he|⟨he,W⟩
   .obtain⟨j,v,c,A',AM,q,rfl,A2,AB,J⟩:=AJ he;left;simp only[A6 j A' A2,Xn]at E;subst E;exact⟨⟨0+j,v,c⟩,gi.2 ⟨j,v,c,q,rfl⟩,A',by simpa using A2,fM.1 (kU.1 I)⟩
   .right;exact⟨e,he,W,L,by rw[<-A9 W];exact E,I⟩
  .rintro (⟨BO,AO,L,E,I⟩|⟨e,he,W,L,E,I⟩)
   .obtain⟨j,v,c,q,rfl⟩:=gi.1 AO;simp only[X8]at E;exact⟨⟨H.getD j 0,A.getD j 0+v,sg H A c⟩,(AA _).2 (.inl (ot.2 ⟨j,v,c,q,by simp⟩)),_,A6 j L E,kU.2 (fM.2 I)⟩
   .exact⟨e,(AA _).2 (.inr ⟨he,W⟩),L,by rw[A9 W];exact E,I⟩
 have Ab:∀{k},k∉H->k∉ρ:=λY A1=>Y (by rw[AF];exact YM _ A1)
 --BP entry beside shares no block with BF BQ
 have Ac:∀e∈m,e.key∉ρ->∀L b,φ e.key=some L->e.cont.bg L b->¬sf φ m ρ b:=λe he W L b E I=>
  vR h (Mem.get_of_mem h.nodup he) E I W
 have hle:φ.le φ':=by
  intro k L E;by_cases Y:k∈H
  .obtain⟨i,hi,rfl⟩:=Ys.1 Y;have Ar:H.getD i 0=H[i]:=by simp[hi]
   obtain⟨e,he⟩:=Yt.1 (An _ Y);obtain⟨_,_,BR,As,AB,_⟩:=h.get he;rw[E]at As;cases As;by_cases At:i<ρ.length
   .have AT:ρ[i]?=some H[i]:=by simp only[AF];rw[List.getElem_append_left At];simp
    have Au:A.getD i 0=L.U:=by
     rw[A_,YD,Xr (by rw[lz];exact At),uR,AT];simp[he,AB]
    obtain⟨L',AC,BS,BG⟩:=A0.le i {L with U:=0} (by simp[aQ.dX,AT,E,dL]);refine⟨{L' with U:=A.getD i 0+L'.U},by rw[<-Ar];exact A6 i L' AC,by simp only;omega,λAO=>?_⟩;simp only at AO;have AK:=BG (by simp only;omega);have g1:=XR Loc.U AK;have g2:=XR Loc.a7 AK;have g3:=XR Loc.sz AK;have g4:=XR Loc.cap AK;have g5:=XR Loc.base AK;have g6:=XR Loc.ty AK;simp only at g1 g2 g3 g4 g5 g6⊢;rw[g1,g2,g3,g4,g5,g6,Au,XZ]
   .have BH:i<M.length:=by omega
    obtain⟨L',AD,_,_⟩:=AS.de ⟨0+i,M[i].1,M[i].2⟩ (gi.2 ⟨i,_,_,by simp[BH],rfl⟩);simp only[X8]at AD;have AT:fr[i-ρ.length]?=some H[i]:=by
     simp only[AF]at hi⊢;rw[List.getElem_append_right (by omega)];simp
    have Au:A.getD i 0=L.U+1:=by
     rw[A_,YD,Xu (by rw[lz];omega),lz,uR,AT];simp[he,AB]
    refine⟨{L' with U:=A.getD i 0+L'.U},by rw[<-Ar];exact A6 i L' AD,by simp only;omega,λAO=>?_⟩;simp only at AO;omega
  .exact⟨L,by rw[A9 Y];exact E,Ds _,λ_=>rfl⟩
 have Av:∀b,b<w.heap.size->ek φ' (aI m (et H A 0 M)) b->ek φ m b:=by
  intro b A3 Ad;rcases (Aa b).1 Ad with AC|⟨e,he,_,L,E,I⟩
  .exact ((AN b).1 (A0.own b A3 AC)).own
  .exact⟨e,he,L,E,I⟩
 have hold:∀b,b<w.heap.size->¬ek φ m b->A5.heap[b]?=w.heap[b]?:=λb A3 Ae=>A0.rN b A3 (λI=>Ae ((AN b).1 I).own);have Aw:B=[]->∀b,Fo G φ' (aI m (et H A 0 M)) b->Fo (gx φ G m ρ B) Z (bH 0 M) b:=by
  rintro rfl b (AE|I)
  .refine .inl ⟨.inl AE,λI=>h.fX b I.own AE,?_⟩;rintro ⟨k,Y,_⟩;simp at Y
  .rcases (Aa b).1 I with AC|⟨e,he,W,L,E,Ax⟩
   .exact .inr AC
   .refine .inl ⟨.inr ⟨e,he,L,E,Ax⟩,Ac e he (Ab W) L b E Ax,?_⟩;rintro ⟨k,Y,_⟩;simp at Y
 have Af:∀x v,(B=[]\/bB x=true)->ai Z A5 (Fo (gx φ G m ρ B) Z (bH 0 M)) x v->ai φ' A5 (Fo G φ' (aI m (et H A 0 M))) (up H A x) v:=
  λx v O AU=>AU.Sg A6 (O.imp Aw id)
 have Ag:∀d v,(B=[]\/eB d=true)->aq A5 (Fo (gx φ G m ρ B) Z (bH 0 M)) d v->aq A5 (Fo G φ' (aI m (et H A 0 M))) d v:=λd v O AU=>by
  rcases O with O|O
  .exact AU.mono (λ_ _ _=>rfl) (Ds _) (λb _=>Aw O b)
  .exact AU.plain O
 refine⟨φ',⟨?_,?_,?_,?_,?_,?_⟩,⟨hle,hold,Av,A0.size,A0.os,A0.tape,A0.output⟩,Af⟩
 .rw[fO];exact h.nodup
 .intro k L E;rw[fO];by_cases Y:k∈H
  .exact Ao k Y
  .rw[A9 Y]at E;exact h.kI k L E
 .intro e he;rcases (AA e).1 he with he|⟨he,W⟩
  .obtain⟨j,v,c,A',AM,q,rfl,A2,AB,J⟩:=AJ he;refine⟨_,A6 j A' A2,by simp[AB],?_⟩;have AW:B=[]\/fE c=true:=B8.imp id λT=>T (v,c) (Xk q);cases c with
   |dead=>trivial
   |box cs=>
    obtain⟨g0,arr,elem,g1,g2,g3,g4⟩:=J;refine⟨by simpa [gw]using g0,arr,elem,g1,by simp[gw,g2],g3,λi c v Ay V=>?_⟩;rw[mW]at Ay;obtain⟨y,A4,rfl⟩:=Xj.1 Ay;exact Af y v (AW.imp id λT=>gj (by simpa only[fE]using T) y (Xk A4)) (g4 i y v A4 V)
   |vec sz rows=>exact eR.CW J λd N v V=>Ag d v (AW.imp id λT=>ly (by simpa only[fE]using T) d N) V
   |ej s p=>exact J
   |buf t b=>
    refine⟨J.1,J.2.CW λd N v V=>Ag d v (.inr ?_) V⟩;obtain⟨x,_,rfl⟩:=Xt.1 N;rfl
   |vv rows y=>
    refine (fW.mono (up H A) J (λxs BI d N u hu=>Ag d u (AW.imp id λT=>?_) hu) (λx O v V=>Af x v (AW.imp id λT=>?_) V) (λ_ _=>rfl)).U _
    .simp only[fE,Xl,XN]at T;exact ly (T.1 xs BI) d N
    .simp only[fE,Xl,O]at T;exact T.2
  .obtain⟨L,E,AB,J⟩:=h.de e he;refine⟨L,by rw[A9 W];exact E,AB,J.mono hle (λb A3 Ae=>hold b A3 (λI=>Ae (.inr I))) A0.size (λb A3=>Or.imp id (Av b A3)) (λb I=>?_)⟩;exact A0.rN _ (J.lt I) (λA1=>Ac e he (Ab W) L b E I ((AN _).1 A1))
 .rintro e he e' AG L L' E AD ⟨b,I,AX⟩;have Az:∀{j v c A' AH AP},M[j]?=some (v,c)->Z j=some A'->c.bg A' b->AH∈m->AH.key∉H->φ AH.key=some AP->AH.cont.bg AP b->False:=by
   intro j v c A' AH AP q A2 J B' W B0 B1;have BJ:b<w.heap.size:=h.vz ⟨AH,B',AP,B0,B1⟩;have AC:ek Z (bH 0 M) b:=⟨⟨0+j,v,c⟩,gi.2 ⟨j,v,c,q,rfl⟩,A',by simpa using A2,J⟩;exact Ac AH B' (Ab W) AP b B0 B1 ((AN _).1 (A0.own _ BJ AC))
  rcases (AA e).1 he with he|⟨he,W⟩<;>rcases (AA e').1 AG with AG|⟨AG,Ah⟩
  .obtain⟨j,v,c,A',AM,q,rfl,A2,_,_⟩:=AJ he;obtain⟨Ai,AI,c',L2',BT,BK,rfl,B2,_,_⟩:=AJ AG;simp only[A6 j A' A2,A6 Ai L2' B2,Xn]at E AD;subst E;subst AD;have:=AS.apart ⟨0+j,v,c⟩ (gi.2 ⟨j,v,c,q,rfl⟩) ⟨0+Ai,AI,c'⟩ (gi.2 ⟨Ai,AI,c',BK,rfl⟩) A' L2' (by simpa using A2) (by simpa using B2) ⟨b,fM.1 (kU.1 I),fM.1 (kU.1 AX)⟩;simp only[X8]at this;rw[this]
  .obtain⟨j,v,c,A',AM,q,rfl,A2,_,_⟩:=AJ he;simp only[A6 j A' A2,Xn]at E;subst E;exact (Az q A2 (fM.1 (kU.1 I)) AG Ah (by rw[<-A9 Ah];exact AD) AX).elim
  .obtain⟨j,v,c,A',AM,q,rfl,A2,_,_⟩:=AJ AG;simp only[A6 j A' A2,Xn]at AD;subst AD;exact (Az q A2 (fM.1 (kU.1 AX)) he W (by rw[<-A9 W];exact E) I).elim
  .exact h.apart e he e' AG L L' (by rw[<-A9 W];exact E) (by rw[<-A9 Ah];exact AD) ⟨b,I,AX⟩
 .intro b Ad AE;rcases (Aa b).1 Ad with AC|⟨e,he,_,L,E,I⟩
  .exact h.fX b ((AN b).1 (A0.own b (h.bound b AE) AC)).own AE
  .exact h.fX _ ⟨e,he,L,E,I⟩ AE
 .exact λb AE=>Yf (h.bound b AE) A0.size
end
def bZ(S AB:St):Prop:=AB.n=S.n/\AB.gl=S.gl/\∀φ G a w,Rel φ G S a w->∃φ',Rel φ' G AB a w/\az φ S.mem w φ' AB.mem w
def bZ.refl(S:St):bZ S S:=⟨rfl,rfl,λφ _ _ _ h=>⟨φ,h,az.refl ..⟩⟩
def bZ.trans{S AB AU:St}(h:bZ S AB)(k:bZ AB AU):bZ S AU:=
 ⟨k.1.trans h.1,k.2.1.trans h.2.1,λφ G a w AC=>by
  obtain⟨Aa,J,Ab⟩:=h.2.2 φ G a w AC;obtain⟨Ac,Ad,Ae⟩:=k.2.2 Aa G a w J;exact⟨Ac,Ad,Ab.trans Ae⟩⟩
def Dm(S:St)(kg:List Nat):bZ S (S.prune kg):=⟨rfl,rfl,λφ _ _ _ h=>⟨φ,h.prune kg,az.refl ..⟩⟩
def Ar{w:World}{φ φ':aQ}{m m':Mem}(h:∀b,ek φ' m' b->ek φ m b)(hle:φ.le φ'):az φ m w φ' m' w:=
 ⟨hle,λ_ _ _=>rfl,λb _ A0=>h b A0,Ds _,rfl,rfl,rfl⟩
def jF(A:AV->AV):ay->ay
 | .box cs=>.box (cs.map A)
 | .dead=>.dead
 | .vec sz rows=>.vec sz rows
 | .vv rows y=>.vv rows (y.map A)
 | .buf t b=>.buf t b
 | .ej s p=>.ej s p
def mapM(A:AV->AV)(e':bk):Mem->Mem
 |[]=>[]
 |e::r=>(if e.key=e'.key then e' else ⟨e.key,e.U,jF A e.cont⟩)::mapM A e' r
def ji(A:AV->AV):Env->Env
 |[]=>[]
 |(t,g,x)::r=>(t,g,A x)::ji A r
def sh(A:AV->AV):∀(env:Env)(t:Nat)(g:Bool)(y:AV),Env.lk (ji A env) t=some (g,y)->∃x,Env.lk env t=some (g,x)/\y=A x
 |[],t,g,y,h=>by simp[ji,Env.lk]at h
 |(Af,B5,AI)::r,t,g,y,h=>by
  simp only[ji,Env.lk]at h⊢;by_cases AW:Af=t
  .subst AW;simp at h⊢;obtain⟨rfl,rfl⟩:=h;simp
  .simp only[AW,X3]at h⊢;exact sh A r t g y h
def si(A:AV->AV)(e':bk):∀m:Mem,(mapM A e' m).map (·.key)=m.map (·.key)
 |[]=>rfl
 |e::r=>by
  simp only[mapM,XU,si A e' r];congr 1;split
  .rename_i h;exact h.symm
  .rfl
def mapM_mem{A:AV->AV}{e':bk}:∀{m:Mem}{x:bk},x∈mapM A e' m↔∃e∈m,x=if e.key=e'.key then e' else ⟨e.key,e.U,jF A e.cont⟩
 |[],x=>by simp[mapM]
 |e::r,x=>by simp[mapM,mapM_mem (m:=r)]
def gr{A L c b}:(jF A c).bg L b↔c.bg L b:=by cases c<;>exact Iff.rfl
def St.sj(S:St)(A:AV->AV)(e':bk):St:={S with env:=ji A S.env,mem:=mapM A e' S.mem}
def As{φ:aQ}{G S a w}(h:Rel φ G S a w)(A:AV->AV){e e':bk}(he:e∈S.mem){L L':Loc}(T:φ e.key=some L)(A5:e'.key=e.key)
 (V:L.U<L'.U) (Ag:L'.U=e'.U) (AX:∀b,e'.cont.bg L' b->e.cont.bg L b)
 (Ah:∀(φ':aQ)(F':Nat->Prop),φ' e.key=some L'->(∀k,k≠e.key->φ' k=φ k)->(∀b,F' b->Fo G φ S.mem b)->(∀b,¬e'.cont.bg L' b->e.cont.bg L b->¬F' b)->∀x v,ai φ w (Fo G φ S.mem) x v->ai φ' w F' (A x) v)
 (H:∀(φ':aQ)(F':Nat->Prop),(∀b,F' b->Fo G φ S.mem b)->bt φ' w F' L' e'.cont):
 ∃φ',Rel φ' G (S.sj A e') a w/\az φ S.mem w φ' (S.sj A e').mem w:=by
 have hm:=h.mem;obtain⟨φ',AY⟩:∃φ':aQ,φ'=λk=>if k=e.key then some L' else φ k:=⟨_,rfl⟩
 have Z:φ' e.key=some L':=by simp[AY]
 have q:∀k,k≠e.key->φ' k=φ k:=λk I=>by simp[AY,I]
 have hle:φ.le φ':=by
  intro k AE A7;by_cases I:k=e.key
  .subst I;rw[T]at A7;cases A7;exact⟨L',Z,by omega,λhh=>by omega⟩
  .exact⟨AE,by rw[q k I];exact A7,Ds _,λ_=>rfl⟩
 have AO:∀b,ek φ' (mapM A e' S.mem) b->ek φ S.mem b:=by
  rintro b ⟨x,W,AN,A1,A6⟩;obtain⟨y,M,rfl⟩:=mapM_mem.1 W;by_cases I:y.key=e'.key
  .simp only[I,Yh]at A1 A6;rw[A5,Z]at A1;cases A1;exact⟨e,he,L,T,AX b A6⟩
  .simp only[I,X3]at A1 A6;rw[A5]at I;rw[q _ I]at A1;exact⟨y,M,AN,A1,gr.1 A6⟩
 have Y:∀b,Fo G φ' (mapM A e' S.mem) b->Fo G φ S.mem b:=λb=>Or.imp id (AO b);have AP:∀b,¬e'.cont.bg L' b->e.cont.bg L b->¬Fo G φ' (mapM A e' S.mem) b:=by
  rintro b Ai A0 (Aj|⟨x,W,AN,A1,A6⟩)
  .exact hm.fX _ ⟨e,he,L,T,A0⟩ Aj
  .obtain⟨y,M,rfl⟩:=mapM_mem.1 W;by_cases I:y.key=e'.key
   .simp only[I,Yh]at A1 A6;rw[A5,Z]at A1;cases A1;exact Ai A6
   .simp only[I,X3]at A1 A6;rw[A5]at I;rw[q _ I]at A1;exact I (hm.apart y M e he AN L A1 T ⟨b,gr.1 A6,A0⟩)
 have AQ:=Ah φ' (Fo G φ' (mapM A e' S.mem)) Z q Y AP;refine⟨φ',⟨h.size,h.defers,?_,⟨?_,?_,?_,?_,?_,?_⟩,h.fY.mono (λ_ _ _=>rfl) (Ds _) (λb _=>Y b)⟩,Ar AO hle⟩
 .intro t x W;obtain⟨y,M,rfl⟩:=sh A S.env t true x W;exact AQ _ _ (h.env t y M)
 .show ((mapM A e' S.mem).map (·.key)).Nodup;rw[si];exact hm.nodup
 .intro k AE A7;show k∈(mapM A e' S.mem).map (·.key);rw[si];by_cases I:k=e.key
  .subst I;exact Xw he
  .rw[q k I]at A7;exact hm.kI k AE A7
 .intro x W;obtain⟨y,M,rfl⟩:=mapM_mem.1 W;by_cases I:y.key=e'.key
  .simp only[I,Yh];exact⟨L',by rw[A5];exact Z,Ag,H _ _ Y⟩
  .simp only[I,X3];obtain⟨Ak,Al,An,A4⟩:=hm.de y M;refine⟨Ak,by rw[q _ (by rw[<-A5];exact I)];exact Al,An,?_⟩;cases AJ:y.cont with
   |dead=>trivial
   |box cs=>
    rw[AJ]at A4;obtain⟨g0,arr,elem,g1,g2,g3,g4⟩:=A4;refine⟨by simpa using g0,arr,elem,g1,by simp[g2],g3,λi c v AZ V=>?_⟩;rw[XA]at AZ;obtain⟨z,AK,rfl⟩:=Xj.1 AZ;exact AQ z v (g4 i z v AK V)
   |vec sz rows=>
    rw[AJ]at A4;exact eR.mono A4 (λ_ _ h=>h.mono (λ_ _ _=>rfl) (Ds _) (λb _=>Y b)) (λ_ _=>rfl)
   |ej s p=>rw[AJ]at A4;exact A4
   |buf t b=>
    rw[AJ]at A4;exact⟨A4.1,eR.mono A4.2 (λ_ _ h=>h.mono (λ_ _ _=>rfl) (Ds _) (λb _=>Y b)) (λ_ _=>rfl)⟩
   |vv rows y=>
    rw[AJ]at A4;exact fW.mono A A4 (λ_ _ _ _ u hu=>hu.mono (λ_ _ _=>rfl) (Ds _) (λb _=>Y b)) (λx _ v W=>AQ x v W) (λ_ _=>rfl)
 .rintro x W AI Ao AN B6 A1 Ap ⟨b,A0,Aq⟩;obtain⟨y,M,rfl⟩:=mapM_mem.1 W;obtain⟨B7,At,rfl⟩:=mapM_mem.1 Ao;have pull:∀{z:bk}{AF:Loc},z∈S.mem->φ' (if z.key=e'.key then e' else ⟨z.key,z.U,jF A z.cont⟩:bk).key=some AF->(if z.key=e'.key then e' else ⟨z.key,z.U,jF A z.cont⟩:bk).cont.bg AF b->
   ∃z0∈S.mem,∃AE,φ z0.key=some AE/\z0.cont.bg AE b/\(if z.key=e'.key then e' else ⟨z.key,z.U,jF A z.cont⟩:bk).key=z0.key:=by
   intro z AF AK A8 AG;by_cases I:z.key=e'.key
   .simp only[I,Yh]at A8 AG⊢;rw[A5,Z]at A8;cases A8;exact⟨e,he,L,T,AX b AG,A5⟩
   .simp only[I,X3]at A8 AG⊢;rw[A5]at I;rw[q _ I]at A8;exact⟨z,AK,AF,A8,gr.1 AG,rfl⟩
  obtain⟨z,AK,AF,A8,AG,Au⟩:=pull M A1 A0;obtain⟨Av,Aw,Ax,Ay,Az,B'⟩:=pull At Ap Aq;rw[Au,B'];exact hm.apart z AK Av Aw AF Ax A8 Ay ⟨b,AG,Az⟩
 .exact λb AL=>hm.fX b (AO b AL)
 .exact hm.bound
mutual
def fo(k v off len:Nat):AV->AV
 | .vec A9 AA o l=>if A9=k/\AA=v/\off<=o/\o+l<=off+len then .vec k (v+1) (o-off) l else .vec A9 AA o l
 | .bb A9 AA i j=>if A9=k/\AA=v/\off<=i then .bb k (v+1) (i-off) j else .bb A9 AA i j
 | .agg cs=>.agg (iM k v off len cs)
 | .fn f cap=>.fn f (iM k v off len cap)
 | .bc vs=>.bc (iM k v off len vs)
 | .aA=>.aA
 | .d x=>.d x
 | .ptr a b c=>.ptr a b c
 | .tn a b c=>.tn a b c
 | .bR x j=>.bR x j
 | .dF t x=>.dF t x
 | .lit v=>.lit v
 | .nn=>.nn
 | .err=>.err
def iM(k v off len:Nat):List AV->List AV
 |[]=>[]
 |x::r=>fo k v off len x::iM k v off len r
end
def lW(k v off len):∀(l:List AV)(i:Nat),(iM k v off len l)[i]?=(l[i]?).map (fo k v off len)
 |[],i=>by simp[iM]
 |x::r,i=>by cases i with|zero=>simp[iM]|succ i=>simp[iM,lW k v off len r i]
def iw(k v off len):∀(l:List AV),(iM k v off len l).length=l.length
 |[]=>rfl
 |x::r=>by simp[iM,iw k v off len r]
def St.trim(S:St)(k off len:Nat):St:=
 match Mem.get S.mem k with
 |some ⟨_,v,.vec sz rows⟩=>if off+len<=rows.length then S.sj (fo k v off len) ⟨k,v+1,.vec sz ((rows.drop off).take len)⟩else S
 |_=>S
def yk(S:St)(k off len:Nat):bZ S (S.trim k off len):=by
 unfold St.trim;split
 .rename_i key v sz rows AR;split
  .rename_i hle;refine⟨rfl,rfl,λφ G a w AC=>?_⟩;obtain⟨hm,I,L,T,AH,AM⟩:=AC.mem.get AR;simp only at I AH AM;subst I;obtain⟨g1,g2,g3,g4⟩:=AM;refine As AC (fo key v off len) (e:=⟨key,v,.vec sz rows⟩) (e':=⟨key,v+1,.vec sz ((rows.drop off).take len)⟩) hm T rfl (L':=⟨v+1,L.a7,L.sz,L.cap-off,L.base+off*L.sz,[],L.ty⟩)
    (by simp only;omega) rfl (λb A0=>⟨by have:=A0.1;simp only at this;omega,A0.2⟩) ?_ ?_
   .intro φ' F' Z q Y _ x u W;induction W with
    |aA v=>exact .aA v
    |d x v h=>exact .d x v (h.mono (λ_ _ _=>rfl) (Ds _) (λb _=>Y b))
    |agg cs a A2 J _ ih=>
     refine .agg _ a (by rw[iw];exact A2) J (λi c v H V=>?_);rw[lW]at H;obtain⟨y,M,rfl⟩:=Xj.1 H;exact ih i y v M V
    |ptr N U o v2 A3 E A' h J=>
     unfold fo;by_cases O:N=key
     .subst O;rw[T]at E;cases E;exact .ptr _ U o v2 _ Z (by simp only;omega) (λhe=>by simp only at he;omega) J
     .exact .ptr N U o v2 A3 (by rw[q _ O];exact E) A' h J
    |tn N U t A3 E A' h=>
     unfold fo;by_cases O:N=key
     .subst O;rw[T]at E;cases E;exact .tn _ U t _ Z (by simp only;omega) (λhe=>by simp only at he;omega)
     .exact .tn N U t A3 (by rw[q _ O];exact E) A' h
    |vec N U o l v2 A3 E A' h J=>
     unfold fo;split
     .rename_i H;obtain⟨rfl,rfl,A0,A_⟩:=H;rw[T]at E;cases E;refine .vec _ _ _ l v2 _ Z (Ds _) (λ_=>?_) J;obtain⟨a0,cap,rfl,B0,B1⟩:=h AH.symm;refine⟨a0,cap,rfl,B0,λB2=>?_⟩;obtain⟨rfl,B8⟩:=B1 B2;refine⟨?_,by simp only;omega⟩;congr 2;show L.base+o*L.sz=L.base+off*L.sz+(o-off)*L.sz;rw[XC,<-XO];congr 2;omega
     .by_cases O:N=key
      .subst O;rw[T]at E;cases E;exact .vec _ U o l v2 _ Z (by simp only;omega) (λhe=>by simp only at he;omega) J
      .exact .vec N U o l v2 A3 (by rw[q _ O];exact E) A' h J
    |bb N U i j v2 A3 E A' h J=>
     unfold fo;split
     .rename_i H;obtain⟨rfl,rfl,A0⟩:=H;rw[T]at E;cases E;refine .bb _ _ _ j v2 _ Z (Ds _) (λ_=>?_) J;rw[h AH.symm];congr 3;show L.base+i*L.sz+j=L.base+off*L.sz+(i-off)*L.sz+j;rw[XC L.base (off*L.sz),<-XO];congr 3;omega
     .by_cases O:N=key
      .subst O;rw[T]at E;cases E;exact .bb _ U i j v2 _ Z (by simp only;omega) (λhe=>by simp only at he;omega) J
      .exact .bb N U i j v2 A3 (by rw[q _ O];exact E) A' h J
    |bR x j b o AI AL AS W H=>exact .bR x j b o AI AL (λh=>AS (Y b h)) (W.mono (λ_ _ _=>rfl) (Ds _) (λb _=>Y b)) H
    |fn f cap a AT A2 _ ih=>
     refine .fn f _ a AT (by rw[iw];exact A2) (λi c v H V=>?_);rw[lW]at H;obtain⟨y,M,rfl⟩:=Xj.1 H;exact ih i y v M V
    |lJ f cap a A2 _ ih=>
     refine .lJ f _ a (by rw[iw];exact A2) (λi c v H V=>?_);rw[lW]at H;obtain⟨y,M,rfl⟩:=Xj.1 H;exact ih i y v M V
    |bc vs a A2 _ ih=>
     refine .bc _ a (by rw[iw];exact A2) (λi c v H V=>?_);rw[lW]at H;obtain⟨y,M,rfl⟩:=Xj.1 H;exact ih i y v M V
    |dF t x v h=>exact .dF t x v (h.mono (λ_ _ _=>rfl) (Ds _) (λb _=>Y b))
    |lit v h=>exact .lit v h
    |nn a cap=>exact .nn a cap
    |err t v=>exact .err t v
   .intro φ' F' Y;refine⟨g1,by simp only[X6,Yu];omega,λd AD=>g3 d (Xy (XF AD)),λA7=>?_⟩;simp only at A7;obtain⟨arr,elem,f1,f2,f3,f4⟩:=g4 (by omega);refine⟨arr,elem,f1,?_,f3,λi d AD=>?_⟩
    .rw[f2];show L.base+L.cap*L.sz=L.base+off*L.sz+(L.cap-off)*L.sz;rw[XC,<-XO];congr 2;omega
    .rw[Xp]at AD;split at AD
     .rw[XJ]at AD;obtain⟨v,V,B3⟩:=f4 _ d AD;refine⟨v,V.mono (λ_ _ _=>rfl) (Ds _) (λb _=>Y b),λj c B4=>?_⟩;have:=B3 j c B4;rw[XO]at this;rw[<-XC L.base]at this;exact this
     .cases AD
  .exact bZ.refl S
 .exact bZ.refl S
mutual
def fq(k v:Nat)(rows:List D):AV->AV
 | .vec A9 AA o l=>if A9=k/\AA=v/\o+l<=rows.length then .d (.list ((rows.drop o).take l))else .vec A9 AA o l
 | .agg cs=>.agg (jv k v rows cs)
 | .fn f cap=>.fn f (jv k v rows cap)
 | .bc vs=>.bc (jv k v rows vs)
 | .bb a b c d=>.bb a b c d
 | .aA=>.aA
 | .d x=>.d x
 | .ptr a b c=>.ptr a b c
 | .tn a b c=>.tn a b c
 | .bR x j=>.bR x j
 | .dF t x=>.dF t x
 | .lit v=>.lit v
 | .nn=>.nn
 | .err=>.err
def jv(k v:Nat)(rows:List D):List AV->List AV
 |[]=>[]
 |x::r=>fq k v rows x::jv k v rows r
end
def lX(k v rows):∀(l:List AV)(i:Nat),(jv k v rows l)[i]?=(l[i]?).map (fq k v rows)
 |[],i=>by simp[jv]
 |x::r,i=>by cases i with|zero=>simp[jv]|succ i=>simp[jv,lX k v rows r i]
def ix(k v rows):∀(l:List AV),(jv k v rows l).length=l.length
 |[]=>rfl
 |x::r=>by simp[jv,ix k v rows r]
def St.freeze(S:St)(k:Nat):St:=
 match Mem.get S.mem k with
 |some ⟨_,v,.vec _ rows⟩=>S.sj (fq k v rows) ⟨k,v+1,.dead⟩
 |_=>S
def BT(S:St)(k:Nat):bZ S (S.freeze k):=by
 unfold St.freeze;split
 .rename_i key v sz rows AR;refine⟨rfl,rfl,λφ G a w AC=>?_⟩;obtain⟨hm,I,L,T,AH,AM⟩:=AC.mem.get AR;simp only at I AH AM;subst I;refine As AC (fq key v rows) (e:=⟨key,v,.vec sz rows⟩) (e':=⟨key,v+1,.dead⟩) hm T rfl (L':={L with U:=v+1})
   (by simp only;omega) rfl (λ_ A0=>A0.elim) ?_ (λ_ _ _=>trivial)
  intro φ' F' Z q Y AP x u W;induction W with
  |aA v=>exact .aA v
  |d x v h=>exact .d x v (h.mono (λ_ _ _=>rfl) (Ds _) (λb _=>Y b))
  |agg cs a A2 J _ ih=>
   refine .agg _ a (by rw[ix];exact A2) J (λi c v H V=>?_);rw[lX]at H;obtain⟨y,M,rfl⟩:=Xj.1 H;exact ih i y v M V
  |ptr N U o v2 A3 E A' h J=>
   unfold fq;by_cases O:N=key
   .subst O;rw[T]at E;cases E;exact .ptr _ U o v2 _ Z (by simp only;omega) (λhe=>by simp only at he;omega) J
   .exact .ptr N U o v2 A3 (by rw[q _ O];exact E) A' h J
  |tn N U t A3 E A' h=>
   unfold fq;by_cases O:N=key
   .subst O;rw[T]at E;cases E;exact .tn _ U t _ Z (by simp only;omega) (λhe=>by simp only at he;omega)
   .exact .tn N U t A3 (by rw[q _ O];exact E) A' h
  |vec N U o l v2 A3 E A' h J=>
   unfold fq;split
   .rename_i H;obtain⟨rfl,rfl,A_⟩:=H;rw[T]at E;cases E;exact .d _ _ (uQ (.vec _ _ o l v2 L T A' h J) T AH AM A_ Y (λA0=>AP _ (λhh=>hh) ⟨A0,rfl⟩))
   .by_cases O:N=key
    .subst O;rw[T]at E;cases E;exact .vec _ U o l v2 _ Z (by simp only;omega) (λhe=>by simp only at he;omega) J
    .exact .vec N U o l v2 A3 (by rw[q _ O];exact E) A' h J
  |bb N U i j v2 A3 E A' h J=>
   unfold fq;by_cases O:N=key
   .subst O;rw[T]at E;cases E;exact .bb _ U i j v2 _ Z (by simp only;omega) (λhe=>by simp only at he;omega) J
   .exact .bb N U i j v2 A3 (by rw[q _ O];exact E) A' h J
  |bR x j b o AI AL AS W H=>exact .bR x j b o AI AL (λh=>AS (Y b h)) (W.mono (λ_ _ _=>rfl) (Ds _) (λb _=>Y b)) H
  |fn f cap a AT A2 _ ih=>
   refine .fn f _ a AT (by rw[ix];exact A2) (λi c v H V=>?_);rw[lX]at H;obtain⟨y,M,rfl⟩:=Xj.1 H;exact ih i y v M V
  |lJ f cap a A2 _ ih=>
   refine .lJ f _ a (by rw[ix];exact A2) (λi c v H V=>?_);rw[lX]at H;obtain⟨y,M,rfl⟩:=Xj.1 H;exact ih i y v M V
  |bc vs a A2 _ ih=>
   refine .bc _ a (by rw[ix];exact A2) (λi c v H V=>?_);rw[lX]at H;obtain⟨y,M,rfl⟩:=Xj.1 H;exact ih i y v M V
  |dF t x v h=>exact .dF t x v (h.mono (λ_ _ _=>rfl) (Ds _) (λb _=>Y b))
  |lit v h=>exact .lit v h
  |nn a cap=>exact .nn a cap
  |err t v=>exact .err t v
 .exact bZ.refl S
def sl(P:Program)(S:St):ResultVar->bp
 | .tmp t=>.val (S.ag (.tmp t)).1 (S.ag (.tmp t)).2
 | .cell p t=>match gW P S.mem t (S.ag (.tmp p)).2 with
  | .val c x=>.val ((S.ag (.tmp p)).1&&c) x
  |_=>.no
def nF(P:Program)(S:St):List ResultVar->Option (Bool×List AV)
 |[]=>some (true,[])
 |r::rs=>match sl P S r with
  | .val c x=>match nF P S rs with
   |some (c',xs)=>some (c&&c',x::xs)
   |none=>none
  |_=>none
def oneOf:List AV->AV
 |[x]=>x
 |xs=>.bc xs
def sn(tmps:Array Value):ResultVar->Sem Value
 | .tmp t=>pure (tmps.getD t undef)
 | .cell a t=>do loadVar t (<-asAddr (tmps.getD a undef))
def Dq{P:Program}{S:St}{r:ResultVar}{c:Bool}{x:AV}(h:sl P S r=.val c x)(J:c=true){φ G a w}(A3:Rel φ G S a w):
 ∃v,(sn a.tmps r).run P w=.ok v w/\ai φ w (Fo G φ S.mem) x v:=by
 unfold sl at h;split at h
 .rename_i t;simp only[bp.val.injEq]at h;obtain⟨rfl,rfl⟩:=h;exact⟨_,rfl,A3.ag (.tmp t) J⟩
 .rename_i p t;split at h
  .rename_i c' Aw A4;simp only[bp.val.injEq]at h;obtain⟨rfl,rfl⟩:=h;simp only[Xl]at J;have:=Ci P S {dst:=none,op:=.load t (.tmp p),type:=0,pos:= "",after:=#[],guard:=none} t (.tmp p) rfl J.1;rw[A4]at this;obtain⟨v,V,Aa⟩:=this J.2 φ G a w A3;have Ab:a.eval (.tmp p)=a.tmps.getD p undef:=rfl;simp only[execOp,Instr.loadAt,Ab]at V;cases AH:a.tmps.getD p undef with
   |pointer AI=>
    rw[AH]at V;cases AI with
    |none=>simp[Instr.sureAddr,stuck]at V
    |some AI=>
     simp only[Instr.sureAddr,Sem.run_bind,Sem.run_pure,Result.andThen_ok]at V;generalize Ac:(loadVar t AI).run P w=q at V;cases q with
     |halt _ _=>simp at V
     |ok v2 Ax=>
      simp at V;obtain⟨rfl,rfl⟩:=V;refine⟨v2,?_,Aa⟩;simp only[sn,AH,asAddr,Sem.run_bind,Sem.run_pure,Result.andThen_ok,Ac]
   |_=>rw[AH]at V;simp[Instr.sureAddr,stuck]at V
  .cases h
def qc{P:Program}{S:St}{φ G a w}(A3:Rel φ G S a w):∀(rs:List ResultVar)(c:Bool)(xs:List AV),nF P S rs=some (c,xs)->c=true->
 ∃vs:List Value,(rs.mapM (sn a.tmps)).run P w=.ok vs w/\xs.length=vs.length/\
  ∀(i:Nat) x v,xs[i]?=some x->vs[i]?=some v->ai φ w (Fo G φ S.mem) x v
 |[],c,xs,h,_=>by
  simp only[nF,Xn,XB]at h;obtain⟨_,rfl⟩:=h;exact⟨[],by simp,rfl,by simp⟩
 |r::rs,c,xs,h,J=>by
  simp only[nF]at h;split at h
  .rename_i Ay x H;split at h
   .rename_i c2 Ad Ae;simp only[Xn,XB]at h;obtain⟨rfl,rfl⟩:=h;simp only[Xl]at J;obtain⟨v,A5,A8⟩:=Dq H J.1 A3;obtain⟨vs,AJ,W,A9⟩:=qc (P:=P) A3 rs c2 Ad Ae J.2;refine⟨v::vs,?_,by simp[W],λi x v h AK=>?_⟩
    .rw[List.mapM_cons];simp only[Sem.run_bind,A5,Result.andThen_ok,AJ,Sem.run_pure]
    .cases i with
     |zero=>simp at h AK;subst h;subst AK;exact A8
     |succ i=>exact A9 i x v (by simpa using h) (by simpa using AK)
   .cases h
  .cases h
mutual
def fS(k v:Nat):AV->Option (Nat×Nat)
 | .vec Af Ag o l=>if Af=k/\Ag=v then some (o,l)else none
 | .agg cs=>lY k v cs
 | .fn _ cap=>lY k v cap
 | .bc vs=>lY k v vs
 | .bb _ _ _ _=>none
 | .aA=>none
 | .d _=>none
 | .ptr _ _ _=>none
 | .tn _ _ _=>none
 | .bR _ _=>none
 | .dF _ _=>none
 | .lit _=>none
 | .nn=>none
 | .err=>none
def lY(k v:Nat):List AV->Option (Nat×Nat)
 |[]=>none
 |x::r=>match fS k v x with
  |some p=>some p
  |none=>lY k v r
end
def pA(k v:Nat):Mem->Option (Nat×Nat)
 |[]=>none
 |⟨_,_,.box cs⟩::r=>match lY k v cs with
  |some p=>some p
  |none=>pA k v r
 |_::r=>pA k v r
def vX(k v:Nat):Env->Option (Nat×Nat)
 |[]=>none
 |(_,_,x)::r=>match fS k v x with
  |some p=>some p
  |none=>vX k v r
def St.qd(S:St)(k:Nat):St:=
 match Mem.get S.mem k with
 |some ⟨_,v,.vec _ _⟩=>match pA k v S.mem with
  |some (o,l)=>S.trim k o l
  |none=>match vX k v S.env with
   |some (o,l)=>S.trim k o l
   |none=>S
 |_=>S
def vY(S:St)(k:Nat):bZ S (S.qd k):=by
 unfold St.qd;split
 .split
  .exact yk ..
  .split
   .exact yk ..
   .exact bZ.refl S
 .exact bZ.refl S
def St.qe(S:St):List Nat->St
 |[]=>S
 |k::r=>(S.qd k).qe r
def vZ:∀(l:List Nat)(S:St),bZ S (S.qe l)
 |[],S=>bZ.refl S
 |k::r,S=>(vY S k).trans (vZ r _)
mutual
def dM:AV->List Nat
 | .ptr k _ _=>[k]
 | .tn k _ _=>[k]
 | .vec k _ _ _=>[k]
 | .bb k _ _ _=>[k]
 | .agg cs=>gk cs
 | .fn _ cap=>gk cap
 | .bc vs=>gk vs
 | .aA=>[]
 | .d _=>[]
 | .bR _ _=>[]
 | .dF _ _=>[]
 | .lit _=>[]
 | .nn=>[]
 | .err=>[]
def gk:List AV->List Nat
 |[]=>[]
 |x::r=>dM x++gk r
end
def eY:Option bk->List Nat
 |some ⟨_,_,.box cs⟩=>gk cs
 |some ⟨_,_,.vv _ (some x)⟩=>dM x
 |_=>[]
def collect(m:Mem):Nat->List Nat->List Nat->List Nat
 |0,_,I=>I
 |_+1,[],I=>I
 |n+1,k::todo,I=>match I.contains k||(Mem.get m k).isNone with
  |true=>collect m n todo I
  |false=>collect m n (todo++eY (Mem.get m k)) (I++[k])
def ki(m:Mem):∀(n:Nat)(todo I:List Nat),I.Nodup->(∀k∈I,(Mem.get m k).isSome=true)->(collect m n todo I).Nodup/\∀k∈collect m n todo I,(Mem.get m k).isSome=true
 |0,todo,I,h,A'=>⟨h,A'⟩
 |n+1,[],I,h,A'=>⟨h,A'⟩
 |n+1,k::todo,I,h,A'=>by
  simp only[collect];split
  .exact ki m n todo I h A'
  .rename_i J;simp only[Bool.or_eq_false_iff,List.contains_eq_mem,YE,Option.isNone_eq_false_iff]at J;refine ki m n _ _ ?_ ?_
   .rw[List.nodup_append];exact⟨h,by simp,λa A6 b N AA=>by simp at N;subst N;subst AA;exact J.1 A6⟩
   .intro x H;rcases XL.1 H with H|H
    .exact A' x H
    .simp at H;subst H;exact J.2
def dead(k:Nat):bk:=⟨k,0,.dead⟩
def aQ.add(φ:aQ)(ks:List Nat):aQ:=λk=>if k∈ks then some ⟨0,0,0,0,0,[],none⟩else φ k
def tE{φ:aQ}{m:Mem}{ks:List Nat}(M:∀k∈ks,k∉m.map (·.key))(b:Nat):ek (φ.add ks) (m++ks.map dead) b↔ek φ m b:=by
 constructor
 .rintro ⟨e,he,L,E,O⟩;rcases XL.1 he with he|he
  .have:e.key∉ks:=λh=>M _ h (Xw he);simp only[aQ.add,this,X3]at E;exact⟨e,he,L,E,O⟩
  .simp only[Xt]at he;obtain⟨k,_,rfl⟩:=he;exact O.elim
 .rintro ⟨e,he,L,E,O⟩;have:e.key∉ks:=λh=>M _ h (Xw he);exact⟨e,YM _ he,L,by simp[aQ.add,this,E],O⟩
def Ln{φ:aQ}{G}{m:Mem}{ks:List Nat}(M:∀k∈ks,k∉m.map (·.key)):Fo G (φ.add ks) (m++ks.map dead)=Fo G φ m:=by
 funext b;simp only[Fo,tE M b]
def At{φ:aQ}{G m w}(h:aE φ G m w){ks:List Nat}(M:∀k∈ks,k∉m.map (·.key)):φ.le (φ.add ks):=by
 intro k L E;have:k∉ks:=λT=>M k T (h.kI k L E);exact⟨L,by simp[aQ.add,this,E],Ds _,λ_=>rfl⟩
def aE.add{φ G m w}(h:aE φ G m w){ks:List Nat}(Ah:ks.Nodup)(M:∀k∈ks,k∉m.map (·.key)):aE (φ.add ks) G (m++ks.map dead) w:=by
 have hle:=At h M;have Ai:=Ln (φ:=φ) (G:=G) M;refine⟨?_,?_,?_,?_,?_,h.bound⟩
 .rw[List.map_append,List.nodup_append];have e:(ks.map dead).map (·.key)=ks:=by simp[Function.comp_def,dead]
  rw[e];exact⟨h.nodup,Ah,λa A6 b N AA=>M b N (AA▸A6)⟩
 .intro k L E;simp only[aQ.add]at E;split at E
  .rename_i T;rw[List.map_append];refine List.mem_append_right _ ?_;rw[List.map_map];exact Xt.2 ⟨k,T,rfl⟩
  .rw[List.map_append];exact YM _ (h.kI k L E)
 .intro e he;rw[Ai];rcases XL.1 he with he|he
  .obtain⟨L,E,AL,J⟩:=h.de e he;have:e.key∉ks:=λh=>M _ h (Xw he);exact⟨L,by simp[aQ.add,this,E],AL,J.mono hle (λ_ _ _=>rfl) (Ds _) (λ_ _ h=>h) (λ_ _=>rfl)⟩
  .simp only[Xt]at he;obtain⟨k,T,rfl⟩:=he;exact⟨⟨0,0,0,0,0,[],none⟩,by simp[aQ.add,dead,T],rfl,trivial⟩
 .rintro e he e' Y L L' E AN ⟨b,O,AO⟩;rcases XL.1 he with he|he
  .rcases XL.1 Y with Y|Y
   .have A5:e.key∉ks:=λh=>M _ h (Xw he);have A8:e'.key∉ks:=λh=>M _ h (Xw Y);simp only[aQ.add,A5,A8,X3]at E AN;exact h.apart e he e' Y L L' E AN ⟨b,O,AO⟩
   .simp only[Xt]at Y;obtain⟨k,_,rfl⟩:=Y;exact AO.elim
  .simp only[Xt]at he;obtain⟨k,_,rfl⟩:=he;exact O.elim
 .intro b N Aj;exact h.fX b ((tE M b).1 N) Aj
def dU:Nat->List AV->Env
 |_,[]=>[]
 |i,x::r=>(i,true,x)::dU (i+1) r
def qf:∀(i:Nat)(xs:List AV)(t:Nat)(y:Bool×AV),Env.lk (dU i xs) t=some y->∃j,t=i+j/\xs[j]?=some y.2
 |i,[],t,y,h=>by simp[dU,Env.lk]at h
 |i,x::r,t,y,h=>by
  simp only[dU,Env.lk]at h;by_cases A0:i=t
  .subst A0;simp at h;subst h;exact⟨0,rfl,rfl⟩
  .simp only[A0,X3]at h;obtain⟨j,rfl,AB⟩:=qf (i+1) r t y h;exact⟨j+1,by omega,by simpa using AB⟩
def bS:Nat->List ay->Mem
 |_,[]=>[]
 |i,c::r=>⟨i,0,c⟩::bS (i+1) r
def Au:∀(cs:List ay)(i:Nat),bS i cs=bH i (cs.map λc=>(0,c))
 |[],i=>rfl
 |c::r,i=>by simp[bS,bH,Au r]
def entry(n:Nat)(gl:List (Nat×D))(args:List AV)(cs:List ay)(sites:List Nat):St:={n,gl,env:=dU 0 args,mem:=bS 0 cs++sites.map dead}
def v7(A:Nat)(i v:Nat):Nat:=if i<A then (if v=0 then 0 else 1)else 0
structure c8 where
 Qp:List Nat
 exp:Bool
 sites:List Nat
 oR:List Nat
 split:Bool
def kV(p:c8)(A:Nat)(m:Mem)(xs:List AV):List Nat:=
 match p.exp with
 |true=>List.range A++(collect m 64 (gk xs++List.range A) []).filter (λk=>!decide (k<A))
 |false=>List.range A
def gM:Env->List AV
 |[]=>[]
 |(_,_,x)::r=>x::gM r
def uu:Bool->AV->AV
 |true,x=>x
 |false,x=>x.norm
def ai.uu{b:Bool}{φ w F x v}(h:ai φ w F x v):ai φ w F (uu b x) v:=by
 cases b
 .exact h.norm
 .exact h
def Av(b:Bool)(K:List Nat)(A:Nat)(S:St)(one:List AV->Out):Option (Out×List (Nat×ay)):=
 if K.all (λk=>(Mem.get S.mem k).isSome)then some (one ((gM S.env).map λx=>uu b (vw S.mem K (λ_=>true) (v7 A) x)),cd S.mem K (λ_=>true) (v7 A) 0 K)else none
def tF(p:c8)(K:List Nat)(S:St):St:=S.qe (K.filter λk=>!p.Qp.contains k)
def kW(p:c8)(A:Nat)(S:St)(xs:List AV)(one:List AV->Out):Option (Out×List (Nat×ay)):=
 let K:=kV p A S.mem xs
 Av (p.oR.contains 1000) K A (tF p K {S with n:=xs.length,env:=dU 0 xs}) one
def finish(P:Program)(p:c8)(A:Nat)(rs:List ResultVar)(S:St):Option (Out×List (Nat×ay)):=
 match nF P S rs with
 |some (c,xs)=>if c=true then kW p A S xs (λA7=>.ret (oneOf A7))else none
 |none=>none
def qg(p:c8)(A:Nat)(t:TypeId)(x:D)(S:St):Option (Out×List (Nat×ay)):=kW p A S [] (λ_=>.panic t x)
def cW:Env->List (Nat×Bool)
 |[]=>[]
 |(t,g,_)::r=>(t,g)::cW r
def uv(AP:AV->AV):∀env:Env,cW (ji AP env)=cW env
 |[]=>rfl
 |(t,g,x)::r=>by simp[ji,cW,uv AP r]
def yl(S:St)(k o l:Nat):cW (S.trim k o l).env=cW S.env:=by
 unfold St.trim;split
 .split
  .exact uv _ _
  .rfl
 .rfl
def Dr(S:St)(k:Nat):cW (S.qd k).env=cW S.env:=by
 unfold St.qd;split
 .split
  .exact yl ..
  .split
   .exact yl ..
   .rfl
 .rfl
def v8:∀(l:List Nat)(S:St),cW (S.qe l).env=cW S.env
 |[],S=>rfl
 |k::r,S=>by rw[St.qe,v8 r,Dr]
def wa:∀(i:Nat)(xs:List AV),cW (dU i xs)=(List.range' i xs.length).map λj=>(j,true)
 |i,[]=>rfl
 |i,x::r=>by simp[dU,cW,wa (i+1) r,Yj]
def CA:∀(env:Env)(i n j:Nat),cW env=(List.range' i n).map (λj=>(j,true))->∀x,(gM env)[j]?=some x->Env.lk env (i+j)=some (true,x)
 |[],i,n,j,_,x,H=>by simp[gM]at H
 |(t,g,y)::r,i,n,j,h,x,H=>by
  cases n with
  |zero=>simp[cW]at h
  |succ n=>
   simp only[cW,Yj,XU,List.cons.injEq,XB]at h;obtain⟨⟨rfl,rfl⟩,h⟩:=h;cases j with
   |zero=>simp[gM]at H;subst H;simp[Env.lk]
   |succ j=>
    have:=CA r (t+1) n j h x (by simpa [gM]using H);simp only[Env.lk];rw[Xq (by omega),show t+(j+1)=t+1+j by omega];exact this
def pB:∀env:Env,(gM env).length=(cW env).length
 |[]=>rfl
 |(_,_,_)::r=>by simp[gM,cW,pB r]
def y8(p:c8)(A:Nat)(m:Mem)(xs:List AV):(kV p A m xs).Nodup:=by
 unfold kV;split
 .rw[List.nodup_append];refine⟨List.nodup_range,((ki m 64 _ [] List.nodup_nil (by simp)).1).filter _,λa A6 b N AA=>?_⟩;simp only[XI]at A6;simp only[XV,Bool.not_eq_true',YE]at N;omega
 .exact List.nodup_range
def BU(p:c8)(A:Nat)(m:Mem)(xs:List AV){k:Nat}(T:k<A):(kV p A m xs)[k]?=some k:=by
 unfold kV;split
 .rw[Xr (by simpa using T)];simp[T]
 .simp[T]
def mL{p:c8}{A:Nat}{S:St}{xs:List AV}{one:List AV->Out}{out:Out}{l:List (Nat×ay)}(h:kW p A S xs one=some (out,l))
 {φ:aQ} {G:Fr} {w:World} (hm:aE φ G S.mem w) (AC:b5 w (Fo G φ S.mem) S.gl) {vs:List Value} (A4:xs.length=vs.length)
 (H:∀(i:Nat) x v,xs[i]?=some x->vs[i]?=some v->ai φ w (Fo G φ S.mem) x v) {φ0:aQ} {m0:Mem} {w0:World} (T:az φ0 m0 w0 φ S.mem w) (Ak:∀k L,φ0 k=some L->k<A/\L.U=0):
 ∃φ' A7,out=one A7/\aE φ' G (bH 0 l) w/\az φ0 m0 w0 φ' (bH 0 l) w/\A7.length=vs.length/\(∀(i:Nat) y v,A7[i]?=some y->vs[i]?=some v->ai φ' w (Fo G φ' (bH 0 l)) y v)/\
  ∀b,Fo G φ' (bH 0 l) b->Fo G φ S.mem b:=by
 unfold kW at h;obtain⟨K,AD⟩:∃K,K=kV p A S.mem xs:=⟨_,rfl⟩;have Al:K.Nodup:=by rw[AD];exact y8 ..
 have An:∀k,k<A->K[k]?=some k:=λk h=>by rw[AD];exact BU _ _ _ _ h
 simp only[<-AD]at h;clear AD;have Ao:Rel φ G {S with n:=xs.length,env:=dU 0 xs} {tmps:=vs.toArray,defers:=G.dv} w:=by
  refine⟨by simp[A4],rfl,λt x A0=>?_,hm,AC⟩;obtain⟨j,rfl,AB⟩:=qf 0 xs t _ A0;have AQ:j<vs.length:=by rw[<-A4];exact (D1.1 AB).1
  have e:vs.toArray.getD (0+j) undef=vs[j]:=by simp[AQ]
  simp only[e];exact H j x _ AB (by simp[AQ])
 obtain⟨A1,AE⟩:∃A1,A1=tF p K {S with n:=xs.length,env:=dU 0 xs}:=⟨_,rfl⟩;have A0:bZ {S with n:=xs.length,env:=dU 0 xs} A1:=by rw[AE];exact vZ ..
 have AR:cW A1.env=(List.range' 0 xs.length).map λj=>(j,true):=by
  rw[AE,tF,v8];exact wa 0 xs
 rw[<-AE]at h;clear AE;obtain⟨AS,AT,AU⟩:=A0.2.2 φ G _ w Ao;unfold Av at h;split at h
 .rename_i Ap;simp only[Xn,XB]at h;obtain⟨rfl,rfl⟩:=h;have AF:=AT.mem;have AW:∀k∈K,(Mem.get A1.mem k).isSome=true:=by simpa using Ap
  obtain⟨s1,s2,Aq⟩:=tD (G1:=G) (ρ:=K) (bor:=λ_=>true) (nv:=v7 A) AF Al AW (λb h=>.inl h) (λb h=>AF.fX b h.own)
   (λk e L b AC _ _ E O=>AF.fX _ ⟨e,(Mem.get_mem AC).1,L,by rw[(Mem.get_mem AC).2];exact E,O⟩)
  have Z:=T.trans AU;refine⟨AS.dX K (v7 A),_,rfl,s1,⟨?_,Z.rN,?_,Z.size,Z.os,Z.tape,Z.output⟩,?_,?_,?_⟩
  .intro k L E;obtain⟨AM,AG⟩:=Ak k L E;obtain⟨AX,A5,A8,AJ⟩:=Z.le k L E;refine⟨{AX with U:=v7 A k AX.U},by simp[aQ.dX,An k AM,A5],by simp[AG],λhe=>?_⟩;simp only[v7,AM,Yh,AG]at he;split at he
   .rename_i Ar;have W:=AJ (by rw[AG];exact Ar);have g1:=XR Loc.U W;have g2:=XR Loc.a7 W;have g3:=XR Loc.sz W;have g4:=XR Loc.cap W;have g5:=XR Loc.base W;have g6:=XR Loc.ty W;simp only at g1 g2 g3 g4 g5 g6⊢;rw[g1,g2,g3,g4,g5,g6];simp only[v7,AM,Yh,AG]
   .simp at he
  .intro b N O;exact Z.own b N ((py (φ:=AS) (nv:=v7 A) (bor:=λ_=>true) AW b).1 O).own
  .rw[List.length_map,pB,AR];simp[A4]
  .intro i y v AY AL;rw[XA]at AY;obtain⟨x,As,rfl⟩:=Xj.1 AY;have A9:=CA A1.env 0 xs.length i AR x As;rw[X8]at A9;have AZ:=AT.env i x A9;have e:vs.toArray.getD i undef=v:=by simp[AL]
   simp only[e]at AZ;exact (s2 x v AZ).uu
  .intro b N;have A2:=Aq b N;rcases A2 with A2|A2
   .exact .inl A2
   .rcases Nat.lt_or_ge b w.heap.size with A_|A_
    .exact .inr (AU.own b A_ A2)
    .exact absurd (AF.vz A2) (by omega)
 .cases h
def aK:AV->List Nat
 | .ptr k _ _=>[k]
 | .vec k _ _ _=>[k]
 | .bb k _ _ _=>[k]
 |_=>[]
def mX(S:St):List Operand->List Nat
 |[]=>[]
 |x::r=>aK (S.ag x).2++mX S r
def wc(S:St):Op->List Nat
 | .move _=>[]
 | .assign _=>[]
 |op=>mX S op.operands.toList
def eH(S:St)(o:Oper):List Nat:=keyOf o::wc S o.op
def uw{S:St}:∀{l:List Operand}{x:Operand},x∈l->∀k∈aK (S.ag x).2,k∈mX S l
 |[],x,h,_,_=>by simp at h
 |y::r,x,h,k,J=>by
  simp only[mX,XL];rcases Xm.1 h with rfl|h
  .exact .inl J
  .exact .inr (uw h k J)
section
variable {P:Program} {m m':Mem}
theorem Fg{t p}(h:∀k∈aK p,Mem.get m' k=Mem.get m k):gW P m' t p=gW P m t p:=by
 cases p<;>simp_all [gW,aK]
theorem oS{sz x}(h:∀k∈aK x,Mem.get m' k=Mem.get m k):di m' sz x=di m sz x:=by
 cases x with
 |vec k U off len=>simp only[di,h k (by simp[aK])]
 |d x=>cases x<;>rfl
 |lit v=>unfold di;split<;>simp_all
 |_=>rfl
theorem Dt{t p x}(h:∀k∈aK p,Mem.get m' k=Mem.get m k):j5 P m' t p x=j5 P m t p x:=by
 cases p<;>simp_all [j5,aK]
theorem Du{s f p}(h:∀k∈aK p,Mem.get m' k=Mem.get m k):jM P m' s f p=jM P m s f p:=by
 cases p<;>simp_all [jM,aK]
theorem y9{p}(h:∀k∈aK p,Mem.get m' k=Mem.get m k):eN m' p=eN m p:=by
 cases p<;>simp_all [eN,aK]
theorem Dv{t p i}(h:∀k∈aK p,Mem.get m' k=Mem.get m k):iq P m' t p i=iq P m t p i:=by
 cases p with
 |vec k U off len=>simp only[iq,h k (by simp[aK])]
 |ptr k U off=>simp only[iq,h k (by simp[aK])]
 |bb k U i j=>simp only[iq,h k (by simp[aK])]
 |d x=>cases x<;>rfl
 |_=>rfl
theorem Dw{t p lo hi}(h:∀k∈aK p,Mem.get m' k=Mem.get m k):gg P m' t p lo hi=gg P m t p lo hi:=by
 cases p with
 |bb k U i j=>simp only[gg,h k (by simp[aK])]
 |vec k U off len=>simp only[gg,h k (by simp[aK])]
 |ptr k U off=>simp only[gg,h k (by simp[aK])]
 |d x=>cases x<;>rfl
 |_=>rfl
theorem Hr{k c cs}(h:Mem.get m' k=Mem.get m k):kP m' k c cs=kP m k c cs:=by simp only[kP,h]
theorem Dx{k t}(h:Mem.get m' k=Mem.get m k):nB P m' k t=nB P m k t:=by simp only[nB,Ai,kP,zH,h]
theorem Hs{op t x y}(A:∀k∈aK x,Mem.get m' k=Mem.get m k):sd P m' op t x y=sd P m op t x y:=by
 unfold sd;split
 .rename_i k v o A4 A5 AG;rw[A k (by simp[aK])]
 .rfl
theorem Dy{k t x}(h:Mem.get m' k=Mem.get m k):nC P m' k t x=nC P m k t x:=by simp only[nC,h]
theorem Fh{b x}(A:∀k∈aK x,Mem.get m' k=Mem.get m k):p7 m' b x=p7 m b x:=by
 unfold p7;split
 .rename_i k v;rw[A k (by simp[aK])]
 .rfl
theorem JN{x}(A:∀k∈aK x,Mem.get m' k=Mem.get m k):Ag m' x=Ag m x:=by
 unfold Ag;split
 .rename_i k v l;rw[A k (by simp[aK])]
 .rfl
theorem JO{t x y}(A:∀k∈aK x,Mem.get m' k=Mem.get m k):Ah P m' t x y=Ah P m t x y:=by
 unfold Ah;split
 .rename_i k v l;rw[A k (by simp[aK])]
 .rfl
theorem Fi{k s d x}(h:Mem.get m' k=Mem.get m k)(A:∀k∈aK x,Mem.get m' k=Mem.get m k):hE P m' k s d x=hE P m k s d x:=by
 have e:=oS (m:=m) (m':=m') (sz:=1) A;cases A0:tk P d<;>cases x with
 |d x=>cases x<;>simp only[hE,A0,e,h]
 |_=>simp only[hE,A0,e]
theorem Fj{k s d x}(h:Mem.get m' k=Mem.get m k)(A:∀k∈aK x,Mem.get m' k=Mem.get m k):kc P m' k s d x=kc P m k s d x:=by
 have e:=Fi (P:=P) (s:=s) (d:=d) h A;cases x with
 |vec V U off len=>simp only[kc,e,A V (by simp[aK])]
 |ptr V U off=>simp only[kc,vP,A V (by simp[aK])]
 |_=>simp only[kc,e]
theorem Fk{k t l c}(h:Mem.get m' k=Mem.get m k):pY P m' k t l c=pY P m k t l c:=by simp only[pY,h]
theorem we{k t n ps}(h:Mem.get m' k=Mem.get m k):fL P m' k t n ps=fL P m k t n ps:=by simp only[fL,lu,h]
theorem Ht{t x}(h:∀k∈aK x,Mem.get m' k=Mem.get m k):jt P m' t x=jt P m t x:=by
 cases x with
 |vec k U off len=>simp only[jt,h k (by simp[aK])]
 |d x=>cases x<;>rfl
 |lit v=>unfold jt;split<;>simp_all
 |_=>rfl
theorem Hu{u sz W Y s x}(N:∀k∈aK s,Mem.get m' k=Mem.get m k)(A:∀k∈aK x,Mem.get m' k=Mem.get m k):pX P m' u sz W Y s x=pX P m u sz W Y s x:=by
 cases s with
 |vec k U off len=>
  cases x with
  |vec A6 AH A7 A8=>
   match A7,A8 with
   |0,1=>simp only[pX,N k (by simp[aK]),A A6 (by simp[aK])]
   |0,0=>rfl
   |0,_+2=>rfl
   |_+1,_=>rfl
  |_=>rfl
 |_=>rfl
theorem Hv{P:Program}{m:Mem}{u:TypeId}{sz W:Nat}{Y:D}{s x:AV}{c:Bool}{k v off n:Nat}{e:bk}(h:pX P m u sz W Y s x=.bl c (.vec k v off n) e):k∈aK s:=by
 unfold pX at h;split at h
 .split at h
  .cases h;simp[aK]
  .cases h
 .cases h
theorem Hw{k t u s x}(h:Mem.get m' k=Mem.get m k)(N:∀k∈aK s,Mem.get m' k=Mem.get m k)(A:∀k∈aK x,Mem.get m' k=Mem.get m k):mm P m' k t u s x=mm P m k t u s x:=by
 unfold mm np;simp only[oS A,h,Hu N A];cases s with
 |vec k U off len=>simp only[N k (by simp[aK])]
 |lit v=>
  cases v with
  |slice ao n c=>cases ao<;>cases n<;>cases c<;>simp only
  |_=>rfl
 |_=>rfl
theorem Hx{P:Program}{m:Mem}{A1:Nat}{t u:TypeId}{s x:AV}{c:Bool}{k v off n:Nat}{e:bk}(h:mm P m A1 t u s x=.bl c (.vec k v off n) e):k=A1\/k∈aK s:=by
 unfold mm at h;split at h
 .split at h
  .split at h
   .split at h
    .split at h
     .cases h;right;simp[aK]
     .split at h
      .cases h;right;simp[aK]
      .cases h
     .cases h
    .split at h
     .cases h;left;rfl
     .cases h
    .cases h
   .exact .inr (Hv h)
  .cases h
 .cases h
theorem Fl{P:Program}{m m':Mem}{k t u s x}(h:Mem.get m' k=Mem.get m k)(N:∀k∈aK s,Mem.get m' k=Mem.get m k)(A:∀k∈aK x,Mem.get m' k=Mem.get m k):
 oh m' (Mem.get m' k).isSome k (mm P m' k t u s x)=oh m (Mem.get m k).isSome k (mm P m k t u s x):=by
 rw[Hw h N A,h];unfold oh;generalize A9:mm P m k t u s x=r;split
 .rename_i c V v n A4 A5 sz rows;have J:Mem.get m' V=Mem.get m V:=by
   rcases Hx A9 with rfl|J
   .exact h
   .exact N _ J
  rw[J]
 .rfl
theorem ym{k t x}(h:Mem.get m' k=Mem.get m k):mJ P m' k t x=mJ P m k t x:=by
 unfold mJ;simp only[h]
theorem Hy{neg t x v}(h:∀k∈aK x,Mem.get m' k=Mem.get m k):fk P m' neg t x v=fk P m neg t x v:=by
 cases x with
 |vec k U off len=>unfold fk;simp only[h k (by simp[aK])]
 |ptr k U off=>unfold fk;simp only[h k (by simp[aK])]
 |d x=>unfold fk;cases x with
  |list xs=>cases xs<;>rfl
  |_=>rfl
 |lit u=>unfold fk;cases u with
  |slice ao n c=>cases ao<;>cases n<;>cases c<;>rfl
  |pointer a=>cases a<;>rfl
  |_=>rfl
 |_=>rfl
theorem Fm{t s x}(N:∀k∈aK s,Mem.get m' k=Mem.get m k)(A:∀k∈aK x,Mem.get m' k=Mem.get m k):pZ P m' t s x=pZ P m t s x:=by
 unfold pZ;simp only[oS A];cases s with
 |vec k U off len=>simp only[N k (by simp[aK])]
 |_=>rfl
end
def yn{P:Program}{S H:St}{o:Oper}(A:∀x∈o.op.operands.toList,H.ag x=S.ag x)(J:∀k∈eH S o,Mem.get H.mem k=Mem.get S.mem k):bu P H o=bu P S o:=by
 have O:Mem.get H.mem (keyOf o)=Mem.get S.mem (keyOf o):=J _ (by simp[eH]);have M:match o.op with
  | .move _=>True
  | .assign _=>True
  |op=>∀x∈op.operands.toList,∀k∈aK (S.ag x).2,Mem.get H.mem k=Mem.get S.mem k:=by
  unfold eH at J;generalize o.op=op at J;cases op<;>first|trivial|exact λx E k Z=>J k (XT _ (uw E k Z))
 have q:∀(l:List Operand),(∀x∈l,H.ag x=S.ag x)->l.map (λx=>(H.ag x).2)=l.map (λx=>(S.ag x).2):=λl A'=>List.map_congr_left (λx E=>by rw[A' x E]);have A2:∀(l:List (Nat×Operand)),(∀x∈l,H.ag x.2=S.ag x.2)->l.map (λx=>(x.1,(H.ag x.2).2))=l.map (λx=>(x.1,(S.ag x.2).2)):=λl A'=>List.map_congr_left (λx E=>by rw[A' x E]);unfold bu;generalize AI:o.op=op at A M;cases op with
 |move x=>simp only[A x (by simp[Op.operands]),ym O]
 |assign x=>simp only[A x (by simp[Op.operands]),ym O]
 |pick c a b=>simp only[A c (by simp[Op.operands]),A a (by simp[Op.operands]),A b (by simp[Op.operands])]
 |alloc t=>simp only[Dx O]
 |box t x=>simp only[A x (by simp[Op.operands]),Hr O]
 |load t x=>simp only[A x (by simp[Op.operands]),Fg (M x (by simp[Op.operands]))]
 |store t p x=>simp only[A x (by simp[Op.operands]),A p (by simp[Op.operands]),Dt (M p (by simp[Op.operands]))]
 |fieldAddr s x f=>simp only[A x (by simp[Op.operands]),Du (M x (by simp[Op.operands]))]
 |nilCheck x=>simp only[A x (by simp[Op.operands]),y9 (M x (by simp[Op.operands]))]
 |indexAddr t x i=>simp only[A x (by simp[Op.operands]),A i (by simp[Op.operands]),Dv (M x (by simp[Op.operands]))]
 |index t x i=>simp only[A x (by simp[Op.operands]),A i (by simp[Op.operands])]
 |slice t x lo hi AA=>
  cases AA with
  |none=>
   have AB:lo.map (λy=>(H.ag y).2)=lo.map (λy=>(S.ag y).2):=by cases lo with|none=>rfl|some y=>simp[A y (by simp[Op.operands])]
   have AC:hi.map (λy=>(H.ag y).2)=hi.map (λy=>(S.ag y).2):=by cases hi with|none=>rfl|some y=>simp[A y (by simp[Op.operands])]
   simp only[A x (by simp[Op.operands]),AB,AC,Dw (M x (by simp[Op.operands]))]
  |some _=>rfl
 |binOp op t x y AJ=>
  have A3:=A x (by simp[Op.operands]);have AD:=A y (by simp[Op.operands]);have Z:=M x (by simp[Op.operands]);simp only
  unfold lS;cases y with
  |const v=>simp only[A3,Hy Z];rfl
  |_=>simp only[A3,AD,Hs Z]
 |unOp op t x=>simp only[A x (by simp[Op.operands])]
 |convert s d x=>simp only[A x (by simp[Op.operands]),Fj O (M x (by simp[Op.operands]))]
 |makeInterface t x=>simp only[A x (by simp[Op.operands])]
 |range t x=>simp only[A x (by simp[Op.operands]),Dy O]
 |next x b=>simp only[A x (by simp[Op.operands]),Fh (M x (by simp[Op.operands]))]
 |makeFunc f first cap=>simp only[q cap.toList (λx E=>A x (by simp[Op.operands];right;simpa using E)),q first.toList (λx E=>A x (by simp[Op.operands];left;simpa using E))]
 |makeSlice t l c=>simp only[A l (by simp[Op.operands]),A c (by simp[Op.operands]),Fk O]
 |build t ps=>simp only[A2 ps.toList (λx E=>A x.2 (by simp only[Op.operands,List.toList_toArray,Xt];exact⟨x,E,rfl⟩))]
 |buildSlice t n ps=>simp only[A2 ps.toList (λx E=>A x.2 (by simp only[Op.operands,List.toList_toArray,Xt];exact⟨x,E,rfl⟩)),we O]
 |extract x i=>simp only[A x (by simp[Op.operands])]
 |field s x f=>simp only[A x (by simp[Op.operands])]
 |typeAssert x AK t ok=>simp only[A x (by simp[Op.operands])]
 |call c=>
  obtain⟨callee,args,AE⟩:=c;cases callee with
  |builtin b=>
   have I:∀x∈args.toList,H.ag x=S.ag x:=λx E=>A x (by simp[Op.operands,Call.operands];simpa using E);have T:∀x∈args.toList,∀k∈aK (S.ag x).2,Mem.get H.mem k=Mem.get S.mem k:=λx E=>M x (by simp[Op.operands,Call.operands];simpa using E);simp only
   unfold eX;have em:=q args.toList I;generalize args.toList=AF at I T em;generalize AE.toList=AL;split
   .rename_i x t;simp only[I x (by simp),Ht (T x (by simp))]
   .rename_i s x t u;simp only[I x (by simp),I s (by simp),Fl O (T s (by simp)) (T x (by simp))]
   .rename_i s x t u;simp only[I x (by simp),I s (by simp),Fm (T s (by simp)) (T x (by simp))]
   .simp only[em]
   .simp only[em]
   .rename_i x t;simp only[I x (by simp)]
   .rename_i x t;simp only[I x (by simp),JN (T x (by simp))]
   .rename_i x y t u;simp only[I x (by simp),I y (by simp),JO (T x (by simp))]
   .rfl
  |value f=>
   cases f with
   |func g=>
    have I:∀x∈args.toList,H.ag x=S.ag x:=λx E=>A x (by simp[Op.operands,Call.operands];right;simpa using E);simp only
    unfold Ak;generalize args.toList=AF at I;split
    .rw[I _ (by simp)]
    .rfl
   |_=>rfl
  |_=>rfl
 |_=>rfl
structure aB where
 ks:List Nat
 es:List bk
 g:Bool
 x:AV
def aB.app(p:aB)(o:Oper)(S:St):St:=({S with mem:=aI S.mem p.es}:St).put o.dst p.g p.x
def I4(all:List Oper)(j:Nat):List Nat:=
 match all[j]? with
 |some o=>match o.dst with|some t=>[t]|none=>[]
 |none=>[]
def looks(all:List Oper)(o:Oper):List Nat:=
 (o.op.operands.toList.filterMap λ| .tmp t=>some t|_=>none)++(match o.guard with|some (j,_)=>I4 all j|none=>[])
structure fT(all:List Oper)(o:Oper)(ks:List Nat)(A S:St):Prop where
 n:A.n=S.n
 gl:A.gl=S.gl
 keys:A.mem.map (·.key)=S.mem.map (·.key)
 env:∀t∈looks all o,Env.lk A.env t=Env.lk S.env t
 mem:∀k∈ks,Mem.get A.mem k=Mem.get S.mem k
def fU(P:Program)(all:List Oper)(S:St)(o:Oper)(p:aB):Prop:=
 ∀A,fT all o p.ks A S->∀φ G a w,Rel φ G A a w->∀(next:Act->World->Prop)(R:Exit->Act->World->Prop),
  (∀φ' A1 w',Rel φ' G (p.app o A) A1 w'->az φ A.mem w φ' (p.app o A).mem w'->next A1 w')->
  if Region.wanted o (yielded all.toArray a.tmps)then o.wp P a w next R else next (a.put o.dst undef) w
def mM(P:Program)(M:Mem->Prop)(all:List Oper)(S:St)(o:Oper)(p:aB):Prop:=
 ∀A,fT all o p.ks A S->M A.mem->∀φ G a w,Rel φ G A a w->∀(next:Act->World->Prop)(R:Exit->Act->World->Prop),
  (∀φ' A1 w',Rel φ' G (p.app o A) A1 w'->az φ A.mem w φ' (p.app o A).mem w'->next A1 w')->
  if Region.wanted o (yielded all.toArray a.tmps)then o.wp P a w next R else next (a.put o.dst undef) w
def fU.toI{P:Program}{M:Mem->Prop}{all:List Oper}{S:St}{o:Oper}{p:aB}(h:fU P all S o p):mM P M all S o p:=λA AP _=>h A AP
inductive Cert(P:Program)(M:Mem->Prop)(all:List Oper):List Oper->St->List aB->St->Prop
 |nil (S):Cert P M all [] S [] S
 |cons (o rest S p ps S1) (E:∀e∈p.es,e.key∈p.ks) (B1:∀m,M m->M (aI m p.es)) (h:mM P M all S o p) (A':Cert P M all rest (p.app o S) ps S1):Cert P M all (o::rest) S (p::ps) S1
def cp(o:Oper):List Nat:=(o.after.toList.filter (Region.binds .any)).map (·.on)
def dJ:List Oper->List (List Nat)->List (List Nat)
 |[],J=>J
 |o::r,J=>dJ r (J++[((cp o).flatMap λp=>p::J.getD p []).eraseDups])
def kY(l r:List Nat):Bool:=l.all λx=>!r.contains x
def so(all:List Oper)(o H:Oper)(p Z:aB):Bool:=
 kY o.dst.toList (looks all H)&&kY H.dst.toList (looks all o)&&kY o.dst.toList H.dst.toList&&kY (p.es.map (·.key)) Z.ks&&kY (Z.es.map (·.key)) p.ks
def zm(all:List Oper)(ps:List aB)(AZ:List (List Nat))(j:Nat):Bool:=
 match all[j]?,ps[j]? with
 |some o,some p=>(cp o).all (λi=>decide (i<j))&&(List.range j).all λi=>(AZ.getD j []).contains i||(match all[i]?,ps[i]? with
  |some H,some Z=>so all H o Z p
  |_,_=>false)
 |_,_=>false
def kj(all:List Oper)(ps:List aB):Bool:=(List.range all.length).all (zm all ps (dJ all []))
def uy:∀(l:List Oper)(J:List (List Nat)),∃r,dJ l J=J++r/\r.length=l.length
 |[],J=>⟨[],by simp[dJ]⟩
 |o::l,J=>by
  obtain⟨r,I,U⟩:=uy l (J++[((cp o).flatMap λp=>p::J.getD p []).eraseDups]);exact⟨((cp o).flatMap λp=>p::J.getD p []).eraseDups::r,by rw[dJ,I,Yb,List.singleton_append],by grind⟩
def mem_eraseDups{l:List Nat}{x:Nat}:x∈l.eraseDups↔x∈l:=List.mem_eraseDups
def yo:∀(l:List Oper)(J:List (List Nat))(j:Nat)(o:Oper),l[j]?=some o->(∀p∈cp o,p<J.length+j)->
 ∀i,i∈(dJ l J).getD (J.length+j) []↔∃p∈cp o,i=p\/i∈(dJ l J).getD p []
 |[],J,j,o,h,_=>by grind
 |x::l,J,j,o,h,O=>by
  simp only[dJ];cases j with
  |zero=>
   obtain⟨r,I,_⟩:=uy l (J++[((cp x).flatMap λp=>p::J.getD p []).eraseDups]);rw[I];intro i;have A5:(J++[((cp x).flatMap λp=>p::J.getD p []).eraseDups]++r).getD (J.length+0) []=((cp x).flatMap λp=>p::J.getD p []).eraseDups:=by
    grind
   rw[A5,mem_eraseDups,List.mem_flatMap];grind
  |succ j=>
   have:=yo l (J++[((cp x).flatMap λp=>p::J.getD p []).eraseDups]) j o (by grind) (λp A_=>by grind);grind
def fF{all:List Oper}{L:Nat->Prop}(O:∀j o,all[j]?=some o->∀p∈cp o,p<j)(BP:∀j o,all[j]?=some o->L j->∀p∈cp o,L p):
 ∀j,(∃o,all[j]?=some o)->∀i,i∈(dJ all []).getD j []->i<j/\((∀o,all[j]?=some o->∀p∈cp o,L p)->L i):=by
 intro j;induction j using Nat.strongRecOn with
 |_ j ih=>
  rintro ⟨o,D⟩ i hi;have AH:=(yo all [] j o D (λp A_=>by grind) i);simp at AH;obtain⟨p,A_,h⟩:=AH.1 hi;have AI:=O j o D p A_;rcases h with rfl|h
  .grind
  .have B2:j<all.length:=(D1.1 D).1;obtain⟨op,B3⟩:∃op,all[p]?=some op:=⟨all[p],by grind⟩;obtain⟨I,U⟩:=ih p AI ⟨op,B3⟩ i h;grind
def au(all:List Oper)(ps:List aB)(S:St)(l:List Nat):St:=
 l.foldl (λS i=>match all[i]?,ps[i]? with|some o,some p=>p.app o S|_,_=>S) S
def ou(p:aB)(o:Oper)(S:St):(p.app o S).n=S.n:=by simp[aB.app,hH]
def lZ(p:aB)(o:Oper)(S:St):(p.app o S).gl=S.gl:=by cases h:o.dst<;>simp[aB.app,h,St.put]
def uT(p:aB)(o:Oper)(S:St):(p.app o S).mem.map (·.key)=S.mem.map (·.key):=by simp[aB.app,cH,fO]
def nH(p:aB)(o:Oper)(S:St)(t:Nat):Env.lk (p.app o S).env t=if o.dst=some t then some (p.g,p.x)else Env.lk S.env t:=by
 cases V:o.dst with
 |none=>simp[aB.app,St.put,V]
 |some d=>
  by_cases h:d=t
  .simp[aB.app,St.put,V,Env.lk]
  .simp[aB.app,St.put,V,Env.lk]
def rB:∀(es:List bk)(m:Mem)(k:Nat),k∉es.map (·.key)->Mem.get (aI m es) k=Mem.get m k
 |[],m,k,_=>rfl
 |e::r,m,k,h=>by
  simp only[XU,Xm,not_or]at h;rw[aI,rB r _ k h.2,Mem.j3 (λhe=>h.1 he.symm)]
def jw:∀(es:List bk)(m m':Mem)(k:Nat),m.map (·.key)=m'.map (·.key)->(k∈es.map (·.key)\/Mem.get m k=Mem.get m' k)->Mem.get (aI m es) k=Mem.get (aI m' es) k
 |[],m,m',k,_,h=>by simpa [aI]using h
 |e::r,m,m',k,E,h=>by
  refine jw r _ _ k (by rw[Mem.dr,Mem.dr,E]) ?_;by_cases he:e.key=k
  .right;subst he;by_cases Al:e.key∈m.map (·.key)
   .rw[Mem.get_set_same Al,Mem.get_set_same (E▸Al)]
   .have BQ:∀(m:Mem),e.key∉m.map (·.key)->Mem.get (Mem.set m e) e.key=none:=by
     intro m hm;cases AE:Mem.get (Mem.set m e) e.key with
     |none=>rfl
     |some y=>
      obtain⟨I,U⟩:=Mem.get_mem AE;have:y.key∈(Mem.set m e).map (·.key):=Xw I;rw[Mem.dr,U]at this;grind
    grind
  .rw[Mem.j3 he,Mem.j3 he];grind
def wg(p:aB)(o:Oper)(S:St)(k:Nat)(h:k∉p.es.map (·.key)):Mem.get (p.app o S).mem k=Mem.get S.mem k:=by
 simp[aB.app,cH];exact rB _ _ _ h
section
variable {all:List Oper} {ps:List aB} {S:St}
theorem jG(l:List Nat):∀(S:St),(au all ps S l).n=S.n:=by
 induction l with
 |nil=>exact λ_=>rfl
 |cons i l ih=>
  intro S;have A5:au all ps S (i::l)=au all ps (au all ps S [i]) l:=by simp[au]
  rw[A5,ih];simp[au];split
  .exact ou ..
  .rfl
theorem iy(l:List Nat):∀(S:St),(au all ps S l).gl=S.gl:=by
 induction l with
 |nil=>exact λ_=>rfl
 |cons i l ih=>
  intro S;have A5:au all ps S (i::l)=au all ps (au all ps S [i]) l:=by simp[au]
  rw[A5,ih];simp[au];split
  .exact lZ ..
  .rfl
theorem cq(l:List Nat):∀(S:St),(au all ps S l).mem.map (·.key)=S.mem.map (·.key):=by
 induction l with
 |nil=>exact λ_=>rfl
 |cons i l ih=>
  intro S;have A5:au all ps S (i::l)=au all ps (au all ps S [i]) l:=by simp[au]
  rw[A5,ih];simp[au];split
  .exact uT ..
  .rfl
theorem mo(l An:List Nat)(S:St):au all ps S (l++An)=au all ps (au all ps S l) An:=by simp[au]
theorem ow(t:Nat)(q:Nat->Bool)(l:List Nat):∀(S A:St),(∀i∈l,∀o,all[i]?=some o->o.dst=some t->q i=true)->Env.lk S.env t=Env.lk A.env t->Env.lk (au all ps S l).env t=Env.lk (au all ps A (l.filter q)).env t:=by
 induction l with
 |nil=>intro S A _ h;exact h
 |cons i l ih=>
  intro S A AC h;have AJ:∀A6∈l,∀o,all[A6]?=some o->o.dst=some t->q A6=true:=λA6 Aa=>AC A6 (XT _ Aa);by_cases A7:q i=true
  .rw[List.filter_cons_of_pos A7];refine ih _ _ AJ ?_;simp[YI];split
   .rw[nH,nH,h]
   grind
  .rw[YG A7];refine ih _ _ AJ ?_;simp[YI];split
   .rename_i o p D O;rw[nH,Xq (λV=>A7 (AC i (by simp) o D V)),h]
   grind
theorem iO(k:Nat)(q:Nat->Bool)(l:List Nat):∀(S A:St),(∀i∈l,∀p,ps[i]?=some p->k∈p.es.map (·.key)->q i=true)->S.mem.map (·.key)=A.mem.map (·.key)->Mem.get S.mem k=Mem.get A.mem k->Mem.get (au all ps S l).mem k=Mem.get (au all ps A (l.filter q)).mem k:=by
 induction l with
 |nil=>intro S A _ _ h;exact h
 |cons i l ih=>
  intro S A AC E h;have A5:au all ps S (i::l)=au all ps (au all ps S [i]) l:=by simp[au]
  have AJ:∀A6∈l,∀p,ps[A6]?=some p->k∈p.es.map (·.key)->q A6=true:=λA6 Aa=>AC A6 (XT _ Aa);rw[A5];by_cases A7:q i=true
  .rw[List.filter_cons_of_pos A7];have AQ:au all ps A (i::l.filter q)=au all ps (au all ps A [i]) (l.filter q):=by simp[au]
   rw[AQ];refine ih _ _ AJ (by rw[cq,cq,E]) ?_;simp[au,YI];split
   .simp[aB.app,cH];exact jw _ _ _ k E (.inr h)
   grind
  .rw[YG A7];refine ih _ _ AJ (by rw[cq,E]) ?_;simp[au,YI];split
   .rename_i o p D O;rw[wg _ _ _ _ (λV=>A7 (AC i (by simp) p O V)),h]
   grind
end
structure dB(A S:St):Prop where
 n:A.n=S.n
 gl:A.gl=S.gl
 mem:A.mem=S.mem
 env:∀t,Env.lk A.env t=Env.lk S.env t
def Rel.eqv{φ G S A a w}(h:Rel φ G A a w)(he:dB A S):Rel φ G S a w:=
 ⟨by rw[<-he.n];exact h.size,h.defers,λt x Ab=>by rw[<-he.mem];exact h.env t x (by rw[he.env];exact Ab),by rw[<-he.mem];exact h.mem,by rw[<-he.gl,<-he.mem];exact h.fY⟩
def Mem.ext{m m':Mem}(Ao:(m.map (·.key)).Nodup)(E:m.map (·.key)=m'.map (·.key))(h:∀k,Mem.get m k=Mem.get m' k):m=m':=by
 induction m generalizing m' with
 |nil=>simp_all
 |cons e r ih=>
  cases m' with
  |nil=>grind
  |cons e' BR=>
   simp at E;simp at Ao;have Ac:=h e.key;simp[Mem.get,E.1]at Ac;congr 1;refine ih Ao.2 E.2 λk=>?_;have:=h k;simp[Mem.get]at this;by_cases he:e.key=k
   .have nn:∀{r:Mem},e.key∉r.map (·.key)->Mem.get r e.key=none:=by
     intro r A';cases AE:Mem.get r e.key with
     |none=>rfl
     |some y=>obtain⟨I,U⟩:=Mem.get_mem AE;grind
    grind
   grind
def dY(n:Nat)(f:Nat->Bool):List Nat:=(List.range n).filter f
def uz{j n:Nat}(h:j<n):List.range n=List.range j++j::List.range' (j+1) (n-j-1):=by
 have U:(j::List.range' (j+1) (n-j-1))=List.range' j (n-j):=by
  rw[show n-j=(n-j-1)+1 by omega,Yj];simp
 rw[U,List.range_eq_range',List.range_eq_range'];rw[show List.range' 0 n=List.range' 0 (j+(n-j)) by grind];rw[<-List.range'_append_1];simp
def sq{j n:Nat}{f:Nat->Bool}(h:j<n)(AD:f j=false):dY n f=(List.range j).filter f++(List.range' (j+1) (n-j-1)).filter f:=by
 rw[dY,uz h,Ym,YG (by grind)]
def Dz{j n:Nat}{f g:Nat->Bool}(h:j<n)(AE:g j=true)(Ap:∀i,i≠j->g i=f i):dY n g=(List.range j).filter f++j::(List.range' (j+1) (n-j-1)).filter f:=by
 rw[dY,uz h,Ym,List.filter_cons_of_pos AE];congr 1
 .exact YB λi hi=>Ap i (by grind)
 .congr 1;exact YB λi hi=>Ap i (by grind)
def ma{l r:List Nat}(h:kY l r=true){x:Nat}(T:x∈l)(A':x∈r):False:=by
 have:=XN.1 h x T;grind
structure wh(all:List Oper)(o H:Oper)(p Z:aB):Prop where
 a:∀t,o.dst=some t->t∉looks all H
 b:∀t,H.dst=some t->t∉looks all o
 c:∀t,o.dst=some t->H.dst≠some t
 d:∀k∈p.es.map (·.key),k∉Z.ks
 e:∀k∈Z.es.map (·.key),k∉p.ks
def BV{all o H p Z}(h:so all o H p Z=true):wh all o H p Z:=by
 simp[so]at h;obtain⟨⟨⟨⟨I,U⟩,AK⟩,B4⟩,B5⟩:=h;exact⟨λt AL T=>ma I (by grind) T,λt AL T=>ma U (by grind) T,λt AL T=>ma AK (x:=t) (by grind) (by grind),λk E T=>ma B4 E T,λk E T=>ma B5 E T⟩
section
variable {all:List Oper} {ps:List aB}
theorem cg(h:kj all ps=true){j:Nat}{o:Oper}(D:all[j]?=some o):∃p,ps[j]?=some p/\(∀i∈cp o,i<j)/\
 ∀i,i<j->i∈(dJ all []).getD j []\/∃H Z,all[i]?=some H/\ps[i]?=some Z/\wh all H o Z p:=by
 have Y:j<all.length:=(D1.1 D).1;have I:=XN.1 h j (XI.2 Y);unfold zm at I;rw[D]at I;cases O:ps[j]? with
 |none=>grind
 |some p=>
  rw[O]at I;simp at I;refine⟨p,rfl,I.1,λi hi=>?_⟩;rcases I.2 i hi with U|U
  .grind
  .right;split at U
   .rename_i H Z A0 AM;exact⟨H,Z,A0,AM,BV U⟩
   grind
theorem Cert.at{P:Program}{M:Mem->Prop}{rest:List Oper}{S0 S:St}{Ad:List aB}{S1:St}(h:Cert P M all rest S Ad S1):∀(pre:List Oper)(pp:List aB),pre.length=pp.length->all=pre++rest->ps=pp++Ad->au all ps S0 (List.range pre.length)=S->
 au all ps S0 (List.range all.length)=S1/\ps.length=all.length/\∀j o p,pre.length<=j->all[j]?=some o->ps[j]?=some p->(∀e∈p.es,e.key∈p.ks)/\(∀m,M m->M (aI m p.es))/\mM P M all (au all ps S0 (List.range j)) o p:=by
 induction h with
 |nil S=>
  grind
 |cons o rest S p Ad S1 E B1 AR A' ih=>
  intro pre pp T AP BS B6;have A5:all[pre.length]?=some o:=by rw[AP];simp
  have AQ:ps[pre.length]?=some p:=by grind
  obtain⟨I,U,AK⟩:=ih (pre++[o]) (pp++[p]) (by simp[T]) (by rw[AP];simp) (by grind) (by
   rw[Xx,X0,List.range_succ,mo,B6];simp[au,A5,AQ])
  refine⟨I,U,λj H Z Y A0 AM=>?_⟩;rcases Nat.eq_or_lt_of_le Y with rfl|Y
  .grind
  .exact AK j H Z (by simp;omega) A0 AM
variable {S:St} {f:Nat->Bool}
def kl(all:List Oper)(f:Nat->Bool):Prop:=∀j o,all[j]?=some o->f j=true->∀p∈cp o,f p=true
theorem lA(AS:ps.length=all.length)(A2:kj all ps=true)(A9:kl all f){j:Nat}{o:Oper}{p:aB}(D:all[j]?=some o)(O:ps[j]?=some p)(Y:f j=false)(Aq:∀i∈cp o,f i=true):
 fT all o p.ks (au all ps S (dY all.length f)) (au all ps S (List.range j)):=by
 have AT:j<all.length:=(D1.1 D).1;have AU:∀j o,all[j]?=some o->∀p∈cp o,p<j:=λj o D=>(cg A2 D).choose_spec.2.1;obtain⟨BT,BU,_,BX⟩:=cg A2 D;have BY:∀i∈(dJ all []).getD j [],i<j/\f i=true:=λi hi=>by
  obtain⟨I,U⟩:=fF (L:=λi=>f i=true) AU (λj o D AD=>A9 j o D AD) j ⟨o,D⟩ i hi;grind
 let q:Nat->Bool:=λi=>(dJ all []).getD j [] |>.contains i
 have Ar:∀i,(i<j\/(j<i/\f i=true))->q i=false->∀N pi,all[i]?=some N->ps[i]?=some pi->wh all N o pi p\/wh all o N p pi:=by
  rintro i (hi|⟨hi,AW⟩) A7 N pi W A4
  .grind
  .obtain⟨B7,B8,_,Ae⟩:=cg A2 W;rcases Ae j hi with h|⟨H,Z,A0,AM,h⟩
   .have:=(fF (L:=λi=>f i=true) AU (λj o D AD=>A9 j o D AD) i ⟨N,W⟩ j h).2 (λH A0=>by rw[W]at A0;cases A0;exact A9 i N W AW);grind
   grind
 have As:(dY all.length f).filter q=(List.range j).filter q:=by
  rw[sq AT Y,Ym,Yl,Yl];have:(List.range' (j+1) (all.length-j-1)).filter (λa=>q a&&f a)=[]:=by
   rw[Ya];grind
  grind
 have T:∀i∈dY all.length f,i<j\/(j<i/\f i=true):=λi hi=>by
  have AW:=(XV.1 hi).2;grind
 have A':∀i∈List.range j,i<j\/(j<i/\f i=true):=λi hi=>.inl (XI.1 hi);refine⟨by rw[jG,jG],by rw[iy,iy],by rw[cq,cq],λt AL=>?_,λk E=>?_⟩
 .have key:∀l:List Nat,(∀i∈l,i<j\/(j<i/\f i=true))->∀i∈l,∀N,all[i]?=some N->N.dst=some t->q i=true:=by
   intro l T i hi N W V;cases A7:q i with
   |true=>rfl
   |false=>
    obtain⟨pi,A4,_⟩:=cg A2 W;rcases Ar i (T i hi) A7 N pi W A4 with h|h
    .exact absurd AL (h.a t V)
    .exact absurd AL (h.b t V)
  rw[ow t q _ S S (key _ T) rfl,ow t q (List.range j) S S (key _ A') rfl,As]
 .have key:∀l:List Nat,(∀i∈l,i<j\/(j<i/\f i=true))->∀i∈l,∀pi,ps[i]?=some pi->k∈pi.es.map (·.key)->q i=true:=by
   intro l T i hi pi A4 V;cases A7:q i with
   |true=>rfl
   |false=>
    cases W:all[i]? with
    |none=>
     grind
    |some N=>
     rcases Ar i (T i hi) A7 N pi W A4 with h|h
     .exact absurd E (h.d k V)
     .exact absurd E (h.e k V)
  rw[iO k q _ S S (key _ T) rfl rfl,iO k q (List.range j) S S (key _ A') rfl rfl,As]
theorem qh(AS:ps.length=all.length)(A2:kj all ps=true)(A9:kl all f)(At:∀(j:Nat) (p:aB),ps[j]?=some p->∀e∈p.es,e.key∈p.ks)(Au:(S.mem.map (·.key)).Nodup){j:Nat}{o:Oper}{p:aB}(D:all[j]?=some o)(O:ps[j]?=some p)(Y:f j=false){g:Nat->Bool}(AE:g j=true)(B9:∀i,i≠j->g i=f i):
 dB (p.app o (au all ps S (dY all.length f))) (au all ps S (dY all.length g)):=by
 have AT:j<all.length:=(D1.1 D).1;have AU:∀j o,all[j]?=some o->∀p∈cp o,p<j:=λj o D=>(cg A2 D).choose_spec.2.1;have Af:∀i∈(List.range' (j+1) (all.length-j-1)).filter f,∀N pi,all[i]?=some N->ps[i]?=some pi->wh all o N p pi:=by
  intro i hi N pi W A4;obtain⟨hi,AW⟩:=XV.1 hi;have BZ:=(List.mem_range'_1.1 hi).1;obtain⟨B7,B8,_,Ae⟩:=cg A2 W;rcases Ae j (by omega)with h|⟨H,Z,A0,AM,h⟩
  .have:=(fF (L:=λi=>f i=true) AU (λj o D AD=>A9 j o D AD) i ⟨N,W⟩ j h).2 (λH A0=>by rw[W]at A0;cases A0;exact A9 i N W AW);grind
  grind
 rw[Dz AT AE B9,sq AT Y];generalize B_:(List.range j).filter f=A8;generalize Ba:(List.range' (j+1) (all.length-j-1)).filter f=AA at Af;have BA:∀{i pi},ps[i]?=some pi->∃N,all[i]?=some N:=λ{i pi} h=>by
  have:=(D1.1 h).1;exact⟨all[i]'(by omega),XM _⟩
 let q:Nat->Bool:=λi=>i != j
 have Av:(A8++j::AA).filter q=A8++AA:=by
  rw[Ym,YG (by simp[q]),<-Ym,List.filter_eq_self];grind
 have Aw:∀S,au all ps S (A8++j::AA)=au all ps (p.app o (au all ps S A8)) AA:=λS=>by
  simp[au,D,O]
 have BB:(p.app o (au all ps S (A8++AA))).mem.map (·.key)=(au all ps S (A8++j::AA)).mem.map (·.key):=by
  rw[uT,cq,cq]
 refine⟨by rw[ou,jG,jG],by rw[lZ,iy,iy],Mem.ext (by rw[uT,cq];grind) BB λk=>?_,λt=>?_⟩
 .by_cases E:k∈p.es.map (·.key)
  .have I:Mem.get (p.app o (au all ps S (A8++AA))).mem k=Mem.get (p.app o (au all ps S A8)).mem k:=by
    simp[aB.app,cH];exact jw _ _ _ k (by rw[cq,cq]) (.inl E)
   rw[I,Aw];rw[iO k (λ_=>false) AA _ (p.app o (au all ps S A8)) ?_ rfl rfl]
   .rw[Ya.2 (by simp)];rfl
   .intro i hi pi A4 AF;obtain⟨N,W⟩:=BA A4;have:=(Af i hi N pi W A4).e k AF;grind
  .rw[wg _ _ _ _ E,iO k q (A8++j::AA) S S ?_ rfl rfl,Av];grind
 .rw[nH];by_cases V:o.dst=some t
  .rw[Xz V,Aw];rw[ow t (λ_=>false) AA _ (p.app o (au all ps S A8)) ?_ rfl]
   .rw[Ya.2 (by simp)];simp[au,nH,V]
   .intro i hi N W BC;obtain⟨pi,A4,_⟩:=cg A2 W;exact absurd BC ((Af i hi N pi W A4).c t V)
  .rw[Xq V,ow t q (A8++j::AA) S S ?_ rfl,Av];grind
theorem DB{P:Program}{S0 S1:St}{φ0:aQ}{G:Fr}{w0:World}{Q:Exit->Act->World->Prop}{M:Mem->Prop}(Ag:M S0.mem)(AN:Cert P M all all S0 ps S1)(A2:kj all ps=true)(Au:(S0.mem.map (·.key)).Nodup)
 (Ah:∀φ' A1 w',Rel φ' G S1 A1 w'->az φ0 S0.mem w0 φ' S1.mem w'->Q .normal A1 w'):
 ∀(fuel:Nat)(listed:Array Bool) φ a w,listed.size=all.length->kl all (λi=>listed.getD i false)->Rel φ G (au all ps S0 (dY all.length λi=>listed.getD i false)) a w->az φ0 S0.mem w0 φ (au all ps S0 (dY all.length λi=>listed.getD i false)).mem w->
  ((List.range all.length).filter λi=>!listed.getD i false).length<=fuel->wpAny P .any all.toArray Q fuel listed a w:=by
 obtain⟨Ai,AS,AR⟩:=Cert.at (ps:=ps) (S0:=S0) AN [] [] rfl rfl rfl rfl;have At:∀(j:Nat)(p:aB),ps[j]?=some p->∀e∈p.es,e.key∈p.ks:=λj p O=>by
  have B2:j<ps.length:=(D1.1 O).1;exact (AR j (all[j]'(by omega)) p (by simp) (by simp) O).1
 have BD:∀l:List Nat,M (au all ps S0 l).mem:=by
  have key:∀(l:List Nat)(S:St),M S.mem->M (au all ps S l).mem:=by
   intro l;induction l with
   |nil=>exact λ_ h=>h
   |cons i l ih=>
    intro S h;refine ih _ ?_;simp;split
    .rename_i o p D O;simp[aB.app,cH];exact (AR i o p (by simp) D O).2.1 _ h
    omega
  exact λl=>key l S0 Ag
 --Bb first Bc Bd listed is ready
 have first:∀(f:Nat->Bool)(n:Nat),n<=all.length->(∀i,i<n->f i=true)\/∃i,i<n/\f i=false/\∀A6,A6<i->f A6=true:=by
  intro f n;induction n with
  |zero=>simp
  |succ n ih=>
   grind
 have done:∀(listed:Array Bool) φ a w,listed.size=all.length->Rel φ G (au all ps S0 (dY all.length λi=>listed.getD i false)) a w->az φ0 S0.mem w0 φ (au all ps S0 (dY all.length λi=>listed.getD i false)).mem w->Region.ready .any all.toArray listed=[]->Q .normal a w:=by
  intro listed φ a w AO A' E AX;have Be:∀i,i<all.length->listed.getD i false=true:=by
   rcases first (λi=>listed.getD i false) all.length (Ds _)with h|⟨i,I,U,AK⟩
   .exact h
   .have:i∈Region.ready .any all.toArray listed:=by
     rw[mem_ready];refine⟨?_,all[i],by simp,λe he BE=>?_⟩
     .grind
     .obtain⟨p,_,O,_⟩:=cg A2 (show all[i]?=some all[i] by simp);exact AK e.on (O e.on (by
       simp[cp,Xt,XV];exact⟨e,⟨by simpa using he,BE⟩,rfl⟩))
    rw[AX]at this;cases this
  have T:(dY all.length λi=>listed.getD i false)=List.range all.length:=by
   rw[dY,List.filter_eq_self];grind
  rw[T,Ai]at A' E;exact Ah φ a w A' E
 intro fuel;induction fuel with
 |zero=>
  intro listed φ a w AO A9 A' E AD;have AX:Region.ready .any all.toArray listed=[]:=by
   cases h:Region.ready .any all.toArray listed with
   |nil=>rfl
   |cons i r=>
    have hi:i∈Region.ready .any all.toArray listed:=by rw[h];simp
    rw[mem_ready]at hi;obtain⟨Ac,o,D,_⟩:=hi;have Ax:i<all.length:=by
     grind
    simp_all
  exact⟨AX,done listed φ a w AO A' E AX⟩
 |succ fuel ih=>
  intro listed φ a w AO A9 A' E AD;refine⟨done listed φ a w AO A' E,λi hi=>?_⟩;rw[mem_ready]at hi;obtain⟨Ac,o,D,Bf⟩:=hi;have A0:all[i]?=some o:=by simpa using D
  have Ax:i<all.length:=(D1.1 A0).1;have BF:i<listed.size:=by omega
  have Aj:listed.getD i false=false:=by
   grind
  have Aq:∀k∈cp o,listed.getD k false=true:=by
   intro k AG;simp[cp,Xt]at AG;grind
  obtain⟨p,O,_⟩:=cg A2 A0;obtain⟨Bg,_,BG⟩:=AR i o p (by simp) A0 O;have BH:=lA (S:=S0) AS A2 A9 A0 O Aj Aq;have Az:(listed.setIfInBounds i true).getD i false=true:=by simp[BF]
  have AY:∀k,k≠i->(listed.setIfInBounds i true).getD k false=listed.getD k false:=λk AG=>getD_set_ne false (X7 AG);have heq:=qh (S:=S0) (f:=λi=>listed.getD i false) (g:=λk=>(listed.setIfInBounds i true).getD k false) AS A2 A9 At Au A0 O Aj Az AY;have BI:kl all (λk=>(listed.setIfInBounds i true).getD k false):=by
   intro k ok BJ BK x Ab;by_cases B':x=i
   .subst B';omega
   .show (listed.setIfInBounds i true).getD x false=true;rw[AY x B'];by_cases AF:k=i
    .grind
    .exact A9 k ok BJ ((AY k AF).symm.trans BK) x Ab
  have BL:((List.range all.length).filter λk=>!(listed.setIfInBounds i true).getD k false).length<=fuel:=by
   have I:(List.range all.length).filter (λk=>!(listed.setIfInBounds i true).getD k false)=((List.range all.length).filter λk=>!listed.getD k false).filter (λk=>k != i):=by
    rw[Yl];refine YB λk _=>?_;by_cases AF:k=i
    .subst AF;rw[Az];simp
    .rw[AY k AF];simp[AF]
   have BM:i∈(List.range all.length).filter λk=>!listed.getD k false:=XV.2 ⟨XI.2 Ax,by simp[Aj]⟩;rw[I];have:(((List.range all.length).filter λk=>!listed.getD k false).filter (λk=>k != i)).length<((List.range all.length).filter λk=>!listed.getD k false).length:=by
    rw[YC];exact⟨i,BM,by simp⟩
   omega
  have AH:=BG _ BH (BD _) φ G a w A' (wpAny P .any all.toArray Q fuel (listed.setIfInBounds i true)) Q (λφ' A1 w' Ak AG=>
   ih _ φ' A1 w' (by simpa using AO) BI (Ak.eqv heq) (by rw[<-heq.mem];exact E.trans AG) BL)
  unfold wpOp;grind
end
def BW{P:Program}{S S1:St}{id:Nat}{ops:List Oper}{ps:List aB}{M:Mem->Prop}(Ag:M S.mem)(hm:P.follows .mixedOrders=true)(AN:Cert P M ops ops S ps S1)(A2:kj ops ps=true){φ G a w}(A':Rel φ G S a w){Q:Exit->Act->World->Prop}
 (Ah:∀φ' A1 w',Rel φ' G S1 A1 w'->az φ S.mem w φ' S1.mem w'->Q .normal A1 w'):(Code.region id ops.toArray true).wp P Q a w:=by
 refine wp_region_any hm ?_;have BN:Rel φ G S a {w with drawn:=w.drawn+1}:=A'.grow (λ_ _=>rfl) (Ds _);have B0:(dY ops.length λi=>(Array.replicate ops.length false).getD i false)=[]:=by
  rw[dY,Ya];simp_all
 refine DB (S0:=S) (φ0:=φ) (w0:=w) (G:=G) Ag AN A2 A'.mem.nodup (λφ' A1 w' Ak AG=>Ah φ' A1 w' Ak AG) _ _ φ a _ (by simp) ?_ ?_ ?_ ?_
 .intro j o _ Y;simp at Y;grind
 .simp only[XS];rw[B0];exact BN
 .simp only[XS];rw[B0];exact az.grow (λ_ _=>rfl) (Ds _) rfl rfl rfl
 grind
def Lt{P:Program}{M:Mem->Prop}{ops:List Oper}{S S1:St}{ps:List aB}(AN:Cert P M ops ops S ps S1):S1.n=S.n/\S1.gl=S.gl:=by
 obtain⟨Ai,_,_⟩:=Cert.at (ps:=ps) (S0:=S) AN [] [] rfl rfl rfl rfl;rw[<-Ai];exact⟨jG ..,iy ..⟩
def uV(all:List Oper)(o H:Oper):Bool:=kY o.dst.toList (looks all H)&&kY H.dst.toList (looks all o)&&kY o.dst.toList H.dst.toList
def ss(all:List Oper)(A3:List (List Nat))(AZ:List (List Nat))(j:Nat):Bool:=
 match all[j]? with
 |some o=>(cp o).all (λi=>decide (i<j))&&(List.range j).all λi=>(AZ.getD j []).contains i||(match all[i]? with
  |some H=>uV all H o&&((A3.getD i []).contains j&&(A3.getD j []).contains i)
  |none=>false)
 |none=>false
def uW(all:List Oper)(A3:List (List Nat)):Bool:=(List.range all.length).all (ss all A3 (dJ all []))
def xx(ps:List aB)(es:List bk):List Nat->Bool
 |[]=>true
 |j::r=>(match ps[j]? with|some q=>kY (es.map (·.key)) q.ks|none=>false)&&xx ps es r
def xy(ps:List aB)(AB:List Nat):List bk->Bool
 |[]=>true
 |e::es=>xx ps (e::es) AB
def qi(ps:List aB):List (List Nat)->List aB->Bool
 |_,[]=>true
 |[],p::r=>xy ps [] p.es&&qi ps [] r
 |AB::A3,p::r=>xy ps AB p.es&&qi ps A3 r
def jH(A3:List (List Nat))(ps:List aB):Bool:=qi ps A3 ps
def k5{ps:List aB}:∀{A3:List (List Nat)}{l:List aB},qi ps A3 l=true->∀i p,l[i]?=some p->xy ps (A3.getD i []) p.es=true
 |_,[],_,i,p,O=>by grind
 |[],q::r,h,i,p,O=>by
  simp[qi]at h;cases i with
  |zero=>grind
  |succ i=>have:=k5 h.2 i p (by grind);grind
 |AB::A3,q::r,h,i,p,O=>by
  simp[qi]at h;cases i with
  |zero=>grind
  |succ i=>have:=k5 h.2 i p (by grind);grind
def Ay{ps:List aB}{es:List bk}:∀{AB:List Nat},xx ps es AB=true->∀j∈AB,∀q,ps[j]?=some q->kY (es.map (·.key)) q.ks=true
 |[],_,j,Y,_,_=>by grind
 |k::r,h,j,Y,q,AC=>by
  simp[xx]at h;rcases Xm.1 Y with rfl|Y
  .grind
  .exact Ay h.2 j Y q AC
def qj{ps:List aB}{AB:List Nat}:∀{es:List bk},xy ps AB es=true->∀j∈AB,∀q,ps[j]?=some q->kY (es.map (·.key)) q.ks=true
 |[],_,_,_,_,_=>rfl
 |_::_,h,j,Y,q,AC=>Ay h j Y q AC
def Fs{all:List Oper}{A3:List (List Nat)}{ps:List aB}(AH:uW all A3=true)(V:jH A3 ps=true)(T:ps.length=all.length):kj all ps=true:=by
 refine XN.2 λj Y=>?_;have I:=XN.1 AH j Y;have Bh:j<all.length:=XI.1 Y;unfold ss at I;unfold zm;have AI:ps[j]?=some (ps[j]'(by omega)):=by grind
 rw[AI];cases D:all[j]? with
 |none=>grind
 |some o=>
  rw[D]at I;simp at I⊢;refine⟨I.1,λi hi=>?_⟩;rcases I.2 i hi with U|U
  .grind
  .have A4:ps[i]?=some (ps[i]'(by omega)):=by grind
   cases W:all[i]? with
   |none=>grind
   |some H=>
    rw[W]at U;simp at U;simp[so];have A5:=qj (k5 V i _ A4) j (by grind) _ AI;have AQ:=qj (k5 V j _ AI) i (by grind) _ A4;have BO:=U.1;simp[uV]at BO;grind
def uX(all:List Oper):Prop:=∀i,i+1<all.length->i∈(dJ all []).getD (all.length-1) []
def BX{all:List Oper}{AU:List (List Nat)}(O:uW all AU=true)(AV:AU.getD (all.length-1) []=[]):uX all:=by
 intro i hi;have I:=XN.1 O (all.length-1) (XI.2 (by omega));unfold ss at I;rw[XM (by omega)]at I;simp only[Xl,XN,Bool.or_eq_true,XI]at I;rcases I.2 i (by omega)with A|A
 .simpa using A
 .rw[XM (by omega)]at A;simp only[Xl]at A;have:=A.2.2;rw[AV]at this;cases this
def yq:aB:=⟨[],[],false,.aA⟩
section
variable {all:List Oper} {ps:List aB}
theorem Cert.Ss{P:Program}{E:Mem->Prop}{rest:List Oper}{S0 S:St}{N:List aB}{S1:St}(h:Cert P E all rest S N S1):∀(pre:List Oper)(pp:List aB)(A9:List Oper)(AA:List aB),pre.length=pp.length->all=pre++rest++A9->ps=pp++N++AA->au all ps S0 (List.range pre.length)=S->
 au all ps S0 (List.range (pre.length+rest.length))=S1/\N.length=rest.length/\∀j o p,pre.length<=j->j<pre.length+rest.length->all[j]?=some o->ps[j]?=some p->(∀e∈p.es,e.key∈p.ks)/\(∀m,E m->E (aI m p.es))/\mM P E all (au all ps S0 (List.range j)) o p:=by
 induction h with
 |nil S=>
  intro pre pp A9 AA A4 AG W AB;exact⟨by simpa using AB,rfl,λj o p T AH _=>by simp at AH;omega⟩
 |cons o rest S p N S1 Z Aj A5 V ih=>
  intro pre pp A9 AA A4 AG W AB;have q:all[pre.length]?=some o:=by rw[AG];simp
  have AW:ps[pre.length]?=some p:=by rw[W,A4];simp
  obtain⟨I,A,A6⟩:=ih (pre++[o]) (pp++[p]) A9 AA (by simp[A4]) (by rw[AG];simp) (by rw[W];simp) (by
   rw[Xx,X0,List.range_succ,mo,AB];simp[au,q,AW])
  refine⟨by rw[<-I];simp;congr 2;omega,by simp[A],λj AX Ak T AH J AI=>?_⟩;rcases Nat.eq_or_lt_of_le T with rfl|T
  .rw[q]at J;rw[AW]at AI;cases J;cases AI;exact⟨Z,Aj,by rw[AB];exact A5⟩
  .exact A6 j AX Ak (by simp;omega) (by simp at AH⊢;omega) J AI
theorem DC{P:Program}{S0 S1:St}{φ0:aQ}{G:Fr}{w0:World}{Q:Exit->Act->World->Prop}{E:Mem->Prop}{init:List Oper}{ol:Oper}(y:all=init++[ol])(AJ:uX all)(AK:E S0.mem){N:List aB}(AL:Cert P E all init S0 N S1)(W:ps=N++[yq])(Y:kj all ps=true)(Al:(S0.mem.map (·.key)).Nodup)
 (AM:∀φ a w,Rel φ G S1 a w->az φ0 S0.mem w0 φ S1.mem w->∀next:Act->World->Prop,(∀H w',Q .normal H w'->next H w')->if Region.wanted ol (yielded all.toArray a.tmps)then ol.wp P a w next Q else next (a.put ol.dst undef) w):
 ∀(fuel:Nat)(listed:Array Bool) φ a w,listed.size=all.length->listed.getD init.length false=false->kl all (λi=>listed.getD i false)->Rel φ G (au all ps S0 (dY all.length λi=>listed.getD i false)) a w->az φ0 S0.mem w0 φ (au all ps S0 (dY all.length λi=>listed.getD i false)).mem w->
  ((List.range all.length).filter λi=>!listed.getD i false).length<=fuel->wpAny P .any all.toArray Q fuel listed a w:=by
 obtain⟨An,AY,A5⟩:=Cert.Ss (ps:=ps) (S0:=S0) AL [] [] [ol] [yq] rfl (by simp[y]) (by simp[W]) rfl;have AN:all.length=init.length+1:=by rw[y];simp
 have AZ:ps.length=all.length:=by rw[W,AN];simp[AY]
 have AO:all[init.length]?=some ol:=by rw[y];simp
 have A_:ps[init.length]?=some yq:=by rw[W,<-AY];simp
 have Ao:∀(j:Nat)(p:aB),ps[j]?=some p->∀e∈p.es,e.key∈p.ks:=λj p D=>by
  have B5:j<ps.length:=(D1.1 D).1;by_cases T:j<init.length
  .exact (A5 j (all[j]'(by omega)) p (by simp) (by simpa using T) (by simp) D).1
  .have:j=init.length:=by omega
   subst this;rw[A_]at D;cases D;simp[yq]
 have Ap:∀j o,all[j]?=some o->∀p∈cp o,p<j:=λj o M=>(cg Y M).choose_spec.2.1;have Aq:∀l:List Nat,E (au all ps S0 l).mem:=by
  have key:∀(l:List Nat)(S:St),E S.mem->E (au all ps S l).mem:=by
   intro l;induction l with
   |nil=>exact λ_ h=>h
   |cons i l ih=>
    intro S h;have q:au all ps S (i::l)=au all ps (au all ps S [i]) l:=by simp[au]
    rw[q];refine ih _ ?_;simp only[au,List.foldl_cons,YI];split
    .rename_i o p M D;simp only[aB.app,cH];have AC:i<all.length:=(D1.1 M).1;by_cases hi:i<init.length
     .exact (A5 i o p (by simp) (by simpa using hi) M D).2.1 _ h
     .have:i=init.length:=by omega
      subst this;rw[A_]at D;cases D;exact h
    .exact h
  exact λl=>key l S0 AK
 have first:∀(f:Nat->Bool)(n:Nat),n<=all.length->(∀i,i<n->f i=true)\/∃i,i<n/\f i=false/\∀Aa,Aa<i->f Aa=true:=by
  intro f n;induction n with
  |zero=>exact λ_=>.inl (λi hi=>by omega)
  |succ n ih=>
   intro AV;rcases ih (by omega)with h|⟨i,I,A,A6⟩
   .cases A':f n with
    |true=>
     refine .inl λi hi=>?_;rcases Nat.lt_succ_iff_lt_or_eq.1 hi with AP|AP
     .exact h i AP
     .rw[AP];exact A'
    |false=>exact .inr ⟨n,by omega,A',h⟩
   .exact .inr ⟨i,by omega,A,A6⟩
 have Ar:∀(listed:Array Bool),listed.size=all.length->Region.ready .any all.toArray listed=[]->∀i,i<all.length->listed.getD i false=true:=by
  intro listed A0 A1;rcases first (λi=>listed.getD i false) all.length (Ds _)with h|⟨i,I,A,A6⟩
  .exact h
  .exfalso;have:i∈Region.ready .any all.toArray listed:=by
    rw[mem_ready];refine⟨?_,all[i],by simp[I],λe he AQ=>?_⟩
    .have:i<listed.size:=by omega
     simp only[XG,Yo this,Ye]at A⊢;exact A
    .obtain⟨p,_,D,_⟩:=cg Y (show all[i]?=some all[i] by simp[I]);exact A6 e.on (D e.on (by
      simp only[cp,Xt,XV];exact⟨e,⟨by simpa using he,AQ⟩,rfl⟩))
   rw[A1]at this;cases this
 have As:∀(listed:Array Bool),listed.size=all.length->(∀i,i<all.length->listed.getD i false=true)->Region.ready .any all.toArray listed=[]:=by
  intro listed A0 At;cases h:Region.ready .any all.toArray listed with
  |nil=>rfl
  |cons i r=>
   exfalso;have hi:i∈Region.ready .any all.toArray listed:=by rw[h];simp
   rw[mem_ready]at hi;obtain⟨A7,o,M,_⟩:=hi;have AC:i<all.length:=by
    have:=(Xv.1 M).1;simpa using this
   have:=At i AC;have A:i<listed.size:=by omega
   simp only[XG,Yo A,Ye]at A7 this;rw[A7]at this;cases this
 intro fuel;induction fuel with
 |zero=>
  intro listed φ a w A0 AD A8 V Z A';exfalso;have:init.length∈(List.range all.length).filter λi=>!listed.getD i false:=XV.2 ⟨XI.2 (by omega),by simp only[AD];rfl⟩;have:=List.length_pos_of_mem this;omega
 |succ fuel ih=>
  intro listed φ a w A0 AD A8 V Z A';refine⟨λA1=>?_,λi hi=>?_⟩
  .have:=Ar listed A0 A1 init.length (by omega);rw[AD]at this;cases this
  rw[mem_ready]at hi;obtain⟨A7,o,M,Au⟩:=hi;have J:all[i]?=some o:=by simpa using M
  have AC:i<all.length:=(D1.1 J).1;have Ab:i<listed.size:=by omega
  have AE:listed.getD i false=false:=by
   simp only[XG,Yo Ab,Ye]at A7⊢;exact A7
  have AR:∀k∈cp o,listed.getD k false=true:=by
   intro k A2;simp only[cp,Xt,XV]at A2;obtain⟨e,⟨he,AQ⟩,rfl⟩:=A2;exact Au e (by simpa using he) AQ
  have AF:(listed.setIfInBounds i true).getD i false=true:=by simp[Ab]
  have A3:∀k,k≠i->(listed.setIfInBounds i true).getD k false=listed.getD k false:=λk A2=>getD_set_ne false (X7 A2);by_cases Ac:i=init.length
  .subst Ac;rw[AO]at J;cases J;have Ad:∀k,k<init.length->listed.getD k false=true:=by
    intro k AS;have Av:k∈(dJ all []).getD init.length []:=by
     have:=AJ k (by omega);rw[AN]at this;simpa using this
    exact (fF (L:=λi=>listed.getD i false=true) Ap (λj o M A'=>A8 j o M A') init.length ⟨ol,AO⟩ k Av).2 (λAX Ae=>by rw[AO]at Ae;cases Ae;exact AR)
   have A4:(dY all.length λi=>listed.getD i false)=List.range init.length:=by
    rw[dY,AN,List.range_succ,Ym];have q:(List.range init.length).filter (λi=>listed.getD i false)=List.range init.length:=by
     rw[List.filter_eq_self];intro k AS;exact Ad k (XI.1 AS)
    rw[q];simp only[List.filter_cons,List.filter_nil];rw[AE];simp
   have Aw:au all ps S0 (List.range init.length)=S1:=by simpa using An
   rw[A4,Aw]at V Z;have O:=AM φ a w V Z (wpAny P .any all.toArray Q fuel (listed.setIfInBounds init.length true)) (λH w' Af=>by
    have A1:=As (listed.setIfInBounds init.length true) (by simpa using A0) (λk AS=>by
     by_cases U:k=init.length
     .subst U;exact AF
     .rw[A3 k U];exact Ad k (by omega))
    cases fuel with
    |zero=>exact⟨A1,Af⟩
    |succ fuel=>exact⟨λ_=>Af,λi hi=>by rw[A1]at hi;cases hi⟩)
   unfold wpOp;rw[M];simp only
   split at O
   .rename_i hw;rw[Xz hw];exact .inl O
   .rename_i hw;rw[Xq hw];exact O
  .have Ax:i<init.length:=by omega
   obtain⟨p,D,_⟩:=cg Y J;obtain⟨B6,_,Ay⟩:=A5 i o p (by simp) (by simpa using Ax) J D;have Az:=lA (S:=S0) AZ Y A8 J D AE AR;have heq:=qh (S:=S0) (f:=λi=>listed.getD i false) (g:=λk=>(listed.setIfInBounds i true).getD k false) AZ Y A8 Ao Al J D AE AF A3;have B':kl all (λk=>(listed.setIfInBounds i true).getD k false):=by
    intro k ok AT B0 x Ag;by_cases Ah:x=i
    .subst Ah;exact AF
    .show (listed.setIfInBounds i true).getD x false=true;rw[A3 x Ah];by_cases U:k=i
     .subst U;rw[J]at AT;cases AT;exact AR x Ag
     .exact A8 k ok AT ((A3 k U).symm.trans B0) x Ag
   have B1:((List.range all.length).filter λk=>!(listed.setIfInBounds i true).getD k false).length<=fuel:=by
    have I:(List.range all.length).filter (λk=>!(listed.setIfInBounds i true).getD k false)=((List.range all.length).filter λk=>!listed.getD k false).filter (λk=>k != i):=by
     rw[Yl];refine YB λk _=>?_;by_cases U:k=i
     .subst U;rw[AF];simp
     .rw[A3 k U];simp[U]
    have B2:i∈(List.range all.length).filter λk=>!listed.getD k false:=XV.2 ⟨XI.2 AC,by simp[AE]⟩;rw[I];have:(((List.range all.length).filter λk=>!listed.getD k false).filter (λk=>k != i)).length<((List.range all.length).filter λk=>!listed.getD k false).length:=by
     rw[YC];exact⟨i,B2,by simp⟩
    omega
   have O:=Ay _ Az (Aq _) φ G a w V (wpAny P .any all.toArray Q fuel (listed.setIfInBounds i true)) Q (λφ' H w' B3 A2=>
    ih _ φ' H w' (by simpa using A0) (by rw[A3 _ (X7 Ac)];exact AD) B' (B3.eqv heq) (by rw[<-heq.mem];exact Z.trans A2) B1)
   unfold wpOp;rw[M];simp only
   split at O
   .rename_i hw;rw[Xz hw];exact .inl O
   .rename_i hw;rw[Xq hw];exact O
end
def BY{P:Program}{S S1:St}{id:Nat}{ops init:List Oper}{ol:Oper}{N:List aB}{E:Mem->Prop}(y:ops=init++[ol])(AJ:uX ops)(AK:E S.mem)(hm:P.follows .mixedOrders=true)(AL:Cert P E ops init S N S1)(Y:kj ops (N++[yq])=true){φ G a w}(V:Rel φ G S a w){Q:Exit->Act->World->Prop}
 (AM:∀φ' H w',Rel φ' G S1 H w'->az φ S.mem w φ' S1.mem w'->∀next:Act->World->Prop,(∀H w',Q .normal H w'->next H w')->if Region.wanted ol (yielded ops.toArray H.tmps)then ol.wp P H w' next Q else next (H.put ol.dst undef) w'):(Code.region id ops.toArray true).wp P Q a w:=by
 refine wp_region_any hm ?_;have B4:Rel φ G S a {w with drawn:=w.drawn+1}:=V.grow (λ_ _=>rfl) (Ds _);have Ai:(dY ops.length λi=>(Array.replicate ops.length false).getD i false)=[]:=by
  rw[dY,Ya];intro i hi;simp[XG,XI.1 hi]
 refine DC (S0:=S) (φ0:=φ) (w0:=w) (G:=G) y AJ AK AL rfl Y V.mem.nodup AM _ _ φ a _ (by simp) ?_ ?_ ?_ ?_ ?_
 .simp only[XG];rw[y];simp
 .intro j o _ T;exfalso;simp only[XG]at T;by_cases h:j<ops.length
  .simp[h]at T
  .simp[h]at T
 .simp only[XS];rw[Ai];exact B4
 .simp only[XS];rw[Ai];exact az.grow (λ_ _=>rfl) (Ds _) rfl rfl rfl
 .simp only[XS];exact YH (List.length_filter_le _ _) (by simp)
def da:Mem->Nat
 |[]=>0
 |e::r=>e.U+da r
def cX:List aB->Nat
 |[]=>0
 |p::r=>da p.es+cX r
def fH(N:Nat):Mem->Mem
 |[]=>[]
 |e::r=>(match decide (100<=e.key)with|true=>⟨e.key,N,.dead⟩|false=>e)::fH N r
def St.kill(S:St)(N:Nat):St:={S with env:=[],mem:=fH N S.mem}
def xz:List bk->Bool
 |[]=>true
 |e::r=>decide (100<=e.key)&&xz r
def su(ps:List aB):List Nat->Bool
 |[]=>true
 |i::r=>(match ps[i]? with|some p=>xz p.es|none=>false)&&su ps r
def sw:∀{m:Mem}{e:bk},e∈m->e.U<=da m
 |_::r,e,h=>by
  rcases Xm.1 h with rfl|h
  .simp only[da];omega
  .have:=sw (m:=r) h;simp only[da];omega
def wo:∀{ps:List aB}{p:aB},p∈ps->da p.es<=cX ps
 |_::r,p,h=>by
  rcases Xm.1 h with rfl|h
  .simp only[cX];omega
  .have:=wo (ps:=r) h;simp only[cX];omega
def km(N:Nat):∀m:Mem,(fH N m).map (·.key)=m.map (·.key)
 |[]=>rfl
 |e::r=>by
  simp only[fH,XU,km N r];split<;>rfl
def mb{N:Nat}:∀{m:Mem}{e:bk},e∈fH N m->(∃Z∈m,100<=Z.key/\e=⟨Z.key,N,.dead⟩)\/(e∈m/\e.key<100)
 |Z::r,e,h=>by
  simp only[fH,Xm]at h;rcases h with h|h
  .by_cases T:100<=Z.key
   .simp only[T,decide_true]at h;exact .inl ⟨Z,by simp,T,h⟩
   .simp only[T,decide_false]at h;subst h;exact .inr ⟨by simp,by omega⟩
  .rcases mb h with ⟨AD,A,J,A2⟩|⟨A,J⟩
   .exact .inl ⟨AD,XT _ A,J,A2⟩
   .exact .inr ⟨XT _ A,J⟩
def sx(N:Nat)(k:Nat):∀m:Mem,Mem.get (fH N m) k=(Mem.get m k).map λe=>match decide (100<=e.key)with|true=>⟨e.key,N,.dead⟩|false=>e
 |[]=>rfl
 |e::r=>by
  have AD:(match decide (100<=e.key)with|true=>(⟨e.key,N,.dead⟩:bk)|false=>e).key=e.key:=by split<;>rfl
  simp only[fH,Mem.get,AD];split
  .rfl
  .exact sx N k r
def ko(φ:aQ)(N:Nat):aQ:=λk=>match φ k with
 |some L=>some (match decide (100<=k)with|true=>{L with U:=N}|false=>L)
 |none=>none
def kp{φ:aQ}{N k:Nat}(h:k<100):ko φ N k=φ k:=by
 unfold ko;have:decide (100<=k)=false:=by simp;omega
 rw[this];cases φ k<;>rfl
def yr{φ:aQ}{N k:Nat}{L:Loc}(h:100<=k)(H:φ k=some L):ko φ N k=some {L with U:=N}:=by
 unfold ko;have:decide (100<=k)=true:=by simp;omega
 rw[this,H]
def JP{φ:aQ}{G:Fr}{S:St}{a:Act}{w:World}{N:Nat}(h:Rel φ G S a w)(AP:∀e∈S.mem,e.U<N):
 Rel (ko φ N) G (S.kill N) a w/\az φ S.mem w (ko φ N) (S.kill N).mem w:=by
 have hle:φ.le (ko φ N):=by
  intro k L H;by_cases T:100<=k
  .obtain⟨e,he,rfl⟩:=Xt.1 (h.mem.kI k L H);obtain⟨L',AG,Ad,_⟩:=h.mem.de e he;rw[H]at AG;cases AG;have:=AP e he;exact⟨_,yr T H,by simp only;omega,λhh=>by simp only at hh;omega⟩
  .exact⟨L,by rw[kp (by omega)];exact H,Ds _,λ_=>rfl⟩
 have AQ:∀b,ek (ko φ N) (fH N S.mem) b->ek φ S.mem b:=by
  rintro b ⟨e,he,L,H,E⟩;rcases mb he with ⟨Z,V,A,rfl⟩|⟨V,A⟩
  .exact E.elim
  .rw[kp A]at H;exact⟨e,V,L,H,E⟩
 have Ae:∀b,Fo G (ko φ N) (fH N S.mem) b->Fo G φ S.mem b:=λb=>Or.imp id (AQ b);have T:az φ S.mem w (ko φ N) (S.kill N).mem w:=⟨hle,λ_ _ _=>rfl,λb _ O=>AQ b O,Ds _,rfl,rfl,rfl⟩;refine⟨⟨h.size,h.defers,(λt x AM=>nomatch AM),⟨?_,?_,?_,?_,?_,h.mem.bound⟩,h.fY.mono (λ_ _ _=>rfl) (Ds _) (λb _ O=>Ae b O)⟩,T⟩
 .show ((fH N S.mem).map (·.key)).Nodup;rw[km];exact h.mem.nodup
 .intro k L H;show k∈(fH N S.mem).map (·.key);rw[km];unfold ko at H;cases I:φ k with
  |none=>rw[I]at H;cases H
  |some Av=>exact h.mem.kI k Av I
 .intro e he;rcases mb he with ⟨Z,V,A,rfl⟩|⟨V,A⟩
  .obtain⟨L,H,_,_⟩:=h.mem.de Z V;exact⟨_,yr A H,rfl,trivial⟩
  .obtain⟨L,H,Ad,Aw⟩:=h.mem.de e V;exact⟨L,by rw[kp A];exact H,Ad,Aw.mono hle (λ_ _ _=>rfl) (Ds _) (λb _ O=>Ae b O) (λ_ _=>rfl)⟩
 .rintro e he e' Ax L L' H AG ⟨b,E,M⟩;rcases mb he with ⟨Z,V,A,rfl⟩|⟨V,A⟩
  .exact E.elim
  .rcases mb Ax with ⟨AD,J,A2,rfl⟩|⟨J,A2⟩
   .exact M.elim
   .rw[kp A]at H;rw[kp A2]at AG;exact h.mem.apart e V e' J L L' H AG ⟨b,E,M⟩
 .intro b O;exact h.mem.fX b (AQ b O)
def tH(P:Program)(all:List Oper)(S:St)(o:Oper)(p:aB)(t:TypeId)(x:D):Prop:=
 ∀A6,fT all o p.ks A6 S->∀φ G a w,Rel φ G A6 a w->∀(next:Act->World->Prop)(R:Exit->Act->World->Prop),
  (∀φ' A' w' v,Rel φ' G {A6 with mem:=aI A6.mem p.es} A' w'->az φ A6.mem w φ' (aI A6.mem p.es) w'->aq w' (Fo G φ' (aI A6.mem p.es)) x v->R (.panic [{v:=.iface t v,recovered:=false}]) A' w')->
  if Region.wanted o (yielded all.toArray a.tmps)then o.wp P a w next R else next (a.put o.dst undef) w
section
variable {all:List Oper} {ps:List aB}
theorem DD{m:Mem}{x e:bk}(h:e∈Mem.set m x):e∈m\/e=x:=by
 induction m with
 |nil=>exact .inl h
 |cons y r ih=>
  simp only[Mem.set]at h;split at h
  .rcases Xm.1 h with h|h
   .exact .inr h
   .exact .inl (XT _ h)
  .rcases Xm.1 h with h|h
   .exact .inl (by simp[h])
   .rcases ih h with h|h
    .exact .inl (XT _ h)
    .exact .inr h
theorem sy:∀{es:List bk}{m:Mem}{e:bk},e∈aI m es->e∈m\/e∈es
 |[],m,e,h=>.inl h
 |x::r,m,e,h=>by
  have A:e∈aI (Mem.set m x) r:=h;rcases sy A with h|h
  .rcases DD h with h|h
   .exact .inl h
   .exact .inr (by simp[h])
  .exact .inr (XT _ h)
theorem wq(B:Nat)(Af:∀p∈ps,∀e∈p.es,e.U<B):∀(l:List Nat)(S:St),(∀e∈S.mem,e.U<B)->∀e∈(au all ps S l).mem,e.U<B
 |[],S,h=>h
 |i::l,S,h=>by
  have AD:au all ps S (i::l)=au all ps (au all ps S [i]) l:=by simp[au]
  rw[AD];refine wq B Af l _ ?_;simp only[au,List.foldl_cons,YI];split
  .rename_i o p E I;simp only[aB.app,cH];intro e he;rcases sy he with he|he
   .exact h e he
   .exact Af p (Xk I) e he
  .exact h
variable {S:St} {f:Nat->Bool}
theorem BZ(AH:ps.length=all.length)(A0:kj all ps=true)(W:kl all f){j:Nat}{o:Oper}(E:all[j]?=some o)(AR:f j=false)(A7:∀i∈cp o,f i=true)
 (AS:∀i p,ps[i]?=some p->i≠j->i∉(dJ all []).getD j []->j∉(dJ all []).getD i []->∀e∈p.es,100<=e.key) {k:Nat} (T:k<100):
 Mem.get (au all ps S (dY all.length f)).mem k=Mem.get (au all ps S (List.range j)).mem k:=by
 have Ay:j<all.length:=(D1.1 E).1;have AI:∀j o,all[j]?=some o->∀p∈cp o,p<j:=λj o E=>(cg A0 E).choose_spec.2.1;have Ag:∀i∈(dJ all []).getD j [],i<j/\f i=true:=λi hi=>by
  obtain⟨A,J⟩:=fF (L:=λi=>f i=true) AI (λj o E Y=>W j o E Y) j ⟨o,E⟩ i hi;exact⟨A,J λAh M=>by rw[E]at M;cases M;exact A7⟩
 have AT:∀i,f i=true->i<all.length->j∉(dJ all []).getD i []:=by
  intro i Az AE A8;obtain⟨A3,AJ⟩:∃A3,all[i]?=some A3:=⟨all[i],by simp[AE]⟩;have:=(fF (L:=λi=>f i=true) AI (λj o E Y=>W j o E Y) i ⟨A3,AJ⟩ j A8).2 (λAh M=>by rw[AJ]at M;cases M;exact W i A3 AJ Az);simp[AR]at this
 let q:Nat->Bool:=λi=>(dJ all []).getD j [] |>.contains i
 have AU:∀i,q i=true↔i∈(dJ all []).getD j []:=λi=>by simp[q]
 have B':(dY all.length f).filter q=(List.range j).filter q:=by
  rw[sq Ay AR,Ym,Yl,Yl];have J:(List.range' (j+1) (all.length-j-1)).filter (λa=>q a&&f a)=[]:=by
   rw[Ya];intro i hi;have:=(List.mem_range'_1.1 hi).1;simp only[Xl,not_and];intro A4;have:=(Ag i ((AU i).1 A4)).1;omega
  rw[J,X2];refine YB λi hi=>?_;cases A4:q i with
  |false=>simp
  |true=>simp[(Ag i ((AU i).1 A4)).2]
 have B0:∀i p,ps[i]?=some p->i≠j->q i=false->j∉(dJ all []).getD i []->k∉p.es.map (·.key):=by
  intro i p I A9 A4 A8 A1;obtain⟨e,he,rfl⟩:=Xt.1 A1;have:=AS i p I A9 (λh=>by rw[(AU i).2 h]at A4;cases A4) A8 e he;omega
 have side:∀(i:Nat)(p:aB),i≠j->j∉(dJ all []).getD i []->ps[i]?=some p->k∈p.es.map (·.key)->q i=true:=by
  intro i p A9 A8 I A1;cases A4:q i with
  |true=>rfl
  |false=>exact absurd A1 (B0 i p I A9 A4 A8)
 rw[iO k q (dY all.length f) S S (λi hi p I A1=>by
  have AV:=XV.1 hi;have AE:=XI.1 AV.1;refine side i p (λh=>by subst h;simp[AR]at AV) (AT i AV.2 AE) I A1) rfl rfl,
  iO k q (List.range j) S S (λi hi p I A1=>by
   have AE:=XI.1 hi;refine side i p (by omega) (λh=>?_) I A1;obtain⟨A3,AJ⟩:∃A3,all[i]?=some A3:=⟨all[i]'(by omega),by simp[show i<all.length by omega]⟩
   have:=(fF (L:=λ_=>True) AI (λ_ _ _ _ _ _=>trivial) i ⟨A3,AJ⟩ j h).1;omega) rfl rfl,B']
theorem Ft{P:Program}{S0 S1:St}{φ0:aQ}{G:Fr}{w0:World}{Q:Exit->Act->World->Prop}{j:Nat}{Ai:Oper}{AA:aB}{t:TypeId}{x:D}
 (AH:ps.length=all.length) (A0:kj all ps=true) (Aj:(S0.mem.map (·.key)).Nodup) (B1:∀(i:Nat)(p:aB),ps[i]?=some p->∀e∈p.es,e.key∈p.ks)
 (B2:∀i o p,all[i]?=some o->ps[i]?=some p->i≠j->j∉(dJ all []).getD i []->fU P all (au all ps S0 (List.range i)) o p)
 (AN:all[j]?=some Ai) (Ak:ps[j]?=some AA) (B3:tH P all (au all ps S0 (List.range j)) Ai AA t x)
 (AS:∀i p,ps[i]?=some p->i≠j->i∉(dJ all []).getD j []->j∉(dJ all []).getD i []->∀e∈p.es,100<=e.key)
 (B4:S1.n=S0.n) (B5:S1.gl=S0.gl) (B6:S1.env=[]) (B7:S1.mem=fH (da S0.mem+cX ps+1) (aI (au all ps S0 (List.range j)).mem AA.es))
 (B8:∀φ' A' w' v,Rel φ' G S1 A' w'->az φ0 S0.mem w0 φ' S1.mem w'->aq w' (Fo G φ' S1.mem) x v->Q (.panic [{v:=.iface t v,recovered:=false}]) A' w'):
 ∀(fuel:Nat)(listed:Array Bool) φ a w,listed.size=all.length->kl all (λi=>listed.getD i false)->listed.getD j false=false->Rel φ G (au all ps S0 (dY all.length λi=>listed.getD i false)) a w->az φ0 S0.mem w0 φ (au all ps S0 (dY all.length λi=>listed.getD i false)).mem w->
  ((List.range all.length).filter λi=>!listed.getD i false).length<=fuel->wpAny P .any all.toArray Q fuel listed a w:=by
 have Al:j<all.length:=(D1.1 AN).1;have AI:∀j o,all[j]?=some o->∀p∈cp o,p<j:=λj o E=>(cg A0 E).choose_spec.2.1;have first:∀(f:Nat->Bool)(n:Nat),n<=all.length->(∀i,i<n->f i=true)\/∃i,i<n/\f i=false/\∀An,An<i->f An=true:=by
  intro f n;induction n with
  |zero=>exact λ_=>.inl (λi hi=>by omega)
  |succ n ih=>
   intro BN;rcases ih (by omega)with h|⟨i,A,J,A2⟩
   .cases Y:f n with
    |true=>
     refine .inl λi hi=>?_;rcases Nat.lt_succ_iff_lt_or_eq.1 hi with AW|AW
     .exact h i AW
     .rw[AW];exact Y
    |false=>exact .inr ⟨n,by omega,Y,h⟩
   .exact .inr ⟨i,by omega,J,A2⟩
 have done:∀(listed:Array Bool),listed.size=all.length->listed.getD j false=false->Region.ready .any all.toArray listed=[]->False:=by
  intro listed AO AB B9;rcases first (λi=>listed.getD i false) all.length (Ds _)with h|⟨i,A,J,A2⟩
  .have:=h j Al;simp only[AB]at this;cases this
  .have:i∈Region.ready .any all.toArray listed:=by
    rw[mem_ready];refine⟨?_,all[i],by simp[A],λe he O=>?_⟩
    .have:i<listed.size:=by omega
     simp only[XG,Yo this,Ye]at J⊢;exact J
    .obtain⟨p,_,I,_⟩:=cg A0 (show all[i]?=some all[i] by simp[A]);exact A2 e.on (I e.on (by
      simp only[cp,Xt,XV];exact⟨e,⟨by simpa using he,O⟩,rfl⟩))
   rw[B9]at this;cases this
 intro fuel;induction fuel with
 |zero=>
  intro listed φ a w AO W AB AX T Y;exfalso;have:j∈(List.range all.length).filter λi=>!listed.getD i false:=XV.2 ⟨XI.2 Al,by simp[AB]⟩;have:=List.length_pos_of_mem this;omega
 |succ fuel ih=>
  intro listed φ a w AO W AB AX T Y;refine⟨λh=>(done listed AO AB h).elim,λi hi=>?_⟩;rw[mem_ready]at hi;obtain⟨V,o,E,BA⟩:=hi;have M:all[i]?=some o:=by simpa using E
  have AE:i<all.length:=(D1.1 M).1;have Ao:i<listed.size:=by omega
  have AK:listed.getD i false=false:=by
   simp only[XG,Yo Ao,Ye]at V⊢;exact V
  have A7:∀k∈cp o,listed.getD k false=true:=by
   intro k A5;simp only[cp,Xt,XV]at A5;obtain⟨e,⟨he,O⟩,rfl⟩:=A5;exact BA e (by simpa using he) O
  by_cases A9:i=j
  .subst A9;rw[AN]at M;cases M;have AY:=lA (S:=S0) AH A0 W AN Ak AK A7;have AC:=B3 _ AY φ G a w AX (wpAny P .any all.toArray Q fuel (listed.setIfInBounds i true)) Q (λφ' A' w' v AZ A5 AP=>by
    have Ap:∀p∈ps,∀e∈p.es,e.U<da S0.mem+cX ps+1:=by
     intro p I e he;have A:=sw he;have J:=wo I;omega
    have BB:∀e∈S0.mem,e.U<da S0.mem+cX ps+1:=by
     intro e he;have A:=sw he;omega
    have BC:∀e∈aI (au all ps S0 (dY all.length λi=>listed.getD i false)).mem AA.es,e.U<da S0.mem+cX ps+1:=by
     intro e he;rcases sy he with he|he
     .exact wq _ Ap _ _ BB e he
     .exact Ap AA (Xk Ak) e he
    obtain⟨Aq,A_⟩:=JP AZ BC;have Aa:fH (da S0.mem+cX ps+1) (aI (au all ps S0 (dY all.length λi=>listed.getD i false)).mem AA.es)=S1.mem:=by
     rw[B7];refine Mem.ext ?_ ?_ λk=>?_
     .rw[km,fO,cq];exact Aj
     .simp only[km,fO,cq]
     .rw[sx,sx];by_cases BD:k<100
      .congr 1;exact jw _ _ _ k (by simp only[cq]) (.inr (BZ AH A0 W AN AK A7 AS BD))
      .have Ar:∀(m:Mem),(Mem.get m k).map (λe:bk=>match decide (100<=e.key)with|true=>(⟨e.key,da S0.mem+cX ps+1,.dead⟩:bk)|false=>e)=if k∈m.map (·.key)then some ⟨k,da S0.mem+cX ps+1,.dead⟩else none:=by
        intro m;cases As:Mem.get m k with
        |none=>
         rw[Xq]
         .rfl
         .intro A1;obtain⟨e,he,BE⟩:=Xt.1 A1;have:∀(m:Mem),e∈m->Mem.get m k≠none:=by
           intro m;induction m with
           |nil=>intro h;cases h
           |cons y r BF=>
            intro h;simp only[Mem.get];split
            .simp
            .rename_i BG;rcases Xm.1 h with rfl|h
             .exact absurd BE BG
             .exact BF h
          exact this m he As
        |some e=>
         obtain⟨A,J⟩:=Mem.get_mem As;have:decide (100<=e.key)=true:=by simp;omega
         simp only[Yc,this];rw[Xz (J▸Xw A),J]
       rw[Ar,Ar];simp only[fO,cq]
    have BH:({(au all ps S0 (dY all.length λi=>listed.getD i false))with mem:=aI (au all ps S0 (dY all.length λi=>listed.getD i false)).mem AA.es}:St).kill (da S0.mem+cX ps+1)=S1:=by
     have BI:(au all ps S0 (dY all.length λi=>listed.getD i false)).n=S1.n:=by rw[jG,B4]
     have a2:(au all ps S0 (dY all.length λi=>listed.getD i false)).gl=S1.gl:=by rw[iy,B5]
     unfold St.kill;simp only[Aa,BI,a2];rw[<-B6]
    rw[BH]at Aq A_;refine B8 _ A' w' v Aq (T.trans (A5.trans A_)) (AP.mono (λ_ _ _=>rfl) (Ds _) (λb O=>Or.imp id (A_.own b O))))
   unfold wpOp;rw[E];simp only
   split at AC
   .rename_i hw;rw[Xz hw];exact .inl AC
   .rename_i hw;rw[Xq hw];exact AC
  .obtain⟨p,I,_⟩:=cg A0 M;have AT:j∉(dJ all []).getD i []:=by
    intro A8;have:=(fF (L:=λi=>listed.getD i false=true) AI (λj o E Y=>W j o E Y) i ⟨o,M⟩ j A8).2 (λAh At=>by rw[M]at At;cases At;exact A7);rw[AB]at this;cases this
   have BJ:=B2 i o p M I A9 AT;have AY:=lA (S:=S0) AH A0 W M I AK A7;have Ab:(listed.setIfInBounds i true).getD i false=true:=by simp[Ao]
   have AL:∀k,k≠i->(listed.setIfInBounds i true).getD k false=listed.getD k false:=λk A5=>getD_set_ne false (X7 A5);have heq:=qh (S:=S0) (f:=λi=>listed.getD i false) (g:=λk=>(listed.setIfInBounds i true).getD k false) AH A0 W B1 Aj M I AK Ab AL;have BK:kl all (λk=>(listed.setIfInBounds i true).getD k false):=by
    intro k ok Ac BL x AM;by_cases Au:x=i
    .subst Au;exact Ab
    .show (listed.setIfInBounds i true).getD x false=true;rw[AL x Au];by_cases AF:k=i
     .subst AF;rw[M]at Ac;cases Ac;exact A7 x AM
     .exact W k ok Ac ((AL k AF).symm.trans BL) x AM
   have BM:((List.range all.length).filter λk=>!(listed.setIfInBounds i true).getD k false).length<=fuel:=by
    have A:(List.range all.length).filter (λk=>!(listed.setIfInBounds i true).getD k false)=((List.range all.length).filter λk=>!listed.getD k false).filter (λk=>k != i):=by
     rw[Yl];refine YB λk _=>?_;by_cases AF:k=i
     .subst AF;rw[Ab];simp
     .rw[AL k AF];simp[AF]
    have Aa:i∈(List.range all.length).filter λk=>!listed.getD k false:=XV.2 ⟨XI.2 AE,by simp[AK]⟩;rw[A];have:(((List.range all.length).filter λk=>!listed.getD k false).filter (λk=>k != i)).length<((List.range all.length).filter λk=>!listed.getD k false).length:=by
     rw[YC];exact⟨i,Aa,by simp⟩
    omega
   have AC:=BJ _ AY φ G a w AX (wpAny P .any all.toArray Q fuel (listed.setIfInBounds i true)) Q (λφ' A' w' AZ A5=>
    ih _ φ' A' w' (by simpa using AO) BK (by rw[AL j (λh=>A9 h.symm)];exact AB) (AZ.eqv heq) (by rw[<-heq.mem];exact T.trans A5) BM)
   unfold wpOp;rw[E];simp only
   split at AC
   .rename_i hw;rw[Xz hw];exact .inl AC
   .rename_i hw;rw[Xq hw];exact AC
end
inductive Gh where
 |trim (k:Nat)
 |freeze (k:Nat)
 |lB (V j k sz:Nat)
 |ql (k H:Nat)
 |AB (k H:Nat)
 |cls (k H:Nat)
 |shut (k:Nat)
 |nK (V j k:Nat)
abbrev aJ:=FuncId->List AV->List ay->Option (Out×List (Nat×ay))
structure Ctx where
 P:Program
 gl:List (Nat×D)
 kg:FuncId->Nat->List Nat
 gh:FuncId->Nat->List Gh
 md:FuncId->Nat->Bool
 fp:FuncId->c8
 od:FuncId->Nat->List (List Nat)
 rD:FuncId->Option (List AV->Option AV)
 fl:FuncId->Nat->List (Nat×Nat)
 ov:Option aJ
def dC(P:Program)(g:FuncId):Bool:=
 match P.funcs[g]? with
 |some fn=>fn.body.isSome&&!(fn.name == "runtime.NumGoroutine")
 |none=>false
mutual
def iP:AV->List Nat
 | .vec _ _ _ _=>[]
 | .ptr k _ _=>[k]
 | .bb k _ _ _=>[k]
 | .agg cs=>nL cs
 | .fn _ cap=>gk cap
 | .bc vs=>nL vs
 |_=>[]
def nL:List AV->List Nat
 |[]=>[]
 |x::r=>iP x++nL r
end
mutual
def mY:AV->List Nat
 | .vec k _ _ _=>[k]
 | .agg cs=>nM cs
 | .bc vs=>nM vs
 |_=>[]
def nM:List AV->List Nat
 |[]=>[]
 |x::r=>mY x++nM r
end
def gN(mt:List Nat):Nat->List AV->List Nat
 |_,[]=>[]
 |i,x::r=>(match mt.contains i with|true=>dM x|false=>iP x)++gN mt (i+1) r
def nN(mt:List Nat):Nat->List AV->List Nat
 |_,[]=>[]
 |i,x::r=>(match mt.contains i with|true=>[]|false=>mY x)++nN mt (i+1) r
structure cK where
 out:Out
 es:List bk
 ks:List Nat
def LA(ρ AI:List Nat):Out->Out
 | .ret x=>.ret (up ρ AI x)
 | .panic t x=>.panic t x
def plainO:Out->Bool
 | .ret x=>bB x
 | .panic _ x=>eB x
def jl:List (Nat×ay)->Bool
 |[]=>true
 |(_,c)::r=>fE c&&jl r
def qo(m:Mem)(ρ:List Nat):List Nat->Bool
 |[]=>true
 |k::r=>(Mem.get m k).isSome&&!ρ.contains k&&qo m ρ r
def cL(m:Mem)(O:Nat)(ρ B:List Nat):Option (Out×List (Nat×ay))->Option cK
 |some (out,T)=>
  if (decide (ρ.length<=T.length)&&qo m ρ (List.range' (O+1) (T.length-ρ.length))&&(B.isEmpty||(plainO out&&jl T)))=true then
   some ⟨LA (ρ++List.range' (O+1) (T.length-ρ.length)) (base m 0 ρ++base m 1 (List.range' (O+1) (T.length-ρ.length))) out,
    et (ρ++List.range' (O+1) (T.length-ρ.length)) (base m 0 ρ++base m 1 (List.range' (O+1) (T.length-ρ.length))) 0 T,ρ++B++List.range' (O+1) (T.length-ρ.length)⟩
  else none
 |none=>none
def xA(N:Nat)(T:List (Nat×ay)):Out->Out
 | .ret x=>.ret (vw (bH 0 T) (List.range N) (λ_=>true) (λ_ v=>v) x).norm
 | .panic t x=>.panic t x
def k7(N:Nat)(b:Bool):Option (Out×List (Nat×ay))->Option (Out×List (Nat×ay))
 |some (out,T)=>if (b&&decide (N<T.length))=true then some (xA N T out,cd (bH 0 T) (List.range N) (λ_=>true) (λ_ v=>v) 0 (List.range N))else some (out,T)
 |none=>none
def dN(rw:Bool)(m:Mem)(ρ B:List Nat):List AV->List AV
 |[]=>[]
 |y::r=>uu rw (vw m ρ (λk=>B.contains k) dL y)::dN rw m ρ B r
def jy:List (Nat×ay)->List ay
 |[]=>[]
 |(_,c)::r=>c::jy r
def iQ(A:aJ)(m:Mem)(O:Nat)(g:FuncId)(W:List AV)(rw:Bool)(ρ B:List Nat):Option cK:=
 cL m O ρ B (k7 ρ.length (Mem.get m (O+1)).isNone (A g (dN rw m ρ B W) (jy (cd m ρ (λk=>B.contains k) dL 0 ρ))))
def iR(A:aJ)(m:Mem)(O:Nat)(g:FuncId)(W:List AV)(mt ρ:List Nat):Option cK:=
 iQ A m O g W (mt.contains 1000) ρ ((nN mt 0 W).filter λk=>!ρ.contains k)
def cm(A:aJ)(m:Mem)(O:Nat)(g:FuncId)(W:List AV)(mt:List Nat):Option cK:=
 iR A m O g W mt (collect m 64 (gN mt 0 W) [])
def sB(S:St)(d:Option Nat):Option cK->Option (XE×St)
 |some ⟨.ret x,es,_⟩=>some (.normal,({S with mem:=aI S.mem es}:St).put d true x)
 |some ⟨.panic t x,es,_⟩=>some (.panic t x,{S with mem:=aI S.mem es})
 |none=>none
def bw(S:St):List Operand->List AV
 |[]=>[]
 |x::r=>(S.ag x).2::bw S r
def tI(n g:Nat):FuncId:=
 match decide (n<=g)with
 |true=>g-n
 |false=>g
def iZ(g:FuncId):FuncId:=tI my g
def mZ(n g:Nat)(W Z:List AV):List AV:=
 match decide (n<=g)with
 |true=>Z++W
 |false=>W++Z
def ed(g:FuncId)(W Z:List AV):List AV:=mZ my g W Z
mutual
def sC:D->D->Bool
 | .int k n,.int A' A0=>decide (k=A')&&decide (n=A0)
 | .bool b,.bool A1=>decide (b=A1)
 | .str s,.str AJ=>decide (s=AJ)
 | .list a,.list b=>qp a b
 | .agg a,.agg b=>qp a b
 | .jd,.jd=>true
 |_,_=>false
def qp:List D->List D->Bool
 |[],[]=>true
 |a::r,b::s=>sC a b&&qp r s
 |_,_=>false
end
def xB:AV->AV->Bool
 | .d x,.d y=>sC x y
 | .ptr k v o,.ptr A' A6 A7=>decide (k=A')&&(decide (v=A6)&&decide (o=A7))
 | .vec k v o n,.vec A' A6 A7 A0=>decide (k=A')&&(decide (v=A6)&&(decide (o=A7)&&decide (n=A0)))
 |_,_=>false
def tJ:List AV->List AV->Bool
 |[],[]=>true
 |a::r,b::s=>xB a b&&tJ r s
 |_,_=>false
def sD:ay->ay->Bool
 | .box a,.box b=>tJ a b
 | .vec n a,.vec A0 b=>decide (n=A0)&&qp a b
 |_,_=>false
def zn(e:bk):Option bk->Bool
 |some x=>decide (x.U=e.U)&&sD x.cont e.cont
 |none=>false
def k8(m:Mem):List bk->Bool
 |[]=>true
 |e::r=>zn e (Mem.get m e.key)&&k8 m r
def DG:Bool->cK->cK
 |true,c=>⟨c.out,[],c.ks⟩
 |false,c=>c
def qq:Bool->Mem->Option cK->Option cK
 |true,m,some c=>some (DG (k8 m c.es) c)
 |true,_,none=>none
 |false,_,r=>r
def bf(X:Ctx)(A:aJ)(S:St)(o:Oper)(args:List Operand):Bool×AV->Option cK
 |(true,.fn g Z)=>if er S args=true then qq ((X.fp (iZ g)).oR.contains 2000) S.mem (cm A S.mem (keyOf o) (iZ g) (ed g (bw S args) Z) (X.fp (iZ g)).oR)else none
 |_=>none
def uY(S:St):Bool×AV->Option (XE×St)
 |(true,.dF t d)=>some (.panic t d,S)
 |_=>none
def mc(X:Ctx)(A:aJ)(S:St)(o:Oper):Option (XE×St):=
 match o.op with
 | .call {callee:=.value A2,args,..}=>sB S o.dst (bf X A S o args.toList (S.ag A2))
 | .panic x=>uY S (S.ag x)
 |_=>none
def dO(X:Ctx)(A:aJ)(S:St)(o:Oper):bp->Option (XE×St)
 | .val c x=>if (dj S o&&c)=true then some (.normal,S.put o.dst true x)else none
 | .bl c x e=>if (dj S o&&c)=true then some (.normal,({S with mem:=Mem.set S.mem e}:St).put o.dst true x)else none
 | .no=>mc X A S o
def jS(X:Ctx)(A:aJ)(S:St)(o:Oper)(b:Bool):bp->Option (XE×St)
 | .val c x=>if b=true->(dj S o&&c)=true then some (.normal,S.put o.dst b x)else none
 |r=>if b=true then dO X A S o r else some (.normal,S.put o.dst true .aA)
def St.cz(S:St)(d:Option Nat)(b:Bool):St:=S.put d true (.d (.bool b))
def gA(all:List Oper)(j:Nat):Option Nat:=
 match all[j]? with
 |some o=>o.dst
 |none=>none
inductive GV where
 |wu (t:Bool)
 |skip
 |bad
def LB:D->GV
 | .bool t=>.wu t
 |_=>.bad
def LC:List AV->GV
 |[]=>.skip
 |_::_=>.bad
def Fu:AV->GV
 | .d x=>LB x
 | .bc vs=>LC vs
 |_=>.bad
def kq:Option (Bool×AV)->GV
 |some (true,x)=>Fu x
 |_=>.bad
def AD{x:Option (Bool×AV)}{t:Bool}(h:kq x=.wu t):x=some (true,.d (.bool t)):=by
 rcases x with _|⟨g,y⟩
 .cases h
 .cases g
  .cases h
  .cases y with
   |d y=>cases y<;>simp_all [kq,Fu,LB]
   |bc vs=>cases vs<;>simp_all [kq,Fu,LC]
   |_=>cases h
def yt{x:Option (Bool×AV)}(h:kq x=.skip):x=some (true,.bc []):=by
 rcases x with _|⟨g,y⟩
 .cases h
 .cases g
  .cases h
  .cases y with
   |d y=>cases y<;>simp_all [kq,Fu,LB]
   |bc vs=>cases vs<;>simp_all [kq,Fu,LC]
   |_=>cases h
def iS(X:Ctx)(A:aJ)(md:Bool)(all:List Oper)(S:St)(o:Oper):Option (XE×St):=
 match o.guard with
 |none=>dO X A S o (bu X.P S o)
 |some (j,Y)=>match kq (ke all S j)with
  | .wu t=>match md with
   |false=>jS X A S o (t == Y) (bu X.P S o)
   |true=>if (t == Y)=true then dO X A (S.cz (gA all j) Y) o (bu X.P (S.cz (gA all j) Y) o)else some (.normal,(S.cz (gA all j) (!Y)).put o.dst true (.bc []))
  | .skip=>some (.normal,S.put o.dst true (.bc []))
  | .bad=>none
def andThen(r:Option (XE×St))(k:St->Option (XE×St)):Option (XE×St):=
 match r with
 |some (.normal,S)=>k S
 |r=>r
def ee(X:Ctx)(A:aJ)(md:Bool)(all:List Oper):List Oper->St->Option (XE×St)
 |[],S=>some (.normal,S)
 |o::r,S=>andThen (iS X A md all S o) (ee X A md all r)
def qt(S:St)(o:Oper):Option cK->Option (St×aB)
 |some ⟨.ret x,es,ks⟩=>some ((⟨ks,es,true,x⟩:aB).app o S,⟨ks,es,true,x⟩)
 |_=>none
def jz(X:Ctx)(A:aJ)(S:St)(o:Oper):Option (St×aB):=
 match o.op with
 | .call {callee:=.value A2,args,..}=>qt S o (bf X A S o args.toList (S.ag A2))
 |_=>none
def cI(X:Ctx)(A:aJ)(S:St)(o:Oper):bp->Option (St×aB)
 | .val c x=>if (dj S o&&c)=true then some (S.put o.dst true x,⟨eH S o,[],true,x⟩)else none
 | .bl c x e=>if (dj S o&&c&&(eH S o).contains e.key)=true then some (({S with mem:=Mem.set S.mem e}:St).put o.dst true x,⟨eH S o,[e],true,x⟩)else none
 | .no=>jz X A S o
def me(X:Ctx)(A:aJ)(S:St)(o:Oper)(b:Bool):bp->Option (St×aB)
 | .val c x=>if b=true->(dj S o&&c)=true then some (S.put o.dst b x,⟨eH S o,[],b,x⟩)else none
 |r=>if b=true then cI X A S o r else some (S.put o.dst true .aA,⟨[],[],true,.aA⟩)
def cu(X:Ctx)(A:aJ)(md:Bool)(all:List Oper)(S:St)(o:Oper):Option (St×aB):=
 match o.guard with
 |none=>cI X A S o (bu X.P S o)
 |some (j,Y)=>match kq (ke all S j)with
  | .wu t=>match md with
   |false=>me X A S o (t == Y) (bu X.P S o)
   |true=>if (t == Y)=true then cI X A (S.cz (gA all j) Y) o (bu X.P (S.cz (gA all j) Y) o)else some ((S.cz (gA all j) (!Y)).put o.dst true (.bc []),⟨[],[],true,.bc []⟩)
  | .skip=>some (S.put o.dst true (.bc []),⟨[],[],true,.bc []⟩)
  | .bad=>none
def zp(I:List aB)(r:Option (St×aB))(k:St->List aB->Option (XE×St)):Option (XE×St):=
 match r with
 |some (S,p)=>k S (p::I)
 |none=>none
structure AE where
 S:St
 t:TypeId
 x:D
 es:List bk
 ks:List Nat
def oT(S:St):Option cK->Option AE
 |some ⟨.panic t x,es,ks⟩=>some ⟨{S with mem:=aI S.mem es},t,x,es,ks⟩
 |_=>none
def AF(X:Ctx)(A:aJ)(S:St)(o:Oper):Option AE:=
 match o.op with
 | .call {callee:=.value A2,args,..}=>oT S (bf X A S o args.toList (S.ag A2))
 |_=>none
def uZ(X:Ctx)(A:aJ)(S:St)(o:Oper):bp->Option AE
 | .no=>AF X A S o
 |_=>none
def gm(X:Ctx)(A:aJ)(S:St)(o:Oper):Option AE:=
 match o.guard with
 |none=>uZ X A S o (bu X.P S o)
 |some _=>none
def mq(X:Ctx)(md:Bool)(all:List Oper)(A4:List Nat):Nat->List Oper->St->List aB->Option (List aB)
 |_,[],_,I=>some I.reverse
 |i,o::r,S,I=>match A4.contains i with
  |true=>match cu X (λ_ _ _=>none) md all S o with
   |some (S1,p)=>mq X md all A4 (i+1) r S1 (p::I)
   |none=>none
  |false=>mq X md all A4 (i+1) r (S.put o.dst false .aA) (⟨[],[],false,.aA⟩::I)
def DH(J:Nat×List (List Nat))(A4:List Nat)(t:TypeId)(x:D)(S:St):Option (List aB)->Option (XE×St)
 |some ps=>if (jH J.2 ps&&su ps A4)=true then some (.panic t x,S.kill (J.1+cX ps+1))else none
 |none=>none
def DI(X:Ctx)(md:Bool)(J:Nat×List (List Nat))(all r:List Oper)(d:Option Nat)(I:List aB)(q:AE):Option (XE×St):=
 DH J (J.2.getD I.length []) q.t q.x q.S (mq X md all (J.2.getD I.length []) (I.length+1) r (q.S.put d true .aA) (⟨q.ks,q.es,true,.aA⟩::I))
def ja(X:Ctx)(A:aJ)(md:Bool)(J:Nat×List (List Nat))(all r:List Oper)(S:St)(o:Oper)(I:List aB)(k:St->List aB->Option (XE×St)):Option AE->Option (XE×St)
 |some q=>DI X md J all r o.dst I q
 |none=>zp I (cu X A md all S o) k
def dP(X:Ctx)(A:aJ)(md:Bool)(J:Nat×List (List Nat))(all:List Oper):List Oper->St->List aB->Option (XE×St)
 |[],S,I=>if jH J.2 I.reverse=true then some (.normal,S)else none
 |o::r,S,I=>ja X A md J all r S o I (dP X A md J all r) (gm X A S o)
structure Cl where
 k:Nat
 v:Nat
 j:Nat
 x:AV
 vv:Bool
def I8:AV->AV->Bool
 | .vec a b c d,.vec A8 A1 c' AK=>decide (a=A8)&&decide (b=A1)&&decide (c=c')&&decide (d=AK)
 | .ptr a b c,.ptr A8 A1 c'=>decide (a=A8)&&decide (b=A1)&&decide (c=c')
 | .d (.int k n),.d (.int A' A0)=>decide (k=A')&&decide (n=A0)
 | .d (.bool b),.d (.bool A1)=>decide (b=A1)
 |_,_=>false
def de(m:Mem):List (Nat×Nat)->Option (List Cl)
 |[]=>some []
 |(k,j)::r=>match Mem.get m k,de m r with
  |some ⟨_,v,.box cs⟩,some l=>match cs[j]? with
   |some x=>some (⟨k,v,j,x,false⟩::l)
   |none=>none
  |some ⟨_,v,.vv rows (some x)⟩,some l=>some (⟨k,v,rows.length,x,true⟩::l)
  |_,_=>none
def Py(q:Cl):Option AV->Bool
 |some x=>I8 x q.x
 |none=>false
def LD(q:Cl)(v:Nat):ay->Bool
 | .box cs=>!q.vv&&decide (v=q.v)&&Py q cs[q.j]?
 | .vv rows (some x)=>q.vv&&decide (v=q.v)&&decide (rows.length=q.j)&&I8 x q.x
 |_=>false
def DJ(e:bk):List Cl->Bool
 |[]=>true
 |q::r=>(match decide (e.key=q.k)with|true=>LD q e.U e.cont|false=>true)&&DJ e r
def wv(E:List Cl):List bk->Bool
 |[]=>true
 |e::r=>DJ e E&&wv E r
def tK(b:Bool)(k v j:Nat):List Cl->Option AV
 |[]=>none
 |q::r=>match decide (b=q.vv)&&decide (k=q.k)&&decide (v=q.v)&&decide (j=q.j)with|true=>some q.x|false=>tK b k v j r
def u0(b:Bool)(k v:Nat):List Cl->Bool
 |[]=>false
 |q::r=>match decide (b=q.vv)&&decide (k=q.k)&&decide (v=q.v)with|true=>true|false=>u0 b k v r
def I9(P:Program)(E:List Cl)(t:TypeId):Bool×AV->Option AV
 |(true,.ptr k v off)=>match (tk P t).agg,decide (tk P t=.other)with
  |false,false=>tK false k v off E
  |_,_=>none
 |(true,.bb k v i j)=>match (tk P t).agg,decide (tk P t=.other),decide (j=0)with
  |false,false,true=>tK true k v i E
  |_,_,_=>none
 |_=>none
def Ja(E:List Cl):Option Nat->Bool×AV->Option AV
 |some n,(true,.ptr k v off)=>match u0 false k v E with|true=>some (.ptr k v (off+n))|false=>none
 |_,_=>none
def Jb(E:List Cl):Bool×AV->Option AV
 |(true,.ptr k v off)=>match u0 false k v E with|true=>some (.ptr k v off)|false=>none
 |_=>none
def Jc(P:Program)(E:List Cl):TK->Bool×AV->Bool×AV->Option AV
 | .slice e,(true,.vec k v off len),(true,.d (.int _ n))=>match decide (b7 P e=some 1),u0 true k v E,decide (0<=n),decide (n.toNat<len)with
  |true,true,true,true=>some (.bb k v (off+n.toNat) 0)
  |_,_,_,_=>none
 |_,_,_=>none
def tL(P:Program)(E:List Cl)(S:St):Op->Option AV
 | .load t x=>I9 P E t (S.ag x)
 | .fieldAddr s x f=>Ja E (pS P s f) (S.ag x)
 | .nilCheck x=>Jb E (S.ag x)
 | .indexAddr t x i=>Jc P E (tk P t) (S.ag x) (S.ag i)
 |_=>none
def tM(P:Program)(E:List Cl)(S:St)(o:Oper):Option AV:=
 match o.guard with
 |none=>tL P E S o.op
 |some _=>none
def HC(E:List Cl):Option (St×aB)->Option (St×aB)
 |some (S,p)=>if wv E p.es=true then some (S,p)else none
 |none=>none
def zq(X:Ctx)(A:aJ)(md:Bool)(E:List Cl)(all:List Oper)(S:St)(o:Oper):Option AV->Option (St×aB)
 |some x=>some (S.put o.dst true x,⟨[],[],true,x⟩)
 |none=>HC E (cu X A md all S o)
def pG:List Nat->List Oper->Bool
 |[],[]=>true
 |_,_=>false
def DK(X:Ctx)(A:aJ)(md:Bool)(J:List (List Nat))(all:List Oper)(S:St)(o:Oper)(I:List aB):Option (XE×St):=
 if jH J I.reverse=true then ee X A md all [o] S else none
def k9(X:Ctx)(A:aJ)(md:Bool)(J:List (List Nat))(E:List Cl)(all:List Oper):List Oper->St->List aB->Option (XE×St)
 |[],S,I=>if jH J I.reverse=true then some (.normal,S)else none
 |o::r,S,I=>match pG (J.getD I.length []) r with
  |true=>DK X A md J all S o I
  |false=>zp I (zq X A md E all S o (tM X.P E S o)) (k9 X A md J E all r)
def HD(X:Ctx)(A:aJ)(md:Bool)(J:List (List Nat))(all:List Oper)(S:St):Option (List Cl)->Option (XE×St)
 |some E=>k9 X A md J E all all S []
 |none=>none
def oU(X:Ctx)(A:aJ)(md:Bool)(J:List (List Nat))(all:List Oper)(S:St):List (Nat×Nat)->Option (XE×St)
 |[]=>dP X A md (da S.mem,J) all all S []
 |q::r=>HD X A md J all S (de S.mem (q::r))
def qu(sz:Nat):ay:=if sz<1000000 then .vec sz []else .buf (sz-1000000) []
def St.lB(S:St)(V j k sz:Nat):St:=
 match Mem.get S.mem V,Mem.get S.mem k with
 |some ⟨_,A9,.box cs⟩,some ⟨_,v,_⟩=>match cs[j]? with
  |some (.lit (.slice none 0 0))=>if V=k then S else {S with mem:=Mem.set (Mem.set S.mem ⟨k,v+1,qu sz⟩) ⟨V,A9,.box (cs.set j (.vec k (v+1) 0 0))⟩}
  |_=>S
 |_,_=>S
def xC(k v H v2:Nat):AV->AV
 | .vec O v0 o l=>if O=k/\v0=v then .vec H v2 o l else .vec O v0 o l
 |x=>x
def nO(AA:AV->AV):Mem->Mem
 |[]=>[]
 |e::r=>⟨e.key,e.U,jF AA e.cont⟩::nO AA r
def St.ql(S:St)(k H:Nat):St:=
 match Mem.get S.mem k,Mem.get S.mem H with
 |some ⟨_,v,.vec sz rows⟩,some ⟨_,v2,_⟩=>if k=H then S else {S with env:=ji (xC k v H (v2+1)) S.env,mem:=Mem.set (Mem.set (nO (xC k v H (v2+1)) S.mem) ⟨k,v+1,.dead⟩) ⟨H,v2+1,.vec sz rows⟩}
 |_,_=>S
def St.AB(S:St)(k H:Nat):St:=
 match Mem.get S.mem k,Mem.get S.mem H with
 |some ⟨_,v,.vv rows none⟩,some ⟨_,v2,_⟩=>match rows.getLast? with
  |some xs=>if k=H then S else {S with mem:=Mem.set (Mem.set S.mem ⟨k,v,.vv rows.dropLast (some (.vec H (v2+1) 0 xs.length))⟩) ⟨H,v2+1,.vec 1 xs⟩}
  |none=>S
 |_,_=>S
def St.cls(S:St)(k H:Nat):St:=
 match Mem.get S.mem k,Mem.get S.mem H with
 |some ⟨_,v,.vv rows (some (.vec AL v3 0 len))⟩,some ⟨_,v2,.vec 1 xs⟩=>if k=H then S else if AL=H/\v3=v2/\len=xs.length then {S with mem:=Mem.set (Mem.set S.mem ⟨k,v,.vv (rows++[xs]) none⟩) ⟨H,v2+1,.dead⟩} else S
 |_,_=>S
def St.shut(S:St)(k:Nat):St:=
 match Mem.get S.mem k with
 |some ⟨_,v,.vv rows (some _)⟩=>{S with mem:=Mem.set S.mem ⟨k,v,.vv rows none⟩}
 |_=>S
def St.nK(S:St)(V j k:Nat):St:=
 match Mem.get S.mem V,Mem.get S.mem k with
 |some ⟨_,A9,.box cs⟩,some ⟨_,v,_⟩=>match cs[j]? with
  |some (.lit (.slice none 0 0))=>if V=k then S else {S with mem:=Mem.set (Mem.set S.mem ⟨V,A9,.box (cs.set j (.vec k (v+1) 0 0))⟩) ⟨k,v+1,.vv [] none⟩}
  |_=>S
 |_,_=>S
def Gh.go(S:St):Gh->St
 | .AB k H=>S.AB k H
 | .cls k H=>S.cls k H
 | .shut k=>S.shut k
 | .nK V j k=>S.nK V j k
 | .trim k=>S.qd k
 | .freeze k=>S.freeze k
 | .lB V j k sz=>S.lB V j k sz
 | .ql k H=>S.ql k H
def wx(S:St):List Gh->St
 |[]=>S
 |g::r=>wx (g.go S) r
def qv(k:St->St):Option (XE×St)->Option (XE×St)
 |some (.normal,S)=>some (.normal,k S)
 |r=>r
def wy(id:Nat):Option (XE×St)->Option (XE×St)
 |some (.exit AC,S)=>if AC=id then some (.normal,S)else some (.exit AC,S)
 |r=>r
def iter(f:St->Option (XE×St)):Nat->St->Option (XE×St)
 |0,_=>none
 |n+1,S=>andThen (f S) (iter f n)
def wz(a b:Option (XE×St)):Bool×AV->Option (XE×St)
 |(true,.d (.bool t))=>if t=true then a else b
 |_=>none
def St.leave(X:Ctx)(f:FuncId)(id:Nat)(S:St):St:=wx (S.prune (X.kg f id)) (X.gh f id)
def St.enter(X:Ctx)(f:FuncId)(id:Nat)(S:St):St:=wx S (X.gh f (id+2000000))
def den(X:Ctx)(f:FuncId)(A:aJ)(n:Nat):Code->St->Option (XE×St)
 | .skip,S=>some (.normal,S)
 | .region id ops draw,S=>match draw with
  |false=>qv (St.leave X f id) (ee X A (X.md f id) ops.toList ops.toList S)
  |true=>qv (St.leave X f id) (oU X A (X.md f id) (X.od f id) ops.toList S (X.fl f id))
 | .seq a b,S=>andThen (den X f A n a S) (den X f A n b)
 | .cond c a b,S=>wz (den X f A n a S) (den X f A n b S) (S.ag c)
 | .block id c,S=>wy id (den X f A n c (S.enter X f id))
 | .loop c,S=>iter (den X f A n c) n S
 | .exit id,S=>some (.exit id,wx S (X.gh f (id+1000000)))
 | .ret,S=>some (.ret,S)
 |_,_=>none
def fin(P:Program)(p:c8)(N:Nat)(rs:List ResultVar):Option (XE×St)->Option (Out×List (Nat×ay))
 |some (.normal,S)=>finish P p N rs S
 |some (.ret,S)=>finish P p N rs S
 |some (.panic t x,S)=>qg p N t x S
 |_=>none
def lC(X:Ctx)(f:FuncId)(A:aJ)(n:Nat)(fn:Func)(c:Code)(args:List AV)(cs:List ay):Option (Out×List (Nat×ay)):=
 if (decide (args.length<=fn.ntmps)&&decide (cs.length<=100)&&(X.fp f).sites.all (λk=>decide (100<=k))&&decide (X.fp f).sites.Nodup)=true then
  fin X.P (X.fp f) cs.length fn.results.toList (den X f A n c (entry fn.ntmps X.gl args cs (X.fp f).sites))
 else none
def ld:Option (Out×List (Nat×ay))->Option Nat
 |some (.ret (.vec 0 0 0 0),[(0,.vec sz [])])=>some sz
 |_=>none
def gB(AH AM:Option (Out×List (Nat×ay))):Option (Out×List (Nat×ay)):=
 match ld AH,ld AM with
 |some a,some b=>if a=b then AH else none
 |_,_=>none
def eZ(run:List AV->Option (Out×List (Nat×ay)))(args:List AV):Bool->Option (Out×List (Nat×ay))
 |true=>match args with
  | .d (.list [])::r=>gB (run (.lit (.slice none 0 0)::r)) (run (.nn::r))
  |args=>run args
 |false=>run args
def fa(h:List AV->Option AV)(args:List AV):List ay->Option (Out×List (Nat×ay))
 |[]=>match h args with
  |some d=>some (.ret d,[])
  |none=>none
 |_::_=>none
def iT(h:List D->Option D)(args:List AV):Option AV:=match toDs args with
 |some M=>(h M).map .d
 |none=>none
abbrev DF:=FuncId×List AV
def Pz(S:St)(args:List Operand):Bool×AV->Option DF
 |(true,.fn g Z)=>if (er S args&&decide (g<my))=true then some (g,bw S args++Z)else none
 |_=>none
def jT(S:St)(o:Oper):Option DF:=
 match o.guard,o.op with
 |none,.defer {callee:=.value A2,args,..}=>Pz S args.toList (S.ag A2)
 |_,_=>none
def JQ(o:Oper):Bool:=
 match o.op with
 | .defer _=>true
 |_=>false
abbrev XD:=Option (XE×St×List DF)
def zr(k:St->XD)(M:List DF):Option (XE×St)->XD
 |some (.normal,S)=>k S
 |some (e,S)=>some (e,S,M)
 |none=>none
def cO(X:Ctx)(A:aJ)(md:Bool)(all:List Oper):List Oper->St->List DF->XD
 |[],S,M=>some (.normal,S,M)
 |o::r,S,M=>match jT S o with
  |some d=>cO X A md all r (S.put o.dst true .aA) (d::M)
  |none=>zr (λS1=>cO X A md all r S1 M) M (iS X A md all S o)
def wA(ops:List Oper):Bool:=ops.any JQ
def sE(k:St->St):XD->XD
 |some (.normal,S,M)=>some (.normal,k S,M)
 |r=>r
def qw(M:List DF):Option (XE×St)->XD
 |some (e,S)=>some (e,S,M)
 |none=>none
def AG(k:St->List DF->XD):XD->XD
 |some (.normal,S,M)=>k S M
 |r=>r
def eI(X:Ctx)(f:FuncId)(A:aJ)(n:Nat):Code->St->List DF->XD
 | .seq a b,S,M=>AG (eI X f A n b) (eI X f A n a S M)
 | .region id ops draw,S,M=>match !draw&&wA ops.toList with
  |true=>sE (St.leave X f id) (cO X A (X.md f id) ops.toList ops.toList S M)
  |false=>qw M (den X f A n (.region id ops draw) S)
 |c,S,M=>qw M (den X f A n c S)
def sF(o:Oper):Bool:=
 match o.guard,o.op with
 |none,.call {callee:=.builtin .recover,args,..}=>args.toList.isEmpty
 |_,_=>false
def mr(X:Ctx)(f:FuncId)(A:aJ)(n:Nat)(A3:AV):Code->St->Option (XE×St)
 | .seq a b,S=>andThen (mr X f A n A3 a S) (den X f A n b)
 | .region id ops draw,S=>match draw,ops.toList with
  |false,o::r=>if sF o=true then qv (St.leave X f id) (ee X A (X.md f id) (o::r) r (S.put o.dst true A3))else none
  |_,_=>none
 |_,_=>none
def HE(P:Program)(p:c8)(N:Nat)(rs:List ResultVar):Option (XE×St)->Option (Out×List (Nat×ay))
 |some (.normal,S)=>finish P p N rs S
 |some (.ret,S)=>finish P p N rs S
 |_=>none
def sG(X:Ctx)(f:FuncId)(A:aJ)(n:Nat)(fn:Func)(c:Code)(args:List AV)(cs:List ay):Option (Out×List (Nat×ay)):=
 match args.getLast? with
 |some A3=>if (decide (args.dropLast.length<=fn.ntmps)&&decide (cs.length<=100)&&(X.fp f).sites.all (λk=>decide (100<=k))&&decide (X.fp f).sites.Nodup)=true then
  HE X.P (X.fp f) cs.length fn.results.toList (mr X f A n A3 c (entry fn.ntmps X.gl args.dropLast cs (X.fp f).sites))
  else none
 |none=>none
def u1:XE->Option AV
 | .normal=>some (.lit .nilIface)
 | .ret=>some (.lit .nilIface)
 | .panic t x=>some (.dF t x)
 | .exit _=>none
def qx(S:St):Option cK->Option St
 |some ⟨.ret _,es,_⟩=>some {S with mem:=aI S.mem es}
 |_=>none
def u3(X:Ctx)(p:c8)(N:Nat)(rs:List ResultVar):Option St->Option (Out×List (Nat×ay))
 |some S=>finish X.P p N rs S
 |none=>none
def tN(X:Ctx)(p:c8)(N:Nat)(rs:List ResultVar)(A5:aJ)(S:St)(d:DF):Option AV->Option (Out×List (Nat×ay))
 |some A3=>u3 X p N rs (qx S (cm A5 S.mem 0 d.1 (d.2++[A3]) (X.fp d.1).oR))
 |none=>none
def u4(X:Ctx)(p:c8)(N:Nat)(rs:List ResultVar)(A5:aJ):XD->Option (Out×List (Nat×ay))
 |some (e,S,[])=>fin X.P p N rs (some (e,S))
 |some (e,S,[d])=>tN X p N rs A5 S d (u1 e)
 |_=>none
def sH(X:Ctx)(f:FuncId)(A A5:aJ)(n:Nat)(fn:Func)(c:Code)(args:List AV)(cs:List ay):Option (Out×List (Nat×ay)):=
 if (decide (args.length<=fn.ntmps)&&decide (cs.length<=100)&&(X.fp f).sites.all (λk=>decide (100<=k))&&decide (X.fp f).sites.Nodup)=true then
  u4 X (X.fp f) cs.length fn.results.toList A5 (eI X f A n c (entry fn.ntmps X.gl args cs (X.fp f).sites) [])
 else none
def qy:Code->Bool
 | .seq a b=>qy a||qy b
 | .region _ ops _=>wA ops.toList
 |_=>false
def qz(X:Ctx)(n:Nat)(A:aJ):aJ:=λg args cs=>
 match X.P.funcs[g]? with
 |some fn=>match fn.body with
  |some c=>sG X g A n fn c args cs
  |none=>none
 |none=>none
def tO(X:Ctx)(f:FuncId)(A:aJ)(n:Nat)(fn:Func)(c:Code)(args:List AV)(cs:List ay):Bool->Option (Out×List (Nat×ay))
 |true=>sH X f A (qz X n A) n fn c args cs
 |false=>eZ (λargs=>lC X f A n fn c args cs) args (X.fp f).split
def aD(X:Ctx):Nat->aJ
 |0,_,_,_=>none
 |n+1,f,args,cs=>match X.ov with
  |some A=>A f args cs
  |none=>match X.rD f with
   |some h=>fa h args cs
   |none=>match X.P.funcs[f]? with
    |some fn=>match fn.body with
     |some c=>tO X f (aD X n) n fn c args cs (qy c)
     |none=>none
    |none=>none
end Go.Am
end
