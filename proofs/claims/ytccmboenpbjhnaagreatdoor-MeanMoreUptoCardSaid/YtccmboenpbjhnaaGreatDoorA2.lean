/-
  Texts of one proof, one behind the other.
-/
import Derived.Test.YtccmboenpbjhnaaGreatDoorA1
import Derived.Orders
set_option linter.all false
section
namespace Go.Am
open Go
def gU(S:St):List Operand->Bool
 |[]=>true
 |x::r=>(S.aq x).1&&gU S r
theorem tp{S:St}:∀{l:List Operand},gU S l=true->∀x∈l,(S.aq x).1=true
 |[],_,x,J=>by simp at J
 |y::r,h,x,J=>by
  simp only[gU,Ds]at h;rcases aak.1 J with rfl|J
  ·exact h.1
  ·exact tp h.2 x J
def fI(S:St)(o:Oper):Bool:=
 match o.op with
 | .pick _ _ _=>true
 |op=>gU S op.operands.toList
def rm(P:Program)(m:Mem)(AB:Nat)(t:TypeId)(x:AV):cP:=
 match x with
 | .lit (.slice none 0 0)=>match Mem.get m AB with
  |some ⟨_,v,_⟩=>match tk P t with
   | .slice e=>match eH P e with
    |some sz=>.cF true (.vec AB (v+1) 0 0) ⟨AB,v+1,.vec sz []⟩
    |none=>.val true x
   |_=>.val true x
  |none=>.val true x
 |x=>.val true x
theorem G5(P:Program)(S:St)(o:Oper)(x:Operand)(A:o.op=.move x\/o.op=.assign x)(J:(S.aq x).1=true):aD P S o (rm P S.mem (keyOf o) o.type (S.aq x).2):=by
 have plain:aD P S o (.val true (S.aq x).2):=by
  have:=aaA P S o x A J;simpa using this
 unfold rm;split
 ·rename_i A5;split
  ·rename_i key v cont A0;split
   ·split
    ·rename_i sz A6;intro _ φ G a w H;obtain⟨hm,T,L,A2,A3,Ad⟩:=H.mem.get A0;simp only at T A3;subst T;have A7:=H.aq x J;rw[A5]at A7;generalize B0:a.eval x=u at A7;cases A7;obtain⟨φ',AO,AP,AY,AJ⟩:=H.mem.cF (e':=⟨keyOf o,v+1,.vec sz []⟩) hm A2 rfl (L':=⟨v+1,0,sz,0,0,[]⟩) (by simp only;omega) (λhh=>by simp only at hh;omega) rfl
      (w':=w) (λ_ _ _=>rfl) (aae _) (λ_ A=>absurd A.1 (by simp)) rfl rfl rfl (λφ' B1 BY=>
       ⟨rfl,by simp,by simp,λN=>by simp at N⟩)
     refine⟨.slice none 0 0,w,φ',.inl ?_,?_,AO,AP,AJ⟩
     ·rcases A with A|A<;>simp[execOp,A,B0]
     ·exact .vec _ (v+1) 0 _ _ _ AY (aae _) (λ_=>⟨_,_,rfl,by simp,λh=>by omega⟩) rfl
    ·exact plain
   ·exact plain
  ·exact plain
 ·exact plain
def yj:Value->Bool
 | .slice none 0 0=>true
 | .pointer none=>true
 | .nilIface=>true
 |_=>false
def p8(P:Program)(S:St)(op:BinOp)(t:TypeId)(x y:Operand):cP:=
 match y with
 | .const v=>match yj v,op with
  |true,.eql=>iU P S.mem false t (S.aq x).2 v
  |true,.neq=>iU P S.mem true t (S.aq x).2 v
  |_,_=>oU P op t (S.aq x).2 (S.aq (.const v)).2
 |y=>oU P op t (S.aq x).2 (S.aq y).2
theorem Rp(P:Program)(S:St)(o:Oper)(B2:BinOp)(t AQ:TypeId)(x y:Operand)(A:o.op=.binOp B2 t x y AQ)(J:(S.aq x).1=true)(AC:(S.aq y).1=true):aD P S o (p8 P S B2 t x y):=by
 unfold p8;split
 ·split
  ·exact Kk P S o false t AQ x _ (by simpa using A) J
  ·exact Kk P S o true t AQ x _ (by simpa using A) J
  ·exact Kj P S o _ t AQ x _ A J AC
 ·exact Kj P S o B2 t AQ x y A J AC
theorem G6{w:World}{F F':Nat->Prop}{sz:Nat}{AD:List D}{cs:List Value}{b off cap:Nat}(H:bY w F sz AD cs)(N:∀(j:Nat) v,cs[j]?=some v->w.cell? ⟨b,off+j,none⟩=some v)
 (A8:b<w.heap.size) (Ae:∀b,F' b->F b) (B3:¬F' b) (BL:AD.length<=cap):aI w F' (.list AD) (.slice (some ⟨b,off,none⟩) AD.length cap):=by
 obtain⟨E,M,A',AK⟩:=H;refine .list AD b off cap sz (λi=>if h:i<AD.length then Classical.choose (AK i AD[i] (by simp[h]))else undef) BL A8 B3 A' (λi d U=>?_) (λi j c hi Z=>?_)
 ·have hi:=(aaa.1 U).1;have:=Classical.choose_spec (AK i AD[i] (by simp[hi]));simp only[hi,dif_pos];have e:AD[i]=d:=(aaa.1 U).2;rw[<-e];exact this.1.mono (λ_ _ _=>rfl) (aae _) (λb _=>Ae b)
 ·have:=Classical.choose_spec (AK i AD[i] (by simp[hi]));simp only[hi,dif_pos]at Z;have AR:=N _ _ (this.2 j c Z);rw[<-ack]at AR;exact AR
theorem Bg{φ w F F'}{k ak off len sz:Nat}{ag:List D}{L:Loc}{v:Value}(A7:az φ w F (.vec k ak off len) v)(A2:φ k=some L)(A3:L.ak=ak)(N:dD φ w F L (.vec sz ag))(hle:off+len<=ag.length)
 (Ae:∀b,F' b->F b) (B3:0<L.cap->¬F' L.cS):aI w F' (.list ((ag.drop off).take len)) v:=by
 have BM:((ag.drop off).take len).length=len:=by simp;omega
 cases A7 with
 |vec _ _ _ _ _ L' Af _ h _=>
  rw[A2]at Af;cases Af;obtain⟨ao,cap,rfl,BN,Ag⟩:=h A3.symm;clear h;by_cases BZ:len=0
  ·subst BZ;simp only[List.take_zero];exact .nil _ _ (λV=>by
    subst V;rcases akf cap with q|q
    ·exact q
    ·obtain⟨E,_⟩:=Ag q;cases E)
  ·obtain⟨rfl,C7⟩:=Ag (by omega);obtain⟨arr,elem,hh,BO,BP,H⟩:=mI N (by omega);have B4:=(H.drop off).take len (by simp;omega);have:=G6 (F':=F') (b:=L.cS) (off:=L.base+off*L.sz) (cap:=cap) B4 (λj u Z=>by
    rw[fO hh,N.1];rw[abK]at Z;split at Z
    ·rw[acr,abK]at Z;split at Z
     ·rw[acr]at Z;rw[ack];simpa using Z
     ·cases Z
    ·cases Z) hh.lt Ae (B3 (by omega)) (by omega)
   rw[BM]at this;exact this
theorem Mem.set_set{e e':cf}(T:e'.key=e.key):∀m:Mem,Mem.set (Mem.set m e) e'=Mem.set m e'
 |[]=>rfl
 |x::r=>by
  simp only[Mem.set];by_cases h:x.key=e.key
  ·rw[aal h,aal (by rw[T];exact h)];simp only[Mem.set];rw[aal T.symm]
  ·rw[aac h,aac (by rw[T];exact h)];simp only[Mem.set];rw[aac (by rw[T];exact h),Mem.set_set T r]
theorem ab4{φ:bE}{G m w}(h:a7 φ G m w){k v sz n:Nat}{ag:List D}(A0:Mem.get m k=some ⟨k,v,.vec sz ag⟩){x:Value}(J:az φ w (Fo G φ m) (.vec k v 0 n) x)(V:n<=ag.length):
 ∃φ',a7 φ' G (Mem.set m ⟨k,v+1,.dead⟩) w/\aO φ m w φ' (Mem.set m ⟨k,v+1,.dead⟩) w/\(∀j,j≠k->φ' j=φ j)/\aI w (Fo G φ' (Mem.set m ⟨k,v+1,.dead⟩)) (.list (ag.take n)) x:=by
 obtain⟨hm,_,L,A2,A3,Ad⟩:=h.get A0;obtain⟨φ',AO,AP,AY,AJ⟩:=h.cF (e:=⟨k,v,.vec sz ag⟩) (e':=⟨k,v+1,.dead⟩) hm A2 rfl (L':={L with ak:=v+1}) (by simp only at A3⊢;omega) (λhh=>by simp only at A3 hh;omega) rfl
  (w':=w) (λ_ _ _=>rfl) (aae _) (λ_ A=>A.elim) rfl rfl rfl (λ_ _ _=>trivial)
 refine⟨φ',AO,AP,AJ,?_⟩;have BQ:∀b,gQ φ' (Mem.set m ⟨k,v+1,.dead⟩) b->gQ φ m b/\∀(_:0<L.cap),b≠L.cS:=by
  rintro b ⟨y,AC,An,AE,AZ⟩;rcases (Mem.mem_set h.nodup).1 AC with ⟨rfl,_⟩|⟨Ao,AF⟩
  ·exact AZ.elim
  ·simp only at AF;rw[AJ _ AF]at AE;refine⟨⟨y,Ao,An,AE,AZ⟩,λN heq=>AF (h.apart y Ao _ hm An L AE A2 ⟨b,AZ,N,heq.symm⟩)⟩
 have:=Bg J A2 A3 Ad (by omega) (F':=Fo G φ' (Mem.set m ⟨k,v+1,.dead⟩)) (λb=>Or.imp id (λA8=>(BQ b A8).1)) (λN=>by
  rintro (B5|A)
  ·exact h.jQ _ ⟨_,hm,L,A2,N,rfl⟩ B5
  ·exact (BQ _ A).2 N rfl)
 simpa using this
def tr(m:Mem)(b:Bool)(AB:Nat):cP->cP
 | .cF c (.vec k v 0 n) ⟨AG,A_,.vec sz ag⟩=>if b=true/\k≠AB/\AG=k/\A_=v/\n<=ag.length/\(Mem.get m k).isSome=true then .cF c (.d (.list (ag.take n))) ⟨k,v+1,.dead⟩else .cF c (.vec k v 0 n) ⟨AG,A_,.vec sz ag⟩
 |r=>r
theorem Vf{P:Program}{S:St}{o:Oper}{b:Bool}{AB:Nat}{r:cP}(h:aD P S o r):aD P S o (tr S.mem b AB r):=by
 unfold tr;split
 ·rename_i c k v n AG A_ sz ag;split
  ·rename_i hh;obtain⟨_,_,rfl,rfl,V,A6⟩:=hh;intro N φ G a w H;obtain⟨x,w',φ',E,M,A',AK,AR⟩:=h N φ G a w H;have B6:AG∈S.mem.map (·.key):=by
    cases A0:Mem.get S.mem AG with
    |none=>rw[A0]at A6;cases A6
    |some e=>
     obtain⟨B7,B_⟩:=Mem.get_mem A0;rw[<-B_];exact abW B7
   obtain⟨B9,q1,q2,q3,BA⟩:=ab4 A' (Mem.nI (x:=⟨AG,A_,.vec sz ag⟩) B6) M V;rw[Mem.set_set (e:=⟨AG,A_,.vec sz ag⟩) (e':=⟨AG,A_+1,.dead⟩) rfl]at q1 q2 BA;exact⟨x,w',B9,E,.d _ _ BA,q1,AK.trans q2,λj Z=>by rw[q3 j Z];exact AR j Z⟩
  ·exact h
 ·exact h
def Ol(P:Program)(t:TypeId):AV->cP
 | .lit (.slice none 0 0)=>match tk P t with
  | .slice _=>.val True (.d (.int .i64 0))
  |_=>.no
 |_=>.no
theorem ab5(P:Program)(S:St)(o:Oper)(x:Operand)(t:TypeId)(A:o.op=.call {callee:=.builtin .cap,args:=#[x],argTypes:=#[t]})(J:(S.aq x).1=true):aD P S o (Ol P t (S.aq x).2):=by
 have BB:∀(a:Act)(w:World)(v:Value),(Builtin.cap_ #[t] o.type #[a.eval x]).run P w=.ok v w->(execOp a.eval o).run P w=.ok (.value v) w:=by
  intro a w v h;simp[execOp,A,resolve,invoke,builtin,h]
 unfold Ol;split
 ·rename_i A5;split
  ·rename_i e Ba;refine aD.pure λ_ φ G a w H=>?_;have E:=H.aq x J;rw[A5]at E;generalize A1:a.eval x=av at E;cases E with|lit _ h=>
   refine⟨_,BB a w (.int .i64 0) ?_,.d _ _ (.int _ _)⟩;rw[A1];simp[Builtin.cap_,run_underlying (eY Ba),goInt]
  ·trivial
 ·trivial
def kr(P:Program)(S:St)(o:Oper)(b:Builtin)(args:List Operand)(Aa:List TypeId):cP:=
 match b,args,Aa with
 | .len,[x],[t]=>m4 P S.mem t (S.aq x).2
 | .append,[s,x],[t,u]=>tr S.mem (Mem.get S.mem (keyOf o)).isSome (keyOf o) (qF P S.mem (keyOf o) t u (S.aq s).2 (S.aq x).2)
 | .copy,[s,x],[t,_]=>vU P S.mem t (S.aq s).2 (S.aq x).2
 | .max,args,_=>DS true (args.map λx=>(S.aq x).2)
 | .min,args,_=>DS false (args.map λx=>(S.aq x).2)
 | .cap,[x],[t]=>Ol P t (S.aq x).2
 |_,_,_=>.no
def zeroOf:TK->Option D
 | .int k=>some (.int k 0)
 | .bool=>some (.bool false)
 |_=>none
theorem JI{t:TK}{z:D}(h:zeroOf t=some z):z.size=1/\∀(w:World)(F:Nat->Prop),∃v,aI w F z v/\v.cells=#[v]/\∀u,aI w F z u->u=v:=by
 cases t with
 |int k=>cases h;exact⟨rfl,λw F=>⟨_,.int k 0,rfl,λu hu=>by cases hu;rfl⟩⟩
 |bool=>cases h;exact⟨rfl,λw F=>⟨_,.bool false,rfl,λu hu=>by cases hu;rfl⟩⟩
 |_=>cases h
def Rq:D->AV->Bool
 | .int k n,.d (.int AG Bb)=>k == AG&&n == Bb
 | .bool b,.d (.bool Bc)=>b == Bc
 |_,_=>false
theorem ab6{z:D}{c:AV}(h:Rq z c=true):c=.d z:=by
 unfold Rq at h;split at h<;>simp_all
def G7(m:Mem)(k n:Nat)(z:D)(zs:List AV):cP:=
 match Mem.get m k with
 |some ⟨_,v,_⟩=>.cF (zs.length=n/\zs.all (Rq z)=true) (.ck k (v+1) 0 0) ⟨k,v+1,.vec 1 (List.replicate n z)⟩
 |none=>.no
def sj(P:Program)(m:Mem)(k:Nat)(t:TypeId):cP:=
 match rk P t with
 |some zs=>match tk P t with
  | .arr n e=>match zeroOf (tk P e)with
   |some z=>G7 m k n z zs
   |none=>qD m k true zs
  |_=>qD m k true zs
 |none=>.no
theorem ab7(P:Program)(S:St)(o:Oper)(t:TypeId)(A:o.op=.alloc t)(n:Nat)(Ap:D)(BR:TK)(Aq:zeroOf BR=some Ap)(zs:List AV)(Ah:rk P t=some zs):aD P S o (G7 S.mem (keyOf o) n Ap zs):=by
 obtain⟨BS,Ar⟩:=JI Aq;unfold G7;split
 ·rename_i key v cont A0;refine aD.qC ?_;rintro ⟨V,Bd⟩ φ G a w H;obtain⟨z,BB,Be,E,BC⟩:=nu Ah w;obtain⟨hm,T,L,A2,A3,Ad⟩:=H.mem.get A0;simp only at T A3;subst T;have Bf:∀(w:World)(F:Nat->Prop)(i:Nat) u,z.cells[i]?=some u->aI w F Ap u:=by
   intro w' F i u hu;have hi:i<zs.length:=by
    have:=(acs.1 hu).1;omega
   have A':=BC φ w (λ_=>False) i zs[i] u (by simp[hi]) hu;rw[ab6 (abN.1 Bd _ (acM hi))]at A';cases A' with
   |d _ _ AK=>
    obtain⟨v1,q1,_,q2⟩:=Ar w (λ_=>False);obtain⟨v2,q3,_,BA⟩:=Ar w' F;cases BR with
    |int k=>cases Aq;cases AK;exact .int k 0
    |bool=>cases Aq;cases AK;exact .bool false
    |_=>cases Aq
  obtain⟨φ',AO,AP,AY,AJ⟩:=H.mem.fresh (e:=⟨keyOf o,v,cont⟩) hm A2 A3 w rfl rfl rfl rfl z.cells t 1 n (.vec 1 (List.replicate n Ap)) (λ_ A8=>A8.2) (λφ' hle A1 C8 BD=>by
   refine⟨rfl,by simp,λd U=>by rw[(List.mem_replicate.1 U).2];exact BS,λ_=>⟨z.cells,t,ef.new BD,by simp[Be,V],E,λi d U=>?_⟩⟩;obtain⟨hi,rfl⟩:=aaa.1 U;simp at hi;have BT:i<z.cells.size:=by omega
   have AR:=λw F=>Bf w F i z.cells[i] (by simp[BT]);have B7:=(AR w (λ_=>False)).size;rw[BS]at B7;refine⟨z.cells[i],by simp;exact AR _ _,λj c Z=>?_⟩;have Bh:j=0:=by
    have:=(acs.1 Z).1;omega
   subst Bh;rw[dC (E _ (by simp))]at Z;simp at Z;subst Z;simp[BT])
  refine⟨.pointer (some ⟨w.heap.size,0,none⟩),_,φ',.inl ?_,?_,AO,AP,AJ⟩
  ·simp[execOp,A,Instr.alloc,newVar,gE,BB]
  ·exact .ck _ (v+1) 0 0 _ _ AY (aae _) (λ_=>by simp) rfl
 ·trivial
theorem Rt(P:Program)(S:St)(o:Oper)(t:TypeId)(A:o.op=.alloc t):aD P S o (sj P S.mem (keyOf o) t):=by
 unfold sj;split
 ·rename_i zs Ah;split
  ·split
   ·rename_i Ar;exact ab7 P S o t A _ _ _ Ar zs Ah
   ·exact GC P S o t A zs Ah
  ·exact GC P S o t A zs Ah
 ·trivial
def rn(P:Program)(m:Mem)(AB:Nat)(src dst:TypeId)(x:AV):cP:=
 match x with
 | .vec k ak off len=>match tk P dst with
  | .slice e=>match decide (src=dst),tk P e,Mem.get m k with
   |true,.int .u8,some ⟨_,v,.vec sz ag⟩=>.cF (decide (v=ak/\0<len)) (.vec k ak off len) ⟨k,ak,.vec sz ag⟩
   |_,_,_=>.no
  |_=>lj P m AB src dst (.vec k ak off len)
 |x=>lj P m AB src dst x
theorem Vg(P:Program)(S:St)(o:Oper)(src dst:TypeId)(x:Operand)(A:o.op=.convert src dst x)(J:(S.aq x).1=true):aD P S o (rn P S.mem (keyOf o) src dst (S.aq x).2):=by
 unfold rn;split
 ·rename_i k ak off len A5;split
  ·rename_i e U;split
   ·rename_i key v sz ag BE Bi A0;refine aD.qC ?_;rintro ⟨rfl,BM⟩ φ G a w H;have BE:src=dst:=acw BE;subst BE;obtain⟨hm,T,L,A2,A3,Ad⟩:=H.mem.get A0;simp only at T A3;subst T;have A7:=H.aq x J;rw[A5]at A7;have Bj:=A7;generalize B0:a.eval x=C9 at A7 Bj;cases A7 with
    |vec _ _ _ _ _ L' Af _ h Bk=>
     rw[A2]at Af;cases Af;obtain⟨ao,cap,rfl,BN,Ag⟩:=h A3.symm;obtain⟨rfl,BL⟩:=Ag (by omega);have BF:0<L.cap:=by omega
     obtain⟨Bl,Bm,Bn,Bo⟩:=Ad;obtain⟨arr,elem,⟨fr,hh,Bp⟩,BO,BP,BC⟩:=Bo BF;obtain⟨w',AS⟩:∃w',w'=w.freeze ⟨L.cS,arr.size,none⟩ 1:=⟨_,rfl⟩;have BD:ef w' L.cS arr elem:=by
      obtain⟨lo,hi⟩:=fr;rw[AS];by_cases he:lo=hi
      ·refine⟨(arr.size,arr.size+1),?_,.inr (aae _)⟩;simp[World.freeze,aj2,hh,he]
      ·refine⟨(min lo arr.size,max hi (arr.size+1)),?_,?_⟩
       ·simp[World.freeze,aj2,hh,he]
       ·right;rcases Bp with h|h
        ·cases h;exact absurd rfl he
        ·simp only at h⊢;omega
     have hold:∀b,b≠L.cS->w'.heap[b]?=w.heap[b]?:=by
      intro b A8;rw[AS];simp only[World.freeze,Nat.one_ne_zero,acy,aj2];rw[aac (λe=>A8 e.symm)]
     have CA:w'.heap.size=w.heap.size:=by rw[AS];simp[World.freeze]
     have BG:w'.os=w.os:=by rw[AS];simp[World.freeze]
     have Bq:w'.tape=w.tape:=by rw[AS];simp[World.freeze]
     have Br:w'.output=w.output:=by rw[AS];simp[World.freeze]
     have B6:Fo G φ S.mem L.cS:=.inr ⟨_,hm,L,A2,BF,rfl⟩;obtain⟨φ',AO,AP,AY,AJ⟩:=H.mem.cF (e:=⟨key,v,.vec sz ag⟩) (e':=⟨key,v,.vec sz ag⟩) hm A2 rfl (L':=L) (aae _) (λ_=>rfl) A3
      (w':=w') (λb _ V=>hold b (λhe=>V ⟨BF,he.symm⟩)) (by omega) (λ_ A=>.inl A) BG Bq Br (λφ' B1 BY=>by
       have Ae:∀b,Fo G φ' (Mem.set S.mem ⟨key,v,.vec sz ag⟩) b->Fo G φ S.mem b:=by
        rintro b (B5|⟨y,AC,An,AE,AZ⟩)
        ·exact .inl B5
        ·right;rcases (Mem.mem_set H.mem.nodup).1 AC with ⟨rfl,_⟩|⟨Ao,AF⟩
         ·rw[B1]at AE;simp at AE;subst AE;exact⟨_,hm,L,A2,AZ⟩
         ·simp only at AF;rw[B1]at AE;simp[AF]at AE;exact⟨y,Ao,An,AE,AZ⟩
       exact⟨Bl,Bm,Bn,λ_=>⟨arr,elem,BD,BO,BP,λi d U=>let ⟨u,hu,Z⟩:=BC i d U
        ⟨u,hu.mono (λb _ V=>hold b (λhe=>V (he▸B6))) (by omega) (λb _=>Ae b),Z⟩⟩⟩)
     refine⟨.slice (some ⟨L.cS,L.base+off*L.sz,none⟩) len cap,w',φ',.inl ?_,.vec key v off len _ L AY (Nat.le_of_eq A3.symm) (λ_=>⟨_,_,rfl,BN,Ag⟩) Bk,AO,AP,AJ⟩;have Bs:w.shape? L.cS=some (elem,arr.size):=by simp[World.shape?,hh]
     have Bt:(markStringish ⟨L.cS,L.base+off*L.sz,none⟩).run P w=.ok () w':=by
      simp only[markStringish,shape,Sem.run_bind,Sem.run,Bs,Result.andThen_ok,freeze,AS]
     simp[execOp,A,B0,convert,run_underlying (eY U),run_underlying (u5 Bi),Sem.run_bind,Bt]
   ·trivial
  ·rw[<-A5];exact Km P S o src dst x A J
 ·exact Km P S o src dst x A J
def G8(P:Program)(s:TypeId)(f:Nat):Option TypeId:=
 match P.underlying s with
 |some (.struct AL)=>match AL[f]? with
  |some fl=>some fl.type
  |none=>none
 |_=>none
def u7(P:Program)(s:TypeId)(x:AV)(f:Nat):cP:=
 match x with
 | .d (.agg cs)=>match vM P s f,G8 P s f with
  |some off,some e=>match (tk P e).agg,eH P e with
   |false,some 1=>.val (off<cs.length/\tk P e≠.other) (.d (D.at cs off))
   |true,some sz=>.val (off+sz<=cs.length) (.d (.agg ((cs.drop off).take sz)))
   |_,_=>.no
  |_,_=>.no
 | .agg cs=>match vM P s f,G8 P s f with
  |some off,some e=>match (tk P e).agg,eH P e,cs[off]? with
   |false,some 1,some c=>.val (tk P e≠.other) c
   |_,_,_=>.no
  |_,_=>.no
 |_=>.no
theorem ET{P:Program}{s:TypeId}{f off:Nat}{e:TypeId}(h:vM P s f=some off)(he:G8 P s f=some e):∃AL fl,P.underlying s=some (.struct AL)/\AL[f]?=some fl/\fl.offset=off/\fl.type=e:=by
 unfold vM at h;unfold G8 at he;split at h
 ·rename_i AL AT;rw[AT]at he;simp only at he;split at h
  ·rename_i fl AU;rw[AU]at he;cases he;split at h
   ·split at h
    ·cases h
    ·cases h;exact⟨AL,fl,AT,AU,rfl,rfl⟩
   ·cases h
  ·cases h
 ·cases h
theorem Rx(P:Program)(S:St)(o:Oper)(s:TypeId)(x:Operand)(f:Nat)(A:o.op=.field s x f)(J:(S.aq x).1=true):aD P S o (u7 P s (S.aq x).2 f):=by
 unfold u7;split
 ·rename_i cs A5;split
  ·rename_i off e BH BI;obtain⟨AL,fl,AT,AU,rfl,rfl⟩:=ET BH BI;split
   ·rename_i Ai A6;refine aD.pure ?_;rintro ⟨CB,AF⟩ φ G a w H;have E:=H.aq x J;rw[A5]at E;generalize A1:a.eval x=av at E;cases E with|d _ _ E=>
    cases E with|agg _ A9 BU Bu As=>
    have Aj:fl.offset<A9.size:=by omega
    refine⟨A9[fl.offset],?_,.d _ _ (As fl.offset _ _ (iW (by omega)) (by simp[Aj]))⟩;have Y:=se (P:=P) (w:=w) (t:=fl.type) (cs:=A9) (off:=fl.offset) Ai AF (v:=A9[fl.offset]) (by simp[Aj]);simp[execOp,A,A1,Instr.field,run_underlying AT,AU,asAgg,Y]
   ·rename_i sz Ai A6;refine aD.pure ?_;rintro hle φ G a w H;have E:=H.aq x J;rw[A5]at E;generalize A1:a.eval x=av at E;cases E with|d _ _ E=>
    have Bv:=E;cases E with|agg _ A9 BU Bu As=>
    refine⟨_,?_,.d _ _ (xD Bv fl.offset sz hle)⟩;have Y:=EP (P:=P) (w:=w) (t:=fl.type) (cs:=A9) (off:=fl.offset) Ai A6;simp[execOp,A,A1,Instr.field,run_underlying AT,AU,asAgg,Y]
   ·trivial
  ·trivial
 ·rename_i cs A5;split
  ·rename_i off e BH BI;obtain⟨AL,fl,AT,AU,rfl,rfl⟩:=ET BH BI;split
   ·rename_i c Ai A6 N;refine aD.pure ?_;rintro AF φ G a w H;have E:=H.aq x J;rw[A5]at E;generalize A1:a.eval x=av at E;cases E with|agg _ A9 BU CC As=>
    have Aj:fl.offset<A9.size:=by have:=(aaa.1 N).1;omega
    refine⟨A9[fl.offset],?_,As fl.offset c _ N (by simp[Aj])⟩;have Y:=se (P:=P) (w:=w) (t:=fl.type) (cs:=A9) (off:=fl.offset) Ai AF (v:=A9[fl.offset]) (by simp[Aj]);simp[execOp,A,A1,Instr.field,run_underlying AT,AU,asAgg,Y]
   ·trivial
  ·trivial
 ·trivial
def zP(P:Program)(x:AV)(asserted:TypeId)(ok:Bool):cP:=
 match x with
 | .fL t d=>match decide (t=asserted),ok with
  |true,true=>.val (tk P asserted≠.other/\tk P asserted≠.iface) (.bM [.d d,.d (.bool true)])
  |true,false=>.val (tk P asserted≠.other/\tk P asserted≠.iface) (.d d)
  |_,_=>.no
 |_=>.no
theorem aca{P:Program}{t:TypeId}(h:tk P t≠.other)(M:tk P t≠.iface):∃d,P.underlying t=some d/\∀ms,d≠.interface ms:=by
 unfold tk at h M;cases hu:P.underlying t with
 |none=>rw[hu]at h;exact absurd rfl h
 |some d=>
  refine⟨d,rfl,λms U=>?_⟩;subst U;rw[hu]at M;exact M rfl
theorem Cn{P:Program}{w:World}{t Bw asserted:TypeId}{v:Value}{ok:Bool}(h:tk P asserted≠.other)(M:tk P asserted≠.iface)(A4:t=asserted):
 (Instr.typeAssert (.iface t v) Bw asserted ok).run P w=.ok (if ok then .tuple #[v,.bool true]else v) w:=by
 obtain⟨d,U,V⟩:=aca h M;subst A4;simp only[Instr.typeAssert,Sem.run_bind,run_underlying U,Result.andThen_ok];cases d with
 |interface ms=>exact absurd rfl (V ms)
 |_=>simp
theorem Ry(P:Program)(S:St)(o:Oper)(x:Operand)(BJ asserted:TypeId)(ok:Bool)(A:o.op=.typeAssert x BJ asserted ok)(J:(S.aq x).1=true):aD P S o (zP P (S.aq x).2 asserted ok):=by
 unfold zP;split
 ·rename_i t d A5;split
  ·rename_i A4;have A4:t=asserted:=by simpa using A4
   refine aD.pure ?_;rintro ⟨E,M⟩ φ G a w H;have AI:=H.aq x J;rw[A5]at AI;generalize A1:a.eval x=av at AI;cases AI with|fL _ _ v U=>
   refine⟨.tuple #[v,.bool true],by simp[execOp,A,A1,Cn E M A4],.bM _ _ rfl λi c u N hu=>?_⟩;match i,N,hu with
   |0,N,hu=>simp at N hu;subst N hu;exact .d _ _ U
   |1,N,hu=>simp at N hu;subst N hu;exact .d _ _ (.bool _)
   |i+2,N,hu=>simp at N
  ·rename_i A4;have A4:t=asserted:=by simpa using A4
   refine aD.pure ?_;rintro ⟨E,M⟩ φ G a w H;have AI:=H.aq x J;rw[A5]at AI;generalize A1:a.eval x=av at AI;cases AI with|fL _ _ v U=>
   exact⟨v,by simp[execOp,A,A1,Cn E M A4],.d _ _ U⟩
  ·trivial
 ·trivial
def cJ(P:Program)(S:St)(o:Oper):cP:=
 match o.op with
 | .move x=>rm P S.mem (keyOf o) o.type (S.aq x).2
 | .assign x=>rm P S.mem (keyOf o) o.type (S.aq x).2
 | .pick c a b=>Ge (S.aq c) (S.aq a) (S.aq b)
 | .alloc t=>sj P S.mem (keyOf o) t
 | .box _ x=>qD S.mem (keyOf o) (S.aq x).2.kp (S.aq x).2.cells
 | .load t x=>lf P S.mem t (S.aq x).2
 | .store t p x=>nL P S.mem t (S.aq p).2 (S.aq x).2
 | .fieldAddr s x f=>ny P S.mem s f (S.aq x).2
 | .nilCheck x=>iw S.mem (S.aq x).2
 | .indexAddr t x i=>lB P S.mem t (S.aq x).2 (S.aq i).2
 | .index t x i=>oV P t (S.aq x).2 (S.aq i).2
 | .slice t x lo hi none=>jZ P S.mem t (S.aq x).2 (lo.map λy=>(S.aq y).2) (hi.map λy=>(S.aq y).2)
 | .binOp op t x y _=>p8 P S op t x y
 | .unOp op _ x=>GW op (S.aq x).2
 | .convert s d x=>rn P S.mem (keyOf o) s d (S.aq x).2
 | .makeInterface t x=>rl P t (S.aq x).2
 | .makeFunc f first cap=>nB f (first.toList.map λx=>(S.aq x).2) (cap.toList.map λx=>(S.aq x).2)
 | .makeSlice t l c=>vT P S.mem (keyOf o) t (S.aq l).2 (S.aq c).2
 | .build t ps=>Ci P t (ps.toList.map λx=>(x.1,(S.aq x.2).2))
 | .buildSlice t len ps=>jz P S.mem (keyOf o) t len (ps.toList.map λx=>(x.1,(S.aq x.2).2))
 | .extract x i=>sh i (S.aq x).2
 | .field s x f=>u7 P s (S.aq x).2 f
 | .typeAssert x _ t ok=>zP P (S.aq x).2 t ok
 | .call {callee:=.builtin b,args,argTypes}=>kr P S o b args.toList argTypes.toList
 |_=>.no
theorem G9(P:Program)(S:St)(o:Oper)(h:fI S o=true):aD P S o (cJ P S o):=by
 unfold fI at h;unfold cJ;have one:∀{l:List Operand},gU S l=true->∀x∈l,(S.aq x).1=true:=tp;split
 ·rename_i x A;simp only[A]at h;exact G5 P S o x (.inl A) (one h x (by simp[Op.operands]))
 ·rename_i x A;simp only[A]at h;exact G5 P S o x (.inr A) (one h x (by simp[Op.operands]))
 ·rename_i c a b A;exact aaz P S o c a b A
 ·rename_i t A;exact Rt P S o t A
 ·rename_i t x A;simp only[A]at h;exact abI P S o t x A (one h x (by simp[Op.operands]))
 ·rename_i t x A;simp only[A]at h;exact (Kb P S o t x A (one h x (by simp[Op.operands]))).res
 ·rename_i t p x A;simp only[A]at h;exact U3 P S o t p x A (one h p (by simp[Op.operands])) (one h x (by simp[Op.operands]))
 ·rename_i s x f A;simp only[A]at h;exact Va P S o s x f A (one h x (by simp[Op.operands]))
 ·rename_i x A;simp only[A]at h;exact JE P S o x A (one h x (by simp[Op.operands]))
 ·rename_i t x i A;simp only[A]at h;exact Vb P S o t x i A (one h x (by simp[Op.operands])) (one h i (by simp[Op.operands]))
 ·rename_i t x i A;simp only[A]at h;exact Rh P S o t x i A (one h x (by simp[Op.operands])) (one h i (by simp[Op.operands]))
 ·rename_i t x lo hi A;simp only[A]at h;exact Vd P S o t x lo hi A (one h x (by simp[Op.operands])) (λy AC=>one h y (by simp[Op.operands,AC])) (λy AC=>one h y (by simp[Op.operands,AC]))
 ·rename_i op t x y AQ A;simp only[A]at h;exact Rp P S o op t AQ x y A (one h x (by simp[Op.operands])) (one h y (by simp[Op.operands]))
 ·rename_i op t x A;simp only[A]at h;exact ag0 P S o op t x A (one h x (by simp[Op.operands]))
 ·rename_i s d x A;simp only[A]at h;exact Vg P S o s d x A (one h x (by simp[Op.operands]))
 ·rename_i t x A;simp only[A]at h;exact GX P S o t x A (one h x (by simp[Op.operands]))
 ·rename_i f first cap A;simp only[A]at h;exact JF P S o f first cap A (λx J=>one h x (by simp[Op.operands];left;simpa using J)) (λx J=>one h x (by simp[Op.operands];right;simpa using J))
 ·rename_i t l c A;simp only[A]at h;exact aav P S o t l c A (one h l (by simp[Op.operands])) (one h c (by simp[Op.operands]))
 ·rename_i t ps A;simp only[A]at h;exact Ve P S o t ps A (λx J=>one h x.2 (by simp only[Op.operands,List.toList_toArray,ab9];exact⟨x,J,rfl⟩))
 ·rename_i t len ps A;simp only[A]at h;exact F6 P S o t len ps A (λx J=>one h x.2 (by simp only[Op.operands,List.toList_toArray,ab9];exact⟨x,J,rfl⟩))
 ·rename_i x i A;simp only[A]at h;exact Oj P S o x i A (one h x (by simp[Op.operands]))
 ·rename_i s x f A;simp only[A]at h;exact Rx P S o s x f A (one h x (by simp[Op.operands]))
 ·rename_i x BJ t ok A;simp only[A]at h;exact Ry P S o x BJ t ok A (one h x (by simp[Op.operands]))
 ·rename_i b args Aa A;simp only[A]at h;have AM:∀x∈args.toList,(S.aq x).1=true:=λx J=>one h x (by simp[Op.operands,Call.operands];simpa using J);have At:∀{l:List Operand},args.toList=l->args=l.toArray:=λh=>by rw[<-h]
  have Au:∀{l:List TypeId},Aa.toList=l->Aa=l.toArray:=λh=>by rw[<-h]
  unfold kr;split
  ·rename_i x t E M;rw[At E,Au M]at A;exact abY P S o x t A (AM x (by simp[E]))
  ·rename_i s x t u E M;rw[At E,Au M]at A;exact Vf <| abU P S o s x t u A (AM s (by simp[E])) (AM x (by simp[E]))
  ·rename_i s x t u E M;rw[At E,Au M]at A;exact aaw P S o s x t u A (AM s (by simp[E])) (AM x (by simp[E]))
  ·exact Rk P S o true args Aa (by simpa using A) AM
  ·exact Rk P S o false args Aa (by simpa using A) AM
  ·rename_i x t E M;rw[At E,Au M]at A;exact ab5 P S o x t A (AM x (by simp[E]))
  ·trivial
 ·trivial
inductive XE where
 |normal
 |exit (id:Nat)
 |ret
 |panic (t:TypeId) (x:D)
def mw(n:Nat)(φ:bE)(G:Fr)(m:Mem)(w:World)(Q:XE->St->Prop):Exit->Act->World->Prop
 | .normal,O,w'=>∃φ' I,I.n=n/\Q .normal I/\Rel φ' G I O w'/\aO φ m w φ' I.mem w'
 | .exit id,O,w'=>∃φ' I,I.n=n/\Q (.exit id) I/\Rel φ' G I O w'/\aO φ m w φ' I.mem w'
 | .ret,O,w'=>∃φ' I,I.n=n/\Q .ret I/\Rel φ' G I O w'/\aO φ m w φ' I.mem w'
 | .panic chain,O,w'=>∃φ' I t x v,chain=[{v:=.iface t v,recovered:=false}]/\aI w' (Fo G φ' I.mem) x v/\I.n=n/\Q (.panic t x) I/\Rel φ' G I O w'/\aO φ m w φ' I.mem w'
 |_,_,_=>False
theorem mw.weaken{n φ G m w Q AW BV AN e O w'}(T:aO φ m w AW BV AN)(h:mw n AW G BV AN Q e O w'):mw n φ G m w Q e O w':=by
 cases e with
 |normal=>obtain⟨φ',I,q,E,M,A'⟩:=h;exact⟨φ',I,q,E,M,T.trans A'⟩
 |exit id=>obtain⟨φ',I,q,E,M,A'⟩:=h;exact⟨φ',I,q,E,M,T.trans A'⟩
 |ret=>obtain⟨φ',I,q,E,M,A'⟩:=h;exact⟨φ',I,q,E,M,T.trans A'⟩
 |panic chain=>obtain⟨φ',I,t,x,v,N,U,q,E,M,A'⟩:=h;exact⟨φ',I,t,x,v,N,U,q,E,M,T.trans A'⟩
 |_=>exact h.elim
theorem mw.mono{n φ G m w Q Ak e O w'}(AA:∀e S,Q e S->Ak e S)(h:mw n φ G m w Q e O w'):mw n φ G m w Ak e O w':=by
 cases e with
 |normal=>obtain⟨φ',I,q,E,M⟩:=h;exact⟨φ',I,q,AA _ _ E,M⟩
 |exit id=>obtain⟨φ',I,q,E,M⟩:=h;exact⟨φ',I,q,AA _ _ E,M⟩
 |ret=>obtain⟨φ',I,q,E,M⟩:=h;exact⟨φ',I,q,AA _ _ E,M⟩
 |panic chain=>obtain⟨φ',I,t,x,v,N,U,q,E,M⟩:=h;exact⟨φ',I,t,x,v,N,U,q,AA _ _ E,M⟩
 |_=>exact h.elim
def lE(P:Program)(c:Code)(S:St)(Q:XE->St->Prop):Prop:=
 ∀φ G a w,Rel φ G S a w->c.wp P (mw S.n φ G S.mem w Q) a w
def nO(all:List Oper)(S:St)(j:Nat):Option (Bool×AV):=
 match all[j]? with
 |some o=>match o.dst with
  |some t=>Env.lk S.env t
  |none=>none
 |none=>none
def jc(n:Nat)(ops:List Oper):Bool:=ops.all λo=>match o.dst with|some t=>decide (t<n)|none=>true
theorem ll(S:St)(d g x):(S.put d g x).n=S.n:=by cases d<;>rfl
theorem eD(S:St)(d g x):(S.put d g x).mem=S.mem:=by cases d<;>rfl
theorem B8.step{P:Program}{o:Oper}{a:Act}{w w':World}{v:Value}{next R}(h:B8 P o a w v w')(V:next (a.put o.dst v) w'):o.wp P a w next R:=by
 unfold Oper.wp;rcases h with h|⟨h,rfl⟩<;>rw[h]<;>exact V
theorem Rel.grow{φ G S a w w'}(h:Rel φ G S a w)(hold:∀b,b<w.heap.size->w'.heap[b]?=w.heap[b]?)(A6:w.heap.size<=w'.heap.size):Rel φ G S a w':=
 ⟨h.size,h.defers,λt x J=>(h.env t x J).mono (bE.le_refl _) (λb A8 _=>hold b A8) A6 (λ_ _ h=>h),h.mem.grow hold A6,h.jS.mono (λb A8 _=>hold b A8) A6 (λ_ _ h=>h)⟩
theorem Vh{P:Program}{S:St}{o:Oper}{c:Bool}{x:AV}{gb:Bool}(H:aD P S o (.val c x))(N:c=true){φ G a w}(h:Rel φ G S a w)(U:∀t,o.dst=some t->t<S.n){next:Act->World->Prop}{R}
 (V:∀O w',Rel φ G (S.put o.dst gb x) O w'->aO φ S.mem w φ S.mem w'->next O w'):o.wp P a w next R:=by
 obtain⟨v,w',BK,A1,hold,A6,BG,A4,Bx⟩:=H N φ G a w h;exact BK.step (V _ _ ((h.grow hold A6).put o.dst U gb x v (λ_=>A1)) (aO.grow hold A6 BG A4 Bx))
theorem Vi{P:Program}{S:St}{o:Oper}{c:Bool}{x:AV}{e:cf}(H:aD P S o (.cF c x e))(N:c=true){φ G a w}(h:Rel φ G S a w)(U:∀t,o.dst=some t->t<S.n){next:Act->World->Prop}{R}
 (V:∀φ' O w',Rel φ' G (({S with mem:=Mem.set S.mem e}:St).put o.dst true x) O w'->aO φ S.mem w φ' (Mem.set S.mem e) w'->next O w'):o.wp P a w next R:=by
 obtain⟨v,w',φ',BK,A1,hm,T,_⟩:=H N φ G a w h;exact BK.step (V φ' _ _ ((h.xV hm T).put o.dst U true x v (λ_=>A1)) T)
theorem Rz{all:List Oper}{S:St}{j:Nat}{b:Bool}{φ G a w}(h:Rel φ G S a w)(A0:nO all S j=some (true,.d (.bool b))):yielded all.toArray a.tmps j=some b:=by
 unfold nO at A0;split at A0
 ·rename_i o A;split at A0
  ·rename_i t A4;have:=rL (h.env t _ A0);unfold yielded;simp only[adt,A,ac7,A4];rw[abF]at this;cases AA:a.tmps[t]? with
   |none=>simp[AA,undef]at this
   |some v=>simp[AA]at this;simp[this]
  ·cases A0
 ·cases A0
section
variable {P:Program} {S:St} {Q:XE->St->Prop}
theorem lE.mono{c:Code}{Ak:XE->St->Prop}(h:lE P c S Q)(AA:∀e S,Q e S->Ak e S):lE P c S Ak:=
 λφ G a w H=>wp_mono (h φ G a w H) λ_ _ _ Y=>Y.mono AA
def St.prune(S:St)(oW:List Nat):St:={S with env:=oW.filterMap λt=>(Env.lk S.env t).map λx=>(t,x)}
theorem sk(env:Env):∀(oW:List Nat)(t:Nat)(x:Bool×AV),Env.lk (oW.filterMap λt=>(Env.lk env t).map λx=>(t,x)) t=some x->Env.lk env t=some x
 |[],t,x,h=>by simp[Env.lk]at h
 |k::r,t,x,h=>by
  simp only[List.filterMap_cons]at h;cases T:Env.lk env k with
  |none=>simp[T]at h;exact sk env r t x h
  |some y=>
   simp only[T,agb,Env.lk]at h;by_cases BW:k=t
   ·subst BW;simp at h;subst h;exact T
   ·simp[BW]at h;exact sk env r t x h
theorem Rel.prune{φ G a w}(h:Rel φ G S a w)(oW:List Nat):Rel φ G (S.prune oW) a w:=
 ⟨h.size,h.defers,λt x J=>h.env t x (sk _ _ _ _ J),h.mem,h.jS⟩
theorem Kp{x y:Code}(h:lE P x S λe I=>match e with| .normal=>lE P y I Q|e=>Q e I):lE P (.seq x y) S Q:=by
 intro φ G a w H;refine wp_seq (wp_mono (h φ G a w H) λe O w' Y=>?_);cases e with
 |normal=>
  obtain⟨φ',I,V,E,M,A'⟩:=Y;exact wp_mono (E φ' G O w' M) λe a2 Al BX=>by rw[V]at BX;exact BX.weaken A'
 |_=>exact Y
theorem Ha{c:Operand}{x y:Code}{b:Bool}(N:S.aq c=(true,.d (.bool b)))(A4:b=true->lE P x S Q)(By:b=false->lE P y S Q):lE P (.cond c x y) S Q:=by
 intro φ G a w H;have A7:=H.aq c (by rw[N]);rw[N]at A7;have e:=rL A7;cases b
 ·exact wp_cond_false e (By rfl φ G a w H)
 ·exact wp_cond_true e (A4 rfl φ G a w H)
theorem Vj(h:Q .normal S):lE P .skip S Q:=λφ _ _ _ H=>wp_skip ⟨φ,S,rfl,h,H,aO.refl ..⟩
theorem aaB(h:Q .ret S):lE P .ret S Q:=λφ _ _ _ H=>wp_ret ⟨φ,S,rfl,h,H,aO.refl ..⟩
theorem Vk{id:Nat}(h:Q (.exit id) S):lE P (.exit id) S Q:=λφ _ _ _ H=>wp_exit ⟨φ,S,rfl,h,H,aO.refl ..⟩
theorem yk{id:Nat}{c:Code}(h:lE P c S λe I=>match e with| .exit Av=>if Av=id then Q .normal I else Q (.exit Av) I|e=>Q e I):lE P (.block id c) S Q:=by
 intro φ G a w H;refine wp_block (wp_mono (h φ G a w H) λe O w' Y=>?_);cases e with
 |exit Av=>
  obtain⟨φ',I,V,E,M,A'⟩:=Y;simp only[Exit.inBlock];by_cases hid:Av=id
  ·simp only[hid,afh]at E⊢;exact⟨φ',I,V,E,M,A'⟩
  ·simp only[hid,acy]at E⊢;exact⟨φ',I,V,E,M,A'⟩
 |_=>exact Y
theorem Vm{c:Code}{α:Type}(AH:α->St)(Aw:α->Prop)(Ax:α->Nat)(AX:α)(Bz:S=AH AX)(q:Aw AX)
 (round:∀x,Aw x->lE P c (AH x) λe I=>match e with| .normal=>∃Ab,I=AH Ab/\Aw Ab/\Ax Ab<Ax x|e=>Q e I):lE P (.loop c) S Q:=by
 intro φ G a w H;subst Bz;intro b k cs;have key:∀n x AW Ay AN,Ax x=n->Aw x->(AH x).n=(AH AX).n->Rel AW G (AH x) Ay AN->aO φ (AH AX).mem w AW (AH x).mem AN->
  ∃e O w',mw (AH AX).n φ G (AH AX).mem w Q e O w'/\Arrives P (lone (b.at Ay (.code c::.inLoop c::k)) cs AN) b k cs e O w':=by
  intro n;induction n using Nat.strongRecOn with
  |_ n ih=>
   intro x AW Ay AN V C' Az AI B';obtain⟨e,a2,Al,Y,Ac⟩:=round x C' AW G Ay AN AI b (.inLoop c::k) cs;cases e with
   |normal=>
    obtain⟨B9,CD,C0,⟨Ab,rfl,C1,CE⟩,B4,C2⟩:=Y;obtain⟨C3,a3,C4,C5,C6⟩:=ih (Ax Ab) (by omega) Ab B9 a2 Al rfl C1 (C0.trans Az) B4 (B'.trans C2);exact⟨C3,a3,C4,C5,.of_steps (Steps.trans Ac (.one step_inLoop)) C6⟩
   |exit id=>exact⟨.exit id,a2,Al,by rw[Az]at Y;exact mw.weaken (e:=.exit id) B' Y,.pass (x:=.inLoop c) rfl (λ_ _=>.inl (by simp)) Ac⟩
   |goto l=>exact Y.elim
   |ret=>exact⟨.ret,a2,Al,by rw[Az]at Y;exact mw.weaken (e:=.ret) B' Y,.pass (x:=.inLoop c) rfl (λ_ _=>.inl (by simp)) Ac⟩
   |panic ch=>exact⟨.panic ch,a2,Al,by rw[Az]at Y;exact mw.weaken (e:=.panic ch) B' Y,.pass (x:=.inLoop c) rfl (λ_ _=>.inl (by simp)) Ac⟩
   |outgrown=>exact Y.elim
 obtain⟨e,O,w',AA,Ac⟩:=key _ AX φ a w rfl q rfl H (aO.refl ..);exact⟨e,O,w',AA,.of_steps (.one step_loop) Ac⟩
end
inductive Out where
 |ret (x:AV)
 |panic (t:TypeId) (x:D)
def mL(φ:bE)(w:World)(F:Nat->Prop):Out->Ending->Prop
 | .ret x,.returned v=>az φ w F x v
 | .panic t x,.panicked chain=>∃v,chain=[{v:=.iface t v,recovered:=false}]/\aI w F x v
 |_,_=>False
def Ev(P:Program)(gl:List (Nat×D))(f:FuncId)(args:List AV)(m:Mem)(K:Out->Mem->Prop):Prop:=
 ∀φ G w (vs:Array Value),a7 φ G m w->ec w (Fo G φ m) gl->args.length=vs.size->(∀(i:Nat) x v,args[i]?=some x->vs[i]?=some v->az φ w (Fo G φ m) x v)->
  Calls P f vs w λe w'=>∃φ' m' out,K out m'/\a7 φ' G m' w'/\aO φ m w φ' m' w'/\mL φ' w' (Fo G φ' m') out e
theorem Ev.mono{P gl f args m K K'}(h:Ev P gl f args m K)(E:∀o m,K o m->K' o m):Ev P gl f args m K':=
 λφ G w vs hm H A2 Ab=>(h φ G w vs hm H A2 Ab).mono λ_ _ ⟨φ',m',out,M,T⟩=>⟨φ',m',out,E _ _ M,T⟩
def jL:List Nat->Nat->Nat->Option Nat
 |[],_,_=>none
 |a::r,k,i=>if a=k then some i else jL r k (i+1)
theorem vX:∀{ρ:List Nat}{k j i:Nat},jL ρ k j=some i->j<=i/\ρ[i-j]?=some k
 |[],k,j,i,h=>by simp[jL]at h
 |a::r,k,j,i,h=>by
  simp only[jL]at h;split at h
  ·rename_i E;cases h;subst E;simp
  ·obtain⟨M,T⟩:=vX h;refine⟨by omega,?_⟩;rw[show i-j=(i-(j+1))+1 by omega];simpa using T
theorem jd:∀{ρ:List Nat}{k j:Nat},jL ρ k j=none↔k∉ρ
 |[],k,j=>by simp[jL]
 |a::r,k,j=>by
  simp only[jL,aak,ak0];split
  ·rename_i E;subst E;simp
  ·rename_i E;rw[jd];constructor
   ·exact λh=>⟨λAc=>E Ac.symm,h⟩
   ·exact λh=>h.2
theorem RA{ρ:List Nat}(AB:ρ.Nodup){i k:Nat}(h:ρ[i]?=some k):jL ρ k 0=some i:=by
 cases A9:jL ρ k 0 with
 |none=>exact absurd (aah h) (jd.1 A9)
 |some j=>
  obtain⟨_,T⟩:=vX A9;simp only[Nat.sub_zero]at T;obtain⟨hi,AC⟩:=aaa.1 h;obtain⟨N,AH⟩:=aaa.1 T;have:=(List.getElem_inj AB).1 (AC.trans AH.symm);rw[this]
def tu:List AV->Option (List D)
 |[]=>some []
 | .d x::r=>match x.flat,tu r with
  |true,some AP=>some (x::AP)
  |_,_=>none
 |_::_=>none
theorem EV:∀{l:List AV}{U:List D},tu l=some U->l=U.map .d/\∀d∈U,d.flat=true
 |[],U,h=>by simp[tu]at h;subst h;simp
 |x::r,U,h=>by
  unfold tu at h;split at h
  ·rename_i heq;cases heq
  ·rename_i y B4 heq;cases heq;split at h
   ·rename_i AP A9 Ad;cases h;obtain⟨M,T⟩:=EV Ad;refine⟨by rw[M];rfl,λd Y=>?_⟩;rcases aak.1 Y with rfl|Y
    ·exact A9
    ·exact T d Y
   ·cases h
  ·cases h
def Vn:Option (List D)->AV
 |some U=>.d (.list U)
 |none=>.aX
mutual
def vw(m:Mem)(ρ:List Nat)(bor:Nat->Bool)(nv:Nat->Nat->Nat):AV->AV
 | .ptr k ak off=>match Mem.get m k,jL ρ k 0 with
  |some e,some i=>if e.ak=ak then .ptr i (nv i ak) off else .aX
  |_,_=>.aX
 | .vec k ak off len=>match Mem.get m k,jL ρ k 0 with
  |some e,some i=>if e.ak=ak then .vec i (nv i ak) off len else .aX
  |some ⟨_,v,.vec _ ag⟩,none=>if bor k=true/\v=ak/\off+len<=ag.length then .d (.list ((ag.drop off).take len))else .aX
  |some ⟨_,v,.box cs⟩,none=>if bor k=true/\v=ak/\off+len<=cs.length then Vn (tu ((cs.drop off).take len))else .aX
  |_,_=>.aX
 | .ck k ak i j=>match Mem.get m k,jL ρ k 0 with
  |some e,some n=>if e.ak=ak then .ck n (nv n ak) i j else .aX
  |_,_=>.aX
 | .agg cs=>.agg (qa m ρ bor nv cs)
 | .fn f cap=>.fn f (qa m ρ bor nv cap)
 | .bM vs=>.bM (qa m ρ bor nv vs)
 | .aX=>.aX
 | .d x=>.d x
 | .dp x j=>.dp x j
 | .fL t x=>.fL t x
 | .lit v=>.lit v
 | .nn=>.nn
 | .err=>.err
def qa(m:Mem)(ρ:List Nat)(bor:Nat->Bool)(nv:Nat->Nat->Nat):List AV->List AV
 |[]=>[]
 |x::r=>vw m ρ bor nv x::qa m ρ bor nv r
end
theorem rN(m ρ bor nv):∀(l:List AV)(i:Nat),(qa m ρ bor nv l)[i]?=(l[i]?).map (vw m ρ bor nv)
 |[],i=>by simp[qa]
 |x::r,i=>by cases i with|zero=>simp[qa]|succ i=>simp[qa,rN m ρ bor nv r i]
theorem ku(m ρ bor nv):∀(l:List AV),(qa m ρ bor nv l).length=l.length
 |[]=>rfl
 |x::r=>by simp[qa,ku m ρ bor nv r]
def bE.gx(φ:bE)(ρ:List Nat)(nv:Nat->Nat->Nat):bE:=λi=>
 match ρ[i]? with
 |some k=>(φ k).map λL=>{L with ak:=nv i L.ak}
 |none=>none
def yl(φ:bE)(m:Mem)(ρ:List Nat)(b:Nat):Prop:=∃k∈ρ,∃e L,Mem.get m k=some e/\φ k=some L/\e.cont.cC L b
theorem yl.own{φ m ρ b}(h:yl φ m ρ b):gQ φ m b:=by
 obtain⟨k,_,e,L,H,A,A'⟩:=h;obtain⟨hm,rfl⟩:=Mem.get_mem H;exact⟨e,hm,L,A,A'⟩
theorem Co{φ G m w}(h:a7 φ G m w){ρ:List Nat}{k:Nat}{e:cf}{L:Loc}{b:Nat}(H:Mem.get m k=some e)(A:φ k=some L)(A':e.cont.cC L b)(E:k∉ρ):¬yl φ m ρ b:=by
 rintro ⟨Ae,AD,e',L',Af,J,Ag⟩;obtain⟨hm,rfl⟩:=Mem.get_mem H;obtain⟨Ah,rfl⟩:=Mem.get_mem Af;have:=h.apart e' Ah e hm L' L J A ⟨b,Ag,A'⟩;exact E (this▸AD)
section
variable {φ:bE} {G:Fr} {m:Mem} {w:World} {ρ:List Nat} {bor:Nat->Bool} {nv:Nat->Nat->Nat} {AE:Nat->Prop}
theorem DT{k i:Nat}{L:Loc}(hi:jL ρ k 0=some i)(A:φ k=some L):φ.gx ρ nv i=some {L with ak:=nv i L.ak}:=by
 obtain⟨_,T⟩:=vX hi;simp only[Nat.sub_zero]at T;simp[bE.gx,T,A]
theorem acb(hm:a7 φ G m w)(A1:∀b,AE b->Fo G φ m b)
 (AF:∀k e L b,Mem.get m k=some e->k∉ρ->bor k=true->φ k=some L->e.cont.cC L b->¬AE b) {y v} (h:az φ w (Fo G φ m) y v):az (φ.gx ρ nv) w AE (vw m ρ bor nv y) v:=by
 induction h with
 |aX v=>exact .aX v
 |d x v h=>exact .d x v (h.mono (λ_ _ _=>rfl) (aae _) (λb _=>A1 b))
 |agg cs a A2 M _ ih=>
  refine .agg _ a (by rw[ku];exact A2) M (λi c v I O=>?_);rw[rN]at I;obtain⟨y,A3,rfl⟩:=aaf.1 I;exact ih i y v A3 O
 |ptr k ak off v L A O h M=>
  unfold vw;split
  ·rename_i e i H hi;split
   ·rename_i he;obtain⟨_,_,L',J,V,_⟩:=hm.get H;rw[A]at J;cases J;have A5:L.ak=ak:=by rw[V];exact he
    refine .ptr i _ off v _ (DT hi A) (by simp[A5]) (λ_=>h A5.symm) M
   ·exact .aX _
  ·exact .aX _
 |vec k ak off len v L A O h M=>
  unfold vw;split
  ·rename_i e i H hi;split
   ·rename_i he;obtain⟨_,_,L',J,V,_⟩:=hm.get H;rw[A]at J;cases J;have A5:L.ak=ak:=by rw[V];exact he
    refine .vec i _ off len v _ (DT hi A) (by simp[A5]) (λ_=>h A5.symm) M
   ·exact .aX _
  ·rename_i key AA sz ag H hi;split
   ·rename_i I;obtain⟨A7,rfl,hle⟩:=I;obtain⟨_,_,L',J,V,Z⟩:=hm.get H;rw[A]at J;cases J;refine .d _ _ (Bg (.vec k AA off len v L A O h M) A V Z hle A1 (λA'=>?_));exact AF k _ L _ H (jd.1 hi) A7 A ⟨A',rfl⟩
   ·exact .aX _
  ·rename_i key AA cs H hi;split
   ·rename_i I;obtain⟨A7,rfl,hle⟩:=I;obtain⟨_,_,L',J,V,Z⟩:=hm.get H;rw[A]at J;cases J;obtain⟨⟨Ai,z2,z3⟩,arr,elem,AQ,B5,Aj,Ak⟩:=Z;cases Al:tu ((cs.drop off).take len)with
    |none=>exact .aX _
    |some U=>
     obtain⟨AR,An⟩:=EV Al;obtain⟨ao,cap,rfl,B6,AS⟩:=h V.symm;have Ao:U.length=len:=by
      have:=aeT List.length AR;simp at this;omega
     refine .d _ _ ?_;by_cases AI:len=0
     ·have:U=[]:=acp (by omega);subst this;subst AI;refine .nil _ _ (λAB=>?_);cases cap with
      |zero=>rfl
      |succ c=>have:=(AS (by omega)).1;rw[AB]at this;cases this
     ·obtain⟨rfl,_⟩:=AS (by omega);rw[<-Ao];have AT:∀(i:Nat) d,U[i]?=some d->∃u,arr[off+i]?=some u/\aI w AE d u/\b9 u=true:=by
       intro i d Y;have hi:i<U.length:=(aaa.1 Y).1;have Ap:cs[off+i]?=some (.d d):=by
        have:=aeT (·[i]?) AR;simp only[abK,acr,acm,Y]at this;rw[aal (by omega)]at this;simpa using this
       have AU:off+i<arr.size:=by omega
       have AJ:=Ak (off+i) _ arr[off+i] Ap (by simp[AU]);cases AJ with
       |d _ _ AJ=>exact⟨_,by simp[AU],AJ.mono (λ_ _ _=>rfl) (aae _) (λb _=>A1 b),Aj _ (by simp)⟩
      have Aq:L.cS<w.heap.size:=AQ.lt;refine .list U _ _ cap 1 (λi=>(arr[off+i]?).getD undef) (by omega) Aq (AF k _ L _ H (jd.1 hi) A7 A rfl) (λd Y=>?_) (λi d Y=>?_) (λi j c Ar N=>?_)
      ·have:=An d Y;cases d<;>simp_all [D.flat,D.size]
      ·obtain⟨u,M,T,_⟩:=AT i d Y;simp only[M,acR];exact T
      ·obtain⟨u,M,T,AC⟩:=AT i U[i] (by simp[Ar]);simp only[M,acR,dC AC]at N;have As:j=0:=by
        have:=(acs.1 N).1;simpa using this
       subst As;simp at N;subst N;rw[fO AQ,Ai,z2];simpa using M
   ·exact .aX _
  ·exact .aX _
 |ck k ak i j v L A O h M=>
  unfold vw;split
  ·rename_i e n H hi;split
   ·rename_i he;obtain⟨_,_,L',J,V,_⟩:=hm.get H;rw[A]at J;cases J;have A5:L.ak=ak:=by rw[V];exact he
    refine .ck n _ i j v _ (DT hi A) (by simp[A5]) (λ_=>h A5.symm) M
   ·exact .aX _
  ·exact .aX _
 |dp x j b off At A7 Au AK I=>
  exact .dp x j b off At A7 (λh=>Au (A1 b h)) (AK.mono (λ_ _ _=>rfl) (aae _) (λb _=>A1 b)) I
 |fn f cap a A9 A2 _ ih=>
  refine .fn f _ a A9 (by rw[ku];exact A2) (λi c v I O=>?_);rw[rN]at I;obtain⟨y,A3,rfl⟩:=aaf.1 I;exact ih i y v A3 O
 |qP f cap a A2 _ ih=>
  refine .qP f _ a (by rw[ku];exact A2) (λi c v I O=>?_);rw[rN]at I;obtain⟨y,A3,rfl⟩:=aaf.1 I;exact ih i y v A3 O
 |bM vs a A2 _ ih=>
  refine .bM _ a (by rw[ku];exact A2) (λi c v I O=>?_);rw[rN]at I;obtain⟨y,A3,rfl⟩:=aaf.1 I;exact ih i y v A3 O
 |fL t x v h=>exact .fL t x v (h.mono (λ_ _ _=>rfl) (aae _) (λb _=>A1 b))
 |lit v h=>exact .lit v h
 |nn a cap=>exact .nn a cap
 |err t v=>exact .err t v
end
def cZ:Nat->List (Nat×ax)->Mem
 |_,[]=>[]
 |i,(v,c)::r=>⟨i,v,c⟩::cZ (i+1) r
theorem oX:∀(l:List (Nat×ax))(i:Nat),(cZ i l).map (·.key)=List.range' i l.length
 |[],i=>rfl
 |(v,c)::r,i=>by simp[cZ,oX r,ajX]
theorem j1:∀{l:List (Nat×ax)}{i:Nat}{e:cf},e∈cZ i l↔∃j v c,l[j]?=some (v,c)/\e=⟨i+j,v,c⟩
 |[],i,e=>by simp[cZ]
 |(v,c)::r,i,e=>by
  simp only[cZ,aak,j1 (l:=r)];constructor
  ·rintro (rfl|⟨j,AA,AL,h,rfl⟩)
   ·exact⟨0,v,c,by simp,by simp⟩
   ·exact⟨j+1,AA,AL,by simpa using h,by simp;omega⟩
  ·rintro ⟨j,AA,AL,h,rfl⟩;cases j with
   |zero=>simp at h;obtain⟨rfl,rfl⟩:=h;left;simp
   |succ j=>right;exact⟨j,AA,AL,by simpa using h,by simp;omega⟩
def ur(m:Mem)(ρ:List Nat)(bor:Nat->Bool)(nv:Nat->Nat->Nat):ax->ax
 | .dead=>.dead
 | .box cs=>.box (qa m ρ bor nv cs)
 | .vec sz ag=>.vec sz ag
 | .vv ag y=>.vv ag (y.map (vw m ρ bor nv))
def uu(m:Mem)(ρ:List Nat)(bor:Nat->Bool)(nv:Nat->Nat->Nat)(i:Nat):Option cf->Nat×ax
 |some e=>(nv i e.ak,ur m ρ bor nv e.cont)
 |none=>(0,.dead)
def dM(m:Mem)(ρ:List Nat)(bor:Nat->Bool)(nv:Nat->Nat->Nat):Nat->List Nat->List (Nat×ax)
 |_,[]=>[]
 |i,k::r=>uu m ρ bor nv i (Mem.get m k)::dM m ρ bor nv (i+1) r
theorem vY(m ρ bor nv):∀(l:List Nat)(i j:Nat),(dM m ρ bor nv i l)[j]?=(l[j]?).map λk=>uu m ρ bor nv (i+j) (Mem.get m k)
 |[],i,j=>by simp[dM]
 |k::r,i,j=>by
  cases j with
  |zero=>simp[dM]
  |succ j=>simp[dM,vY m ρ bor nv r (i+1) j,ack,Nat.add_comm 1 j]
theorem pF(m ρ bor nv):∀(l:List Nat)(i:Nat),(dM m ρ bor nv i l).length=l.length
 |[],i=>rfl
 |k::r,i=>by simp[dM,pF m ρ bor nv r]
theorem tv{m ρ bor nv L c b}:(ur m ρ bor nv c).cC L b↔c.cC L b:=by cases c<;>exact Iff.rfl
theorem jA{L:Loc}{c:ax}{v b:Nat}:c.cC {L with ak:=v} b↔c.cC L b:=by cases c<;>exact Iff.rfl
section
variable {φ:bE} {G G1:Fr} {m:Mem} {w:World} {ρ:List Nat} {bor:Nat->Bool} {nv:Nat->Nat->Nat}
theorem u9(AG:∀k∈ρ,(Mem.get m k).isSome=true)(b:Nat):gQ (φ.gx ρ nv) (cZ 0 (dM m ρ bor nv 0 ρ)) b↔yl φ m ρ b:=by
 constructor
 ·rintro ⟨e,he,L,A,A'⟩;obtain⟨j,v,c,N,rfl⟩:=j1.1 he;rw[vY]at N;obtain⟨k,E,A8⟩:=aaf.1 N;simp only[adj,bE.gx,E,aaf]at A;obtain⟨A0,A6,rfl⟩:=A;have AW:=aah E;have:=AG k AW;obtain⟨q,A4⟩:=aj9.1 this;rw[A4]at A8;simp only[uu,ab8]at A8;obtain⟨rfl,rfl⟩:=A8;exact⟨k,AW,q,A0,A4,A6,jA.1 (tv.1 A')⟩
 ·rintro ⟨k,E,e,L,H,A,A'⟩;obtain⟨j,N,rfl⟩:=ak8.1 E;refine⟨⟨0+j,nv j e.ak,ur m ρ bor nv e.cont⟩,j1.2 ⟨j,_,_,?_,rfl⟩,{L with ak:=nv j L.ak},?_,tv.2 (jA.2 A')⟩
  ·rw[vY];simp[N,H,uu]
  ·simp[bE.gx,N,A]
theorem zQ(hm:a7 φ G m w)(AB:ρ.Nodup)(AG:∀k∈ρ,(Mem.get m k).isSome=true)(AX:∀b,G1 b->Fo G φ m b)(Av:∀b,yl φ m ρ b->¬G1 b)
 (AF:∀k e L b,Mem.get m k=some e->k∉ρ->bor k=true->φ k=some L->e.cont.cC L b->¬G1 b):
 a7 (φ.gx ρ nv) G1 (cZ 0 (dM m ρ bor nv 0 ρ)) w/\(∀y v,az φ w (Fo G φ m) y v->az (φ.gx ρ nv) w (Fo G1 (φ.gx ρ nv) (cZ 0 (dM m ρ bor nv 0 ρ))) (vw m ρ bor nv y) v)/\
  (∀b,Fo G1 (φ.gx ρ nv) (cZ 0 (dM m ρ bor nv 0 ρ)) b->Fo G φ m b):=by
 have AM:=u9 (φ:=φ) (nv:=nv) (bor:=bor) AG;have A1:∀b,Fo G1 (φ.gx ρ nv) (cZ 0 (dM m ρ bor nv 0 ρ)) b->Fo G φ m b:=by
  rintro b (h|h)
  ·exact AX b h
  ·exact .inr ((AM b).1 h).own
 have A7:∀k e L b,Mem.get m k=some e->k∉ρ->bor k=true->φ k=some L->e.cont.cC L b->¬Fo G1 (φ.gx ρ nv) (cZ 0 (dM m ρ bor nv 0 ρ)) b:=by
  rintro k e L b H E Aw A A' (h|h)
  ·exact AF k e L b H E Aw A A' h
  ·exact Co hm H A A' E ((AM _).1 h)
 have AN:∀y v,az φ w (Fo G φ m) y v->az (φ.gx ρ nv) w (Fo G1 (φ.gx ρ nv) (cZ 0 (dM m ρ bor nv 0 ρ))) (vw m ρ bor nv y) v:=λy v h=>acb hm A1 A7 h;have Y:∀x v,aI w (Fo G φ m) x v->aI w (Fo G1 (φ.gx ρ nv) (cZ 0 (dM m ρ bor nv 0 ρ))) x v:=λx v h=>h.mono (λ_ _ _=>rfl) (aae _) (λb _=>A1 b);have part:∀{e:cf},e∈cZ 0 (dM m ρ bor nv 0 ρ)->∃j k q A0,ρ[j]?=some k/\Mem.get m k=some q/\φ k=some A0/\A0.ak=q.ak/\dD φ w (Fo G φ m) A0 q.cont/\e=⟨j,nv j q.ak,ur m ρ bor nv q.cont⟩:=by
  intro e he;obtain⟨j,v,c,N,rfl⟩:=j1.1 he;rw[vY]at N;obtain⟨k,E,A8⟩:=aaf.1 N;obtain⟨q,A4⟩:=aj9.1 (AG k (aah E));rw[A4]at A8;simp only[uu,ab8,adj]at A8;obtain⟨rfl,rfl⟩:=A8;obtain⟨_,_,A0,A6,V,Z⟩:=hm.get A4;exact⟨j,k,q,A0,E,A4,A6,V,Z,by simp⟩
 refine⟨⟨?_,?_,?_,?_,?_,?_⟩,AN,A1⟩
 ·rw[oX];exact List.nodup_range'
 ·intro i L A;rw[oX,pF];simp only[bE.gx]at A;split at A
  ·rename_i k E;have:=(aaa.1 E).1;simp[List.mem_range'];omega
  ·cases A
 ·intro e he;obtain⟨j,k,q,A0,E,A4,A6,V,Z,rfl⟩:=part he;refine⟨{A0 with ak:=nv j A0.ak},by simp[bE.gx,E,A6],by simp[V],?_⟩;cases I:q.cont with
  |dead=>trivial
  |box cs=>
   rw[I]at Z;obtain⟨g0,arr,elem,g1,g2,g3,g4⟩:=Z;refine⟨by simpa [ku]using g0,arr,elem,g1,by simp[ku,g2],g3,λi c v AY O=>?_⟩;rw[rN]at AY;obtain⟨y,A3,rfl⟩:=aaf.1 AY;exact AN y v (g4 i y v A3 O)
  |vec sz ag=>
   rw[I]at Z;obtain⟨g1,g2,g3,g4⟩:=Z;refine⟨g1,g2,g3,λAI=>?_⟩;obtain⟨arr,elem,f1,f2,f3,f4⟩:=g4 AI;exact⟨arr,elem,f1,f2,f3,λi d Ax=>let ⟨v,O,N⟩:=f4 i d Ax;⟨v,Y _ _ O,N⟩⟩
  |vv ag y=>
   rw[I]at Z;exact (jP.mono (vw m ρ bor nv) Z (λ_ _ _ _ u hu=>Y _ u hu) (λx _ v AK=>AN x v AK) (λ_ _=>rfl)).ak _
 ·intro e he e' Ay L L' A J Az;obtain⟨j,k,q,A0,E,A4,A6,V,Z,rfl⟩:=part he;obtain⟨B7,Ae,B',B0,AD,B1,AZ,B8,B9,rfl⟩:=part Ay;simp only[bE.gx,E,A6,AD,AZ,agb,aas]at A J;subst A;subst J;obtain⟨B2,A_⟩:=Mem.get_mem A4;obtain⟨B3,Aa⟩:=Mem.get_mem B1;have:=hm.apart q B2 B' B3 A0 B0 (by rw[A_];exact A6) (by rw[Aa];exact AZ) (Az.imp λb h=>⟨jA.1 (tv.1 h.1),jA.1 (tv.1 h.2)⟩);rw[A_,Aa]at this;obtain⟨hi,AC⟩:=aaa.1 E;obtain⟨N,AH⟩:=aaa.1 AD;exact (List.getElem_inj AB).1 (AC.trans (this.trans AH.symm))
 ·exact λb AO=>Av b ((AM b).1 AO)
 ·exact λb AO=>Bb hm b (AX b AO)
end
mutual
def gI:D->Bool
 | .list (_::_)=>false
 | .list []=>true
 | .agg cs=>iX cs
 | .int _ _=>true
 | .bool _=>true
 | .str _=>true
 | .xz=>true
def iX:List D->Bool
 |[]=>true
 |x::r=>gI x&&iX r
end
theorem pG:∀{l:List D},iX l=true->∀x∈l,gI x=true
 |[],_,x,N=>by simp at N
 |y::r,h,x,N=>by
  simp only[iX,Ds]at h;rcases aak.1 N with rfl|N
  ·exact h.1
  ·exact pG h.2 x N
theorem aI.plain{w w':World}{F F':Nat->Prop}{d v}(h:aI w F d v)(T:gI d=true):aI w' F' d v:=by
 induction h with
 |int k n=>exact .int k n
 |bool b=>exact .bool b
 |xz v h=>exact .xz v h
 |str b s h=>exact .str b s h
 |agg cs a A7 AY _ ih=>
  refine .agg cs a A7 AY (λi d v O V=>ih i d v O V (pG (by simpa only[gI]using T) d (aah O)))
 |nil a cap A8=>exact .nil a cap A8
 |list xs b off cap sz vs BP A3 BQ BR V M _=>
  cases xs with
  |nil=>exact .nil _ _ (by simp)
  |cons=>simp[gI]at T
mutual
def di:AV->Bool
 | .d x=>gI x
 | .dp _ _=>false
 | .agg cs=>jB cs
 | .fn _ cap=>jB cap
 | .bM vs=>jB vs
 | .fL _ x=>gI x
 | .aX=>true
 | .ptr _ _ _=>true
 | .vec _ _ _ _=>true
 | .ck _ _ _ _=>true
 | .lit _=>true
 | .nn=>true
 | .err=>true
def jB:List AV->Bool
 |[]=>true
 |x::r=>di x&&jB r
end
theorem j2:∀{l:List AV},jB l=true->∀x∈l,di x=true
 |[],_,x,N=>by simp at N
 |y::r,h,x,N=>by
  simp only[jB,Ds]at h;rcases aak.1 N with rfl|N
  ·exact h.1
  ·exact j2 h.2 x N
def kL:ax->Bool
 | .dead=>true
 | .box cs=>jB cs
 | .vec _ ag=>iX ag
 | .vv ag y=>ag.all iX&&(match y with|none=>true|some x=>di x)
mutual
def up(ρ A:List Nat):AV->AV
 | .ptr k ak off=>.ptr (ρ.getD k 0) (A.getD k 0+ak) off
 | .vec k ak off len=>.vec (ρ.getD k 0) (A.getD k 0+ak) off len
 | .ck k ak i j=>.ck (ρ.getD k 0) (A.getD k 0+ak) i j
 | .agg cs=>.agg (tw ρ A cs)
 | .fn f cap=>.fn f (tw ρ A cap)
 | .bM vs=>.bM (tw ρ A vs)
 | .aX=>.aX
 | .d x=>.d x
 | .dp x j=>.dp x j
 | .fL t x=>.fL t x
 | .lit v=>.lit v
 | .nn=>.nn
 | .err=>.err
def tw(ρ A:List Nat):List AV->List AV
 |[]=>[]
 |x::r=>up ρ A x::tw ρ A r
end
theorem rO(ρ A):∀(l:List AV)(i:Nat),(tw ρ A l)[i]?=(l[i]?).map (up ρ A)
 |[],i=>by simp[tw]
 |x::r,i=>by cases i with|zero=>simp[tw]|succ i=>simp[tw,rO ρ A r i]
theorem ky(ρ A):∀(l:List AV),(tw ρ A l).length=l.length
 |[]=>rfl
 |x::r=>by simp[tw,ky ρ A r]
def Cq(ρ A:List Nat):ax->ax
 | .dead=>.dead
 | .box cs=>.box (tw ρ A cs)
 | .vec sz ag=>.vec sz ag
 | .vv ag y=>.vv ag (y.map (up ρ A))
def gV(ρ A:List Nat):Nat->List (Nat×ax)->List cf
 |_,[]=>[]
 |i,(v,c)::r=>⟨ρ.getD i 0,A.getD i 0+v,Cq ρ A c⟩::gV ρ A (i+1) r
theorem tA{ρ A:List Nat}:∀{l:List (Nat×ax)}{i:Nat}{e:cf},e∈gV ρ A i l↔∃j v c,l[j]?=some (v,c)/\e=⟨ρ.getD (i+j) 0,A.getD (i+j) 0+v,Cq ρ A c⟩
 |[],i,e=>by simp[gV]
 |(v,c)::r,i,e=>by
  simp only[gV,aak,tA (l:=r)];constructor
  ·rintro (rfl|⟨j,AI,AJ,h,rfl⟩)
   ·exact⟨0,v,c,by simp,by simp⟩
   ·exact⟨j+1,AI,AJ,by simpa using h,by rw[show i+(j+1)=i+1+j by omega]⟩
  ·rintro ⟨j,AI,AJ,h,rfl⟩;cases j with
   |zero=>simp at h;obtain⟨rfl,rfl⟩:=h;left;simp
   |succ j=>right;exact⟨j,AI,AJ,by simpa using h,by rw[show i+(j+1)=i+1+j by omega]⟩
theorem Cr{ρ A:List Nat}:∀(l:List (Nat×ax))(i:Nat),(gV ρ A i l).map (·.key)=(List.range' i l.length).map λj=>ρ.getD j 0
 |[],i=>rfl
 |(v,c)::r,i=>by simp[gV,Cr r,ajX]
def bp(m:Mem):List cf->Mem
 |[]=>m
 |e::r=>bp (Mem.set m e) r
theorem jC:∀(es:List cf)(m:Mem),(bp m es).map (·.key)=m.map (·.key)
 |[],m=>rfl
 |e::r,m=>by rw[bp,jC r,Mem.fM]
theorem Cs:∀(es:List cf)(m:Mem),(m.map (·.key)).Nodup->(es.map (·.key)).Nodup->(∀e∈es,e.key∈m.map (·.key))->∀e,e∈bp m es↔e∈es\/(e∈m/\e.key∉es.map (·.key))
 |[],m,_,_,_,e=>by simp[bp]
 |x::r,m,hm,A8,A0,e=>by
  simp only[acT,List.nodup_cons]at A8;rw[bp,Cs r (Mem.set m x) (by rw[Mem.fM];exact hm) A8.2 (λe he=>by rw[Mem.fM];exact A0 e (by simp[he])),Mem.mem_set hm];have N:=A0 x (by simp);constructor
  ·rintro (h|⟨⟨rfl,_⟩|⟨h,U⟩,AL⟩)
   ·left;simp[h]
   ·left;simp
   ·right;exact⟨h,by simp only[acT,aak,ak0];exact⟨U,AL⟩⟩
  ·rintro (h|⟨h,AL⟩)
   ·rcases aak.1 h with rfl|h
    ·right;exact⟨.inl ⟨rfl,N⟩,A8.1⟩
    ·left;exact h
   ·simp only[acT,aak,ak0]at AL;right;exact⟨.inr ⟨h,AL.1⟩,AL.2⟩
def base(m:Mem)(d:Nat):List Nat->List Nat
 |[]=>[]
 |k::r=>(match Mem.get m k with|some e=>e.ak+d|none=>0)::base m d r
theorem Bh(m:Mem)(d:Nat):∀(l:List Nat)(i:Nat),(base m d l)[i]?=(l[i]?).map λk=>match Mem.get m k with|some e=>e.ak+d|none=>0
 |[],i=>by simp[base]
 |k::r,i=>by cases i with|zero=>simp[base]|succ i=>simp[base,Bh m d r i]
theorem pH(m:Mem)(d:Nat):∀(l:List Nat),(base m d l).length=l.length
 |[]=>rfl
 |k::r=>by simp[base,pH m d r]
def gk:Nat->Nat->Nat:=λ_ _=>0
def kz(φ:bE)(G:Fr)(m:Mem)(ρ B:List Nat):Fr:=⟨λb=>Fo G φ m b/\¬yl φ m ρ b/\¬yl φ m B b,[]⟩
section
variable {φ:bE} {G:Fr} {m:Mem} {w:World} {ρ B:List Nat}
theorem EW(hm:a7 φ G m w)(A8:ρ.Nodup)(AR:∀k∈ρ,(Mem.get m k).isSome=true):
 a7 (φ.gx ρ gk) (kz φ G m ρ B) (cZ 0 (dM m ρ (λk=>B.contains k) gk 0 ρ)) w/\
  (∀y v,az φ w (Fo G φ m) y v->az (φ.gx ρ gk) w (Fo (kz φ G m ρ B) (φ.gx ρ gk) (cZ 0 (dM m ρ (λk=>B.contains k) gk 0 ρ))) (vw m ρ (λk=>B.contains k) gk y) v)/\
  (∀b,Fo (kz φ G m ρ B) (φ.gx ρ gk) (cZ 0 (dM m ρ (λk=>B.contains k) gk 0 ρ)) b->Fo G φ m b):=
 zQ hm A8 AR (λb h=>h.1) (λb h AZ=>AZ.2.1 h) (λk e L b B6 _ A3 E I AZ=>AZ.2.2 ⟨k,by simpa using A3,e,L,B6,E,I⟩)
theorem az.upR{φ φ':bE}{ρ A:List Nat}{w F F' x v}(h:az φ w F x v)(A_:∀i L,φ i=some L->φ' (ρ.getD i 0)=some {L with ak:=A.getD i 0+L.ak})
 (O:(∀b,F' b->F b)\/di x=true):az φ' w F' (up ρ A x) v:=by
 have Aj:∀{d v},aI w F d v->((∀b,F' b->F b)\/gI d=true)->aI w F' d v:=λh O=>by
  rcases O with O|O
  ·exact h.mono (λ_ _ _=>rfl) (aae _) (λb _=>O b)
  ·exact h.plain O
 induction h with
 |aX v=>exact .aX v
 |d x v h=>exact .d x v (Aj h (O.imp id (by simp[di])))
 |agg cs a A7 A1 _ ih=>
  refine .agg _ a (by rw[ky];exact A7) A1 (λi c v M V=>?_);rw[rO]at M;obtain⟨y,A4,rfl⟩:=aaf.1 M;exact ih i y v A4 V (O.imp id λT=>j2 (by simpa only[di]using T) y (aah A4))
 |ptr k ak off v L E V h A1=>exact .ptr _ _ off v _ (A_ k L E) (by simp only;omega) (λhe=>h (by simp only at he;omega)) A1
 |vec k ak off len v L E V h A1=>exact .vec _ _ off len v _ (A_ k L E) (by simp only;omega) (λhe=>h (by simp only at he;omega)) A1
 |ck k ak i j v L E V h A1=>exact .ck _ _ i j v _ (A_ k L E) (by simp only;omega) (λhe=>h (by simp only at he;omega)) A1
 |dp x j b off B7 A3 B8 N M=>
  rcases O with O|O
  ·exact .dp x j b off B7 A3 (λh=>B8 (O b h)) (N.mono (λ_ _ _=>rfl) (aae _) (λb _=>O b)) M
  ·simp[di]at O
 |fn f cap a AY A7 _ ih=>
  refine .fn f _ a AY (by rw[ky];exact A7) (λi c v M V=>?_);rw[rO]at M;obtain⟨y,A4,rfl⟩:=aaf.1 M;exact ih i y v A4 V (O.imp id λT=>j2 (by simpa only[di]using T) y (aah A4))
 |qP f cap a A7 _ ih=>
  refine .qP f _ a (by rw[ky];exact A7) (λi c v M V=>?_);rw[rO]at M;obtain⟨y,A4,rfl⟩:=aaf.1 M;exact ih i y v A4 V (O.imp id λT=>j2 (by simpa only[di]using T) y (aah A4))
 |bM vs a A7 _ ih=>
  refine .bM _ a (by rw[ky];exact A7) (λi c v M V=>?_);rw[rO]at M;obtain⟨y,A4,rfl⟩:=aaf.1 M;exact ih i y v A4 V (O.imp id λT=>j2 (by simpa only[di]using T) y (aah A4))
 |fL t x v h=>exact .fL t x v (Aj h (O.imp id (by simp[di])))
 |lit v h=>exact .lit v h
 |nn a cap=>exact .nn a cap
 |err t v=>exact .err t v
theorem oY{ρ A L c b}:(Cq ρ A c).cC L b↔c.cC L b:=by cases c<;>exact Iff.rfl
theorem EX(h:a7 φ G m w)(A8:ρ.Nodup)(AR:∀k∈ρ,(Mem.get m k).isSome=true){fr:List Nat}(B9:fr.Nodup)(Ak:∀k∈fr,(Mem.get m k).isSome=true/\k∉ρ)
 {q:bE} {J:List (Nat×ax)} {A5:World} (AS:a7 q (kz φ G m ρ B) (cZ 0 J) A5)
 (A0:aO (φ.gx ρ gk) (cZ 0 (dM m ρ (λk=>B.contains k) gk 0 ρ)) w q (cZ 0 J) A5) (BA:J.length=ρ.length+fr.length)
 (BB:B=[]\/∀e∈J,kL e.2=true):
 ∃φ':bE,a7 φ' G (bp m (gV (ρ++fr) (base m 0 ρ++base m 1 fr) 0 J)) A5/\aO φ m w φ' (bp m (gV (ρ++fr) (base m 0 ρ++base m 1 fr) 0 J)) A5/\
  ∀x v,(B=[]\/di x=true)->az q A5 (Fo (kz φ G m ρ B) q (cZ 0 J)) x v->
   az φ' A5 (Fo G φ' (bp m (gV (ρ++fr) (base m 0 ρ++base m 1 fr) 0 J))) (up (ρ++fr) (base m 0 ρ++base m 1 fr) x) v:=by
 obtain⟨H,AF⟩:∃H,H=ρ++fr:=⟨_,rfl⟩;obtain⟨A,Aa⟩:∃A,A=base m 0 ρ++base m 1 fr:=⟨_,rfl⟩;rw[<-AF,<-Aa];have Al:H.Nodup:=by
  rw[AF,List.nodup_append];exact⟨A8,B9,λa BC b A3 BD=>(Ak b A3).2 (BD▸BC)⟩
 have BE:J.length=H.length:=by rw[AF,ab1];exact BA
 have An:∀k∈H,(Mem.get m k).isSome=true:=λk Y=>by
  rw[AF]at Y;rcases abO.1 Y with A1|A1
  ·exact AR k A1
  ·exact (Ak k A1).1
 have Ao:∀k∈H,k∈m.map (·.key):=λk Y=>by
  obtain⟨e,he⟩:=aj9.1 (An k Y);obtain⟨hm,rfl⟩:=Mem.get_mem he;exact abW hm
 obtain⟨φ',Ap⟩:∃φ':bE,φ'=λk=>match jL H k 0 with|some i=>(q i).map (λL=>{L with ak:=A.getD i 0+L.ak})|none=>φ k:=⟨_,rfl⟩
 have BF:∀{i},i<H.length->H[i]?=some (H.getD i 0):=λhi=>by simp[hi]
 have BG:∀{i},i<H.length->φ' (H.getD i 0)=(q i).map (λL=>{L with ak:=A.getD i 0+L.ak}):=λhi=>by
  simp only[Ap,RA Al (BF hi)]
 have A9:∀{k},k∉H->φ' k=φ k:=λY=>by simp only[Ap,jd.2 Y]
 have BH:∀{i L},q i=some L->i<H.length:=λE=>by
  have:=AS.oA _ _ E;rw[oX]at this;simp[List.mem_range']at this;omega
 have A6:∀i L,q i=some L->φ' (H.getD i 0)=some {L with ak:=A.getD i 0+L.ak}:=λi L E=>by
  rw[BG (BH E),E];rfl
 --BI entries behind
 have AA:=Cs (gV H A 0 J) m h.nodup;have Aq:(gV H A 0 J).map (·.key)=H:=by
  rw[Cr,BE];apply List.ext_getElem?;intro i;by_cases hi:i<H.length
  ·simp[hi]
  ·rw[afs (by simp;omega),afs (by omega)]
 rw[Aq]at AA;replace AA:=AA Al (λe he=>Ao e.key (by rw[<-Aq];exact abW he));have AK:∀{e},e∈gV H A 0 J->∃j v c L,j<H.length/\J[j]?=some (v,c)/\e=⟨H.getD j 0,A.getD j 0+v,Cq H A c⟩/\q j=some L/\L.ak=v/\dD q A5 (Fo (kz φ G m ρ B) q (cZ 0 J)) L c:=by
  intro e he;obtain⟨j,v,c,Z,rfl⟩:=tA.1 he;have AM:=(aaa.1 Z).1;obtain⟨L,E,AB,M⟩:=AS.fw ⟨0+j,v,c⟩ (j1.2 ⟨j,v,c,Z,rfl⟩);simp only[adj]at E⊢;exact⟨j,v,c,L,by omega,Z,rfl,E,AB,M⟩
 have AN:=u9 (φ:=φ) (nv:=gk) (bor:=λk=>B.contains k) AR;have Ab:∀b,gQ φ' (bp m (gV H A 0 J)) b↔gQ q (cZ 0 J) b\/∃e∈m,e.key∉H/\∃L,φ e.key=some L/\e.cont.cC L b:=by
  intro b;constructor
  ·rintro ⟨e,he,L,E,I⟩;rcases (AA e).1 he with he|⟨he,U⟩
   ·obtain⟨j,v,c,A',AM,Z,rfl,A2,AB,M⟩:=AK he;left;simp only[A6 j A' A2,aas]at E;subst E;exact⟨⟨0+j,v,c⟩,j1.2 ⟨j,v,c,Z,rfl⟩,A',by simpa using A2,jA.1 (oY.1 I)⟩
   ·right;exact⟨e,he,U,L,by rw[<-A9 U];exact E,I⟩
  ·rintro (⟨BS,AO,L,E,I⟩|⟨e,he,U,L,E,I⟩)
   ·obtain⟨j,v,c,Z,rfl⟩:=j1.1 AO;simp only[adj]at E;exact⟨⟨H.getD j 0,A.getD j 0+v,Cq H A c⟩,(AA _).2 (.inl (tA.2 ⟨j,v,c,Z,by simp⟩)),_,A6 j L E,oY.2 (jA.2 I)⟩
   ·exact⟨e,(AA _).2 (.inr ⟨he,U⟩),L,by rw[A9 U];exact E,I⟩
 have Ac:∀{k},k∉H->k∉ρ:=λY A1=>Y (by rw[AF];exact aj5 _ A1)
 --BT entry beside shares no block with BI BU
 have Ad:∀e∈m,e.key∉ρ->∀L b,φ e.key=some L->e.cont.cC L b->¬yl φ m ρ b:=λe he U L b E I=>
  Co h (Mem.get_of_mem h.nodup he) E I U
 have hle:φ.le φ':=by
  intro k L E;by_cases Y:k∈H
  ·obtain⟨i,hi,rfl⟩:=ak8.1 Y;have Ar:H.getD i 0=H[i]:=by simp[hi]
   obtain⟨e,he⟩:=aj9.1 (An _ Y);obtain⟨_,_,BV,As,AB,_⟩:=h.get he;rw[E]at As;cases As;by_cases At:i<ρ.length
   ·have AT:ρ[i]?=some H[i]:=by simp only[AF];rw[List.getElem_append_left At];simp
    have Au:A.getD i 0=L.ak:=by
     rw[Aa,afB,aao (by rw[pH];exact At),Bh,AT];simp[he,AB]
    obtain⟨L',AC,BW,BJ⟩:=A0.le i {L with ak:=0} (by simp[bE.gx,AT,E,gk]);refine⟨{L' with ak:=A.getD i 0+L'.ak},by rw[<-Ar];exact A6 i L' AC,by simp only;omega,λAO=>?_⟩;simp only at AO;have AP:=BJ (by simp only;omega);have g1:=aeT Loc.ak AP;have g2:=aeT Loc.cS AP;have g3:=aeT Loc.sz AP;have g4:=aeT Loc.cap AP;have g5:=aeT Loc.base AP;simp only at g1 g2 g3 g4 g5⊢;rw[g1,g2,g3,g4,g5,Au,afv]
   ·have BK:i<J.length:=by omega
    obtain⟨L',AD,_,_⟩:=AS.fw ⟨0+i,J[i].1,J[i].2⟩ (j1.2 ⟨i,_,_,by simp[BK],rfl⟩);simp only[adj]at AD;have AT:fr[i-ρ.length]?=some H[i]:=by
     simp only[AF]at hi⊢;rw[List.getElem_append_right (by omega)];simp
    have Au:A.getD i 0=L.ak+1:=by
     rw[Aa,afB,abM (by rw[pH];omega),pH,Bh,AT];simp[he,AB]
    refine⟨{L' with ak:=A.getD i 0+L'.ak},by rw[<-Ar];exact A6 i L' AD,by simp only;omega,λAO=>?_⟩;simp only at AO;omega
  ·exact⟨L,by rw[A9 Y];exact E,aae _,λ_=>rfl⟩
 have Av:∀b,b<w.heap.size->gQ φ' (bp m (gV H A 0 J)) b->gQ φ m b:=by
  intro b A3 Ae;rcases (Ab b).1 Ae with AC|⟨e,he,_,L,E,I⟩
  ·exact ((AN b).1 (A0.own b A3 AC)).own
  ·exact⟨e,he,L,E,I⟩
 have hold:∀b,b<w.heap.size->¬gQ φ m b->A5.heap[b]?=w.heap[b]?:=λb A3 Af=>A0.xU b A3 (λI=>Af ((AN b).1 I).own);have Aw:B=[]->∀b,Fo G φ' (bp m (gV H A 0 J)) b->Fo (kz φ G m ρ B) q (cZ 0 J) b:=by
  rintro rfl b (AE|I)
  ·refine .inl ⟨.inl AE,λI=>h.jQ b I.own AE,?_⟩;rintro ⟨k,Y,_⟩;simp at Y
  ·rcases (Ab b).1 I with AC|⟨e,he,U,L,E,Ax⟩
   ·exact .inr AC
   ·refine .inl ⟨.inr ⟨e,he,L,E,Ax⟩,Ad e he (Ac U) L b E Ax,?_⟩;rintro ⟨k,Y,_⟩;simp at Y
 have Ag:∀x v,(B=[]\/di x=true)->az q A5 (Fo (kz φ G m ρ B) q (cZ 0 J)) x v->az φ' A5 (Fo G φ' (bp m (gV H A 0 J))) (up H A x) v:=
  λx v N AU=>AU.upR A6 (N.imp Aw id)
 have Ay:∀d v,(B=[]\/gI d=true)->aI A5 (Fo (kz φ G m ρ B) q (cZ 0 J)) d v->aI A5 (Fo G φ' (bp m (gV H A 0 J))) d v:=λd v N AU=>by
  rcases N with N|N
  ·exact AU.mono (λ_ _ _=>rfl) (aae _) (λb _=>Aw N b)
  ·exact AU.plain N
 refine⟨φ',⟨?_,?_,?_,?_,?_,?_⟩,⟨hle,hold,Av,A0.size,A0.os,A0.tape,A0.output⟩,Ag⟩
 ·rw[jC];exact h.nodup
 ·intro k L E;rw[jC];by_cases Y:k∈H
  ·exact Ao k Y
  ·rw[A9 Y]at E;exact h.oA k L E
 ·intro e he;rcases (AA e).1 he with he|⟨he,U⟩
  ·obtain⟨j,v,c,A',AM,Z,rfl,A2,AB,M⟩:=AK he;refine⟨_,A6 j A' A2,by simp[AB],?_⟩;have AW:B=[]\/kL c=true:=BB.imp id λT=>T (v,c) (aah Z);cases c with
   |dead=>trivial
   |box cs=>
    obtain⟨g0,arr,elem,g1,g2,g3,g4⟩:=M;refine⟨by simpa [ky]using g0,arr,elem,g1,by simp[ky,g2],g3,λi c v Az V=>?_⟩;rw[rO]at Az;obtain⟨y,A4,rfl⟩:=aaf.1 Az;exact Ag y v (AW.imp id λT=>j2 (by simpa only[kL]using T) y (aah A4)) (g4 i y v A4 V)
   |vec sz ag=>
    obtain⟨g1,g2,g3,g4⟩:=M;refine⟨g1,g2,g3,λBL=>?_⟩;obtain⟨arr,elem,f1,f2,f3,f4⟩:=g4 BL;exact⟨arr,elem,f1,f2,f3,λi d B'=>let ⟨v,V,Z⟩:=f4 i d B';⟨v,Ay d v (AW.imp id λT=>pG (by simpa only[kL]using T) d (aah B')) V,Z⟩⟩
   |vv ag y=>
    refine (jP.mono (up H A) M (λxs BM d O u hu=>Ay d u (AW.imp id λT=>?_) hu) (λx N v V=>Ag x v (AW.imp id λT=>?_) V) (λ_ _=>rfl)).ak _
    ·simp only[kL,Ds,abN]at T;exact pG (T.1 xs BM) d O
    ·simp only[kL,Ds,N]at T;exact T.2
  ·obtain⟨L,E,AB,M⟩:=h.fw e he;refine⟨L,by rw[A9 U];exact E,AB,M.mono hle (λb A3 Af=>hold b A3 (λI=>Af (.inr I))) A0.size (λb A3=>Or.imp id (Av b A3)) (λb I=>?_)⟩;exact A0.xU _ (M.lt I) (λA1=>Ad e he (Ac U) L b E I ((AN _).1 A1))
 ·rintro e he e' AG L L' E AD ⟨b,I,AX⟩;have B0:∀{j v c A' AH AQ},J[j]?=some (v,c)->q j=some A'->c.cC A' b->AH∈m->AH.key∉H->φ AH.key=some AQ->AH.cont.cC AQ b->False:=by
   intro j v c A' AH AQ Z A2 M B1 U B2 B3;have BN:b<w.heap.size:=h.B5 ⟨AH,B1,AQ,B2,B3⟩;have AC:gQ q (cZ 0 J) b:=⟨⟨0+j,v,c⟩,j1.2 ⟨j,v,c,Z,rfl⟩,A',by simpa using A2,M⟩;exact Ad AH B1 (Ac U) AQ b B2 B3 ((AN _).1 (A0.own _ BN AC))
  rcases (AA e).1 he with he|⟨he,U⟩<;>rcases (AA e').1 AG with AG|⟨AG,Ah⟩
  ·obtain⟨j,v,c,A',AM,Z,rfl,A2,_,_⟩:=AK he;obtain⟨Ai,AI,AJ,L2',BX,BO,rfl,B4,_,_⟩:=AK AG;simp only[A6 j A' A2,A6 Ai L2' B4,aas]at E AD;subst E;subst AD;have:=AS.apart ⟨0+j,v,c⟩ (j1.2 ⟨j,v,c,Z,rfl⟩) ⟨0+Ai,AI,AJ⟩ (j1.2 ⟨Ai,AI,AJ,BO,rfl⟩) A' L2' (by simpa using A2) (by simpa using B4) ⟨b,jA.1 (oY.1 I),jA.1 (oY.1 AX)⟩;simp only[adj]at this;rw[this]
  ·obtain⟨j,v,c,A',AM,Z,rfl,A2,_,_⟩:=AK he;simp only[A6 j A' A2,aas]at E;subst E;exact (B0 Z A2 (jA.1 (oY.1 I)) AG Ah (by rw[<-A9 Ah];exact AD) AX).elim
  ·obtain⟨j,v,c,A',AM,Z,rfl,A2,_,_⟩:=AK AG;simp only[A6 j A' A2,aas]at AD;subst AD;exact (B0 Z A2 (jA.1 (oY.1 AX)) he U (by rw[<-A9 U];exact E) I).elim
  ·exact h.apart e he e' AG L L' (by rw[<-A9 U];exact E) (by rw[<-A9 Ah];exact AD) ⟨b,I,AX⟩
 ·intro b Ae AE;rcases (Ab b).1 Ae with AC|⟨e,he,_,L,E,I⟩
  ·exact h.jQ b ((AN b).1 (A0.own b (h.bound b AE) AC)).own AE
  ·exact h.jQ _ ⟨e,he,L,E,I⟩ AE
 ·exact λb AE=>agL (h.bound b AE) A0.size
end
def dy(S AA:St):Prop:=AA.n=S.n/\AA.gl=S.gl/\∀φ G a w,Rel φ G S a w->∃φ',Rel φ' G AA a w/\aO φ S.mem w φ' AA.mem w
theorem dy.refl(S:St):dy S S:=⟨rfl,rfl,λφ _ _ _ h=>⟨φ,h,aO.refl ..⟩⟩
theorem dy.trans{S AA AW:St}(h:dy S AA)(k:dy AA AW):dy S AW:=
 ⟨k.1.trans h.1,k.2.1.trans h.2.1,λφ G a w AB=>by
  obtain⟨Ab,J,Ac⟩:=h.2.2 φ G a w AB;obtain⟨Ad,Ae,Af⟩:=k.2.2 Ab G a w J;exact⟨Ad,Ae,Ac.trans Af⟩⟩
theorem Oo(S:St)(oW:List Nat):dy S (S.prune oW):=⟨rfl,rfl,λφ _ _ _ h=>⟨φ,h.prune oW,aO.refl ..⟩⟩
theorem Hf{w:World}{φ φ':bE}{m m':Mem}(h:∀b,gQ φ' m' b->gQ φ m b)(hle:φ.le φ'):aO φ m w φ' m' w:=
 ⟨hle,λ_ _ _=>rfl,λb _ q=>h b q,aae _,rfl,rfl,rfl⟩
def oZ(A:AV->AV):ax->ax
 | .box cs=>.box (cs.map A)
 | .dead=>.dead
 | .vec sz ag=>.vec sz ag
 | .vv ag y=>.vv ag (y.map A)
def mapM(A:AV->AV)(e':cf):Mem->Mem
 |[]=>[]
 |e::r=>(if e.key=e'.key then e' else ⟨e.key,e.ak,oZ A e.cont⟩)::mapM A e' r
def mO(A:AV->AV):Env->Env
 |[]=>[]
 |(t,g,x)::r=>(t,g,A x)::mO A r
theorem yn(A:AV->AV):∀(env:Env)(t:Nat)(g:Bool)(y:AV),Env.lk (mO A env) t=some (g,y)->∃x,Env.lk env t=some (g,x)/\y=A x
 |[],t,g,y,h=>by simp[mO,Env.lk]at h
 |(Ag,B4,AI)::r,t,g,y,h=>by
  simp only[mO,Env.lk]at h⊢;by_cases AX:Ag=t
  ·subst AX;simp at h⊢;obtain⟨rfl,rfl⟩:=h;simp
  ·simp only[AX,acy]at h⊢;exact yn A r t g y h
theorem yo(A:AV->AV)(e':cf):∀m:Mem,(mapM A e' m).map (·.key)=m.map (·.key)
 |[]=>rfl
 |e::r=>by
  simp only[mapM,acT,yo A e' r];congr 1;split
  ·rename_i h;exact h.symm
  ·rfl
theorem mapM_mem{A:AV->AV}{e':cf}:∀{m:Mem}{x:cf},x∈mapM A e' m↔∃e∈m,x=if e.key=e'.key then e' else ⟨e.key,e.ak,oZ A e.cont⟩
 |[],x=>by simp[mapM]
 |e::r,x=>by simp[mapM,mapM_mem (m:=r)]
theorem ki{A L c b}:(oZ A c).cC L b↔c.cC L b:=by cases c<;>exact Iff.rfl
def St.yp(S:St)(A:AV->AV)(e':cf):St:={S with env:=mO A S.env,mem:=mapM A e' S.mem}
theorem Hg{φ:bE}{G S a w}(h:Rel φ G S a w)(A:AV->AV){e e':cf}(he:e∈S.mem){L L':Loc}(O:φ e.key=some L)(A5:e'.key=e.key)
 (N:L.ak<L'.ak) (Ah:L'.ak=e'.ak) (AY:∀b,e'.cont.cC L' b->e.cont.cC L b)
 (Ai:∀(φ':bE)(F':Nat->Prop),φ' e.key=some L'->(∀k,k≠e.key->φ' k=φ k)->(∀b,F' b->Fo G φ S.mem b)->(∀b,¬e'.cont.cC L' b->e.cont.cC L b->¬F' b)->∀x v,az φ w (Fo G φ S.mem) x v->az φ' w F' (A x) v)
 (E:∀(φ':bE)(F':Nat->Prop),(∀b,F' b->Fo G φ S.mem b)->dD φ' w F' L' e'.cont):
 ∃φ',Rel φ' G (S.yp A e') a w/\aO φ S.mem w φ' (S.yp A e').mem w:=by
 have hm:=h.mem;obtain⟨φ',AZ⟩:∃φ':bE,φ'=λk=>if k=e.key then some L' else φ k:=⟨_,rfl⟩
 have Z:φ' e.key=some L':=by simp[AZ]
 have A':∀k,k≠e.key->φ' k=φ k:=λk H=>by simp[AZ,H]
 have hle:φ.le φ':=by
  intro k AD A4;by_cases H:k=e.key
  ·subst H;rw[O]at A4;cases A4;exact⟨L',Z,by omega,λhh=>by omega⟩
  ·exact⟨AD,by rw[A' k H];exact A4,aae _,λ_=>rfl⟩
 have AN:∀b,gQ φ' (mapM A e' S.mem) b->gQ φ S.mem b:=by
  rintro b ⟨x,T,AM,A0,A6⟩;obtain⟨y,M,rfl⟩:=mapM_mem.1 T;by_cases H:y.key=e'.key
  ·simp only[H,afh]at A0 A6;rw[A5,Z]at A0;cases A0;exact⟨e,he,L,O,AY b A6⟩
  ·simp only[H,acy]at A0 A6;rw[A5]at H;rw[A' _ H]at A0;exact⟨y,M,AM,A0,ki.1 A6⟩
 have U:∀b,Fo G φ' (mapM A e' S.mem) b->Fo G φ S.mem b:=λb=>Or.imp id (AN b);have AO:∀b,¬e'.cont.cC L' b->e.cont.cC L b->¬Fo G φ' (mapM A e' S.mem) b:=by
  rintro b Aj q (Ak|⟨x,T,AM,A0,A6⟩)
  ·exact hm.jQ _ ⟨e,he,L,O,q⟩ Ak
  ·obtain⟨y,M,rfl⟩:=mapM_mem.1 T;by_cases H:y.key=e'.key
   ·simp only[H,afh]at A0 A6;rw[A5,Z]at A0;cases A0;exact Aj A6
   ·simp only[H,acy]at A0 A6;rw[A5]at H;rw[A' _ H]at A0;exact H (hm.apart y M e he AM L A0 O ⟨b,ki.1 A6,q⟩)
 have AP:=Ai φ' (Fo G φ' (mapM A e' S.mem)) Z A' U AO;refine⟨φ',⟨h.size,h.defers,?_,⟨?_,?_,?_,?_,?_,?_⟩,h.jS.mono (λ_ _ _=>rfl) (aae _) (λb _=>U b)⟩,Hf AN hle⟩
 ·intro t x T;obtain⟨y,M,rfl⟩:=yn A S.env t true x T;exact AP _ _ (h.env t y M)
 ·show ((mapM A e' S.mem).map (·.key)).Nodup;rw[yo];exact hm.nodup
 ·intro k AD A4;show k∈(mapM A e' S.mem).map (·.key);rw[yo];by_cases H:k=e.key
  ·subst H;exact abW he
  ·rw[A' k H]at A4;exact hm.oA k AD A4
 ·intro x T;obtain⟨y,M,rfl⟩:=mapM_mem.1 T;by_cases H:y.key=e'.key
  ·simp only[H,afh];exact⟨L',by rw[A5];exact Z,Ah,E _ _ U⟩
  ·simp only[H,acy];obtain⟨Al,An,Ao,AE⟩:=hm.fw y M;refine⟨Al,by rw[A' _ (by rw[<-A5];exact H)];exact An,Ao,?_⟩;cases AQ:y.cont with
   |dead=>trivial
   |box cs=>
    rw[AQ]at AE;obtain⟨g0,arr,elem,g1,g2,g3,g4⟩:=AE;refine⟨by simpa using g0,arr,elem,g1,by simp[g2],g3,λi c v A_ N=>?_⟩;rw[acm]at A_;obtain⟨z,AJ,rfl⟩:=aaf.1 A_;exact AP z v (g4 i z v AJ N)
   |vec sz ag=>
    rw[AQ]at AE;obtain⟨g1,g2,g3,g4⟩:=AE;refine⟨g1,g2,g3,λA4=>?_⟩;obtain⟨arr,elem,f1,f2,f3,f4⟩:=g4 A4;exact⟨arr,elem,f1,f2,f3,λi d Ap=>let ⟨v,N,AR⟩:=f4 i d Ap;⟨v,N.mono (λ_ _ _=>rfl) (aae _) (λb _=>U b),AR⟩⟩
   |vv ag y=>
    rw[AQ]at AE;exact jP.mono A AE (λ_ _ _ _ u hu=>hu.mono (λ_ _ _=>rfl) (aae _) (λb _=>U b)) (λx _ v T=>AP x v T) (λ_ _=>rfl)
 ·rintro x T AI Aq AM B5 A0 Ar ⟨b,q,As⟩;obtain⟨y,M,rfl⟩:=mapM_mem.1 T;obtain⟨B6,At,rfl⟩:=mapM_mem.1 Aq;have pull:∀{z:cf}{AF:Loc},z∈S.mem->φ' (if z.key=e'.key then e' else ⟨z.key,z.ak,oZ A z.cont⟩:cf).key=some AF->(if z.key=e'.key then e' else ⟨z.key,z.ak,oZ A z.cont⟩:cf).cont.cC AF b->
   ∃z0∈S.mem,∃AD,φ z0.key=some AD/\z0.cont.cC AD b/\(if z.key=e'.key then e' else ⟨z.key,z.ak,oZ A z.cont⟩:cf).key=z0.key:=by
   intro z AF AJ A7 AG;by_cases H:z.key=e'.key
   ·simp only[H,afh]at A7 AG⊢;rw[A5,Z]at A7;cases A7;exact⟨e,he,L,O,AY b AG,A5⟩
   ·simp only[H,acy]at A7 AG⊢;rw[A5]at H;rw[A' _ H]at A7;exact⟨z,AJ,AF,A7,ki.1 AG,rfl⟩
  obtain⟨z,AJ,AF,A7,AG,Au⟩:=pull M A0 q;obtain⟨Av,Aw,Ax,Ay,Az,B'⟩:=pull At Ar As;rw[Au,B'];exact hm.apart z AJ Av Aw AF Ax A7 Ay ⟨b,AG,Az⟩
 ·exact λb AK=>hm.jQ b (AN b AK)
 ·exact hm.bound
mutual
def kA(k v off len:Nat):AV->AV
 | .vec A8 A9 o l=>if A8=k/\A9=v/\off<=o/\o+l<=off+len then .vec k (v+1) (o-off) l else .vec A8 A9 o l
 | .ck A8 A9 i j=>if A8=k/\A9=v/\off<=i then .ck k (v+1) (i-off) j else .ck A8 A9 i j
 | .agg cs=>.agg (lY k v off len cs)
 | .fn f cap=>.fn f (lY k v off len cap)
 | .bM vs=>.bM (lY k v off len vs)
 | .aX=>.aX
 | .d x=>.d x
 | .ptr a b c=>.ptr a b c
 | .dp x j=>.dp x j
 | .fL t x=>.fL t x
 | .lit v=>.lit v
 | .nn=>.nn
 | .err=>.err
def lY(k v off len:Nat):List AV->List AV
 |[]=>[]
 |x::r=>kA k v off len x::lY k v off len r
end
theorem qb(k v off len):∀(l:List AV)(i:Nat),(lY k v off len l)[i]?=(l[i]?).map (kA k v off len)
 |[],i=>by simp[lY]
 |x::r,i=>by cases i with|zero=>simp[lY]|succ i=>simp[lY,qb k v off len r i]
theorem lF(k v off len):∀(l:List AV),(lY k v off len l).length=l.length
 |[]=>rfl
 |x::r=>by simp[lY,lF k v off len r]
def St.trim(S:St)(k off len:Nat):St:=
 match Mem.get S.mem k with
 |some ⟨_,v,.vec sz ag⟩=>if off+len<=ag.length then S.yp (kA k v off len) ⟨k,v+1,.vec sz ((ag.drop off).take len)⟩else S
 |_=>S
theorem EY(S:St)(k off len:Nat):dy S (S.trim k off len):=by
 unfold St.trim;split
 ·rename_i key v sz ag AS;split
  ·rename_i hle;refine⟨rfl,rfl,λφ G a w AB=>?_⟩;obtain⟨hm,H,L,O,AH,AL⟩:=AB.mem.get AS;simp only at H AH AL;subst H;obtain⟨g1,g2,g3,g4⟩:=AL;refine Hg AB (kA key v off len) (e:=⟨key,v,.vec sz ag⟩) (e':=⟨key,v+1,.vec sz ((ag.drop off).take len)⟩) hm O rfl (L':=⟨v+1,L.cS,L.sz,L.cap-off,L.base+off*L.sz,[]⟩)
    (by simp only;omega) rfl (λb q=>⟨by have:=q.1;simp only at this;omega,q.2⟩) ?_ ?_
   ·intro φ' F' Z A' U _ x u T;induction T with
    |aX v=>exact .aX v
    |d x v h=>exact .d x v (h.mono (λ_ _ _=>rfl) (aae _) (λb _=>U b))
    |agg cs a A1 J _ ih=>
     refine .agg _ a (by rw[lF];exact A1) J (λi c v E N=>?_);rw[qb]at E;obtain⟨y,M,rfl⟩:=aaf.1 E;exact ih i y v M N
    |ptr V ak o v2 A3 I A2 h J=>
     unfold kA;by_cases Y:V=key
     ·subst Y;rw[O]at I;cases I;exact .ptr _ ak o v2 _ Z (by simp only;omega) (λhe=>by simp only at he;omega) J
     ·exact .ptr V ak o v2 A3 (by rw[A' _ Y];exact I) A2 h J
    |vec V ak o l v2 A3 I A2 h J=>
     unfold kA;split
     ·rename_i E;obtain⟨rfl,rfl,q,Aa⟩:=E;rw[O]at I;cases I;refine .vec _ _ _ l v2 _ Z (aae _) (λ_=>?_) J;obtain⟨a0,cap,rfl,B0,B1⟩:=h AH.symm;refine⟨a0,cap,rfl,B0,λB2=>?_⟩;obtain⟨rfl,B7⟩:=B1 B2;refine⟨?_,by simp only;omega⟩;congr 2;show L.base+o*L.sz=L.base+off*L.sz+(o-off)*L.sz;rw[ack,<-acO];congr 2;omega
     ·by_cases Y:V=key
      ·subst Y;rw[O]at I;cases I;exact .vec _ ak o l v2 _ Z (by simp only;omega) (λhe=>by simp only at he;omega) J
      ·exact .vec V ak o l v2 A3 (by rw[A' _ Y];exact I) A2 h J
    |ck V ak i j v2 A3 I A2 h J=>
     unfold kA;split
     ·rename_i E;obtain⟨rfl,rfl,q⟩:=E;rw[O]at I;cases I;refine .ck _ _ _ j v2 _ Z (aae _) (λ_=>?_) J;rw[h AH.symm];congr 3;show L.base+i*L.sz+j=L.base+off*L.sz+(i-off)*L.sz+j;rw[ack L.base (off*L.sz),<-acO];congr 3;omega
     ·by_cases Y:V=key
      ·subst Y;rw[O]at I;cases I;exact .ck _ ak i j v2 _ Z (by simp only;omega) (λhe=>by simp only at he;omega) J
      ·exact .ck V ak i j v2 A3 (by rw[A' _ Y];exact I) A2 h J
    |dp x j b o AI AK AT T E=>exact .dp x j b o AI AK (λh=>AT (U b h)) (T.mono (λ_ _ _=>rfl) (aae _) (λb _=>U b)) E
    |fn f cap a AU A1 _ ih=>
     refine .fn f _ a AU (by rw[lF];exact A1) (λi c v E N=>?_);rw[qb]at E;obtain⟨y,M,rfl⟩:=aaf.1 E;exact ih i y v M N
    |qP f cap a A1 _ ih=>
     refine .qP f _ a (by rw[lF];exact A1) (λi c v E N=>?_);rw[qb]at E;obtain⟨y,M,rfl⟩:=aaf.1 E;exact ih i y v M N
    |bM vs a A1 _ ih=>
     refine .bM _ a (by rw[lF];exact A1) (λi c v E N=>?_);rw[qb]at E;obtain⟨y,M,rfl⟩:=aaf.1 E;exact ih i y v M N
    |fL t x v h=>exact .fL t x v (h.mono (λ_ _ _=>rfl) (aae _) (λb _=>U b))
    |lit v h=>exact .lit v h
    |nn a cap=>exact .nn a cap
    |err t v=>exact .err t v
   ·intro φ' F' U;refine⟨g1,by simp only[afr,acK];omega,λd AC=>g3 d (acf (aco AC)),λA4=>?_⟩;simp only at A4;obtain⟨arr,elem,f1,f2,f3,f4⟩:=g4 (by omega);refine⟨arr,elem,f1,?_,f3,λi d AC=>?_⟩
    ·rw[f2];show L.base+L.cap*L.sz=L.base+off*L.sz+(L.cap-off)*L.sz;rw[ack,<-acO];congr 2;omega
    ·rw[abK]at AC;split at AC
     ·rw[acr]at AC;obtain⟨v,N,AR⟩:=f4 _ d AC;refine⟨v,N.mono (λ_ _ _=>rfl) (aae _) (λb _=>U b),λj c B3=>?_⟩;have:=AR j c B3;rw[acO]at this;rw[<-ack L.base]at this;exact this
     ·cases AC
  ·exact dy.refl S
 ·exact dy.refl S
mutual
def kB(k v:Nat)(ag:List D):AV->AV
 | .vec A8 A9 o l=>if A8=k/\A9=v/\o+l<=ag.length then .d (.list ((ag.drop o).take l))else .vec A8 A9 o l
 | .agg cs=>.agg (m5 k v ag cs)
 | .fn f cap=>.fn f (m5 k v ag cap)
 | .bM vs=>.bM (m5 k v ag vs)
 | .ck a b c d=>.ck a b c d
 | .aX=>.aX
 | .d x=>.d x
 | .ptr a b c=>.ptr a b c
 | .dp x j=>.dp x j
 | .fL t x=>.fL t x
 | .lit v=>.lit v
 | .nn=>.nn
 | .err=>.err
def m5(k v:Nat)(ag:List D):List AV->List AV
 |[]=>[]
 |x::r=>kB k v ag x::m5 k v ag r
end
theorem qc(k v ag):∀(l:List AV)(i:Nat),(m5 k v ag l)[i]?=(l[i]?).map (kB k v ag)
 |[],i=>by simp[m5]
 |x::r,i=>by cases i with|zero=>simp[m5]|succ i=>simp[m5,qc k v ag r i]
theorem lG(k v ag):∀(l:List AV),(m5 k v ag l).length=l.length
 |[]=>rfl
 |x::r=>by simp[m5,lG k v ag r]
def St.freeze(S:St)(k:Nat):St:=
 match Mem.get S.mem k with
 |some ⟨_,v,.vec _ ag⟩=>S.yp (kB k v ag) ⟨k,v+1,.dead⟩
 |_=>S
theorem JJ(S:St)(k:Nat):dy S (S.freeze k):=by
 unfold St.freeze;split
 ·rename_i key v sz ag AS;refine⟨rfl,rfl,λφ G a w AB=>?_⟩;obtain⟨hm,H,L,O,AH,AL⟩:=AB.mem.get AS;simp only at H AH AL;subst H;refine Hg AB (kB key v ag) (e:=⟨key,v,.vec sz ag⟩) (e':=⟨key,v+1,.dead⟩) hm O rfl (L':={L with ak:=v+1})
   (by simp only;omega) rfl (λ_ q=>q.elim) ?_ (λ_ _ _=>trivial)
  intro φ' F' Z A' U AO x u T;induction T with
  |aX v=>exact .aX v
  |d x v h=>exact .d x v (h.mono (λ_ _ _=>rfl) (aae _) (λb _=>U b))
  |agg cs a A1 J _ ih=>
   refine .agg _ a (by rw[lG];exact A1) J (λi c v E N=>?_);rw[qc]at E;obtain⟨y,M,rfl⟩:=aaf.1 E;exact ih i y v M N
  |ptr V ak o v2 A3 I A2 h J=>
   unfold kB;by_cases Y:V=key
   ·subst Y;rw[O]at I;cases I;exact .ptr _ ak o v2 _ Z (by simp only;omega) (λhe=>by simp only at he;omega) J
   ·exact .ptr V ak o v2 A3 (by rw[A' _ Y];exact I) A2 h J
  |vec V ak o l v2 A3 I A2 h J=>
   unfold kB;split
   ·rename_i E;obtain⟨rfl,rfl,Aa⟩:=E;rw[O]at I;cases I;exact .d _ _ (Bg (.vec _ _ o l v2 L O A2 h J) O AH AL Aa U (λq=>AO _ (λhh=>hh) ⟨q,rfl⟩))
   ·by_cases Y:V=key
    ·subst Y;rw[O]at I;cases I;exact .vec _ ak o l v2 _ Z (by simp only;omega) (λhe=>by simp only at he;omega) J
    ·exact .vec V ak o l v2 A3 (by rw[A' _ Y];exact I) A2 h J
  |ck V ak i j v2 A3 I A2 h J=>
   unfold kB;by_cases Y:V=key
   ·subst Y;rw[O]at I;cases I;exact .ck _ ak i j v2 _ Z (by simp only;omega) (λhe=>by simp only at he;omega) J
   ·exact .ck V ak i j v2 A3 (by rw[A' _ Y];exact I) A2 h J
  |dp x j b o AI AK AT T E=>exact .dp x j b o AI AK (λh=>AT (U b h)) (T.mono (λ_ _ _=>rfl) (aae _) (λb _=>U b)) E
  |fn f cap a AU A1 _ ih=>
   refine .fn f _ a AU (by rw[lG];exact A1) (λi c v E N=>?_);rw[qc]at E;obtain⟨y,M,rfl⟩:=aaf.1 E;exact ih i y v M N
  |qP f cap a A1 _ ih=>
   refine .qP f _ a (by rw[lG];exact A1) (λi c v E N=>?_);rw[qc]at E;obtain⟨y,M,rfl⟩:=aaf.1 E;exact ih i y v M N
  |bM vs a A1 _ ih=>
   refine .bM _ a (by rw[lG];exact A1) (λi c v E N=>?_);rw[qc]at E;obtain⟨y,M,rfl⟩:=aaf.1 E;exact ih i y v M N
  |fL t x v h=>exact .fL t x v (h.mono (λ_ _ _=>rfl) (aae _) (λb _=>U b))
  |lit v h=>exact .lit v h
  |nn a cap=>exact .nn a cap
  |err t v=>exact .err t v
 ·exact dy.refl S
def yq(P:Program)(S:St):ResultVar->cP
 | .tmp t=>.val (S.aq (.tmp t)).1 (S.aq (.tmp t)).2
 | .cell p t=>match lf P S.mem t (S.aq (.tmp p)).2 with
  | .val c x=>.val ((S.aq (.tmp p)).1&&c) x
  |_=>.no
def so(P:Program)(S:St):List ResultVar->Option (Bool×List AV)
 |[]=>some (true,[])
 |r::rs=>match yq P S r with
  | .val c x=>match so P S rs with
   |some (AP,xs)=>some (c&&AP,x::xs)
   |none=>none
  |_=>none
def oneOf:List AV->AV
 |[x]=>x
 |xs=>.bM xs
def yr(tmps:Array Value):ResultVar->Sem Value
 | .tmp t=>pure (tmps.getD t undef)
 | .cell a t=>do loadVar t (<-asAddr (tmps.getD a undef))
theorem Ou{P:Program}{S:St}{r:ResultVar}{c:Bool}{x:AV}(h:yq P S r=.val c x)(J:c=true){φ G a w}(A3:Rel φ G S a w):
 ∃v,(yr a.tmps r).run P w=.ok v w/\az φ w (Fo G φ S.mem) x v:=by
 unfold yq at h;split at h
 ·rename_i t;simp only[cP.val.injEq]at h;obtain⟨rfl,rfl⟩:=h;exact⟨_,rfl,A3.aq (.tmp t) J⟩
 ·rename_i p t;split at h
  ·rename_i AP Ay A4;simp only[cP.val.injEq]at h;obtain⟨rfl,rfl⟩:=h;simp only[Ds]at J;have:=Kb P S {dst:=none,op:=.load t (.tmp p),type:=0,pos:= "",after:=#[],guard:=none} t (.tmp p) rfl J.1;rw[A4]at this;obtain⟨v,U,Ae⟩:=this J.2 φ G a w A3;have Af:a.eval (.tmp p)=a.tmps.getD p undef:=rfl;simp only[execOp,Instr.loadAt,Af]at U;cases AH:a.tmps.getD p undef with
   |pointer AI=>
    rw[AH]at U;cases AI with
    |none=>simp[Instr.sureAddr,stuck]at U
    |some AI=>
     simp only[Instr.sureAddr,Sem.run_bind,Sem.run_pure,Result.andThen_ok]at U;generalize Ag:(loadVar t AI).run P w=q at U;cases q with
     |halt _ _=>simp at U
     |ok v2 Az=>
      simp at U;obtain⟨rfl,rfl⟩:=U;refine⟨v2,?_,Ae⟩;simp only[yr,AH,asAddr,Sem.run_bind,Sem.run_pure,Result.andThen_ok,Ag]
   |_=>rw[AH]at U;simp[Instr.sureAddr,stuck]at U
  ·cases h
theorem vZ{P:Program}{S:St}{φ G a w}(A3:Rel φ G S a w):∀(rs:List ResultVar)(c:Bool)(xs:List AV),so P S rs=some (c,xs)->c=true->
 ∃vs:List Value,(rs.mapM (yr a.tmps)).run P w=.ok vs w/\xs.length=vs.length/\
  ∀(i:Nat) x v,xs[i]?=some x->vs[i]?=some v->az φ w (Fo G φ S.mem) x v
 |[],c,xs,h,_=>by
  simp only[so,aas,ab8]at h;obtain⟨_,rfl⟩:=h;exact⟨[],by simp,rfl,by simp⟩
 |r::rs,c,xs,h,J=>by
  simp only[so]at h;split at h
  ·rename_i B' x H;split at h
   ·rename_i Ah Ai Aj;simp only[aas,ab8]at h;obtain⟨rfl,rfl⟩:=h;simp only[Ds]at J;obtain⟨v,A5,A8⟩:=Ou H J.1 A3;obtain⟨vs,AL,V,A9⟩:=vZ (P:=P) A3 rs Ah Ai Aj J.2;refine⟨v::vs,?_,by simp[V],λi x v h AM=>?_⟩
    ·rw[List.mapM_cons];simp only[Sem.run_bind,A5,Result.andThen_ok,AL,Sem.run_pure]
    ·cases i with
     |zero=>simp at h AM;subst h;subst AM;exact A8
     |succ i=>exact A9 i x v (by simpa using h) (by simpa using AM)
   ·cases h
  ·cases h
mutual
def ln(k v:Nat):AV->Option (Nat×Nat)
 | .vec Ak Al o l=>if Ak=k/\Al=v then some (o,l)else none
 | .agg cs=>qd k v cs
 | .fn _ cap=>qd k v cap
 | .bM vs=>qd k v vs
 | .ck _ _ _ _=>none
 | .aX=>none
 | .d _=>none
 | .ptr _ _ _=>none
 | .dp _ _=>none
 | .fL _ _=>none
 | .lit _=>none
 | .nn=>none
 | .err=>none
def qd(k v:Nat):List AV->Option (Nat×Nat)
 |[]=>none
 |x::r=>match ln k v x with
  |some p=>some p
  |none=>qd k v r
end
def vd(k v:Nat):Mem->Option (Nat×Nat)
 |[]=>none
 |⟨_,_,.box cs⟩::r=>match qd k v cs with
  |some p=>some p
  |none=>vd k v r
 |_::r=>vd k v r
def Cv(k v:Nat):Env->Option (Nat×Nat)
 |[]=>none
 |(_,_,x)::r=>match ln k v x with
  |some p=>some p
  |none=>Cv k v r
def St.v7(S:St)(k:Nat):St:=
 match Mem.get S.mem k with
 |some ⟨_,v,.vec _ _⟩=>match vd k v S.mem with
  |some (o,l)=>S.trim k o l
  |none=>match Cv k v S.env with
   |some (o,l)=>S.trim k o l
   |none=>S
 |_=>S
theorem Cw(S:St)(k:Nat):dy S (S.v7 k):=by
 unfold St.v7;split
 ·split
  ·exact EY ..
  ·split
   ·exact EY ..
   ·exact dy.refl S
 ·exact dy.refl S
def St.wb(S:St):List Nat->St
 |[]=>S
 |k::r=>(S.v7 k).wb r
theorem Cx:∀(l:List Nat)(S:St),dy S (S.wb l)
 |[],S=>dy.refl S
 |k::r,S=>(Cw S k).trans (Cx r _)
mutual
def ib:AV->List Nat
 | .ptr k _ _=>[k]
 | .vec k _ _ _=>[k]
 | .ck k _ _ _=>[k]
 | .agg cs=>j3 cs
 | .fn _ cap=>j3 cap
 | .bM vs=>j3 vs
 | .aX=>[]
 | .d _=>[]
 | .dp _ _=>[]
 | .fL _ _=>[]
 | .lit _=>[]
 | .nn=>[]
 | .err=>[]
def j3:List AV->List Nat
 |[]=>[]
 |x::r=>ib x++j3 r
end
def kC:Option cf->List Nat
 |some ⟨_,_,.box cs⟩=>j3 cs
 |some ⟨_,_,.vv _ (some x)⟩=>ib x
 |_=>[]
def collect(m:Mem):Nat->List Nat->List Nat->List Nat
 |0,_,I=>I
 |_+1,[],I=>I
 |n+1,k::todo,I=>match I.contains k||(Mem.get m k).isNone with
  |true=>collect m n todo I
  |false=>collect m n (todo++kC (Mem.get m k)) (I++[k])
theorem nS(m:Mem):∀(n:Nat)(todo I:List Nat),I.Nodup->(∀k∈I,(Mem.get m k).isSome=true)->(collect m n todo I).Nodup/\∀k∈collect m n todo I,(Mem.get m k).isSome=true
 |0,todo,I,h,A'=>⟨h,A'⟩
 |n+1,[],I,h,A'=>⟨h,A'⟩
 |n+1,k::todo,I,h,A'=>by
  simp only[collect];split
  ·exact nS m n todo I h A'
  ·rename_i J;simp only[Bool.or_eq_false_iff,List.contains_eq_mem,afw,Option.isNone_eq_false_iff]at J;refine nS m n _ _ ?_ ?_
   ·rw[List.nodup_append];exact⟨h,by simp,λa A6 b N AA=>by simp at N;subst N;subst AA;exact J.1 A6⟩
   ·intro x H;rcases abO.1 H with H|H
    ·exact A' x H
    ·simp at H;subst H;exact J.2
def dead(k:Nat):cf:=⟨k,0,.dead⟩
def bE.add(φ:bE)(ks:List Nat):bE:=λk=>if k∈ks then some ⟨0,0,0,0,0,[]⟩else φ k
theorem zR{φ:bE}{m:Mem}{ks:List Nat}(M:∀k∈ks,k∉m.map (·.key))(b:Nat):gQ (φ.add ks) (m++ks.map dead) b↔gQ φ m b:=by
 constructor
 ·rintro ⟨e,he,L,E,O⟩;rcases abO.1 he with he|he
  ·have:e.key∉ks:=λh=>M _ h (abW he);simp only[bE.add,this,acy]at E;exact⟨e,he,L,E,O⟩
  ·simp only[ab9]at he;obtain⟨k,_,rfl⟩:=he;exact O.elim
 ·rintro ⟨e,he,L,E,O⟩;have:e.key∉ks:=λh=>M _ h (abW he);exact⟨e,aj5 _ he,L,by simp[bE.add,this,E],O⟩
theorem acj{φ:bE}{G}{m:Mem}{ks:List Nat}(M:∀k∈ks,k∉m.map (·.key)):Fo G (φ.add ks) (m++ks.map dead)=Fo G φ m:=by
 funext b;simp only[Fo,zR M b]
theorem Hi{φ:bE}{G m w}(h:a7 φ G m w){ks:List Nat}(M:∀k∈ks,k∉m.map (·.key)):φ.le (φ.add ks):=by
 intro k L E;have:k∉ks:=λT=>M k T (h.oA k L E);exact⟨L,by simp[bE.add,this,E],aae _,λ_=>rfl⟩
theorem a7.add{φ G m w}(h:a7 φ G m w){ks:List Nat}(An:ks.Nodup)(M:∀k∈ks,k∉m.map (·.key)):a7 (φ.add ks) G (m++ks.map dead) w:=by
 have hle:=Hi h M;have Ao:=acj (φ:=φ) (G:=G) M;refine⟨?_,?_,?_,?_,?_,h.bound⟩
 ·rw[List.map_append,List.nodup_append];have e:(ks.map dead).map (·.key)=ks:=by simp[Function.comp_def,dead]
  rw[e];exact⟨h.nodup,An,λa A6 b N AA=>M b N (AA▸A6)⟩
 ·intro k L E;simp only[bE.add]at E;split at E
  ·rename_i T;rw[List.map_append];refine List.mem_append_right _ ?_;rw[List.map_map];exact ab9.2 ⟨k,T,rfl⟩
  ·rw[List.map_append];exact aj5 _ (h.oA k L E)
 ·intro e he;rw[Ao];rcases abO.1 he with he|he
  ·obtain⟨L,E,AN,J⟩:=h.fw e he;have:e.key∉ks:=λh=>M _ h (abW he);exact⟨L,by simp[bE.add,this,E],AN,J.mono hle (λ_ _ _=>rfl) (aae _) (λ_ _ h=>h) (λ_ _=>rfl)⟩
  ·simp only[ab9]at he;obtain⟨k,T,rfl⟩:=he;exact⟨⟨0,0,0,0,0,[]⟩,by simp[bE.add,dead,T],rfl,trivial⟩
 ·rintro e he e' Y L L' E AQ ⟨b,O,AR⟩;rcases abO.1 he with he|he
  ·rcases abO.1 Y with Y|Y
   ·have A5:e.key∉ks:=λh=>M _ h (abW he);have A8:e'.key∉ks:=λh=>M _ h (abW Y);simp only[bE.add,A5,A8,acy]at E AQ;exact h.apart e he e' Y L L' E AQ ⟨b,O,AR⟩
   ·simp only[ab9]at Y;obtain⟨k,_,rfl⟩:=Y;exact AR.elim
  ·simp only[ab9]at he;obtain⟨k,_,rfl⟩:=he;exact O.elim
 ·intro b N Ap;exact h.jQ b ((zR M b).1 N) Ap
def gu:Nat->List AV->Env
 |_,[]=>[]
 |i,x::r=>(i,true,x)::gu (i+1) r
theorem wc:∀(i:Nat)(xs:List AV)(t:Nat)(y:Bool×AV),Env.lk (gu i xs) t=some y->∃j,t=i+j/\xs[j]?=some y.2
 |i,[],t,y,h=>by simp[gu,Env.lk]at h
 |i,x::r,t,y,h=>by
  simp only[gu,Env.lk]at h;by_cases A0:i=t
  ·subst A0;simp at h;subst h;exact⟨0,rfl,rfl⟩
  ·simp only[A0,acy]at h;obtain⟨j,rfl,AB⟩:=wc (i+1) r t y h;exact⟨j+1,by omega,by simpa using AB⟩
def dq:Nat->List ax->Mem
 |_,[]=>[]
 |i,c::r=>⟨i,0,c⟩::dq (i+1) r
theorem Hj:∀(cs:List ax)(i:Nat),dq i cs=cZ i (cs.map λc=>(0,c))
 |[],i=>rfl
 |c::r,i=>by simp[dq,cZ,Hj r]
def entry(n:Nat)(gl:List (Nat×D))(args:List AV)(cs:List ax)(sites:List Nat):St:={n,gl,env:=gu 0 args,mem:=dq 0 cs++sites.map dead}
def Cy(A:Nat)(i v:Nat):Nat:=if i<A then (if v=0 then 0 else 1)else 0
structure aw where
 alS:List Nat
 exp:Bool
 sites:List Nat
 uv:List Nat
 split:Bool
def o6(p:aw)(A:Nat)(m:Mem)(xs:List AV):List Nat:=
 match p.exp with
 |true=>List.range A++(collect m 64 (j3 xs++List.range A) []).filter (λk=>!decide (k<A))
 |false=>List.range A
def kQ:Env->List AV
 |[]=>[]
 |(_,_,x)::r=>x::kQ r
def AJ:Bool->AV->AV
 |true,x=>x
 |false,x=>x.norm
theorem az.AJ{b:Bool}{φ w F x v}(h:az φ w F x v):az φ w F (AJ b x) v:=by
 cases b
 ·exact h.norm
 ·exact h
def Hk(b:Bool)(K:List Nat)(A:Nat)(S:St)(one:List AV->Out):Option (Out×List (Nat×ax)):=
 if K.all (λk=>(Mem.get S.mem k).isSome)then some (one ((kQ S.env).map λx=>AJ b (vw S.mem K (λ_=>true) (Cy A) x)),dM S.mem K (λ_=>true) (Cy A) 0 K)else none
def zS(p:aw)(K:List Nat)(S:St):St:=S.wb (K.filter λk=>!p.alS.contains k)
def o7(p:aw)(A:Nat)(S:St)(xs:List AV)(one:List AV->Out):Option (Out×List (Nat×ax)):=
 let K:=o6 p A S.mem xs
 Hk (p.uv.contains 1000) K A (zS p K {S with n:=xs.length,env:=gu 0 xs}) one
def finish(P:Program)(p:aw)(A:Nat)(rs:List ResultVar)(S:St):Option (Out×List (Nat×ax)):=
 match so P S rs with
 |some (c,xs)=>if c=true then o7 p A S xs (λA7=>.ret (oneOf A7))else none
 |none=>none
def we(p:aw)(A:Nat)(t:TypeId)(x:D)(S:St):Option (Out×List (Nat×ax)):=o7 p A S [] (λ_=>.panic t x)
def fa:Env->List (Nat×Bool)
 |[]=>[]
 |(t,g,_)::r=>(t,g)::fa r
theorem AK(AS:AV->AV):∀env:Env,fa (mO AS env)=fa env
 |[]=>rfl
 |(t,g,x)::r=>by simp[mO,fa,AK AS r]
theorem EZ(S:St)(k o l:Nat):fa (S.trim k o l).env=fa S.env:=by
 unfold St.trim;split
 ·split
  ·exact AK _ _
  ·rfl
 ·rfl
theorem Ov(S:St)(k:Nat):fa (S.v7 k).env=fa S.env:=by
 unfold St.v7;split
 ·split
  ·exact EZ ..
  ·split
   ·exact EZ ..
   ·rfl
 ·rfl
theorem Cz:∀(l:List Nat)(S:St),fa (S.wb l).env=fa S.env
 |[],S=>rfl
 |k::r,S=>by rw[St.wb,Cz r,Ov]
theorem CA:∀(i:Nat)(xs:List AV),fa (gu i xs)=(List.range' i xs.length).map λj=>(j,true)
 |i,[]=>rfl
 |i,x::r=>by simp[gu,fa,CA (i+1) r,ajX]
theorem Ku:∀(env:Env)(i n j:Nat),fa env=(List.range' i n).map (λj=>(j,true))->∀x,(kQ env)[j]?=some x->Env.lk env (i+j)=some (true,x)
 |[],i,n,j,_,x,H=>by simp[kQ]at H
 |(t,g,y)::r,i,n,j,h,x,H=>by
  cases n with
  |zero=>simp[fa]at h
  |succ n=>
   simp only[fa,ajX,acT,List.cons.injEq,ab8]at h;obtain⟨⟨rfl,rfl⟩,h⟩:=h;cases j with
   |zero=>simp[kQ]at H;subst H;simp[Env.lk]
   |succ j=>
    have:=Ku r (t+1) n j h x (by simpa [kQ]using H);simp only[Env.lk];rw[aac (by omega),show t+(j+1)=t+1+j by omega];exact this
theorem vf:∀env:Env,(kQ env).length=(fa env).length
 |[]=>rfl
 |(_,_,_)::r=>by simp[kQ,fa,vf r]
theorem F7(p:aw)(A:Nat)(m:Mem)(xs:List AV):(o6 p A m xs).Nodup:=by
 unfold o6;split
 ·rw[List.nodup_append];refine⟨List.nodup_range,((nS m 64 _ [] List.nodup_nil (by simp)).1).filter _,λa A6 b N AA=>?_⟩;simp only[ab3]at A6;simp only[acF,aj8,afw]at N;omega
 ·exact List.nodup_range
theorem JK(p:aw)(A:Nat)(m:Mem)(xs:List AV){k:Nat}(T:k<A):(o6 p A m xs)[k]?=some k:=by
 unfold o6;split
 ·rw[aao (by simpa using T)];simp[T]
 ·simp[T]
theorem rq{p:aw}{A:Nat}{S:St}{xs:List AV}{one:List AV->Out}{out:Out}{l:List (Nat×ax)}(h:o7 p A S xs one=some (out,l))
 {φ:bE} {G:Fr} {w:World} (hm:a7 φ G S.mem w) (AC:ec w (Fo G φ S.mem) S.gl) {vs:List Value} (A4:xs.length=vs.length)
 (H:∀(i:Nat) x v,xs[i]?=some x->vs[i]?=some v->az φ w (Fo G φ S.mem) x v) {φ0:bE} {AT:Mem} {w0:World} (T:aO φ0 AT w0 φ S.mem w) (Aq:∀k L,φ0 k=some L->k<A/\L.ak=0):
 ∃φ' A7,out=one A7/\a7 φ' G (cZ 0 l) w/\aO φ0 AT w0 φ' (cZ 0 l) w/\A7.length=vs.length/\(∀(i:Nat) y v,A7[i]?=some y->vs[i]?=some v->az φ' w (Fo G φ' (cZ 0 l)) y v)/\
  ∀b,Fo G φ' (cZ 0 l) b->Fo G φ S.mem b:=by
 unfold o7 at h;obtain⟨K,AD⟩:∃K,K=o6 p A S.mem xs:=⟨_,rfl⟩;have Ar:K.Nodup:=by rw[AD];exact F7 ..
 have As:∀k,k<A->K[k]?=some k:=λk h=>by rw[AD];exact JK _ _ _ _ h
 simp only[<-AD]at h;clear AD;have At:Rel φ G {S with n:=xs.length,env:=gu 0 xs} {tmps:=vs.toArray,defers:=G.dv} w:=by
  refine⟨by simp[A4],rfl,λt x A0=>?_,hm,AC⟩;obtain⟨j,rfl,AB⟩:=wc 0 xs t _ A0;have AU:j<vs.length:=by rw[<-A4];exact (aaa.1 AB).1
  have e:vs.toArray.getD (0+j) undef=vs[j]:=by simp[AU]
  simp only[e];exact H j x _ AB (by simp[AU])
 obtain⟨A1,AE⟩:∃A1,A1=zS p K {S with n:=xs.length,env:=gu 0 xs}:=⟨_,rfl⟩;have A0:dy {S with n:=xs.length,env:=gu 0 xs} A1:=by rw[AE];exact Cx ..
 have AW:fa A1.env=(List.range' 0 xs.length).map λj=>(j,true):=by
  rw[AE,zS,Cz];exact CA 0 xs
 rw[<-AE]at h;clear AE;obtain⟨AX,AY,AZ⟩:=A0.2.2 φ G _ w At;unfold Hk at h;split at h
 ·rename_i Au;simp only[aas,ab8]at h;obtain⟨rfl,rfl⟩:=h;have AF:=AY.mem;have A_:∀k∈K,(Mem.get A1.mem k).isSome=true:=by simpa using Au
  obtain⟨s1,s2,Av⟩:=zQ (G1:=G) (ρ:=K) (bor:=λ_=>true) (nv:=Cy A) AF Ar A_ (λb h=>.inl h) (λb h=>AF.jQ b h.own)
   (λk e L b AC _ _ E O=>AF.jQ _ ⟨e,(Mem.get_mem AC).1,L,by rw[(Mem.get_mem AC).2];exact E,O⟩)
  have Z:=T.trans AZ;refine⟨AX.gx K (Cy A),_,rfl,s1,⟨?_,Z.xU,?_,Z.size,Z.os,Z.tape,Z.output⟩,?_,?_,?_⟩
  ·intro k L E;obtain⟨AO,AG⟩:=Aq k L E;obtain⟨Aa,A5,A8,AL⟩:=Z.le k L E;refine⟨{Aa with ak:=Cy A k Aa.ak},by simp[bE.gx,As k AO,A5],by simp[AG],λhe=>?_⟩;simp only[Cy,AO,afh,AG]at he;split at he
   ·rename_i Aw;have V:=AL (by rw[AG];exact Aw);have g1:=aeT Loc.ak V;have g2:=aeT Loc.cS V;have g3:=aeT Loc.sz V;have g4:=aeT Loc.cap V;have g5:=aeT Loc.base V;simp only at g1 g2 g3 g4 g5⊢;rw[g1,g2,g3,g4,g5];simp only[Cy,AO,afh,AG]
   ·simp at he
  ·intro b N O;exact Z.own b N ((u9 (φ:=AX) (nv:=Cy A) (bor:=λ_=>true) A_ b).1 O).own
  ·rw[List.length_map,vf,AW];simp[A4]
  ·intro i y v Ab AN;rw[acm]at Ab;obtain⟨x,Ax,rfl⟩:=aaf.1 Ab;have A9:=Ku A1.env 0 xs.length i AW x Ax;rw[adj]at A9;have Ac:=AY.env i x A9;have e:vs.toArray.getD i undef=v:=by simp[AN]
   simp only[e]at Ac;exact (s2 x v Ac).AJ
  ·intro b N;have A2:=Av b N;rcases A2 with A2|A2
   ·exact .inl A2
   ·rcases Nat.lt_or_ge b w.heap.size with Ad|Ad
    ·exact .inr (AZ.own b Ad A2)
    ·exact absurd (AF.B5 A2) (by omega)
 ·cases h
def bP:AV->List Nat
 | .ptr k _ _=>[k]
 | .vec k _ _ _=>[k]
 | .ck k _ _ _=>[k]
 |_=>[]
def rP(S:St):List Operand->List Nat
 |[]=>[]
 |x::r=>bP (S.aq x).2++rP S r
def CB(S:St):Op->List Nat
 | .move _=>[]
 | .assign _=>[]
 |op=>rP S op.operands.toList
def ik(S:St)(o:Oper):List Nat:=keyOf o::CB S o.op
theorem AL{S:St}:∀{l:List Operand}{x:Operand},x∈l->∀k∈bP (S.aq x).2,k∈rP S l
 |[],x,h,_,_=>by simp at h
 |y::r,x,h,k,I=>by
  simp only[rP,abO];rcases aak.1 h with rfl|h
  ·exact .inl I
  ·exact .inr (AL h k I)
section
variable {P:Program} {m m':Mem}
theorem RG{t p}(h:∀k∈bP p,Mem.get m' k=Mem.get m k):lf P m' t p=lf P m t p:=by
 cases p<;>simp_all [lf,bP]
theorem uw{sz x}(h:∀k∈bP x,Mem.get m' k=Mem.get m k):gf m' sz x=gf m sz x:=by
 cases x with
 |vec k ak off len=>simp only[gf,h k (by simp[bP])]
 |d x=>cases x<;>rfl
 |lit v=>unfold gf;split<;>simp_all
 |_=>rfl
theorem Ow{t p x}(h:∀k∈bP p,Mem.get m' k=Mem.get m k):nL P m' t p x=nL P m t p x:=by
 cases p<;>simp_all [nL,bP]
theorem Ox{s f p}(h:∀k∈bP p,Mem.get m' k=Mem.get m k):ny P m' s f p=ny P m s f p:=by
 cases p<;>simp_all [ny,bP]
theorem F8{p}(h:∀k∈bP p,Mem.get m' k=Mem.get m k):iw m' p=iw m p:=by
 cases p<;>simp_all [iw,bP]
theorem Oy{t p i}(h:∀k∈bP p,Mem.get m' k=Mem.get m k):lB P m' t p i=lB P m t p i:=by
 cases p with
 |vec k ak off len=>simp only[lB,h k (by simp[bP])]
 |ptr k ak off=>simp only[lB,h k (by simp[bP])]
 |ck k ak i j=>simp only[lB,h k (by simp[bP])]
 |d x=>cases x<;>rfl
 |_=>rfl
theorem Oz{t p lo hi}(h:∀k∈bP p,Mem.get m' k=Mem.get m k):jZ P m' t p lo hi=jZ P m t p lo hi:=by
 cases p with
 |ck k ak i j=>simp only[jZ,h k (by simp[bP])]
 |vec k ak off len=>simp only[jZ,h k (by simp[bP])]
 |ptr k ak off=>simp only[jZ,h k (by simp[bP])]
 |d x=>cases x<;>rfl
 |_=>rfl
theorem Vp{k c cs}(h:Mem.get m' k=Mem.get m k):qD m' k c cs=qD m k c cs:=by simp only[qD,h]
theorem OA{k t}(h:Mem.get m' k=Mem.get m k):sj P m' k t=sj P m k t:=by simp only[sj,G7,qD,h]
theorem RH{k s d x}(h:Mem.get m' k=Mem.get m k)(A:∀k∈bP x,Mem.get m' k=Mem.get m k):lj P m' k s d x=lj P m k s d x:=by
 have e:=uw (m:=m) (m':=m') (sz:=1) A;cases A0:tk P d<;>cases x with
 |d x=>cases x<;>simp only[lj,A0,e,h]
 |_=>simp only[lj,A0,e]
theorem RJ{k s d x}(h:Mem.get m' k=Mem.get m k)(A:∀k∈bP x,Mem.get m' k=Mem.get m k):rn P m' k s d x=rn P m k s d x:=by
 have e:=RH (P:=P) (s:=s) (d:=d) h A;cases x with
 |vec U ak off len=>simp only[rn,e,A U (by simp[bP])]
 |_=>simp only[rn,e]
theorem RL{k t l c}(h:Mem.get m' k=Mem.get m k):vT P m' k t l c=vT P m k t l c:=by simp only[vT,h]
theorem CC{k t n ps}(h:Mem.get m' k=Mem.get m k):jz P m' k t n ps=jz P m k t n ps:=by simp only[jz,pE,h]
theorem Vq{t x}(h:∀k∈bP x,Mem.get m' k=Mem.get m k):m4 P m' t x=m4 P m t x:=by
 cases x with
 |vec k ak off len=>simp only[m4,h k (by simp[bP])]
 |d x=>cases x<;>rfl
 |lit v=>unfold m4;split<;>simp_all
 |_=>rfl
theorem Vs{u sz V Y s x}(M:∀k∈bP s,Mem.get m' k=Mem.get m k)(A:∀k∈bP x,Mem.get m' k=Mem.get m k):vP P m' u sz V Y s x=vP P m u sz V Y s x:=by
 cases s with
 |vec k ak off len=>
  cases x with
  |vec A4 AD A5 A6=>
   match A5,A6 with
   |0,1=>simp only[vP,M k (by simp[bP]),A A4 (by simp[bP])]
   |0,0=>rfl
   |0,_+2=>rfl
   |_+1,_=>rfl
  |_=>rfl
 |_=>rfl
theorem Vt{P:Program}{m:Mem}{u:TypeId}{sz V:Nat}{Y:D}{s x:AV}{c:Bool}{k v off n:Nat}{e:cf}(h:vP P m u sz V Y s x=.cF c (.vec k v off n) e):k∈bP s:=by
 unfold vP at h;split at h
 ·split at h
  ·cases h;simp[bP]
  ·cases h
 ·cases h
theorem Vu{k t u s x}(h:Mem.get m' k=Mem.get m k)(M:∀k∈bP s,Mem.get m' k=Mem.get m k)(A:∀k∈bP x,Mem.get m' k=Mem.get m k):qF P m' k t u s x=qF P m k t u s x:=by
 unfold qF x9;simp only[uw A,h,Vs M A];cases s with
 |vec k ak off len=>simp only[M k (by simp[bP])]
 |lit v=>
  cases v with
  |slice ao n c=>cases ao<;>cases n<;>cases c<;>simp only
  |_=>rfl
 |_=>rfl
theorem Vv{P:Program}{m:Mem}{A1:Nat}{t u:TypeId}{s x:AV}{c:Bool}{k v off n:Nat}{e:cf}(h:qF P m A1 t u s x=.cF c (.vec k v off n) e):k=A1\/k∈bP s:=by
 unfold qF at h;split at h
 ·split at h
  ·split at h
   ·split at h
    ·split at h
     ·cases h;right;simp[bP]
     ·cases h
    ·split at h
     ·cases h;left;rfl
     ·cases h
    ·cases h
   ·exact .inr (Vt h)
  ·cases h
 ·cases h
theorem RN{P:Program}{m m':Mem}{k t u s x}(h:Mem.get m' k=Mem.get m k)(M:∀k∈bP s,Mem.get m' k=Mem.get m k)(A:∀k∈bP x,Mem.get m' k=Mem.get m k):
 tr m' (Mem.get m' k).isSome k (qF P m' k t u s x)=tr m (Mem.get m k).isSome k (qF P m k t u s x):=by
 rw[Vu h M A,h];unfold tr;generalize A7:qF P m k t u s x=r;split
 ·rename_i c U v n AE AF sz ag;have I:Mem.get m' U=Mem.get m U:=by
   rcases Vv A7 with rfl|I
   ·exact h
   ·exact M _ I
  rw[I]
 ·rfl
theorem E0{k t x}(h:Mem.get m' k=Mem.get m k):rm P m' k t x=rm P m k t x:=by
 unfold rm;simp only[h]
theorem Vw{neg t x v}(h:∀k∈bP x,Mem.get m' k=Mem.get m k):iU P m' neg t x v=iU P m neg t x v:=by
 cases x with
 |vec k ak off len=>unfold iU;simp only[h k (by simp[bP])]
 |ptr k ak off=>unfold iU;simp only[h k (by simp[bP])]
 |d x=>unfold iU;cases x with
  |list xs=>cases xs<;>rfl
  |_=>rfl
 |lit u=>unfold iU;cases u with
  |slice ao n c=>cases ao<;>cases n<;>cases c<;>rfl
  |pointer a=>cases a<;>rfl
  |_=>rfl
 |_=>rfl
theorem RO{t s x}(M:∀k∈bP s,Mem.get m' k=Mem.get m k)(A:∀k∈bP x,Mem.get m' k=Mem.get m k):vU P m' t s x=vU P m t s x:=by
 unfold vU;simp only[uw A];cases s with
 |vec k ak off len=>simp only[M k (by simp[bP])]
 |_=>rfl
end
theorem E1{P:Program}{S H:St}{o:Oper}(A:∀x∈o.op.operands.toList,H.aq x=S.aq x)(I:∀k∈ik S o,Mem.get H.mem k=Mem.get S.mem k):cJ P H o=cJ P S o:=by
 have N:Mem.get H.mem (keyOf o)=Mem.get S.mem (keyOf o):=I _ (by simp[ik]);have J:match o.op with
  | .move _=>True
  | .assign _=>True
  |op=>∀x∈op.operands.toList,∀k∈bP (S.aq x).2,Mem.get H.mem k=Mem.get S.mem k:=by
  unfold ik at I;generalize o.op=op at I;cases op<;>first|trivial|exact λx E k Z=>I k (acI _ (AL E k Z))
 have q:∀(l:List Operand),(∀x∈l,H.aq x=S.aq x)->l.map (λx=>(H.aq x).2)=l.map (λx=>(S.aq x).2):=λl A'=>List.map_congr_left (λx E=>by rw[A' x E]);have A2:∀(l:List (Nat×Operand)),(∀x∈l,H.aq x.2=S.aq x.2)->l.map (λx=>(x.1,(H.aq x.2).2))=l.map (λx=>(x.1,(S.aq x.2).2)):=λl A'=>List.map_congr_left (λx E=>by rw[A' x E]);unfold cJ;generalize AG:o.op=op at A J;cases op with
 |move x=>simp only[A x (by simp[Op.operands]),E0 N]
 |assign x=>simp only[A x (by simp[Op.operands]),E0 N]
 |pick c a b=>simp only[A c (by simp[Op.operands]),A a (by simp[Op.operands]),A b (by simp[Op.operands])]
 |alloc t=>simp only[OA N]
 |box t x=>simp only[A x (by simp[Op.operands]),Vp N]
 |load t x=>simp only[A x (by simp[Op.operands]),RG (J x (by simp[Op.operands]))]
 |store t p x=>simp only[A x (by simp[Op.operands]),A p (by simp[Op.operands]),Ow (J p (by simp[Op.operands]))]
 |fieldAddr s x f=>simp only[A x (by simp[Op.operands]),Ox (J x (by simp[Op.operands]))]
 |nilCheck x=>simp only[A x (by simp[Op.operands]),F8 (J x (by simp[Op.operands]))]
 |indexAddr t x i=>simp only[A x (by simp[Op.operands]),A i (by simp[Op.operands]),Oy (J x (by simp[Op.operands]))]
 |index t x i=>simp only[A x (by simp[Op.operands]),A i (by simp[Op.operands])]
 |slice t x lo hi A8=>
  cases A8 with
  |none=>
   have A9:lo.map (λy=>(H.aq y).2)=lo.map (λy=>(S.aq y).2):=by cases lo with|none=>rfl|some y=>simp[A y (by simp[Op.operands])]
   have AA:hi.map (λy=>(H.aq y).2)=hi.map (λy=>(S.aq y).2):=by cases hi with|none=>rfl|some y=>simp[A y (by simp[Op.operands])]
   simp only[A x (by simp[Op.operands]),A9,AA,Oz (J x (by simp[Op.operands]))]
  |some _=>rfl
 |binOp op t x y AH=>
  have A3:=A x (by simp[Op.operands]);have AB:=A y (by simp[Op.operands]);have Z:=J x (by simp[Op.operands]);simp only
  unfold p8;cases y with
  |const v=>simp only[A3,Vw Z];rfl
  |_=>simp only[A3,AB]
 |unOp op t x=>simp only[A x (by simp[Op.operands])]
 |convert s d x=>simp only[A x (by simp[Op.operands]),RJ N (J x (by simp[Op.operands]))]
 |makeInterface t x=>simp only[A x (by simp[Op.operands])]
 |makeFunc f first cap=>simp only[q cap.toList (λx E=>A x (by simp[Op.operands];right;simpa using E)),q first.toList (λx E=>A x (by simp[Op.operands];left;simpa using E))]
 |makeSlice t l c=>simp only[A l (by simp[Op.operands]),A c (by simp[Op.operands]),RL N]
 |build t ps=>simp only[A2 ps.toList (λx E=>A x.2 (by simp only[Op.operands,List.toList_toArray,ab9];exact⟨x,E,rfl⟩))]
 |buildSlice t n ps=>simp only[A2 ps.toList (λx E=>A x.2 (by simp only[Op.operands,List.toList_toArray,ab9];exact⟨x,E,rfl⟩)),CC N]
 |extract x i=>simp only[A x (by simp[Op.operands])]
 |field s x f=>simp only[A x (by simp[Op.operands])]
 |typeAssert x AI t ok=>simp only[A x (by simp[Op.operands])]
 |call c=>
  obtain⟨callee,args,AC⟩:=c;cases callee with
  |builtin b=>
   have O:∀x∈args.toList,H.aq x=S.aq x:=λx E=>A x (by simp[Op.operands,Call.operands];simpa using E);have T:∀x∈args.toList,∀k∈bP (S.aq x).2,Mem.get H.mem k=Mem.get S.mem k:=λx E=>J x (by simp[Op.operands,Call.operands];simpa using E);simp only
   unfold kr;have em:=q args.toList O;generalize args.toList=AJ at O T em;generalize AC.toList=AK;split
   ·rename_i x t;simp only[O x (by simp),Vq (T x (by simp))]
   ·rename_i s x t u;simp only[O x (by simp),O s (by simp),RN N (T s (by simp)) (T x (by simp))]
   ·rename_i s x t u;simp only[O x (by simp),O s (by simp),RO (T s (by simp)) (T x (by simp))]
   ·simp only[em]
   ·simp only[em]
   ·rename_i x t;simp only[O x (by simp)]
   ·rfl
  |_=>rfl
 |_=>rfl
structure aU where
 ks:List Nat
 es:List cf
 g:Bool
 x:AV
def aU.app(p:aU)(o:Oper)(S:St):St:=({S with mem:=bp S.mem p.es}:St).put o.dst p.g p.x
def XL(all:List Oper)(j:Nat):List Nat:=
 match all[j]? with
 |some o=>match o.dst with|some t=>[t]|none=>[]
 |none=>[]
def looks(all:List Oper)(o:Oper):List Nat:=
 (o.op.operands.toList.filterMap λ| .tmp t=>some t|_=>none)++(match o.guard with|some (j,_)=>XL all j|none=>[])
structure jM(all:List Oper)(o:Oper)(ks:List Nat)(E S:St):Prop where
 n:E.n=S.n
 gl:E.gl=S.gl
 keys:E.mem.map (·.key)=S.mem.map (·.key)
 env:∀t∈looks all o,Env.lk E.env t=Env.lk S.env t
 mem:∀k∈ks,Mem.get E.mem k=Mem.get S.mem k
def jN(P:Program)(all:List Oper)(S:St)(o:Oper)(p:aU):Prop:=
 ∀E,jM all o p.ks E S->∀φ G a w,Rel φ G E a w->∀(next:Act->World->Prop)(R:Exit->Act->World->Prop),
  (∀φ' A7 w',Rel φ' G (p.app o E) A7 w'->aO φ E.mem w φ' (p.app o E).mem w'->next A7 w')->
  if Region.wanted o (yielded all.toArray a.tmps)then o.wp P a w next R else next (a.put o.dst undef) w
def rr(P:Program)(Z:Mem->Prop)(all:List Oper)(S:St)(o:Oper)(p:aU):Prop:=
 ∀E,jM all o p.ks E S->Z E.mem->∀φ G a w,Rel φ G E a w->∀(next:Act->World->Prop)(R:Exit->Act->World->Prop),
  (∀φ' A7 w',Rel φ' G (p.app o E) A7 w'->aO φ E.mem w φ' (p.app o E).mem w'->next A7 w')->
  if Region.wanted o (yielded all.toArray a.tmps)then o.wp P a w next R else next (a.put o.dst undef) w
theorem jN.toI{P:Program}{Z:Mem->Prop}{all:List Oper}{S:St}{o:Oper}{p:aU}(h:jN P all S o p):rr P Z all S o p:=λE AQ _=>h E AQ
inductive Cert(P:Program)(Z:Mem->Prop)(all:List Oper):List Oper->St->List aU->St->Prop
 |nil (S):Cert P Z all [] S [] S
 |cons (o rest S p ps S1) (J:∀e∈p.es,e.key∈p.ks) (B4:∀m,Z m->Z (bp m p.es)) (h:rr P Z all S o p) (A3:Cert P Z all rest (p.app o S) ps S1):Cert P Z all (o::rest) S (p::ps) S1
def dV(o:Oper):List Nat:=(o.after.toList.filter (Region.binds .any)).map (·.on)
def fT:List Oper->List (List Nat)->List (List Nat)
 |[],T=>T
 |o::r,T=>fT r (T++[((dV o).flatMap λp=>p::T.getD p []).eraseDups])
def o9(l r:List Nat):Bool:=l.all λx=>!r.contains x
def yt(all:List Oper)(o N:Oper)(p A2:aU):Bool:=
 o9 o.dst.toList (looks all N)&&o9 N.dst.toList (looks all o)&&o9 o.dst.toList N.dst.toList&&o9 (p.es.map (·.key)) A2.ks&&o9 (A2.es.map (·.key)) p.ks
def Gf(all:List Oper)(ps:List aU)(Ap:List (List Nat))(j:Nat):Bool:=
 match all[j]?,ps[j]? with
 |some o,some p=>(dV o).all (λi=>decide (i<j))&&(List.range j).all λi=>(Ap.getD j []).contains i||(match all[i]?,ps[i]? with
  |some N,some A2=>yt all N o A2 p
  |_,_=>false)
 |_,_=>false
def lZ(all:List Oper)(ps:List aU):Bool:=(List.range all.length).all (Gf all ps (fT all []))
theorem AM:∀(l:List Oper)(T:List (List Nat)),∃r,fT l T=T++r/\r.length=l.length
 |[],T=>⟨[],by simp[fT]⟩
 |o::l,T=>by
  obtain⟨r,I,M⟩:=AM l (T++[((dV o).flatMap λp=>p::T.getD p []).eraseDups]);exact⟨((dV o).flatMap λp=>p::T.getD p []).eraseDups::r,by rw[fT,I,af5,List.singleton_append],by simp[M]⟩
theorem mem_eraseDups{l:List Nat}{x:Nat}:x∈l.eraseDups↔x∈l:=List.mem_eraseDups
theorem E3:∀(l:List Oper)(T:List (List Nat))(j:Nat)(o:Oper),l[j]?=some o->(∀p∈dV o,p<T.length+j)->
 ∀i,i∈(fT l T).getD (T.length+j) []↔∃p∈dV o,i=p\/i∈(fT l T).getD p []
 |[],T,j,o,h,_=>by simp at h
 |x::l,T,j,o,h,H=>by
  simp only[fT];cases j with
  |zero=>
   simp at h;subst h;obtain⟨r,I,_⟩:=AM l (T++[((dV x).flatMap λp=>p::T.getD p []).eraseDups]);rw[I];intro i;have A4:(T++[((dV x).flatMap λp=>p::T.getD p []).eraseDups]++r).getD (T.length+0) []=((dV x).flatMap λp=>p::T.getD p []).eraseDups:=by
    simp[afB,af5]
   rw[A4,mem_eraseDups,List.mem_flatMap];constructor
   ·rintro ⟨p,AB,hi⟩;refine⟨p,AB,?_⟩;have AT:=H p AB;rcases aak.1 hi with rfl|hi
    ·exact .inl rfl
    ·right;rw[afB]at hi⊢;rw[af5,aao (by omega)];exact hi
   ·rintro ⟨p,AB,hi⟩;refine⟨p,AB,?_⟩;have AT:=H p AB;rcases hi with rfl|hi
    ·simp
    ·rw[afB,af5,aao (by omega),<-afB]at hi;exact acI _ hi
  |succ j=>
   have:=E3 l (T++[((dV x).flatMap λp=>p::T.getD p []).eraseDups]) j o (by simpa using h) (λp AB=>by have:=H p AB;simp;omega);simp only[ab1,ab2,afl]at this;rw[show T.length+(j+1)=T.length+(0+1)+j by omega];exact this
theorem jg{all:List Oper}{L:Nat->Prop}(H:∀j o,all[j]?=some o->∀p∈dV o,p<j)(BI:∀j o,all[j]?=some o->L j->∀p∈dV o,L p):
 ∀j,(∃o,all[j]?=some o)->∀i,i∈(fT all []).getD j []->i<j/\((∀o,all[j]?=some o->∀p∈dV o,L p)->L i):=by
 intro j;induction j using Nat.strongRecOn with
 |_ j ih=>
  rintro ⟨o,D⟩ i hi;have AJ:=(E3 all [] j o D (λp AB=>by simpa using H j o D p AB) i);simp only[afl,adj]at AJ;obtain⟨p,AB,h⟩:=AJ.1 hi;have AU:=H j o D p AB;rcases h with rfl|h
  ·exact⟨AU,λhh=>hh o D i AB⟩
  ·have BJ:j<all.length:=(aaa.1 D).1;obtain⟨op,BK⟩:∃op,all[p]?=some op:=⟨all[p],by simp[show p<all.length by omega]⟩;obtain⟨I,M⟩:=ih p AU ⟨op,BK⟩ i h;exact⟨by omega,λhh=>M (λN O q A6=>BI p N O (hh o D p AB) q A6)⟩
def aC(all:List Oper)(ps:List aU)(S:St)(l:List Nat):St:=
 l.foldl (λS i=>match all[i]?,ps[i]? with|some o,some p=>p.app o S|_,_=>S) S
theorem tC(p:aU)(o:Oper)(S:St):(p.app o S).n=S.n:=by simp[aU.app,ll]
theorem qe(p:aU)(o:Oper)(S:St):(p.app o S).gl=S.gl:=by cases h:o.dst<;>simp[aU.app,h,St.put]
theorem Bj(p:aU)(o:Oper)(S:St):(p.app o S).mem.map (·.key)=S.mem.map (·.key):=by simp[aU.app,eD,jC]
theorem sr(p:aU)(o:Oper)(S:St)(t:Nat):Env.lk (p.app o S).env t=if o.dst=some t then some (p.g,p.x)else Env.lk S.env t:=by
 cases A0:o.dst with
 |none=>simp[aU.app,St.put,A0]
 |some d=>
  by_cases h:d=t
  ·subst h;simp[aU.app,St.put,A0,Env.lk]
  ·simp[aU.app,St.put,A0,Env.lk,h]
theorem xH:∀(es:List cf)(m:Mem)(k:Nat),k∉es.map (·.key)->Mem.get (bp m es) k=Mem.get m k
 |[],m,k,_=>rfl
 |e::r,m,k,h=>by
  simp only[acT,aak,ak0]at h;rw[bp,xH r _ k h.2,Mem.nJ (λhe=>h.1 he.symm)]
theorem m6:∀(es:List cf)(m m':Mem)(k:Nat),m.map (·.key)=m'.map (·.key)->(k∈es.map (·.key)\/Mem.get m k=Mem.get m' k)->Mem.get (bp m es) k=Mem.get (bp m' es) k
 |[],m,m',k,_,h=>by simpa [bp]using h
 |e::r,m,m',k,J,h=>by
  simp only[bp];refine m6 r _ _ k (by rw[Mem.fM,Mem.fM,J]) ?_;by_cases he:e.key=k
  ·right;subst he;by_cases Af:e.key∈m.map (·.key)
   ·rw[Mem.nI Af,Mem.nI (J▸Af)]
   ·have B5:∀(m:Mem),e.key∉m.map (·.key)->Mem.get (Mem.set m e) e.key=none:=by
     intro m hm;cases AR:Mem.get (Mem.set m e) e.key with
     |none=>rfl
     |some y=>
      obtain⟨I,M⟩:=Mem.get_mem AR;have:y.key∈(Mem.set m e).map (·.key):=abW I;rw[Mem.fM,M]at this;exact absurd this hm
    rw[B5 m Af,B5 m' (J▸Af)]
  ·rw[Mem.nJ he,Mem.nJ he];rcases h with h|h
   ·simp only[acT,aak]at h;rcases h with h|h
    ·exact absurd h.symm he
    ·exact .inl h
   ·exact .inr h
theorem CD(p:aU)(o:Oper)(S:St)(k:Nat)(h:k∉p.es.map (·.key)):Mem.get (p.app o S).mem k=Mem.get S.mem k:=by
 simp only[aU.app,eD];exact xH _ _ _ h
section
variable {all:List Oper} {ps:List aU} {S:St}
theorem nk(l:List Nat):∀(S:St),(aC all ps S l).n=S.n:=by
 induction l with
 |nil=>exact λ_=>rfl
 |cons i l ih=>
  intro S;have A4:aC all ps S (i::l)=aC all ps (aC all ps S [i]) l:=by simp[aC]
  rw[A4,ih];simp only[aC,af4,agN];split
  ·exact tC ..
  ·rfl
theorem lH(l:List Nat):∀(S:St),(aC all ps S l).gl=S.gl:=by
 induction l with
 |nil=>exact λ_=>rfl
 |cons i l ih=>
  intro S;have A4:aC all ps S (i::l)=aC all ps (aC all ps S [i]) l:=by simp[aC]
  rw[A4,ih];simp only[aC,af4,agN];split
  ·exact qe ..
  ·rfl
theorem dW(l:List Nat):∀(S:St),(aC all ps S l).mem.map (·.key)=S.mem.map (·.key):=by
 induction l with
 |nil=>exact λ_=>rfl
 |cons i l ih=>
  intro S;have A4:aC all ps S (i::l)=aC all ps (aC all ps S [i]) l:=by simp[aC]
  rw[A4,ih];simp only[aC,af4,agN];split
  ·exact Bj ..
  ·rfl
theorem m7(l B6:List Nat)(S:St):aC all ps S (l++B6)=aC all ps (aC all ps S l) B6:=by simp[aC]
theorem tD(t:Nat)(q:Nat->Bool)(l:List Nat):∀(S E:St),(∀i∈l,∀o,all[i]?=some o->o.dst=some t->q i=true)->Env.lk S.env t=Env.lk E.env t->Env.lk (aC all ps S l).env t=Env.lk (aC all ps E (l.filter q)).env t:=by
 induction l with
 |nil=>intro S E _ h;exact h
 |cons i l ih=>
  intro S E A6 h;have A4:aC all ps S (i::l)=aC all ps (aC all ps S [i]) l:=by simp[aC]
  have AX:∀AD∈l,∀o,all[AD]?=some o->o.dst=some t->q AD=true:=λAD Aq=>A6 AD (acI _ Aq);rw[A4];by_cases A5:q i=true
  ·rw[List.filter_cons_of_pos A5];have AK:aC all ps E (i::l.filter q)=aC all ps (aC all ps E [i]) (l.filter q):=by simp[aC]
   rw[AK];refine ih _ _ AX ?_;simp only[aC,af4,agN];split
   ·rw[sr,sr,h]
   ·exact h
  ·rw[akZ A5];refine ih _ _ AX ?_;simp only[aC,af4,agN];split
   ·rename_i o p D H;rw[sr,aac (λA0=>A5 (A6 i (by simp) o D A0)),h]
   ·exact h
theorem l4(k:Nat)(q:Nat->Bool)(l:List Nat):∀(S E:St),(∀i∈l,∀p,ps[i]?=some p->k∈p.es.map (·.key)->q i=true)->S.mem.map (·.key)=E.mem.map (·.key)->Mem.get S.mem k=Mem.get E.mem k->Mem.get (aC all ps S l).mem k=Mem.get (aC all ps E (l.filter q)).mem k:=by
 induction l with
 |nil=>intro S E _ _ h;exact h
 |cons i l ih=>
  intro S E A6 J h;have A4:aC all ps S (i::l)=aC all ps (aC all ps S [i]) l:=by simp[aC]
  have AX:∀AD∈l,∀p,ps[AD]?=some p->k∈p.es.map (·.key)->q AD=true:=λAD Aq=>A6 AD (acI _ Aq);rw[A4];by_cases A5:q i=true
  ·rw[List.filter_cons_of_pos A5];have AK:aC all ps E (i::l.filter q)=aC all ps (aC all ps E [i]) (l.filter q):=by simp[aC]
   rw[AK];refine ih _ _ AX (by rw[dW,dW,J]) ?_;simp only[aC,af4,agN];split
   ·simp only[aU.app,eD];exact m6 _ _ _ k J (.inr h)
   ·exact h
  ·rw[akZ A5];refine ih _ _ AX (by rw[dW,J]) ?_;simp only[aC,af4,agN];split
   ·rename_i o p D H;rw[CD _ _ _ _ (λA0=>A5 (A6 i (by simp) p H A0)),h]
   ·exact h
end
structure fU(E S:St):Prop where
 n:E.n=S.n
 gl:E.gl=S.gl
 mem:E.mem=S.mem
 env:∀t,Env.lk E.env t=Env.lk S.env t
theorem Rel.eqv{φ G S E a w}(h:Rel φ G E a w)(he:fU E S):Rel φ G S a w:=
 ⟨by rw[<-he.n];exact h.size,h.defers,λt x Ag=>by rw[<-he.mem];exact h.env t x (by rw[he.env];exact Ag),by rw[<-he.mem];exact h.mem,by rw[<-he.gl,<-he.mem];exact h.jS⟩
theorem Mem.ext{m m':Mem}(AY:(m.map (·.key)).Nodup)(J:m.map (·.key)=m'.map (·.key))(h:∀k,Mem.get m k=Mem.get m' k):m=m':=by
 induction m generalizing m' with
 |nil=>cases m' with|nil=>rfl|cons _ _=>simp at J
 |cons e r ih=>
  cases m' with
  |nil=>simp at J
  |cons e' Bg=>
   simp only[acT,List.cons.injEq]at J;simp only[acT,List.nodup_cons]at AY;have AL:=h e.key;simp only[Mem.get,afh,J.1]at AL;cases AL;congr 1;refine ih AY.2 J.2 λk=>?_;have:=h k;simp only[Mem.get]at this;by_cases he:e.key=k
   ·subst he;have nn:∀{r:Mem},e.key∉r.map (·.key)->Mem.get r e.key=none:=by
     intro r A3;cases AR:Mem.get r e.key with
     |none=>rfl
     |some y=>obtain⟨I,M⟩:=Mem.get_mem AR;exact absurd (M▸abW I) A3
    rw[nn AY.1,nn (by rw[<-J.2];exact AY.1)]
   ·simpa [he]using this
def gA(n:Nat)(f:Nat->Bool):List Nat:=(List.range n).filter f
theorem AN{j n:Nat}(h:j<n):List.range n=List.range j++j::List.range' (j+1) (n-j-1):=by
 have M:(j::List.range' (j+1) (n-j-1))=List.range' j (n-j):=by
  rw[show n-j=(n-j-1)+1 by omega,ajX];simp
 rw[M,List.range_eq_range',List.range_eq_range'];rw[show List.range' 0 n=List.range' 0 (j+(n-j)) by rw[show j+(n-j)=n by omega]];rw[<-List.range'_append_1];simp
theorem yu{j n:Nat}{f:Nat->Bool}(h:j<n)(AE:f j=false):gA n f=(List.range j).filter f++(List.range' (j+1) (n-j-1)).filter f:=by
 rw[gA,AN h,ajZ,akZ (by simp[AE])]
theorem OB{j n:Nat}{f g:Nat->Bool}(h:j<n)(AR:g j=true)(B7:∀i,i≠j->g i=f i):gA n g=(List.range j).filter f++j::(List.range' (j+1) (n-j-1)).filter f:=by
 rw[gA,AN h,ajZ,List.filter_cons_of_pos AR];congr 1
 ·exact aj6 λi hi=>B7 i (by have:=ab3.1 hi;omega)
 ·congr 1;exact aj6 λi hi=>B7 i (by have:=ak2.1 hi;omega)
theorem qf{l r:List Nat}(h:o9 l r=true){x:Nat}(U:x∈l)(A3:x∈r):False:=by
 have:=abN.1 h x U;simp at this;exact this A3
structure CE(all:List Oper)(o N:Oper)(p A2:aU):Prop where
 a:∀t,o.dst=some t->t∉looks all N
 b:∀t,N.dst=some t->t∉looks all o
 c:∀t,o.dst=some t->N.dst≠some t
 d:∀k∈p.es.map (·.key),k∉A2.ks
 e:∀k∈A2.es.map (·.key),k∉p.ks
theorem JL{all o N p A2}(h:yt all o N p A2=true):CE all o N p A2:=by
 simp only[yt,Ds]at h;obtain⟨⟨⟨⟨I,M⟩,AS⟩,BL⟩,BM⟩:=h;exact⟨λt AO U=>qf I (by simp[AO]) U,λt AO U=>qf M (by simp[AO]) U,λt AO U=>qf AS (x:=t) (by simp[AO]) (by simp[U]),λk J U=>qf BL J U,λk J U=>qf BM J U⟩
section
variable {all:List Oper} {ps:List aU}
theorem dN(h:lZ all ps=true){j:Nat}{o:Oper}(D:all[j]?=some o):∃p,ps[j]?=some p/\(∀i∈dV o,i<j)/\
 ∀i,i<j->i∈(fT all []).getD j []\/∃N A2,all[i]?=some N/\ps[i]?=some A2/\CE all N o A2 p:=by
 have V:j<all.length:=(aaa.1 D).1;have I:=abN.1 h j (ab3.2 V);unfold Gf at I;rw[D]at I;cases H:ps[j]? with
 |none=>rw[H]at I;simp at I
 |some p=>
  rw[H]at I;simp only[Ds,abN,aag,ago,ab3]at I;refine⟨p,rfl,I.1,λi hi=>?_⟩;rcases I.2 i hi with M|M
  ·exact .inl (by simpa using M)
  ·right;split at M
   ·rename_i N A2 O AA;exact⟨N,A2,O,AA,JL M⟩
   ·cases M
theorem Cert.at{P:Program}{Z:Mem->Prop}{rest:List Oper}{S0 S:St}{Ar:List aU}{S1:St}(h:Cert P Z all rest S Ar S1):∀(pre:List Oper)(pp:List aU),pre.length=pp.length->all=pre++rest->ps=pp++Ar->aC all ps S0 (List.range pre.length)=S->
 aC all ps S0 (List.range all.length)=S1/\ps.length=all.length/\∀j o p,pre.length<=j->all[j]?=some o->ps[j]?=some p->(∀e∈p.es,e.key∈p.ks)/\(∀m,Z m->Z (bp m p.es))/\rr P Z all (aC all ps S0 (List.range j)) o p:=by
 induction h with
 |nil S=>
  intro pre pp U AQ AZ Ah;simp only[afn]at AQ AZ;subst AQ AZ;refine⟨Ah,U.symm,λj o p V D _=>?_⟩;rw[afs (by omega)]at D;cases D
 |cons o rest S p Ar S1 J B4 A_ A3 ih=>
  intro pre pp U AQ AZ Ah;have A4:all[pre.length]?=some o:=by rw[AQ];simp
  have AK:ps[pre.length]?=some p:=by rw[AZ,U];simp
  obtain⟨I,M,AS⟩:=ih (pre++[o]) (pp++[p]) (by simp[U]) (by rw[AQ];simp) (by rw[AZ];simp) (by
   rw[ab1,acS,List.range_succ,m7,Ah];simp[aC,A4,AK])
  refine⟨I,M,λj N A2 V O AA=>?_⟩;rcases Nat.eq_or_lt_of_le V with rfl|V
  ·rw[A4]at O;rw[AK]at AA;cases O;cases AA;exact⟨J,B4,by rw[Ah];exact A_⟩
  ·exact AS j N A2 (by simp;omega) O AA
variable {S:St} {f:Nat->Bool}
def nU(all:List Oper)(f:Nat->Bool):Prop:=∀j o,all[j]?=some o->f j=true->∀p∈dV o,f p=true
theorem pI(Ai:ps.length=all.length)(A8:lZ all ps=true)(AG:nU all f){j:Nat}{o:Oper}{p:aU}(D:all[j]?=some o)(H:ps[j]?=some p)(V:f j=false)(Aj:∀i∈dV o,f i=true):
 jM all o p.ks (aC all ps S (gA all.length f)) (aC all ps S (List.range j)):=by
 have AT:j<all.length:=(aaa.1 D).1;have Ak:∀j o,all[j]?=some o->∀p∈dV o,p<j:=λj o D=>(dN A8 D).choose_spec.2.1;obtain⟨Bh,B8,_,BN⟩:=dN A8 D;rw[H]at B8;cases B8
 --Bi Bm ahead of j is A
 have B9:∀i∈(fT all []).getD j [],i<j/\f i=true:=λi hi=>by
  obtain⟨I,M⟩:=jg (L:=λi=>f i=true) Ak (λj o D AE=>AG j o D AE) j ⟨o,D⟩ i hi;exact⟨I,M λN O=>by rw[D]at O;cases O;exact Aj⟩
 let q:Nat->Bool:=λi=>(fT all []).getD j [] |>.contains i
 have A6:∀i,q i=true↔i∈(fT all []).getD j []:=λi=>by simp[q]
 --any other A one,and any other ahead in BO text,is apart
 have BA:∀i,(i<j\/(j<i/\f i=true))->q i=false->∀A' pi,all[i]?=some A'->ps[i]?=some pi->CE all A' o pi p\/CE all o A' p pi:=by
  rintro i (hi|⟨hi,AW⟩) A5 A' pi Y A1
  ·rcases BN i hi with h|⟨N,A2,O,AA,h⟩
   ·rw[(A6 i).2 h]at A5;cases A5
   ·rw[Y]at O;rw[A1]at AA;cases O;cases AA;exact .inl h
  ·obtain⟨BP,Aa,_,As⟩:=dN A8 Y;rw[A1]at Aa;cases Aa;rcases As j hi with h|⟨N,A2,O,AA,h⟩
   ·have:=(jg (L:=λi=>f i=true) Ak (λj o D AE=>AG j o D AE) i ⟨A',Y⟩ j h).2 (λN O=>by rw[Y]at O;cases O;exact AG i A' Y AW);simp[V]at this
   ·rw[D]at O;rw[H]at AA;cases O;cases AA;exact .inr h
 have BB:(gA all.length f).filter q=(List.range j).filter q:=by
  rw[yu AT V,ajZ,ajY,ajY];have:(List.range' (j+1) (all.length-j-1)).filter (λa=>q a&&f a)=[]:=by
   rw[agk];intro i hi;have:=(ak2.1 hi).1;simp only[Ds,not_and];intro A5;have:=(B9 i ((A6 i).1 A5)).1;omega
  rw[this,afn];refine aj6 λi hi=>?_;cases A5:q i with
  |false=>rfl
  |true=>simp[(B9 i ((A6 i).1 A5)).2]
 have U:∀i∈gA all.length f,i<j\/(j<i/\f i=true):=λi hi=>by
  have AW:=(acF.1 hi).2;rcases Nat.lt_trichotomy i j with h|h|h
  ·exact .inl h
  ·subst h;simp[V]at AW
  ·exact .inr ⟨h,AW⟩
 have A3:∀i∈List.range j,i<j\/(j<i/\f i=true):=λi hi=>.inl (ab3.1 hi);refine⟨by rw[nk,nk],by rw[lH,lH],by rw[dW,dW],λt AO=>?_,λk J=>?_⟩
 ·have key:∀l:List Nat,(∀i∈l,i<j\/(j<i/\f i=true))->∀i∈l,∀A',all[i]?=some A'->A'.dst=some t->q i=true:=by
   intro l U i hi A' Y A0;cases A5:q i with
   |true=>rfl
   |false=>
    obtain⟨pi,A1,_⟩:=dN A8 Y;rcases BA i (U i hi) A5 A' pi Y A1 with h|h
    ·exact absurd AO (h.a t A0)
    ·exact absurd AO (h.b t A0)
  rw[tD t q _ S S (key _ U) rfl,tD t q (List.range j) S S (key _ A3) rfl,BB]
 ·have key:∀l:List Nat,(∀i∈l,i<j\/(j<i/\f i=true))->∀i∈l,∀pi,ps[i]?=some pi->k∈pi.es.map (·.key)->q i=true:=by
   intro l U i hi pi A1 A0;cases A5:q i with
   |true=>rfl
   |false=>
    have Al:i<ps.length:=(aaa.1 A1).1;cases Y:all[i]? with
    |none=>
     rw[List.getElem?_eq_none_iff]at Y;omega
    |some A'=>
     rcases BA i (U i hi) A5 A' pi Y A1 with h|h
     ·exact absurd J (h.d k A0)
     ·exact absurd J (h.e k A0)
  rw[l4 k q _ S S (key _ U) rfl rfl,l4 k q (List.range j) S S (key _ A3) rfl rfl,BB]
theorem wg(Ai:ps.length=all.length)(A8:lZ all ps=true)(AG:nU all f)(At:∀(j:Nat) (p:aU),ps[j]?=some p->∀e∈p.es,e.key∈p.ks)(Au:(S.mem.map (·.key)).Nodup){j:Nat}{o:Oper}{p:aU}(D:all[j]?=some o)(H:ps[j]?=some p)(V:f j=false){g:Nat->Bool}(AR:g j=true)(BQ:∀i,i≠j->g i=f i):
 fU (p.app o (aC all ps S (gA all.length f))) (aC all ps S (gA all.length g)):=by
 have AT:j<all.length:=(aaa.1 D).1;have Ak:∀j o,all[j]?=some o->∀p∈dV o,p<j:=λj o D=>(dN A8 D).choose_spec.2.1;have Av:∀i∈(List.range' (j+1) (all.length-j-1)).filter f,∀A' pi,all[i]?=some A'->ps[i]?=some pi->CE all o A' p pi:=by
  intro i hi A' pi Y A1;obtain⟨hi,AW⟩:=acF.1 hi;have Bn:=(ak2.1 hi).1;obtain⟨BP,Aa,_,As⟩:=dN A8 Y;rw[A1]at Aa;cases Aa;rcases As j (by omega)with h|⟨N,A2,O,AA,h⟩
  ·have:=(jg (L:=λi=>f i=true) Ak (λj o D AE=>AG j o D AE) i ⟨A',Y⟩ j h).2 (λN O=>by rw[Y]at O;cases O;exact AG i A' Y AW);simp[V]at this
  ·rw[D]at O;rw[H]at AA;cases O;cases AA;exact h
 rw[OB AT AR BQ,yu AT V];generalize BR:(List.range j).filter f=AC;generalize BS:(List.range' (j+1) (all.length-j-1)).filter f=AF at Av;have BT:∀i∈AC++AF,i≠j:=by
  intro i hi;rw[<-BR,<-BS]at hi;rcases abO.1 hi with h|h
  ·have:=ab3.1 (acF.1 h).1;omega
  ·have:=(ak2.1 (acF.1 h).1).1;omega
 have BU:∀{i pi},ps[i]?=some pi->∃A',all[i]?=some A':=λ{i pi} h=>by
  have:=(aaa.1 h).1;exact⟨all[i]'(by omega),acu _⟩
 let q:Nat->Bool:=λi=>i != j
 have BC:(AC++j::AF).filter q=AC++AF:=by
  rw[ajZ,akZ (by simp[q]),<-ajZ,List.filter_eq_self];intro i hi;simpa [q]using BT i hi
 have BD:∀S,aC all ps S (AC++j::AF)=aC all ps (p.app o (aC all ps S AC)) AF:=λS=>by
  rw[m7];simp[aC,D,H]
 have BV:(p.app o (aC all ps S (AC++AF))).mem.map (·.key)=(aC all ps S (AC++j::AF)).mem.map (·.key):=by
  rw[Bj,dW,dW]
 refine⟨by rw[tC,nk,nk],by rw[qe,lH,lH],Mem.ext (by rw[Bj,dW];exact Au) BV λk=>?_,λt=>?_⟩
 ·by_cases J:k∈p.es.map (·.key)
  ·have I:Mem.get (p.app o (aC all ps S (AC++AF))).mem k=Mem.get (p.app o (aC all ps S AC)).mem k:=by
    simp only[aU.app,eD];exact m6 _ _ _ k (by rw[dW,dW]) (.inl J)
   rw[I,BD];rw[l4 k (λ_=>false) AF _ (p.app o (aC all ps S AC)) ?_ rfl rfl]
   ·rw[agk.2 (by simp)];rfl
   ·intro i hi pi A1 AH;obtain⟨A',Y⟩:=BU A1;have:=(Av i hi A' pi Y A1).e k AH;obtain⟨e,he,rfl⟩:=ab9.1 J;exact absurd (At j p H e he) this
  ·rw[CD _ _ _ _ J,l4 k q (AC++j::AF) S S ?_ rfl rfl,BC];intro i hi pi A1 AH;by_cases Ab:i=j
   ·subst Ab;rw[H]at A1;cases A1;exact absurd AH J
   ·simpa [q]using Ab
 ·rw[sr];by_cases A0:o.dst=some t
  ·rw[aal A0,BD];rw[tD t (λ_=>false) AF _ (p.app o (aC all ps S AC)) ?_ rfl]
   ·rw[agk.2 (by simp)];simp[aC,sr,A0]
   ·intro i hi A' Y Aw;obtain⟨pi,A1,_⟩:=dN A8 Y;exact absurd Aw ((Av i hi A' pi Y A1).c t A0)
  ·rw[aac A0,tD t q (AC++j::AF) S S ?_ rfl,BC];intro i hi A' Y Aw;by_cases Ab:i=j
   ·subst Ab;rw[D]at Y;cases Y;exact absurd Aw A0
   ·simpa [q]using Ab
theorem OD{P:Program}{S0 S1:St}{φ0:bE}{G:Fr}{w0:World}{Q:Exit->Act->World->Prop}{Z:Mem->Prop}(Ax:Z S0.mem)(Ac:Cert P Z all all S0 ps S1)(A8:lZ all ps=true)(Au:(S0.mem.map (·.key)).Nodup)
 (Ay:∀φ' A7 w',Rel φ' G S1 A7 w'->aO φ0 S0.mem w0 φ' S1.mem w'->Q .normal A7 w'):
 ∀(fuel:Nat)(A:Array Bool) φ a w,A.size=all.length->nU all (λi=>A.getD i false)->Rel φ G (aC all ps S0 (gA all.length λi=>A.getD i false)) a w->aO φ0 S0.mem w0 φ (aC all ps S0 (gA all.length λi=>A.getD i false)).mem w->
  ((List.range all.length).filter λi=>!A.getD i false).length<=fuel->wpAny P .any all.toArray Q fuel A a w:=by
 obtain⟨Az,Ai,A_⟩:=Cert.at (ps:=ps) (S0:=S0) Ac [] [] rfl rfl rfl rfl;have At:∀(j:Nat)(p:aU),ps[j]?=some p->∀e∈p.es,e.key∈p.ks:=λj p H=>by
  have BJ:j<ps.length:=(aaa.1 H).1;exact (A_ j (all[j]'(by omega)) p (by simp) (by simp) H).1
 have BW:∀l:List Nat,Z (aC all ps S0 l).mem:=by
  have key:∀(l:List Nat)(S:St),Z S.mem->Z (aC all ps S l).mem:=by
   intro l;induction l with
   |nil=>exact λ_ h=>h
   |cons i l ih=>
    intro S h;have A4:aC all ps S (i::l)=aC all ps (aC all ps S [i]) l:=by simp[aC]
    rw[A4];refine ih _ ?_;simp only[aC,af4,agN];split
    ·rename_i o p D H;simp only[aU.app,eD];exact (A_ i o p (by simp) D H).2.1 _ h
    ·exact h
  exact λl=>key l S0 Ax
 --BO first Bo Bp A is ready
 have first:∀(f:Nat->Bool)(n:Nat),n<=all.length->(∀i,i<n->f i=true)\/∃i,i<n/\f i=false/\∀AD,AD<i->f AD=true:=by
  intro f n;induction n with
  |zero=>exact λ_=>.inl (λi hi=>by omega)
  |succ n ih=>
   intro AY;rcases ih (by omega)with h|⟨i,I,M,AS⟩
   ·cases AE:f n with
    |true=>
     refine .inl λi hi=>?_;rcases Nat.lt_succ_iff_lt_or_eq.1 hi with B'|B'
     ·exact h i B'
     ·rw[B'];exact AE
    |false=>exact .inr ⟨n,by omega,AE,h⟩
   ·exact .inr ⟨i,by omega,M,AS⟩
 have done:∀(A:Array Bool) φ a w,A.size=all.length->Rel φ G (aC all ps S0 (gA all.length λi=>A.getD i false)) a w->aO φ0 S0.mem w0 φ (aC all ps S0 (gA all.length λi=>A.getD i false)).mem w->Region.ready .any all.toArray A=[]->Q .normal a w:=by
  intro A φ a w Ad A3 J An;have BX:∀i,i<all.length->A.getD i false=true:=by
   rcases first (λi=>A.getD i false) all.length (aae _)with h|⟨i,I,M,AS⟩
   ·exact h
   ·exfalso;have:i∈Region.ready .any all.toArray A:=by
     rw[mem_ready];refine⟨?_,all[i],by simp[I],λe he B0=>?_⟩
     ·have:i<A.size:=by omega
      simp only[abF,afb this,acR]at M⊢;exact M
     ·obtain⟨p,_,H,_⟩:=dN A8 (show all[i]?=some all[i] by simp[I]);exact AS e.on (H e.on (by
       simp only[dV,ab9,acF];exact⟨e,⟨by simpa using he,B0⟩,rfl⟩))
    rw[An]at this;cases this
  have U:(gA all.length λi=>A.getD i false)=List.range all.length:=by
   rw[gA,List.filter_eq_self];intro i hi;exact BX i (ab3.1 hi)
  rw[U,Az]at A3 J;exact Ay φ a w A3 J
 intro fuel;induction fuel with
 |zero=>
  intro A φ a w Ad AG A3 J AE;have An:Region.ready .any all.toArray A=[]:=by
   cases h:Region.ready .any all.toArray A with
   |nil=>rfl
   |cons i r=>
    exfalso;have hi:i∈Region.ready .any all.toArray A:=by rw[h];simp
    rw[mem_ready]at hi;obtain⟨AL,o,D,_⟩:=hi;have Al:i<all.length:=by
     have:=(acs.1 D).1;simpa using this
    have Ae:A.getD i false=false:=by
     have:i<A.size:=by omega
     simp only[abF,afb this,acR]at AL⊢;exact AL
    have:i∈(List.range all.length).filter λi=>!A.getD i false:=acF.2 ⟨ab3.2 Al,by simp[Ae]⟩;have:=List.length_pos_of_mem this;omega
  exact⟨An,done A φ a w Ad A3 J An⟩
 |succ fuel ih=>
  intro A φ a w Ad AG A3 J AE;refine⟨done A φ a w Ad A3 J,λi hi=>?_⟩;rw[mem_ready]at hi;obtain⟨AL,o,D,BY⟩:=hi;have O:all[i]?=some o:=by simpa using D
  have Al:i<all.length:=(aaa.1 O).1;have BE:i<A.size:=by omega
  have Ae:A.getD i false=false:=by
   simp only[abF,afb BE,acR]at AL⊢;exact AL
  have Aj:∀k∈dV o,A.getD k false=true:=by
   intro k AP;simp only[dV,ab9,acF]at AP;obtain⟨e,⟨he,B0⟩,rfl⟩:=AP;exact BY e (by simpa using he) B0
  obtain⟨p,H,_⟩:=dN A8 O;obtain⟨Bq,_,BZ⟩:=A_ i o p (by simp) O H;have B_:=pI (S:=S0) Ai A8 AG O H Ae Aj;have B1:(A.setIfInBounds i true).getD i false=true:=by simp[BE]
  have Ao:∀k,k≠i->(A.setIfInBounds i true).getD k false=A.getD k false:=λk AP=>getD_set_ne false (agh AP);have heq:=wg (S:=S0) (f:=λi=>A.getD i false) (g:=λk=>(A.setIfInBounds i true).getD k false) Ai A8 AG At Au O H Ae B1 Ao;have Ba:nU all (λk=>(A.setIfInBounds i true).getD k false):=by
   intro k ok B2 Bb x Ag;by_cases BF:x=i
   ·subst BF;exact B1
   ·show (A.setIfInBounds i true).getD x false=true;rw[Ao x BF];by_cases AH:k=i
    ·subst AH;rw[O]at B2;cases B2;exact Aj x Ag
    ·exact AG k ok B2 ((Ao k AH).symm.trans Bb) x Ag
  have Bc:((List.range all.length).filter λk=>!(A.setIfInBounds i true).getD k false).length<=fuel:=by
   have I:(List.range all.length).filter (λk=>!(A.setIfInBounds i true).getD k false)=((List.range all.length).filter λk=>!A.getD k false).filter (λk=>k != i):=by
    rw[ajY];refine aj6 λk _=>?_;by_cases AH:k=i
    ·subst AH;rw[B1];simp
    ·rw[Ao k AH];simp[AH]
   have Bd:i∈(List.range all.length).filter λk=>!A.getD k false:=acF.2 ⟨ab3.2 Al,by simp[Ae]⟩;rw[I];have:(((List.range all.length).filter λk=>!A.getD k false).filter (λk=>k != i)).length<((List.range all.length).filter λk=>!A.getD k false).length:=by
    rw[akY];exact⟨i,Bd,by simp⟩
   omega
  have AJ:=BZ _ B_ (BW _) φ G a w A3 (wpAny P .any all.toArray Q fuel (A.setIfInBounds i true)) Q (λφ' A7 w' B3 AP=>
   ih _ φ' A7 w' (by simpa using Ad) Ba (B3.eqv heq) (by rw[<-heq.mem];exact J.trans AP) Bc)
  unfold wpOp;rw[D];simp only
  split at AJ
  ·rename_i hw;rw[aal hw];exact .inl AJ
  ·rename_i hw;rw[aac hw];exact AJ
end
theorem JM{P:Program}{S S1:St}{id:Nat}{ops:List Oper}{ps:List aU}{Z:Mem->Prop}(Ax:Z S.mem)(hm:P.follows .mixedOrders=true)(Ac:Cert P Z ops ops S ps S1)(A8:lZ ops ps=true){φ G a w}(A3:Rel φ G S a w){Q:Exit->Act->World->Prop}
 (Ay:∀φ' A7 w',Rel φ' G S1 A7 w'->aO φ S.mem w φ' S1.mem w'->Q .normal A7 w'):(Code.region id ops.toArray true).wp P Q a w:=by
 refine wp_region_any hm ?_;have Be:Rel φ G S a {w with drawn:=w.drawn+1}:=A3.grow (λ_ _=>rfl) (aae _);have BG:(gA ops.length λi=>(Array.replicate ops.length false).getD i false)=[]:=by
  rw[gA,agk];intro i hi;simp[abF,ab3.1 hi]
 refine OD (S0:=S) (φ0:=φ) (w0:=w) (G:=G) Ax Ac A8 A3.mem.nodup (λφ' A7 w' B3 AP=>Ay φ' A7 w' B3 AP) _ _ φ a _ (by simp) ?_ ?_ ?_ ?_
 ·intro j o _ V;exfalso;simp only[abF]at V;by_cases h:j<ops.length
  ·simp[h]at V
  ·simp[h]at V
 ·simp only[acJ];rw[BG];exact Be
 ·simp only[acJ];rw[BG];exact aO.grow (λ_ _=>rfl) (aae _) rfl rfl rfl
 ·simp only[acJ];exact aj4 (List.length_filter_le _ _) (by simp)
theorem acq{P:Program}{Z:Mem->Prop}{ops:List Oper}{S S1:St}{ps:List aU}(Ac:Cert P Z ops ops S ps S1):S1.n=S.n/\S1.gl=S.gl:=by
 obtain⟨Az,_,_⟩:=Cert.at (ps:=ps) (S0:=S) Ac [] [] rfl rfl rfl rfl;rw[<-Az];exact⟨nk ..,lH ..⟩
def Bk(all:List Oper)(o N:Oper):Bool:=o9 o.dst.toList (looks all N)&&o9 N.dst.toList (looks all o)&&o9 o.dst.toList N.dst.toList
def yA(all:List Oper)(A9:List (List Nat))(Ap:List (List Nat))(j:Nat):Bool:=
 match all[j]? with
 |some o=>(dV o).all (λi=>decide (i<j))&&(List.range j).all λi=>(Ap.getD j []).contains i||(match all[i]? with
  |some N=>Bk all N o&&((A9.getD i []).contains j&&(A9.getD j []).contains i)
  |none=>false)
 |none=>false
def Bl(all:List Oper)(A9:List (List Nat)):Bool:=(List.range all.length).all (yA all A9 (fT all []))
def DW(ps:List aU)(es:List cf):List Nat->Bool
 |[]=>true
 |j::r=>(match ps[j]? with|some q=>o9 (es.map (·.key)) q.ks|none=>false)&&DW ps es r
def DX(ps:List aU)(AI:List Nat):List cf->Bool
 |[]=>true
 |e::es=>DW ps (e::es) AI
def wh(ps:List aU):List (List Nat)->List aU->Bool
 |_,[]=>true
 |[],p::r=>DX ps [] p.es&&wh ps [] r
 |AI::A9,p::r=>DX ps AI p.es&&wh ps A9 r
def nW(A9:List (List Nat))(ps:List aU):Bool:=wh ps A9 ps
theorem pb{ps:List aU}:∀{A9:List (List Nat)}{l:List aU},wh ps A9 l=true->∀i p,l[i]?=some p->DX ps (A9.getD i []) p.es=true
 |_,[],_,i,p,H=>by simp at H
 |[],q::r,h,i,p,H=>by
  simp only[wh,Ds]at h;cases i with
  |zero=>simp at H;subst H;simpa using h.1
  |succ i=>have:=pb h.2 i p (by simpa using H);simpa using this
 |AI::A9,q::r,h,i,p,H=>by
  simp only[wh,Ds]at h;cases i with
  |zero=>simp at H;subst H;simpa using h.1
  |succ i=>have:=pb h.2 i p (by simpa using H);simpa using this
theorem Hq{ps:List aU}{es:List cf}:∀{AI:List Nat},DW ps es AI=true->∀j∈AI,∀q,ps[j]?=some q->o9 (es.map (·.key)) q.ks=true
 |[],_,j,V,_,_=>by simp at V
 |k::r,h,j,V,q,A6=>by
  simp only[DW,Ds]at h;rcases aak.1 V with rfl|V
  ·have:=h.1;rw[A6]at this;exact this
  ·exact Hq h.2 j V q A6
theorem wi{ps:List aU}{AI:List Nat}:∀{es:List cf},DX ps AI es=true->∀j∈AI,∀q,ps[j]?=some q->o9 (es.map (·.key)) q.ks=true
 |[],_,_,_,_,_=>rfl
 |_::_,h,j,V,q,A6=>Hq h j V q A6
theorem RR{all:List Oper}{A9:List (List Nat)}{ps:List aU}(AJ:Bl all A9=true)(A0:nW A9 ps=true)(U:ps.length=all.length):lZ all ps=true:=by
 unfold lZ;refine abN.2 λj V=>?_;have I:=abN.1 AJ j V;have Bf:j<all.length:=ab3.1 V;unfold yA at I;unfold Gf;have AU:ps[j]?=some (ps[j]'(by omega)):=by simp[U,Bf]
 rw[AU];cases D:all[j]? with
 |none=>rw[D]at I;cases I
 |some o=>
  rw[D]at I;simp only[Ds,abN,aag,ago,ab3]at I⊢;refine⟨I.1,λi hi=>?_⟩;rcases I.2 i hi with M|M
  ·exact .inl M
  ·right;have A1:ps[i]?=some (ps[i]'(by omega)):=by simp[show i<ps.length by omega]
   cases Y:all[i]? with
   |none=>rw[Y]at M;cases M
   |some N=>
    rw[Y]at M;rw[A1];simp only[Ds]at M;simp only[yt];have A4:=wi (pb A0 i _ A1) j (by simpa using M.2.1) _ AU;have AK:=wi (pb A0 j _ AU) i (by simpa using M.2.2) _ A1;have BH:=M.1;simp only[Bk,Ds]at BH;simp only[Ds];exact⟨⟨BH,A4⟩,AK⟩
def Bm(all:List Oper):Prop:=∀i,i+1<all.length->i∈(fT all []).getD (all.length-1) []
theorem AO{all:List Oper}{AY:List (List Nat)}(T:Bl all AY=true)(AZ:AY.getD (all.length-1) []=[]):Bm all:=by
 intro i hi;have J:=abN.1 T (all.length-1) (ab3.2 (by omega));unfold yA at J;rw[acu (by omega)]at J;simp only[Ds,abN,ago,ab3]at J;rcases J.2 i (by omega)with D|D
 ·simpa using D
 ·rw[acu (by omega)]at D;simp only[Ds]at D;have:=D.2.2;rw[AZ]at this;cases this
def AP:aU:=⟨[],[],false,.aX⟩
section
variable {all:List Oper} {ps:List aU}
theorem Cert.at2{P:Program}{H:Mem->Prop}{rest:List Oper}{S0 S:St}{O:List aU}{S1:St}(h:Cert P H all rest S O S1):∀(pre:List Oper)(pp:List aU)(AB:List Oper)(AC:List aU),pre.length=pp.length->all=pre++rest++AB->ps=pp++O++AC->aC all ps S0 (List.range pre.length)=S->
 aC all ps S0 (List.range (pre.length+rest.length))=S1/\O.length=rest.length/\∀j o p,pre.length<=j->j<pre.length+rest.length->all[j]?=some o->ps[j]?=some p->(∀e∈p.es,e.key∈p.ks)/\(∀m,H m->H (bp m p.es))/\rr P H all (aC all ps S0 (List.range j)) o p:=by
 induction h with
 |nil S=>
  intro pre pp AB AC A6 AI Z AD;exact⟨by simpa using AD,rfl,λj o p U AJ _=>by simp at AJ;omega⟩
 |cons o rest S p O S1 y Ao A7 Y ih=>
  intro pre pp AB AC A6 AI Z AD;have A':all[pre.length]?=some o:=by rw[AI];simp
  have A_:ps[pre.length]?=some p:=by rw[Z,A6];simp
  obtain⟨J,D,A8⟩:=ih (pre++[o]) (pp++[p]) AB AC (by simp[A6]) (by rw[AI];simp) (by rw[Z];simp) (by
   rw[ab1,acS,List.range_succ,m7,AD];simp[aC,A',A_])
  refine⟨by rw[<-J];simp;congr 2;omega,by simp[D],λj Aa Ap U AJ M AK=>?_⟩;rcases Nat.eq_or_lt_of_le U with rfl|U
  ·rw[A']at M;rw[A_]at AK;cases M;cases AK;exact⟨y,Ao,by rw[AD];exact A7⟩
  ·exact A8 j Aa Ap (by simp;omega) (by simp at AJ⊢;omega) M AK
theorem OE{P:Program}{S0 S1:St}{φ0:bE}{G:Fr}{w0:World}{Q:Exit->Act->World->Prop}{H:Mem->Prop}{init:List Oper}{ol:Oper}(A0:all=init++[ol])(AL:Bm all)(AM:H S0.mem){O:List aU}(AN:Cert P H all init S0 O S1)(Z:ps=O++[AP])(q:lZ all ps=true)(Aq:(S0.mem.map (·.key)).Nodup)
 (AQ:∀φ a w,Rel φ G S1 a w->aO φ0 S0.mem w0 φ S1.mem w->∀next:Act->World->Prop,(∀I w',Q .normal I w'->next I w')->if Region.wanted ol (yielded all.toArray a.tmps)then ol.wp P a w next Q else next (a.put ol.dst undef) w):
 ∀(fuel:Nat)(A:Array Bool) φ a w,A.size=all.length->A.getD init.length false=false->nU all (λi=>A.getD i false)->Rel φ G (aC all ps S0 (gA all.length λi=>A.getD i false)) a w->aO φ0 S0.mem w0 φ (aC all ps S0 (gA all.length λi=>A.getD i false)).mem w->
  ((List.range all.length).filter λi=>!A.getD i false).length<=fuel->wpAny P .any all.toArray Q fuel A a w:=by
 obtain⟨Ar,Ab,A7⟩:=Cert.at2 (ps:=ps) (S0:=S0) AN [] [] [ol] [AP] rfl (by simp[A0]) (by simp[Z]) rfl;have AR:all.length=init.length+1:=by rw[A0];simp
 have Ac:ps.length=all.length:=by rw[Z,AR];simp[Ab]
 have AS:all[init.length]?=some ol:=by rw[A0];simp
 have Ad:ps[init.length]?=some AP:=by rw[Z,<-Ab];simp
 have As:∀(j:Nat)(p:aU),ps[j]?=some p->∀e∈p.es,e.key∈p.ks:=λj p E=>by
  have B9:j<ps.length:=(aaa.1 E).1;by_cases U:j<init.length
  ·exact (A7 j (all[j]'(by omega)) p (by simp) (by simpa using U) (by simp) E).1
  ·have:j=init.length:=by omega
   subst this;rw[Ad]at E;cases E;simp[AP]
 have At:∀j o,all[j]?=some o->∀p∈dV o,p<j:=λj o N=>(dN q N).choose_spec.2.1;have Au:∀l:List Nat,H (aC all ps S0 l).mem:=by
  have key:∀(l:List Nat)(S:St),H S.mem->H (aC all ps S l).mem:=by
   intro l;induction l with
   |nil=>exact λ_ h=>h
   |cons i l ih=>
    intro S h;have A':aC all ps S (i::l)=aC all ps (aC all ps S [i]) l:=by simp[aC]
    rw[A'];refine ih _ ?_;simp only[aC,af4,agN];split
    ·rename_i o p N E;simp only[aU.app,eD];have AE:i<all.length:=(aaa.1 N).1;by_cases hi:i<init.length
     ·exact (A7 i o p (by simp) (by simpa using hi) N E).2.1 _ h
     ·have:i=init.length:=by omega
      subst this;rw[Ad]at E;cases E;exact h
    ·exact h
  exact λl=>key l S0 AM
 have first:∀(f:Nat->Bool)(n:Nat),n<=all.length->(∀i,i<n->f i=true)\/∃i,i<n/\f i=false/\∀Ae,Ae<i->f Ae=true:=by
  intro f n;induction n with
  |zero=>exact λ_=>.inl (λi hi=>by omega)
  |succ n ih=>
   intro AZ;rcases ih (by omega)with h|⟨i,J,D,A8⟩
   ·cases A1:f n with
    |true=>
     refine .inl λi hi=>?_;rcases Nat.lt_succ_iff_lt_or_eq.1 hi with AT|AT
     ·exact h i AT
     ·rw[AT];exact A1
    |false=>exact .inr ⟨n,by omega,A1,h⟩
   ·exact .inr ⟨i,by omega,D,A8⟩
 have Av:∀(A:Array Bool),A.size=all.length->Region.ready .any all.toArray A=[]->∀i,i<all.length->A.getD i false=true:=by
  intro A A2 A3;rcases first (λi=>A.getD i false) all.length (aae _)with h|⟨i,J,D,A8⟩
  ·exact h
  ·exfalso;have:i∈Region.ready .any all.toArray A:=by
    rw[mem_ready];refine⟨?_,all[i],by simp[J],λe he AU=>?_⟩
    ·have:i<A.size:=by omega
     simp only[abF,afb this,acR]at D⊢;exact D
    ·obtain⟨p,_,E,_⟩:=dN q (show all[i]?=some all[i] by simp[J]);exact A8 e.on (E e.on (by
      simp only[dV,ab9,acF];exact⟨e,⟨by simpa using he,AU⟩,rfl⟩))
   rw[A3]at this;cases this
 have Aw:∀(A:Array Bool),A.size=all.length->(∀i,i<all.length->A.getD i false=true)->Region.ready .any all.toArray A=[]:=by
  intro A A2 Ax;cases h:Region.ready .any all.toArray A with
  |nil=>rfl
  |cons i r=>
   exfalso;have hi:i∈Region.ready .any all.toArray A:=by rw[h];simp
   rw[mem_ready]at hi;obtain⟨A9,o,N,_⟩:=hi;have AE:i<all.length:=by
    have:=(acs.1 N).1;simpa using this
   have:=Ax i AE;have D:i<A.size:=by omega
   simp only[abF,afb D,acR]at A9 this;rw[A9]at this;cases this
 intro fuel;induction fuel with
 |zero=>
  intro A φ a w A2 AF AA Y y A1;exfalso;have:init.length∈(List.range all.length).filter λi=>!A.getD i false:=acF.2 ⟨ab3.2 (by omega),by simp only[AF];rfl⟩;have:=List.length_pos_of_mem this;omega
 |succ fuel ih=>
  intro A φ a w A2 AF AA Y y A1;refine⟨λA3=>?_,λi hi=>?_⟩
  ·have:=Av A A2 A3 init.length (by omega);rw[AF]at this;cases this
  rw[mem_ready]at hi;obtain⟨A9,o,N,Ay⟩:=hi;have M:all[i]?=some o:=by simpa using N
  have AE:i<all.length:=(aaa.1 M).1;have Af:i<A.size:=by omega
  have AG:A.getD i false=false:=by
   simp only[abF,afb Af,acR]at A9⊢;exact A9
  have AV:∀k∈dV o,A.getD k false=true:=by
   intro k A4;simp only[dV,ab9,acF]at A4;obtain⟨e,⟨he,AU⟩,rfl⟩:=A4;exact Ay e (by simpa using he) AU
  have AH:(A.setIfInBounds i true).getD i false=true:=by simp[Af]
  have A5:∀k,k≠i->(A.setIfInBounds i true).getD k false=A.getD k false:=λk A4=>getD_set_ne false (agh A4);by_cases Ag:i=init.length
  ·subst Ag;rw[AS]at M;cases M;have Ah:∀k,k<init.length->A.getD k false=true:=by
    intro k AW;have Az:k∈(fT all []).getD init.length []:=by
     have:=AL k (by omega);rw[AR]at this;simpa using this
    exact (jg (L:=λi=>A.getD i false=true) At (λj o N A1=>AA j o N A1) init.length ⟨ol,AS⟩ k Az).2 (λAa Ai=>by rw[AS]at Ai;cases Ai;exact AV)
   have A6:(gA all.length λi=>A.getD i false)=List.range init.length:=by
    rw[gA,AR,List.range_succ,ajZ];have A':(List.range init.length).filter (λi=>A.getD i false)=List.range init.length:=by
     rw[List.filter_eq_self];intro k AW;exact Ah k (ab3.1 AW)
    rw[A'];simp only[List.filter_cons,List.filter_nil];rw[AG];simp
   have B':aC all ps S0 (List.range init.length)=S1:=by simpa using Ar
   rw[A6,B']at Y y;have T:=AQ φ a w Y y (wpAny P .any all.toArray Q fuel (A.setIfInBounds init.length true)) (λI w' Aj=>by
    have A3:=Aw (A.setIfInBounds init.length true) (by simpa using A2) (λk AW=>by
     by_cases V:k=init.length
     ·subst V;exact AH
     ·rw[A5 k V];exact Ah k (by omega))
    cases fuel with
    |zero=>exact⟨A3,Aj⟩
    |succ fuel=>exact⟨λ_=>Aj,λi hi=>by rw[A3]at hi;cases hi⟩)
   unfold wpOp;rw[N];simp only
   split at T
   ·rename_i hw;rw[aal hw];exact .inl T
   ·rename_i hw;rw[aac hw];exact T
  ·have B0:i<init.length:=by omega
   obtain⟨p,E,_⟩:=dN q M;obtain⟨BA,_,B1⟩:=A7 i o p (by simp) (by simpa using B0) M E;have B2:=pI (S:=S0) Ac q AA M E AG AV;have heq:=wg (S:=S0) (f:=λi=>A.getD i false) (g:=λk=>(A.setIfInBounds i true).getD k false) Ac q AA As Aq M E AG AH A5;have B3:nU all (λk=>(A.setIfInBounds i true).getD k false):=by
    intro k ok AX B4 x Ak;by_cases Al:x=i
    ·subst Al;exact AH
    ·show (A.setIfInBounds i true).getD x false=true;rw[A5 x Al];by_cases V:k=i
     ·subst V;rw[M]at AX;cases AX;exact AV x Ak
     ·exact AA k ok AX ((A5 k V).symm.trans B4) x Ak
   have B5:((List.range all.length).filter λk=>!(A.setIfInBounds i true).getD k false).length<=fuel:=by
    have J:(List.range all.length).filter (λk=>!(A.setIfInBounds i true).getD k false)=((List.range all.length).filter λk=>!A.getD k false).filter (λk=>k != i):=by
     rw[ajY];refine aj6 λk _=>?_;by_cases V:k=i
     ·subst V;rw[AH];simp
     ·rw[A5 k V];simp[V]
    have B6:i∈(List.range all.length).filter λk=>!A.getD k false:=acF.2 ⟨ab3.2 AE,by simp[AG]⟩;rw[J];have:(((List.range all.length).filter λk=>!A.getD k false).filter (λk=>k != i)).length<((List.range all.length).filter λk=>!A.getD k false).length:=by
     rw[akY];exact⟨i,B6,by simp⟩
    omega
   have T:=B1 _ B2 (Au _) φ G a w Y (wpAny P .any all.toArray Q fuel (A.setIfInBounds i true)) Q (λφ' I w' B7 A4=>
    ih _ φ' I w' (by simpa using A2) (by rw[A5 _ (agh Ag)];exact AF) B3 (B7.eqv heq) (by rw[<-heq.mem];exact y.trans A4) B5)
   unfold wpOp;rw[N];simp only
   split at T
   ·rename_i hw;rw[aal hw];exact .inl T
   ·rename_i hw;rw[aac hw];exact T
end
theorem JN{P:Program}{S S1:St}{id:Nat}{ops init:List Oper}{ol:Oper}{O:List aU}{H:Mem->Prop}(A0:ops=init++[ol])(AL:Bm ops)(AM:H S.mem)(hm:P.follows .mixedOrders=true)(AN:Cert P H ops init S O S1)(q:lZ ops (O++[AP])=true){φ G a w}(Y:Rel φ G S a w){Q:Exit->Act->World->Prop}
 (AQ:∀φ' I w',Rel φ' G S1 I w'->aO φ S.mem w φ' S1.mem w'->∀next:Act->World->Prop,(∀I w',Q .normal I w'->next I w')->if Region.wanted ol (yielded ops.toArray I.tmps)then ol.wp P I w' next Q else next (I.put ol.dst undef) w'):(Code.region id ops.toArray true).wp P Q a w:=by
 refine wp_region_any hm ?_;have B8:Rel φ G S a {w with drawn:=w.drawn+1}:=Y.grow (λ_ _=>rfl) (aae _);have An:(gA ops.length λi=>(Array.replicate ops.length false).getD i false)=[]:=by
  rw[gA,agk];intro i hi;simp[abF,ab3.1 hi]
 refine OE (S0:=S) (φ0:=φ) (w0:=w) (G:=G) A0 AL AM AN rfl q Y.mem.nodup AQ _ _ φ a _ (by simp) ?_ ?_ ?_ ?_ ?_
 ·simp only[abF];rw[A0];simp
 ·intro j o _ U;exfalso;simp only[abF]at U;by_cases h:j<ops.length
  ·simp[h]at U
  ·simp[h]at U
 ·simp only[acJ];rw[An];exact B8
 ·simp only[acJ];rw[An];exact aO.grow (λ_ _=>rfl) (aae _) rfl rfl rfl
 ·simp only[acJ];exact aj4 (List.length_filter_le _ _) (by simp)
def fg:Mem->Nat
 |[]=>0
 |e::r=>e.ak+fg r
def fe:List aU->Nat
 |[]=>0
 |p::r=>fg p.es+fe r
def ji(N:Nat):Mem->Mem
 |[]=>[]
 |e::r=>(match decide (100<=e.key)with|true=>⟨e.key,N,.dead⟩|false=>e)::ji N r
def St.kill(S:St)(N:Nat):St:={S with env:=[],mem:=ji N S.mem}
def DY:List cf->Bool
 |[]=>true
 |e::r=>decide (100<=e.key)&&DY r
def yD(ps:List aU):List Nat->Bool
 |[]=>true
 |i::r=>(match ps[i]? with|some p=>DY p.es|none=>false)&&yD ps r
theorem yE:∀{m:Mem}{e:cf},e∈m->e.ak<=fg m
 |_::r,e,h=>by
  rcases aak.1 h with rfl|h
  ·simp only[fg];omega
  ·have:=yE (m:=r) h;simp only[fg];omega
theorem CG:∀{ps:List aU}{p:aU},p∈ps->fg p.es<=fe ps
 |_::r,p,h=>by
  rcases aak.1 h with rfl|h
  ·simp only[fe];omega
  ·have:=CG (ps:=r) h;simp only[fe];omega
theorem nX(N:Nat):∀m:Mem,(ji N m).map (·.key)=m.map (·.key)
 |[]=>rfl
 |e::r=>by
  simp only[ji,acT,nX N r];split<;>rfl
theorem qh{N:Nat}:∀{m:Mem}{e:cf},e∈ji N m->(∃A'∈m,100<=A'.key/\e=⟨A'.key,N,.dead⟩)\/(e∈m/\e.key<100)
 |A'::r,e,h=>by
  simp only[ji,aak]at h;rcases h with h|h
  ·by_cases U:100<=A'.key
   ·simp only[U,decide_true]at h;exact .inl ⟨A',by simp,U,h⟩
   ·simp only[U,decide_false]at h;subst h;exact .inr ⟨by simp,by omega⟩
  ·rcases qh h with ⟨AE,E,M,A3⟩|⟨E,M⟩
   ·exact .inl ⟨AE,acI _ E,M,A3⟩
   ·exact .inr ⟨acI _ E,M⟩
theorem yF(N:Nat)(k:Nat):∀m:Mem,Mem.get (ji N m) k=(Mem.get m k).map λe=>match decide (100<=e.key)with|true=>⟨e.key,N,.dead⟩|false=>e
 |[]=>rfl
 |e::r=>by
  have AE:(match decide (100<=e.key)with|true=>(⟨e.key,N,.dead⟩:cf)|false=>e).key=e.key:=by split<;>rfl
  simp only[ji,Mem.get,AE];split
  ·rfl
  ·exact yF N k r
def nY(φ:bE)(N:Nat):bE:=λk=>match φ k with
 |some L=>some (match decide (100<=k)with|true=>{L with ak:=N}|false=>L)
 |none=>none
theorem nZ{φ:bE}{N k:Nat}(h:k<100):nY φ N k=φ k:=by
 unfold nY;have:decide (100<=k)=false:=by simp;omega
 rw[this];cases φ k<;>rfl
theorem E5{φ:bE}{N k:Nat}{L:Loc}(h:100<=k)(I:φ k=some L):nY φ N k=some {L with ak:=N}:=by
 unfold nY;have:decide (100<=k)=true:=by simp;omega
 rw[this,I]
theorem aaC{φ:bE}{G:Fr}{S:St}{a:Act}{w:World}{N:Nat}(h:Rel φ G S a w)(AQ:∀e∈S.mem,e.ak<N):
 Rel (nY φ N) G (S.kill N) a w/\aO φ S.mem w (nY φ N) (S.kill N).mem w:=by
 have hle:φ.le (nY φ N):=by
  intro k L I;by_cases U:100<=k
  ·obtain⟨e,he,rfl⟩:=ab9.1 (h.mem.oA k L I);obtain⟨L',AH,Ae,_⟩:=h.mem.fw e he;rw[I]at AH;cases AH;have:=AQ e he;exact⟨_,E5 U I,by simp only;omega,λhh=>by simp only at hh;omega⟩
  ·exact⟨L,by rw[nZ (by omega)];exact I,aae _,λ_=>rfl⟩
 have AR:∀b,gQ (nY φ N) (ji N S.mem) b->gQ φ S.mem b:=by
  rintro b ⟨e,he,L,I,H⟩;rcases qh he with ⟨A',V,E,rfl⟩|⟨V,E⟩
  ·exact H.elim
  ·rw[nZ E]at I;exact⟨e,V,L,I,H⟩
 have Af:∀b,Fo G (nY φ N) (ji N S.mem) b->Fo G φ S.mem b:=λb=>Or.imp id (AR b);have U:aO φ S.mem w (nY φ N) (S.kill N).mem w:=⟨hle,λ_ _ _=>rfl,λb _ T=>AR b T,aae _,rfl,rfl,rfl⟩;refine⟨⟨h.size,h.defers,(λt x AN=>nomatch AN),⟨?_,?_,?_,?_,?_,h.mem.bound⟩,h.jS.mono (λ_ _ _=>rfl) (aae _) (λb _ T=>Af b T)⟩,U⟩
 ·show ((ji N S.mem).map (·.key)).Nodup;rw[nX];exact h.mem.nodup
 ·intro k L I;show k∈(ji N S.mem).map (·.key);rw[nX];unfold nY at I;cases J:φ k with
  |none=>rw[J]at I;cases I
  |some Aw=>exact h.mem.oA k Aw J
 ·intro e he;rcases qh he with ⟨A',V,E,rfl⟩|⟨V,E⟩
  ·obtain⟨L,I,_,_⟩:=h.mem.fw A' V;exact⟨_,E5 E I,rfl,trivial⟩
  ·obtain⟨L,I,Ae,Ax⟩:=h.mem.fw e V;exact⟨L,by rw[nZ E];exact I,Ae,Ax.mono hle (λ_ _ _=>rfl) (aae _) (λb _ T=>Af b T) (λ_ _=>rfl)⟩
 ·rintro e he e' Ay L L' I AH ⟨b,H,O⟩;rcases qh he with ⟨A',V,E,rfl⟩|⟨V,E⟩
  ·exact H.elim
  ·rcases qh Ay with ⟨AE,M,A3,rfl⟩|⟨M,A3⟩
   ·exact O.elim
   ·rw[nZ E]at I;rw[nZ A3]at AH;exact h.mem.apart e V e' M L L' I AH ⟨b,H,O⟩
 ·intro b T;exact h.mem.jQ b (AR b T)
def zU(P:Program)(all:List Oper)(S:St)(o:Oper)(p:aU)(t:TypeId)(x:D):Prop:=
 ∀A7,jM all o p.ks A7 S->∀φ G a w,Rel φ G A7 a w->∀(next:Act->World->Prop)(R:Exit->Act->World->Prop),
  (∀φ' A0 w' v,Rel φ' G {A7 with mem:=bp A7.mem p.es} A0 w'->aO φ A7.mem w φ' (bp A7.mem p.es) w'->aI w' (Fo G φ' (bp A7.mem p.es)) x v->R (.panic [{v:=.iface t v,recovered:=false}]) A0 w')->
  if Region.wanted o (yielded all.toArray a.tmps)then o.wp P a w next R else next (a.put o.dst undef) w
section
variable {all:List Oper} {ps:List aU}
theorem OF{m:Mem}{x e:cf}(h:e∈Mem.set m x):e∈m\/e=x:=by
 induction m with
 |nil=>exact .inl h
 |cons y r ih=>
  simp only[Mem.set]at h;split at h
  ·rcases aak.1 h with h|h
   ·exact .inr h
   ·exact .inl (acI _ h)
  ·rcases aak.1 h with h|h
   ·exact .inl (by simp[h])
   ·rcases ih h with h|h
    ·exact .inl (acI _ h)
    ·exact .inr h
theorem yG:∀{es:List cf}{m:Mem}{e:cf},e∈bp m es->e∈m\/e∈es
 |[],m,e,h=>.inl h
 |x::r,m,e,h=>by
  have E:e∈bp (Mem.set m x) r:=h;rcases yG E with h|h
  ·rcases OF h with h|h
   ·exact .inl h
   ·exact .inr (by simp[h])
  ·exact .inr (acI _ h)
theorem CH(B:Nat)(Ag:∀p∈ps,∀e∈p.es,e.ak<B):∀(l:List Nat)(S:St),(∀e∈S.mem,e.ak<B)->∀e∈(aC all ps S l).mem,e.ak<B
 |[],S,h=>h
 |i::l,S,h=>by
  have AE:aC all ps S (i::l)=aC all ps (aC all ps S [i]) l:=by simp[aC]
  rw[AE];refine CH B Ag l _ ?_;simp only[aC,af4,agN];split
  ·rename_i o p H J;simp only[aU.app,eD];intro e he;rcases yG he with he|he
   ·exact h e he
   ·exact Ag p (aah J) e he
  ·exact h
variable {S:St} {f:Nat->Bool}
theorem JO(AI:ps.length=all.length)(A1:lZ all ps=true)(Y:nU all f){j:Nat}{o:Oper}(H:all[j]?=some o)(AS:f j=false)(A8:∀i∈dV o,f i=true)
 (AT:∀i p,ps[i]?=some p->i≠j->i∉(fT all []).getD j []->j∉(fT all []).getD i []->∀e∈p.es,100<=e.key) {k:Nat} (U:k<100):
 Mem.get (aC all ps S (gA all.length f)).mem k=Mem.get (aC all ps S (List.range j)).mem k:=by
 have Az:j<all.length:=(aaa.1 H).1;have AJ:∀j o,all[j]?=some o->∀p∈dV o,p<j:=λj o H=>(dN A1 H).choose_spec.2.1;have Ah:∀i∈(fT all []).getD j [],i<j/\f i=true:=λi hi=>by
  obtain⟨E,M⟩:=jg (L:=λi=>f i=true) AJ (λj o H Z=>Y j o H Z) j ⟨o,H⟩ i hi;exact⟨E,M λAi O=>by rw[H]at O;cases O;exact A8⟩
 have AU:∀i,f i=true->i<all.length->j∉(fT all []).getD i []:=by
  intro i B' AF A9;obtain⟨A4,AK⟩:∃A4,all[i]?=some A4:=⟨all[i],by simp[AF]⟩;have:=(jg (L:=λi=>f i=true) AJ (λj o H Z=>Y j o H Z) i ⟨A4,AK⟩ j A9).2 (λAi O=>by rw[AK]at O;cases O;exact Y i A4 AK B');simp[AS]at this
 let q:Nat->Bool:=λi=>(fT all []).getD j [] |>.contains i
 have AV:∀i,q i=true↔i∈(fT all []).getD j []:=λi=>by simp[q]
 have B0:(gA all.length f).filter q=(List.range j).filter q:=by
  rw[yu Az AS,ajZ,ajY,ajY];have M:(List.range' (j+1) (all.length-j-1)).filter (λa=>q a&&f a)=[]:=by
   rw[agk];intro i hi;have:=(ak2.1 hi).1;simp only[Ds,not_and];intro A5;have:=(Ah i ((AV i).1 A5)).1;omega
  rw[M,afn];refine aj6 λi hi=>?_;cases A5:q i with
  |false=>simp
  |true=>simp[(Ah i ((AV i).1 A5)).2]
 have B1:∀i p,ps[i]?=some p->i≠j->q i=false->j∉(fT all []).getD i []->k∉p.es.map (·.key):=by
  intro i p J AA A5 A9 A2;obtain⟨e,he,rfl⟩:=ab9.1 A2;have:=AT i p J AA (λh=>by rw[(AV i).2 h]at A5;cases A5) A9 e he;omega
 have side:∀(i:Nat)(p:aU),i≠j->j∉(fT all []).getD i []->ps[i]?=some p->k∈p.es.map (·.key)->q i=true:=by
  intro i p AA A9 J A2;cases A5:q i with
  |true=>rfl
  |false=>exact absurd A2 (B1 i p J AA A5 A9)
 rw[l4 k q (gA all.length f) S S (λi hi p J A2=>by
  have AW:=acF.1 hi;have AF:=ab3.1 AW.1;refine side i p (λh=>by subst h;simp[AS]at AW) (AU i AW.2 AF) J A2) rfl rfl,
  l4 k q (List.range j) S S (λi hi p J A2=>by
   have AF:=ab3.1 hi;refine side i p (by omega) (λh=>?_) J A2;obtain⟨A4,AK⟩:∃A4,all[i]?=some A4:=⟨all[i]'(by omega),by simp[show i<all.length by omega]⟩
   have:=(jg (L:=λ_=>True) AJ (λ_ _ _ _ _ _=>trivial) i ⟨A4,AK⟩ j h).1;omega) rfl rfl,B0]
theorem RV{P:Program}{S0 S1:St}{φ0:bE}{G:Fr}{w0:World}{Q:Exit->Act->World->Prop}{j:Nat}{Aj:Oper}{AB:aU}{t:TypeId}{x:D}
 (AI:ps.length=all.length) (A1:lZ all ps=true) (Ak:(S0.mem.map (·.key)).Nodup) (B2:∀(i:Nat)(p:aU),ps[i]?=some p->∀e∈p.es,e.key∈p.ks)
 (B3:∀i o p,all[i]?=some o->ps[i]?=some p->i≠j->j∉(fT all []).getD i []->jN P all (aC all ps S0 (List.range i)) o p)
 (AO:all[j]?=some Aj) (Al:ps[j]?=some AB) (B4:zU P all (aC all ps S0 (List.range j)) Aj AB t x)
 (AT:∀i p,ps[i]?=some p->i≠j->i∉(fT all []).getD j []->j∉(fT all []).getD i []->∀e∈p.es,100<=e.key)
 (B5:S1.n=S0.n) (B6:S1.gl=S0.gl) (B7:S1.env=[]) (B8:S1.mem=ji (fg S0.mem+fe ps+1) (bp (aC all ps S0 (List.range j)).mem AB.es))
 (B9:∀φ' A0 w' v,Rel φ' G S1 A0 w'->aO φ0 S0.mem w0 φ' S1.mem w'->aI w' (Fo G φ' S1.mem) x v->Q (.panic [{v:=.iface t v,recovered:=false}]) A0 w'):
 ∀(fuel:Nat)(A:Array Bool) φ a w,A.size=all.length->nU all (λi=>A.getD i false)->A.getD j false=false->Rel φ G (aC all ps S0 (gA all.length λi=>A.getD i false)) a w->aO φ0 S0.mem w0 φ (aC all ps S0 (gA all.length λi=>A.getD i false)).mem w->
  ((List.range all.length).filter λi=>!A.getD i false).length<=fuel->wpAny P .any all.toArray Q fuel A a w:=by
 have An:j<all.length:=(aaa.1 AO).1;have AJ:∀j o,all[j]?=some o->∀p∈dV o,p<j:=λj o H=>(dN A1 H).choose_spec.2.1;have first:∀(f:Nat->Bool)(n:Nat),n<=all.length->(∀i,i<n->f i=true)\/∃i,i<n/\f i=false/\∀Ao,Ao<i->f Ao=true:=by
  intro f n;induction n with
  |zero=>exact λ_=>.inl (λi hi=>by omega)
  |succ n ih=>
   intro BO;rcases ih (by omega)with h|⟨i,E,M,A3⟩
   ·cases Z:f n with
    |true=>
     refine .inl λi hi=>?_;rcases Nat.lt_succ_iff_lt_or_eq.1 hi with AX|AX
     ·exact h i AX
     ·rw[AX];exact Z
    |false=>exact .inr ⟨n,by omega,Z,h⟩
   ·exact .inr ⟨i,by omega,M,A3⟩
 have done:∀(A:Array Bool),A.size=all.length->A.getD j false=false->Region.ready .any all.toArray A=[]->False:=by
  intro A AP AC BA;rcases first (λi=>A.getD i false) all.length (aae _)with h|⟨i,E,M,A3⟩
  ·have:=h j An;simp only[AC]at this;cases this
  ·have:i∈Region.ready .any all.toArray A:=by
    rw[mem_ready];refine⟨?_,all[i],by simp[E],λe he T=>?_⟩
    ·have:i<A.size:=by omega
     simp only[abF,afb this,acR]at M⊢;exact M
    ·obtain⟨p,_,J,_⟩:=dN A1 (show all[i]?=some all[i] by simp[E]);exact A3 e.on (J e.on (by
      simp only[dV,ab9,acF];exact⟨e,⟨by simpa using he,T⟩,rfl⟩))
   rw[BA]at this;cases this
 intro fuel;induction fuel with
 |zero=>
  intro A φ a w AP Y AC AY U Z;exfalso;have:j∈(List.range all.length).filter λi=>!A.getD i false:=acF.2 ⟨ab3.2 An,by simp[AC]⟩;have:=List.length_pos_of_mem this;omega
 |succ fuel ih=>
  intro A φ a w AP Y AC AY U Z;refine⟨λh=>(done A AP AC h).elim,λi hi=>?_⟩;rw[mem_ready]at hi;obtain⟨V,o,H,BB⟩:=hi;have O:all[i]?=some o:=by simpa using H
  have AF:i<all.length:=(aaa.1 O).1;have Ap:i<A.size:=by omega
  have AL:A.getD i false=false:=by
   simp only[abF,afb Ap,acR]at V⊢;exact V
  have A8:∀k∈dV o,A.getD k false=true:=by
   intro k A6;simp only[dV,ab9,acF]at A6;obtain⟨e,⟨he,T⟩,rfl⟩:=A6;exact BB e (by simpa using he) T
  by_cases AA:i=j
  ·subst AA;rw[AO]at O;cases O;have AZ:=pI (S:=S0) AI A1 Y AO Al AL A8;have AD:=B4 _ AZ φ G a w AY (wpAny P .any all.toArray Q fuel (A.setIfInBounds i true)) Q (λφ' A0 w' v A_ A6 AQ=>by
    have Aq:∀p∈ps,∀e∈p.es,e.ak<fg S0.mem+fe ps+1:=by
     intro p J e he;have E:=yE he;have M:=CG J;omega
    have BC:∀e∈S0.mem,e.ak<fg S0.mem+fe ps+1:=by
     intro e he;have E:=yE he;omega
    have BD:∀e∈bp (aC all ps S0 (gA all.length λi=>A.getD i false)).mem AB.es,e.ak<fg S0.mem+fe ps+1:=by
     intro e he;rcases yG he with he|he
     ·exact CH _ Aq _ _ BC e he
     ·exact Aq AB (aah Al) e he
    obtain⟨Ar,Aa⟩:=aaC A_ BD;have Ab:ji (fg S0.mem+fe ps+1) (bp (aC all ps S0 (gA all.length λi=>A.getD i false)).mem AB.es)=S1.mem:=by
     rw[B8];refine Mem.ext ?_ ?_ λk=>?_
     ·rw[nX,jC,dW];exact Ak
     ·simp only[nX,jC,dW]
     ·rw[yF,yF];by_cases BE:k<100
      ·congr 1;exact m6 _ _ _ k (by simp only[dW]) (.inr (JO AI A1 Y AO AL A8 AT BE))
      ·have As:∀(m:Mem),(Mem.get m k).map (λe:cf=>match decide (100<=e.key)with|true=>(⟨e.key,fg S0.mem+fe ps+1,.dead⟩:cf)|false=>e)=if k∈m.map (·.key)then some ⟨k,fg S0.mem+fe ps+1,.dead⟩else none:=by
        intro m;cases At:Mem.get m k with
        |none=>
         rw[aac]
         ·rfl
         ·intro A2;obtain⟨e,he,BF⟩:=ab9.1 A2;have:∀(m:Mem),e∈m->Mem.get m k≠none:=by
           intro m;induction m with
           |nil=>intro h;cases h
           |cons y r BG=>
            intro h;simp only[Mem.get];split
            ·simp
            ·rename_i BH;rcases aak.1 h with rfl|h
             ·exact absurd BF BH
             ·exact BG h
          exact this m he At
        |some e=>
         obtain⟨E,M⟩:=Mem.get_mem At;have:decide (100<=e.key)=true:=by simp;omega
         simp only[agb,this];rw[aal (M▸abW E),M]
       rw[As,As];simp only[jC,dW]
    have BI:({(aC all ps S0 (gA all.length λi=>A.getD i false))with mem:=bp (aC all ps S0 (gA all.length λi=>A.getD i false)).mem AB.es}:St).kill (fg S0.mem+fe ps+1)=S1:=by
     have BJ:(aC all ps S0 (gA all.length λi=>A.getD i false)).n=S1.n:=by rw[nk,B5]
     have a2:(aC all ps S0 (gA all.length λi=>A.getD i false)).gl=S1.gl:=by rw[lH,B6]
     unfold St.kill;simp only[Ab,BJ,a2];rw[<-B7]
    rw[BI]at Ar Aa;refine B9 _ A0 w' v Ar (U.trans (A6.trans Aa)) (AQ.mono (λ_ _ _=>rfl) (aae _) (λb T=>Or.imp id (Aa.own b T))))
   unfold wpOp;rw[H];simp only
   split at AD
   ·rename_i hw;rw[aal hw];exact .inl AD
   ·rename_i hw;rw[aac hw];exact AD
  ·obtain⟨p,J,_⟩:=dN A1 O;have AU:j∉(fT all []).getD i []:=by
    intro A9;have:=(jg (L:=λi=>A.getD i false=true) AJ (λj o H Z=>Y j o H Z) i ⟨o,O⟩ j A9).2 (λAi Au=>by rw[O]at Au;cases Au;exact A8);rw[AC]at this;cases this
   have BK:=B3 i o p O J AA AU;have AZ:=pI (S:=S0) AI A1 Y O J AL A8;have Ac:(A.setIfInBounds i true).getD i false=true:=by simp[Ap]
   have AM:∀k,k≠i->(A.setIfInBounds i true).getD k false=A.getD k false:=λk A6=>getD_set_ne false (agh A6);have heq:=wg (S:=S0) (f:=λi=>A.getD i false) (g:=λk=>(A.setIfInBounds i true).getD k false) AI A1 Y B2 Ak O J AL Ac AM;have BL:nU all (λk=>(A.setIfInBounds i true).getD k false):=by
    intro k ok Ad BM x AN;by_cases Av:x=i
    ·subst Av;exact Ac
    ·show (A.setIfInBounds i true).getD x false=true;rw[AM x Av];by_cases AG:k=i
     ·subst AG;rw[O]at Ad;cases Ad;exact A8 x AN
     ·exact Y k ok Ad ((AM k AG).symm.trans BM) x AN
   have BN:((List.range all.length).filter λk=>!(A.setIfInBounds i true).getD k false).length<=fuel:=by
    have E:(List.range all.length).filter (λk=>!(A.setIfInBounds i true).getD k false)=((List.range all.length).filter λk=>!A.getD k false).filter (λk=>k != i):=by
     rw[ajY];refine aj6 λk _=>?_;by_cases AG:k=i
     ·subst AG;rw[Ac];simp
     ·rw[AM k AG];simp[AG]
    have Ab:i∈(List.range all.length).filter λk=>!A.getD k false:=acF.2 ⟨ab3.2 AF,by simp[AL]⟩;rw[E];have:(((List.range all.length).filter λk=>!A.getD k false).filter (λk=>k != i)).length<((List.range all.length).filter λk=>!A.getD k false).length:=by
     rw[akY];exact⟨i,Ab,by simp⟩
    omega
   have AD:=BK _ AZ φ G a w AY (wpAny P .any all.toArray Q fuel (A.setIfInBounds i true)) Q (λφ' A0 w' A_ A6=>
    ih _ φ' A0 w' (by simpa using AP) BL (by rw[AM j (λh=>AA h.symm)];exact AC) (A_.eqv heq) (by rw[<-heq.mem];exact U.trans A6) BN)
   unfold wpOp;rw[H];simp only
   split at AD
   ·rename_i hw;rw[aal hw];exact .inl AD
   ·rename_i hw;rw[aac hw];exact AD
end
inductive Gh where
 |trim (k:Nat)
 |freeze (k:Nat)
 |jj (U j k sz:Nat)
 |wj (k H:Nat)
 |ss (k H:Nat)
 |cls (k H:Nat)
 |shut (k:Nat)
 |su (U j k:Nat)
abbrev bj:=FuncId->List AV->List ax->Option (Out×List (Nat×ax))
structure Ctx where
 P:Program
 gl:List (Nat×D)
 oW:FuncId->Nat->List Nat
 gh:FuncId->Nat->List Gh
 md:FuncId->Nat->Bool
 fp:FuncId->aw
 od:FuncId->Nat->List (List Nat)
 vh:FuncId->Option (List AV->Option AV)
 fl:FuncId->Nat->List (Nat×Nat)
 ov:Option bj
def fW(P:Program)(g:FuncId):Bool:=
 match P.funcs[g]? with
 |some fn=>fn.body.isSome&&!(fn.name == "runtime.NumGoroutine")
 |none=>false
mutual
def l6:AV->List Nat
 | .vec _ _ _ _=>[]
 | .ptr k _ _=>[k]
 | .ck k _ _ _=>[k]
 | .agg cs=>sw cs
 | .fn _ cap=>j3 cap
 | .bM vs=>sw vs
 |_=>[]
def sw:List AV->List Nat
 |[]=>[]
 |x::r=>l6 x++sw r
end
mutual
def rQ:AV->List Nat
 | .vec k _ _ _=>[k]
 | .agg cs=>sx cs
 | .bM vs=>sx vs
 |_=>[]
def sx:List AV->List Nat
 |[]=>[]
 |x::r=>rQ x++sx r
end
def j6(mt:List Nat):Nat->List AV->List Nat
 |_,[]=>[]
 |i,x::r=>(match mt.contains i with|true=>ib x|false=>l6 x)++j6 mt (i+1) r
def sy(mt:List Nat):Nat->List AV->List Nat
 |_,[]=>[]
 |i,x::r=>(match mt.contains i with|true=>[]|false=>rQ x)++sy mt (i+1) r
structure eA where
 out:Out
 es:List cf
 ks:List Nat
def upO(ρ AE:List Nat):Out->Out
 | .ret x=>.ret (up ρ AE x)
 | .panic t x=>.panic t x
def yH:Out->Bool
 | .ret x=>di x
 | .panic _ x=>gI x
def mP:List (Nat×ax)->Bool
 |[]=>true
 |(_,c)::r=>kL c&&mP r
def wm(m:Mem)(ρ:List Nat):List Nat->Bool
 |[]=>true
 |k::r=>(Mem.get m k).isSome&&!ρ.contains k&&wm m ρ r
def eK(m:Mem)(O:Nat)(ρ B:List Nat):Option (Out×List (Nat×ax))->Option eA
 |some (out,T)=>
  if (decide (ρ.length<=T.length)&&wm m ρ (List.range' (O+1) (T.length-ρ.length))&&(B.isEmpty||(yH out&&mP T)))=true then
   some ⟨upO (ρ++List.range' (O+1) (T.length-ρ.length)) (base m 0 ρ++base m 1 (List.range' (O+1) (T.length-ρ.length))) out,
    gV (ρ++List.range' (O+1) (T.length-ρ.length)) (base m 0 ρ++base m 1 (List.range' (O+1) (T.length-ρ.length))) 0 T,ρ++B++List.range' (O+1) (T.length-ρ.length)⟩
  else none
 |none=>none
def DZ(N:Nat)(T:List (Nat×ax)):Out->Out
 | .ret x=>.ret (vw (cZ 0 T) (List.range N) (λ_=>true) (λ_ v=>v) x).norm
 | .panic t x=>.panic t x
def pe(N:Nat)(b:Bool):Option (Out×List (Nat×ax))->Option (Out×List (Nat×ax))
 |some (out,T)=>if (b&&decide (N<T.length))=true then some (DZ N T out,dM (cZ 0 T) (List.range N) (λ_=>true) (λ_ v=>v) 0 (List.range N))else some (out,T)
 |none=>none
def gn(rw:Bool)(m:Mem)(ρ B:List Nat):List AV->List AV
 |[]=>[]
 |y::r=>AJ rw (vw m ρ (λk=>B.contains k) gk y)::gn rw m ρ B r
def m8:List (Nat×ax)->List ax
 |[]=>[]
 |(_,c)::r=>c::m8 r
def kR(A:bj)(m:Mem)(O:Nat)(g:FuncId)(V:List AV)(rw:Bool)(ρ B:List Nat):Option eA:=
 eK m O ρ B (pe ρ.length (Mem.get m (O+1)).isNone (A g (gn rw m ρ B V) (m8 (dM m ρ (λk=>B.contains k) gk 0 ρ))))
def kS(A:bj)(m:Mem)(O:Nat)(g:FuncId)(V:List AV)(mt ρ:List Nat):Option eA:=
 kR A m O g V (mt.contains 1000) ρ ((sy mt 0 V).filter λk=>!ρ.contains k)
def dr(A:bj)(m:Mem)(O:Nat)(g:FuncId)(V:List AV)(mt:List Nat):Option eA:=
 kS A m O g V mt (collect m 64 (j6 mt 0 V) [])
def sA(S:St)(d:Option Nat):Option eA->Option (XE×St)
 |some ⟨.ret x,es,_⟩=>some (.normal,({S with mem:=bp S.mem es}:St).put d true x)
 |some ⟨.panic t x,es,_⟩=>some (.panic t x,{S with mem:=bp S.mem es})
 |none=>none
def cM(S:St):List Operand->List AV
 |[]=>[]
 |x::r=>(S.aq x).2::cM S r
def zV(n g:Nat):FuncId:=
 match decide (n<=g)with
 |true=>g-n
 |false=>g
def mz(g:FuncId):FuncId:=zV qO g
def rR(n g:Nat)(V Z:List AV):List AV:=
 match decide (n<=g)with
 |true=>Z++V
 |false=>V++Z
def gJ(g:FuncId)(V Z:List AV):List AV:=rR qO g V Z
mutual
def yI:D->D->Bool
 | .int k n,.int A' A0=>decide (k=A')&&decide (n=A0)
 | .bool b,.bool A1=>decide (b=A1)
 | .str s,.str AF=>decide (s=AF)
 | .list a,.list b=>wo a b
 | .agg a,.agg b=>wo a b
 | .xz,.xz=>true
 |_,_=>false
def wo:List D->List D->Bool
 |[],[]=>true
 |a::r,b::s=>yI a b&&wo r s
 |_,_=>false
end
def D0:AV->AV->Bool
 | .d x,.d y=>yI x y
 | .ptr k v o,.ptr A' A6 A7=>decide (k=A')&&(decide (v=A6)&&decide (o=A7))
 | .vec k v o n,.vec A' A6 A7 A0=>decide (k=A')&&(decide (v=A6)&&(decide (o=A7)&&decide (n=A0)))
 |_,_=>false
def zW:List AV->List AV->Bool
 |[],[]=>true
 |a::r,b::s=>D0 a b&&zW r s
 |_,_=>false
def yJ:ax->ax->Bool
 | .box a,.box b=>zW a b
 | .vec n a,.vec A0 b=>decide (n=A0)&&wo a b
 |_,_=>false
def Gg(e:cf):Option cf->Bool
 |some x=>decide (x.ak=e.ak)&&yJ x.cont e.cont
 |none=>false
def pf(m:Mem):List cf->Bool
 |[]=>true
 |e::r=>Gg e (Mem.get m e.key)&&pf m r
def OH:Bool->eA->eA
 |true,c=>⟨c.out,[],c.ks⟩
 |false,c=>c
def wq:Bool->Mem->Option eA->Option eA
 |true,m,some c=>some (OH (pf m c.es) c)
 |true,_,none=>none
 |false,_,r=>r
def cg(X:Ctx)(A:bj)(S:St)(o:Oper)(args:List Operand):Bool×AV->Option eA
 |(true,.fn g Z)=>if gU S args=true then wq ((X.fp (mz g)).uv.contains 2000) S.mem (dr A S.mem (keyOf o) (mz g) (gJ g (cM S args) Z) (X.fp (mz g)).uv)else none
 |_=>none
def Bn(S:St):Bool×AV->Option (XE×St)
 |(true,.fL t d)=>some (.panic t d,S)
 |_=>none
def qj(X:Ctx)(A:bj)(S:St)(o:Oper):Option (XE×St):=
 match o.op with
 | .call {callee:=.value A2,args,..}=>sA S o.dst (cg X A S o args.toList (S.aq A2))
 | .panic x=>Bn S (S.aq x)
 |_=>none
def gr(X:Ctx)(A:bj)(S:St)(o:Oper):cP->Option (XE×St)
 | .val c x=>if (fI S o&&c)=true then some (.normal,S.put o.dst true x)else none
 | .cF c x e=>if (fI S o&&c)=true then some (.normal,({S with mem:=Mem.set S.mem e}:St).put o.dst true x)else none
 | .no=>qj X A S o
def nF(X:Ctx)(A:bj)(S:St)(o:Oper)(b:Bool):cP->Option (XE×St)
 | .val c x=>if b=true->(fI S o&&c)=true then some (.normal,S.put o.dst b x)else none
 |r=>if b=true then gr X A S o r else some (.normal,S.put o.dst true .aX)
def St.cz(S:St)(d:Option Nat)(b:Bool):St:=S.put d true (.d (.bool b))
def kD(all:List Oper)(j:Nat):Option Nat:=
 match all[j]? with
 |some o=>o.dst
 |none=>none
inductive GV where
 |qY (t:Bool)
 |skip
 |bad
def gvD:D->GV
 | .bool t=>.qY t
 |_=>.bad
def gvT:List AV->GV
 |[]=>.skip
 |_::_=>.bad
def RW:AV->GV
 | .d x=>gvD x
 | .bM vs=>gvT vs
 |_=>.bad
def n7:Option (Bool×AV)->GV
 |some (true,x)=>RW x
 |_=>.bad
theorem Hu{x:Option (Bool×AV)}{t:Bool}(h:n7 x=.qY t):x=some (true,.d (.bool t)):=by
 rcases x with _|⟨g,y⟩
 ·cases h
 ·cases g
  ·cases h
  ·cases y with
   |d y=>cases y<;>simp_all [n7,RW,gvD]
   |bM vs=>cases vs<;>simp_all [n7,RW,gvT]
   |_=>cases h
theorem E6{x:Option (Bool×AV)}(h:n7 x=.skip):x=some (true,.bM []):=by
 rcases x with _|⟨g,y⟩
 ·cases h
 ·cases g
  ·cases h
  ·cases y with
   |d y=>cases y<;>simp_all [n7,RW,gvD]
   |bM vs=>cases vs<;>simp_all [n7,RW,gvT]
   |_=>cases h
def l7(X:Ctx)(A:bj)(md:Bool)(all:List Oper)(S:St)(o:Oper):Option (XE×St):=
 match o.guard with
 |none=>gr X A S o (cJ X.P S o)
 |some (j,Y)=>match n7 (nO all S j)with
  | .qY t=>match md with
   |false=>nF X A S o (t == Y) (cJ X.P S o)
   |true=>if (t == Y)=true then gr X A (S.cz (kD all j) Y) o (cJ X.P (S.cz (kD all j) Y) o)else some (.normal,(S.cz (kD all j) (!Y)).put o.dst true (.bM []))
  | .skip=>some (.normal,S.put o.dst true (.bM []))
  | .bad=>none
def andThen(r:Option (XE×St))(k:St->Option (XE×St)):Option (XE×St):=
 match r with
 |some (.normal,S)=>k S
 |r=>r
def eL(X:Ctx)(A:bj)(md:Bool)(all:List Oper):List Oper->St->Option (XE×St)
 |[],S=>some (.normal,S)
 |o::r,S=>andThen (l7 X A md all S o) (eL X A md all r)
def wu(S:St)(o:Oper):Option eA->Option (St×aU)
 |some ⟨.ret x,es,ks⟩=>some ((⟨ks,es,true,x⟩:aU).app o S,⟨ks,es,true,x⟩)
 |_=>none
def m9(X:Ctx)(A:bj)(S:St)(o:Oper):Option (St×aU):=
 match o.op with
 | .call {callee:=.value A2,args,..}=>wu S o (cg X A S o args.toList (S.aq A2))
 |_=>none
def eF(X:Ctx)(A:bj)(S:St)(o:Oper):cP->Option (St×aU)
 | .val c x=>if (fI S o&&c)=true then some (S.put o.dst true x,⟨ik S o,[],true,x⟩)else none
 | .cF c x e=>if (fI S o&&c&&(ik S o).contains e.key)=true then some (({S with mem:=Mem.set S.mem e}:St).put o.dst true x,⟨ik S o,[e],true,x⟩)else none
 | .no=>m9 X A S o
def qk(X:Ctx)(A:bj)(S:St)(o:Oper)(b:Bool):cP->Option (St×aU)
 | .val c x=>if b=true->(fI S o&&c)=true then some (S.put o.dst b x,⟨ik S o,[],b,x⟩)else none
 |r=>if b=true then eF X A S o r else some (S.put o.dst true .aX,⟨[],[],true,.aX⟩)
def ea(X:Ctx)(A:bj)(md:Bool)(all:List Oper)(S:St)(o:Oper):Option (St×aU):=
 match o.guard with
 |none=>eF X A S o (cJ X.P S o)
 |some (j,Y)=>match n7 (nO all S j)with
  | .qY t=>match md with
   |false=>qk X A S o (t == Y) (cJ X.P S o)
   |true=>if (t == Y)=true then eF X A (S.cz (kD all j) Y) o (cJ X.P (S.cz (kD all j) Y) o)else some ((S.cz (kD all j) (!Y)).put o.dst true (.bM []),⟨[],[],true,.bM []⟩)
  | .skip=>some (S.put o.dst true (.bM []),⟨[],[],true,.bM []⟩)
  | .bad=>none
def wA(I:List aU)(r:Option (St×aU))(k:St->List aU->Option (XE×St)):Option (XE×St):=
 match r with
 |some (S,p)=>k S (p::I)
 |none=>none
structure Hv where
 S:St
 t:TypeId
 x:D
 es:List cf
 ks:List Nat
def uy(S:St):Option eA->Option Hv
 |some ⟨.panic t x,es,ks⟩=>some ⟨{S with mem:=bp S.mem es},t,x,es,ks⟩
 |_=>none
def Hx(X:Ctx)(A:bj)(S:St)(o:Oper):Option Hv:=
 match o.op with
 | .call {callee:=.value A2,args,..}=>uy S (cg X A S o args.toList (S.aq A2))
 |_=>none
def Bo(X:Ctx)(A:bj)(S:St)(o:Oper):cP->Option Hv
 | .no=>Hx X A S o
 |_=>none
def j7(X:Ctx)(A:bj)(S:St)(o:Oper):Option Hv:=
 match o.guard with
 |none=>Bo X A S o (cJ X.P S o)
 |some _=>none
def qG(X:Ctx)(md:Bool)(all:List Oper)(A4:List Nat):Nat->List Oper->St->List aU->Option (List aU)
 |_,[],_,I=>some I.reverse
 |i,o::r,S,I=>match A4.contains i with
  |true=>match ea X (λ_ _ _=>none) md all S o with
   |some (S1,p)=>qG X md all A4 (i+1) r S1 (p::I)
   |none=>none
  |false=>qG X md all A4 (i+1) r (S.put o.dst false .aX) (⟨[],[],false,.aX⟩::I)
def OI(J:Nat×List (List Nat))(A4:List Nat)(t:TypeId)(x:D)(S:St):Option (List aU)->Option (XE×St)
 |some ps=>if (nW J.2 ps&&yD ps A4)=true then some (.panic t x,S.kill (J.1+fe ps+1))else none
 |none=>none
def OJ(X:Ctx)(md:Bool)(J:Nat×List (List Nat))(all r:List Oper)(d:Option Nat)(I:List aU)(q:Hv):Option (XE×St):=
 OI J (J.2.getD I.length []) q.t q.x q.S (qG X md all (J.2.getD I.length []) (I.length+1) r (q.S.put d true .aX) (⟨q.ks,q.es,true,.aX⟩::I))
def mA(X:Ctx)(A:bj)(md:Bool)(J:Nat×List (List Nat))(all r:List Oper)(S:St)(o:Oper)(I:List aU)(k:St->List aU->Option (XE×St)):Option Hv->Option (XE×St)
 |some q=>OJ X md J all r o.dst I q
 |none=>wA I (ea X A md all S o) k
def gK(X:Ctx)(A:bj)(md:Bool)(J:Nat×List (List Nat))(all:List Oper):List Oper->St->List aU->Option (XE×St)
 |[],S,I=>if nW J.2 I.reverse=true then some (.normal,S)else none
 |o::r,S,I=>mA X A md J all r S o I (gK X A md J all r) (j7 X A S o)
structure Cl where
 k:Nat
 v:Nat
 j:Nat
 x:AV
 vv:Bool
def XN:AV->AV->Bool
 | .vec a b c d,.vec A8 A1 A9 AG=>decide (a=A8)&&decide (b=A1)&&decide (c=A9)&&decide (d=AG)
 | .ptr a b c,.ptr A8 A1 A9=>decide (a=A8)&&decide (b=A1)&&decide (c=A9)
 | .d (.int k n),.d (.int A' A0)=>decide (k=A')&&decide (n=A0)
 | .d (.bool b),.d (.bool A1)=>decide (b=A1)
 |_,_=>false
def fw(m:Mem):List (Nat×Nat)->Option (List Cl)
 |[]=>some []
 |(k,j)::r=>match Mem.get m k,fw m r with
  |some ⟨_,v,.box cs⟩,some l=>match cs[j]? with
   |some x=>some (⟨k,v,j,x,false⟩::l)
   |none=>none
  |some ⟨_,v,.vv ag (some x)⟩,some l=>some (⟨k,v,ag.length,x,true⟩::l)
  |_,_=>none
def clB(q:Cl):Option AV->Bool
 |some x=>XN x q.x
 |none=>false
def clE(q:Cl)(v:Nat):ax->Bool
 | .box cs=>!q.vv&&decide (v=q.v)&&clB q cs[q.j]?
 | .vv ag (some x)=>q.vv&&decide (v=q.v)&&decide (ag.length=q.j)&&XN x q.x
 |_=>false
def OK(e:cf):List Cl->Bool
 |[]=>true
 |q::r=>(match decide (e.key=q.k)with|true=>clE q e.ak e.cont|false=>true)&&OK e r
def CI(E:List Cl):List cf->Bool
 |[]=>true
 |e::r=>OK e E&&CI E r
def zX(b:Bool)(k v j:Nat):List Cl->Option AV
 |[]=>none
 |q::r=>match decide (b=q.vv)&&decide (k=q.k)&&decide (v=q.v)&&decide (j=q.j)with|true=>some q.x|false=>zX b k v j r
def Bp(b:Bool)(k v:Nat):List Cl->Bool
 |[]=>false
 |q::r=>match decide (b=q.vv)&&decide (k=q.k)&&decide (v=q.v)with|true=>true|false=>Bp b k v r
def XO(P:Program)(E:List Cl)(t:TypeId):Bool×AV->Option AV
 |(true,.ptr k v off)=>match (tk P t).agg,decide (tk P t=.other)with
  |false,false=>zX false k v off E
  |_,_=>none
 |(true,.ck k v i j)=>match (tk P t).agg,decide (tk P t=.other),decide (j=0)with
  |false,false,true=>zX true k v i E
  |_,_,_=>none
 |_=>none
def XP(E:List Cl):Option Nat->Bool×AV->Option AV
 |some n,(true,.ptr k v off)=>match Bp false k v E with|true=>some (.ptr k v (off+n))|false=>none
 |_,_=>none
def XQ(E:List Cl):Bool×AV->Option AV
 |(true,.ptr k v off)=>match Bp false k v E with|true=>some (.ptr k v off)|false=>none
 |_=>none
def XR(P:Program)(E:List Cl):TK->Bool×AV->Bool×AV->Option AV
 | .slice e,(true,.vec k v off len),(true,.d (.int _ n))=>match decide (eH P e=some 1),Bp true k v E,decide (0<=n),decide (n.toNat<len)with
  |true,true,true,true=>some (.ck k v (off+n.toNat) 0)
  |_,_,_,_=>none
 |_,_,_=>none
def zY(P:Program)(E:List Cl)(S:St):Op->Option AV
 | .load t x=>XO P E t (S.aq x)
 | .fieldAddr s x f=>XP E (vM P s f) (S.aq x)
 | .nilCheck x=>XQ E (S.aq x)
 | .indexAddr t x i=>XR P E (tk P t) (S.aq x) (S.aq i)
 |_=>none
def zZ(P:Program)(E:List Cl)(S:St)(o:Oper):Option AV:=
 match o.guard with
 |none=>zY P E S o.op
 |some _=>none
def Vz(E:List Cl):Option (St×aU)->Option (St×aU)
 |some (S,p)=>if CI E p.es=true then some (S,p)else none
 |none=>none
def wB(X:Ctx)(A:bj)(md:Bool)(E:List Cl)(all:List Oper)(S:St)(o:Oper):Option AV->Option (St×aU)
 |some x=>some (S.put o.dst true x,⟨[],[],true,x⟩)
 |none=>Vz E (ea X A md all S o)
def vi:List Nat->List Oper->Bool
 |[],[]=>true
 |_,_=>false
def OL(X:Ctx)(A:bj)(md:Bool)(J:List (List Nat))(all:List Oper)(S:St)(o:Oper)(I:List aU):Option (XE×St):=
 if nW J I.reverse=true then eL X A md all [o] S else none
def pg(X:Ctx)(A:bj)(md:Bool)(J:List (List Nat))(E:List Cl)(all:List Oper):List Oper->St->List aU->Option (XE×St)
 |[],S,I=>if nW J I.reverse=true then some (.normal,S)else none
 |o::r,S,I=>match vi (J.getD I.length []) r with
  |true=>OL X A md J all S o I
  |false=>wA I (wB X A md E all S o (zZ X.P E S o)) (pg X A md J E all r)
def OM(X:Ctx)(A:bj)(md:Bool)(J:List (List Nat))(all:List Oper)(S:St):Option (List Cl)->Option (XE×St)
 |some E=>pg X A md J E all all S []
 |none=>none
def sB(X:Ctx)(A:bj)(md:Bool)(J:List (List Nat))(all:List Oper)(S:St):List (Nat×Nat)->Option (XE×St)
 |[]=>gK X A md (fg S.mem,J) all all S []
 |q::r=>OM X A md J all S (fw S.mem (q::r))
def St.jj(S:St)(U j k sz:Nat):St:=
 match Mem.get S.mem U,Mem.get S.mem k with
 |some ⟨_,AA,.box cs⟩,some ⟨_,v,_⟩=>match cs[j]? with
  |some (.lit (.slice none 0 0))=>if U=k then S else {S with mem:=Mem.set (Mem.set S.mem ⟨k,v+1,.vec sz []⟩) ⟨U,AA,.box (cs.set j (.vec k (v+1) 0 0))⟩}
  |_=>S
 |_,_=>S
def D3(k v H v2:Nat):AV->AV
 | .vec O v0 o l=>if O=k/\v0=v then .vec H v2 o l else .vec O v0 o l
 |x=>x
def sC(AB:AV->AV):Mem->Mem
 |[]=>[]
 |e::r=>⟨e.key,e.ak,oZ AB e.cont⟩::sC AB r
def St.wj(S:St)(k H:Nat):St:=
 match Mem.get S.mem k,Mem.get S.mem H with
 |some ⟨_,v,.vec sz ag⟩,some ⟨_,v2,_⟩=>if k=H then S else {S with env:=mO (D3 k v H (v2+1)) S.env,mem:=Mem.set (Mem.set (sC (D3 k v H (v2+1)) S.mem) ⟨k,v+1,.dead⟩) ⟨H,v2+1,.vec sz ag⟩}
 |_,_=>S
def St.ss(S:St)(k H:Nat):St:=
 match Mem.get S.mem k,Mem.get S.mem H with
 |some ⟨_,v,.vv ag none⟩,some ⟨_,v2,_⟩=>match ag.getLast? with
  |some xs=>if k=H then S else {S with mem:=Mem.set (Mem.set S.mem ⟨k,v,.vv ag.dropLast (some (.vec H (v2+1) 0 xs.length))⟩) ⟨H,v2+1,.vec 1 xs⟩}
  |none=>S
 |_,_=>S
def St.cls(S:St)(k H:Nat):St:=
 match Mem.get S.mem k,Mem.get S.mem H with
 |some ⟨_,v,.vv ag (some (.vec AH v3 0 len))⟩,some ⟨_,v2,.vec 1 xs⟩=>if k=H then S else if AH=H/\v3=v2/\len=xs.length then {S with mem:=Mem.set (Mem.set S.mem ⟨k,v,.vv (ag++[xs]) none⟩) ⟨H,v2+1,.dead⟩} else S
 |_,_=>S
def St.shut(S:St)(k:Nat):St:=
 match Mem.get S.mem k with
 |some ⟨_,v,.vv ag (some _)⟩=>{S with mem:=Mem.set S.mem ⟨k,v,.vv ag none⟩}
 |_=>S
def St.su(S:St)(U j k:Nat):St:=
 match Mem.get S.mem U,Mem.get S.mem k with
 |some ⟨_,AA,.box cs⟩,some ⟨_,v,_⟩=>match cs[j]? with
  |some (.lit (.slice none 0 0))=>if U=k then S else {S with mem:=Mem.set (Mem.set S.mem ⟨U,AA,.box (cs.set j (.vec k (v+1) 0 0))⟩) ⟨k,v+1,.vv [] none⟩}
  |_=>S
 |_,_=>S
def Gh.go(S:St):Gh->St
 | .ss k H=>S.ss k H
 | .cls k H=>S.cls k H
 | .shut k=>S.shut k
 | .su U j k=>S.su U j k
 | .trim k=>S.v7 k
 | .freeze k=>S.freeze k
 | .jj U j k sz=>S.jj U j k sz
 | .wj k H=>S.wj k H
def CJ(S:St):List Gh->St
 |[]=>S
 |g::r=>CJ (g.go S) r
def uz(k:St->St):Option (XE×St)->Option (XE×St)
 |some (.normal,S)=>some (.normal,k S)
 |r=>r
def CK(id:Nat):Option (XE×St)->Option (XE×St)
 |some (.exit AC,S)=>if AC=id then some (.normal,S)else some (.exit AC,S)
 |r=>r
def iter(f:St->Option (XE×St)):Nat->St->Option (XE×St)
 |0,_=>none
 |n+1,S=>andThen (f S) (iter f n)
def CL(a b:Option (XE×St)):Bool×AV->Option (XE×St)
 |(true,.d (.bool t))=>if t=true then a else b
 |_=>none
def St.leave(X:Ctx)(f:FuncId)(id:Nat)(S:St):St:=CJ (S.prune (X.oW f id)) (X.gh f id)
def St.enter(X:Ctx)(f:FuncId)(id:Nat)(S:St):St:=CJ S (X.gh f (id+2000000))
def den(X:Ctx)(f:FuncId)(A:bj)(n:Nat):Code->St->Option (XE×St)
 | .skip,S=>some (.normal,S)
 | .region id ops draw,S=>match draw with
  |false=>uz (St.leave X f id) (eL X A (X.md f id) ops.toList ops.toList S)
  |true=>uz (St.leave X f id) (sB X A (X.md f id) (X.od f id) ops.toList S (X.fl f id))
 | .seq a b,S=>andThen (den X f A n a S) (den X f A n b)
 | .cond c a b,S=>CL (den X f A n a S) (den X f A n b S) (S.aq c)
 | .block id c,S=>CK id (den X f A n c (S.enter X f id))
 | .loop c,S=>iter (den X f A n c) n S
 | .exit id,S=>some (.exit id,CJ S (X.gh f (id+1000000)))
 | .ret,S=>some (.ret,S)
 |_,_=>none
def fin(P:Program)(p:aw)(N:Nat)(rs:List ResultVar):Option (XE×St)->Option (Out×List (Nat×ax))
 |some (.normal,S)=>finish P p N rs S
 |some (.ret,S)=>finish P p N rs S
 |some (.panic t x,S)=>we p N t x S
 |_=>none
def pJ(X:Ctx)(f:FuncId)(A:bj)(n:Nat)(fn:Func)(c:Code)(args:List AV)(cs:List ax):Option (Out×List (Nat×ax)):=
 if (decide (args.length<=fn.ntmps)&&decide (cs.length<=100)&&(X.fp f).sites.all (λk=>decide (100<=k))&&decide (X.fp f).sites.Nodup)=true then
  fin X.P (X.fp f) cs.length fn.results.toList (den X f A n c (entry fn.ntmps X.gl args cs (X.fp f).sites))
 else none
def np:Option (Out×List (Nat×ax))->Option Nat
 |some (.ret (.vec 0 0 0 0),[(0,.vec sz [])])=>some sz
 |_=>none
def jE(AD AI:Option (Out×List (Nat×ax))):Option (Out×List (Nat×ax)):=
 match np AD,np AI with
 |some a,some b=>if a=b then AD else none
 |_,_=>none
def fX(run:List AV->Option (Out×List (Nat×ax)))(args:List AV):Bool->Option (Out×List (Nat×ax))
 |true=>match args with
  | .d (.list [])::r=>jE (run (.lit (.slice none 0 0)::r)) (run (.nn::r))
  |args=>run args
 |false=>run args
def lK(h:List AV->Option AV)(args:List AV):List ax->Option (Out×List (Nat×ax))
 |[]=>match h args with
  |some d=>some (.ret d,[])
  |none=>none
 |_::_=>none
def na(h:List D->Option D)(args:List AV):Option AV:=match toDs args with
 |some M=>(h M).map .d
 |none=>none
abbrev DF:=FuncId×List AV
def CM(S:St)(args:List Operand):Bool×AV->Option DF
 |(true,.fn g Z)=>if (gU S args&&decide (g<qO))=true then some (g,cM S args++Z)else none
 |_=>none
def gv(S:St)(o:Oper):Option DF:=
 match o.guard,o.op with
 |none,.defer {callee:=.value A2,args,..}=>CM S args.toList (S.aq A2)
 |_,_=>none
def nG(o:Oper):Bool:=
 match o.op with
 | .defer _=>true
 |_=>false
abbrev XD:=Option (XE×St×List DF)
def Gi(k:St->XD)(M:List DF):Option (XE×St)->XD
 |some (.normal,S)=>k S
 |some (e,S)=>some (e,S,M)
 |none=>none
def eS(X:Ctx)(A:bj)(md:Bool)(all:List Oper):List Oper->St->List DF->XD
 |[],S,M=>some (.normal,S,M)
 |o::r,S,M=>match gv S o with
  |some d=>eS X A md all r (S.put o.dst true .aX) (d::M)
  |none=>Gi (λS1=>eS X A md all r S1 M) M (l7 X A md all S o)
def lL(ops:List Oper):Bool:=ops.any nG
def yK(k:St->St):XD->XD
 |some (.normal,S,M)=>some (.normal,k S,M)
 |r=>r
def wC(M:List DF):Option (XE×St)->XD
 |some (e,S)=>some (e,S,M)
 |none=>none
def Hy(k:St->List DF->XD):XD->XD
 |some (.normal,S,M)=>k S M
 |r=>r
def hU(X:Ctx)(f:FuncId)(A:bj)(n:Nat):Code->St->List DF->XD
 | .seq a b,S,M=>Hy (hU X f A n b) (hU X f A n a S M)
 | .region id ops draw,S,M=>match !draw&&lL ops.toList with
  |true=>yK (St.leave X f id) (eS X A (X.md f id) ops.toList ops.toList S M)
  |false=>wC M (den X f A n (.region id ops draw) S)
 |c,S,M=>wC M (den X f A n c S)
def tE(o:Oper):Bool:=
 match o.guard,o.op with
 |none,.call {callee:=.builtin .recover,args,..}=>args.toList.isEmpty
 |_,_=>false
def mC(X:Ctx)(f:FuncId)(A:bj)(n:Nat)(A3:AV):Code->St->Option (XE×St)
 | .seq a b,S=>andThen (mC X f A n A3 a S) (den X f A n b)
 | .region id ops draw,S=>match draw,ops.toList with
  |false,o::r=>if tE o=true then uz (St.leave X f id) (eL X A (X.md f id) (o::r) r (S.put o.dst true A3))else none
  |_,_=>none
 |_,_=>none
def ON(P:Program)(p:aw)(N:Nat)(rs:List ResultVar):Option (XE×St)->Option (Out×List (Nat×ax))
 |some (.normal,S)=>finish P p N rs S
 |some (.ret,S)=>finish P p N rs S
 |_=>none
def vj(X:Ctx)(f:FuncId)(A:bj)(n:Nat)(fn:Func)(c:Code)(args:List AV)(cs:List ax):Option (Out×List (Nat×ax)):=
 match args.getLast? with
 |some A3=>if (decide (args.dropLast.length<=fn.ntmps)&&decide (cs.length<=100)&&(X.fp f).sites.all (λk=>decide (100<=k))&&decide (X.fp f).sites.Nodup)=true then
  ON X.P (X.fp f) cs.length fn.results.toList (mC X f A n A3 c (entry fn.ntmps X.gl args.dropLast cs (X.fp f).sites))
  else none
 |none=>none
def Bq:XE->Option AV
 | .normal=>some (.lit .nilIface)
 | .ret=>some (.lit .nilIface)
 | .panic t x=>some (.fL t x)
 | .exit _=>none
def sD(S:St):Option eA->Option St
 |some ⟨.ret _,es,_⟩=>some {S with mem:=bp S.mem es}
 |_=>none
def Br(X:Ctx)(p:aw)(N:Nat)(rs:List ResultVar):Option St->Option (Out×List (Nat×ax))
 |some S=>finish X.P p N rs S
 |none=>none
def ru(X:Ctx)(p:aw)(N:Nat)(rs:List ResultVar)(A5:bj)(S:St)(d:DF):Option AV->Option (Out×List (Nat×ax))
 |some A3=>Br X p N rs (sD S (dr A5 S.mem 0 d.1 (d.2++[A3]) (X.fp d.1).uv))
 |none=>none
def uA(X:Ctx)(p:aw)(N:Nat)(rs:List ResultVar)(A5:bj):XD->Option (Out×List (Nat×ax))
 |some (e,S,[])=>fin X.P p N rs (some (e,S))
 |some (e,S,[d])=>ru X p N rs A5 S d (Bq e)
 |_=>none
def vk(X:Ctx)(f:FuncId)(A A5:bj)(n:Nat)(fn:Func)(c:Code)(args:List AV)(cs:List ax):Option (Out×List (Nat×ax)):=
 if (decide (args.length<=fn.ntmps)&&decide (cs.length<=100)&&(X.fp f).sites.all (λk=>decide (100<=k))&&decide (X.fp f).sites.Nodup)=true then
  uA X (X.fp f) cs.length fn.results.toList A5 (hU X f A n c (entry fn.ntmps X.gl args cs (X.fp f).sites) [])
 else none
def uB:Code->Bool
 | .seq a b=>uB a||uB b
 | .region _ ops _=>lL ops.toList
 |_=>false
def l8(X:Ctx)(n:Nat)(A:bj):bj:=λg args cs=>
 match X.P.funcs[g]? with
 |some fn=>match fn.body with
  |some c=>vj X g A n fn c args cs
  |none=>none
 |none=>none
def vm(X:Ctx)(f:FuncId)(A:bj)(n:Nat)(fn:Func)(c:Code)(args:List AV)(cs:List ax):Bool->Option (Out×List (Nat×ax))
 |true=>vk X f A (l8 X n A) n fn c args cs
 |false=>fX (λargs=>pJ X f A n fn c args cs) args (X.fp f).split
def aF(X:Ctx):Nat->bj
 |0,_,_,_=>none
 |n+1,f,args,cs=>match X.ov with
  |some A=>A f args cs
  |none=>match X.vh f with
   |some h=>lK h args cs
   |none=>match X.P.funcs[f]? with
    |some fn=>match fn.body with
     |some c=>vm X f (aF X n) n fn c args cs (uB c)
     |none=>none
    |none=>none
def iH(X:Ctx)(A2:bj):Prop:=∀g args cs out l,A2 g args cs=some (out,l)->
 fW X.P g=true/\Ev X.P X.gl g args (dq 0 cs) λo m=>o=out/\m=cZ 0 l
theorem sE{P:Program}{g:FuncId}{vs:Array Value}{w:World}(h:fW P g=true):(callFunc g vs).run P w=.ok (.enter g vs) w:=by
 unfold fW at h;split at h
 ·rename_i fn Ao;simp only[Ds,aj8]at h;have J:fn.body.isNone=false:=by
   have:=h.1;cases AE:fn.body<;>simp_all
  have T:fn.name≠ "runtime.NumGoroutine" :=by simpa using h.2
  have A7:fn.body≠none:=by intro AE;simp[AE]at J
  simp[callFunc,Ao,T,A7]
 ·cases h
theorem get_none{m:Mem}{k:Nat}:Mem.get m k=none↔k∉m.map (·.key):=by
 induction m with
 |nil=>simp[Mem.get]
 |cons e r ih=>
  simp only[Mem.get,acT,aak,ak0];split
  ·rename_i h;simp[h]
  ·rename_i h;rw[ih];constructor
   ·exact λhh=>⟨λhe=>h he.symm,hh⟩
   ·exact λhh=>hh.2
theorem uC{m m':Mem}(A:m'.map (·.key)=m.map (·.key))(k:Nat):(Mem.get m' k).isNone=(Mem.get m k).isNone:=by
 have:=get_none (m:=m) (k:=k);have T:=get_none (m:=m') (k:=k);rw[A,<-this]at T;cases h:Mem.get m k<;>cases Ap:Mem.get m' k<;>simp_all
theorem uD(m:Mem):∀(n:Nat)(todo I:List Nat),∀k∈I,k∈collect m n todo I
 |0,todo,I,k,h=>h
 |n+1,[],I,k,h=>h
 |n+1,t::todo,I,k,h=>by
  simp only[collect];split
  ·exact uD m n todo I k h
  ·exact uD m n _ _ k (aj5 _ h)
theorem uE{m m':Mem}(A:m'.map (·.key)=m.map (·.key)):∀(n:Nat)(todo I:List Nat),(∀k∈collect m n todo I,Mem.get m' k=Mem.get m k)->collect m' n todo I=collect m n todo I
 |0,todo,I,_=>rfl
 |n+1,[],I,_=>rfl
 |n+1,t::todo,I,h=>by
  simp only[collect,uC A t]at h⊢;split
  ·rename_i H;rw[H]at h;exact uE A n todo I h
  ·rename_i H;rw[H]at h;have e:Mem.get m' t=Mem.get m t:=h t (uD m n _ _ t (by simp));rw[e];exact uE A n _ _ h
mutual
theorem Hz{m m':Mem}{ρ:List Nat}{bor:Nat->Bool}{nv:Nat->Nat->Nat}(A:m'.map (·.key)=m.map (·.key))(h:∀k,(k∈ρ\/bor k=true)->Mem.get m' k=Mem.get m k):∀y:AV,vw m' ρ bor nv y=vw m ρ bor nv y
 | .ptr k ak off=>by
  by_cases U:k∈ρ
  ·simp only[vw,h k (.inl U)]
  ·have V:∀N:Mem,vw N ρ bor nv (.ptr k ak off)=.aX:=by
    intro N;simp only[vw,jd (ρ:=ρ) (k:=k) (j:=0) |>.2 U];cases Mem.get N k<;>rfl
   rw[V,V]
 | .vec k ak off len=>by
  by_cases U:k∈ρ\/bor k=true
  ·simp only[vw,h k U]
  ·simp only[ak0]at U;have V:∀N:Mem,vw N ρ bor nv (.vec k ak off len)=.aX:=by
    intro N;simp only[vw,jd (ρ:=ρ) (k:=k) (j:=0) |>.2 U.1,U.2];cases Mem.get N k with
    |none=>rfl
    |some e=>
     obtain⟨_,_,c⟩:=e;cases c<;>simp
   rw[V,V]
 | .ck k ak i j=>by
  by_cases U:k∈ρ
  ·simp only[vw,h k (.inl U)]
  ·have V:∀N:Mem,vw N ρ bor nv (.ck k ak i j)=.aX:=by
    intro N;simp only[vw,jd (ρ:=ρ) (k:=k) (j:=0) |>.2 U];cases Mem.get N k<;>rfl
   rw[V,V]
 | .agg cs=>by simp only[vw,vn A h cs]
 | .fn f cap=>by simp only[vw,vn A h cap]
 | .bM vs=>by simp only[vw,vn A h vs]
 | .aX=>rfl
 | .d x=>rfl
 | .dp x j=>rfl
 | .fL t x=>rfl
 | .lit v=>rfl
 | .nn=>rfl
 | .err=>rfl
theorem vn{m m':Mem}{ρ:List Nat}{bor:Nat->Bool}{nv:Nat->Nat->Nat}(A:m'.map (·.key)=m.map (·.key))(h:∀k,(k∈ρ\/bor k=true)->Mem.get m' k=Mem.get m k):∀l:List AV,qa m' ρ bor nv l=qa m ρ bor nv l
 |[]=>rfl
 |x::r=>by simp only[qa,Hz A h x,vn A h r]
end
theorem HA{m m':Mem}{ρ:List Nat}{bor:Nat->Bool}{nv:Nat->Nat->Nat}(A:m'.map (·.key)=m.map (·.key))(h:∀k,(k∈ρ\/bor k=true)->Mem.get m' k=Mem.get m k):
 ∀(l:List Nat)(i:Nat),(∀k∈l,k∈ρ)->dM m' ρ bor nv i l=dM m ρ bor nv i l
 |[],i,_=>rfl
 |k::r,i,AQ=>by
  simp only[dM,h k (.inl (AQ k (by simp))),HA A h r (i+1) (λx Y=>AQ x (by simp[Y]))];congr 1;cases Mem.get m k with
  |none=>rfl
  |some e=>
   simp only[uu,ab8,true_and];cases e.cont with
   |box cs=>simp only[ur,vn A h cs]
   |vv ag y=>
    cases y with
    |none=>rfl
    |some x=>simp only[ur,agb,Hz A h x]
   |_=>rfl
theorem CN{b:Bool}{m m':Mem}{ρ B:List Nat}(A:m'.map (·.key)=m.map (·.key))(h:∀k,(k∈ρ\/B.contains k=true)->Mem.get m' k=Mem.get m k):∀l:List AV,gn b m' ρ B l=gn b m ρ B l
 |[]=>rfl
 |x::r=>by simp only[gn,Hz (nv:=gk) A h x,CN A h r]
theorem Bs{m m':Mem}(d:Nat):∀(l:List Nat),(∀k∈l,Mem.get m' k=Mem.get m k)->base m' d l=base m d l
 |[],_=>rfl
 |k::r,h=>by simp only[base,h k (by simp),Bs d r (λx Y=>h x (by simp[Y]))]
theorem HB{m m':Mem}(ρ:List Nat)(A:m'.map (·.key)=m.map (·.key)):∀(l:List Nat),wm m' ρ l=wm m ρ l
 |[]=>rfl
 |k::r=>by
  have:(Mem.get m' k).isSome=(Mem.get m k).isSome:=by
   have:=uC A k;cases h:Mem.get m k<;>cases Ap:Mem.get m' k<;>simp_all
  simp only[wm,this,HB ρ A r]
theorem CO{A2:bj}{m m':Mem}{A3:Nat}{g:FuncId}{E:List AV}{mt:List Nat}{res:eA}(A:m'.map (·.key)=m.map (·.key))(h:dr A2 m A3 g E mt=some res)(AW:∀k∈res.ks,Mem.get m' k=Mem.get m k):
 dr A2 m' A3 g E mt=some res:=by
 unfold dr kS kR at h⊢;obtain⟨ρ,A4⟩:∃ρ,ρ=collect m 64 (j6 mt 0 E) []:=⟨_,rfl⟩;rw[<-A4]at h;obtain⟨B,AX⟩:∃B,B=(sy mt 0 E).filter λk=>!ρ.contains k:=⟨_,rfl⟩;rw[<-AX]at h;have AF:∀k,k∈ρ\/B.contains k=true->Mem.get m' k=Mem.get m k:=by
  intro k Z;refine AW k ?_;unfold eK at h;split at h
  ·split at h
   ·cases h;simp only[abO];rcases Z with J|J
    ·exact .inl (.inl J)
    ·exact .inl (.inr (by simpa using J))
   ·cases h
  ·cases h
 have Aq:collect m' 64 (j6 mt 0 E) []=ρ:=by
  rw[A4];exact uE A 64 _ _ (λk Z=>AF k (.inl (A4▸Z)))
 rw[Aq,<-AX,CN A AF,HA A AF ρ 0 (λ_ h=>h),uC A];unfold eK at h⊢;split
 ·rename_i out M A8;rw[A8]at h;simp only at h;rw[HB ρ A];split
  ·rename_i H;rw[aal H]at h;cases h;have A9:∀d,base m' d ρ=base m d ρ:=λd=>Bs d ρ (λk Z=>AF k (.inl Z));have Ar:∀d,base m' d (List.range' (A3+1) (M.length-ρ.length))=base m d (List.range' (A3+1) (M.length-ρ.length)):=λd=>Bs d _ (λk Z=>AW k (by simp only[abO];exact .inr Z));rw[A9,Ar]
  ·rename_i H;rw[aac H]at h;cases h
 ·rename_i A8;rw[A8]at h;cases h
theorem uF(S:St):∀(l:List Operand)(i:Nat),(cM S l)[i]?=(l[i]?).map λx=>(S.aq x).2
 |[],i=>by simp[cM]
 |x::r,i=>by cases i with|zero=>simp[cM]|succ i=>simp[cM,uF S r i]
theorem iz(S:St):∀(l:List Operand),(cM S l).length=l.length
 |[]=>rfl
 |x::r=>by simp[cM,iz S r]
theorem wD(b m ρ B):∀(l:List AV)(i:Nat),(gn b m ρ B l)[i]?=(l[i]?).map λy=>AJ b (vw m ρ (λk=>B.contains k) gk y)
 |[],i=>by simp[gn]
 |x::r,i=>by cases i with|zero=>simp[gn]|succ i=>simp[gn,wD b m ρ B r i]
theorem qH(b m ρ B):∀(l:List AV),(gn b m ρ B l).length=l.length
 |[]=>rfl
 |x::r=>by simp[gn,qH b m ρ B r]
theorem yL(m ρ bor):∀(l:List Nat)(i j:Nat),dq i (m8 (dM m ρ bor gk j l))=cZ i (dM m ρ bor gk j l)
 |[],i,j=>rfl
 |k::r,i,j=>by
  have:uu m ρ bor gk j (Mem.get m k)=(0,(uu m ρ bor gk j (Mem.get m k)).2):=by
   cases Mem.get m k<;>rfl
  simp only[dM];rw[this];simp only[m8,dq,cZ,yL m ρ bor r (i+1) (j+1)]
theorem Bt{m:Mem}{ρ:List Nat}:∀{l:List Nat},wm m ρ l=true->∀k∈l,(Mem.get m k).isSome=true/\k∉ρ
 |[],_,k,A=>by simp at A
 |x::r,h,k,A=>by
  simp only[wm,Ds,aj8,List.contains_eq_mem,afw]at h;rcases aak.1 A with rfl|A
  ·exact h.1
  ·exact Bt h.2 k A
theorem wE:∀{l:List (Nat×ax)},mP l=true->∀e∈l,kL e.2=true
 |[],_,e,he=>by simp at he
 |(v,c)::r,h,e,he=>by
  simp only[mP,Ds]at h;rcases aak.1 he with rfl|he
  ·exact h.1
  ·exact wE h.2 e he
theorem vo:∀(l:List (Nat×ax))(i k:Nat),i<=k->k<i+l.length->(Mem.get (cZ i l) k).isSome=true
 |[],i,k,J,T=>by simp at T;omega
 |(v,c)::r,i,k,J,T=>by
  simp only[cZ,Mem.get];split
  ·rfl
  ·rename_i As;exact vo r (i+1) k (by have BG:i≠k:=As;omega) (by simp at T;omega)
theorem Ev.frz{P:Program}{gl f args}{cs:List ax}{out:Out}{M:List (Nat×ax)}(h:Ev P gl f args (dq 0 cs) λo m=>o=out/\m=cZ 0 M)(AQ:cs.length<=M.length):
 Ev P gl f args (dq 0 cs) λo m=>o=DZ cs.length M out/\m=cZ 0 (dM (cZ 0 M) (List.range cs.length) (λ_=>true) (λ_ v=>v) 0 (List.range cs.length)):=by
 intro φ G w vs hm AG At Au;refine (h φ G w vs hm AG At Au).mono ?_;rintro e w' ⟨φ',m',AH,⟨rfl,rfl⟩,AA,O,q⟩;obtain⟨s1,s2,Av⟩:=zQ (G1:=G) (ρ:=List.range cs.length) (bor:=λ_=>true) (nv:=λ_ v=>v) AA List.nodup_range (λk A=>vo M 0 k (ak6 _) (by simp at A;omega)) (λb h=>.inl h) (λb h=>AA.jQ b h.own)
  (λk e L b AG _ _ AI A5=>AA.jQ _ ⟨e,(Mem.get_mem AG).1,L,by rw[(Mem.get_mem AG).2];exact AI,A5⟩)
 refine⟨_,_,_,⟨rfl,rfl⟩,s1,⟨?_,O.xU,?_,O.size,O.os,O.tape,O.output⟩,?_⟩
 ·intro k L AI;have A:k<cs.length:=by
   have:=hm.oA k L AI;rw[Hj,oX]at this;simpa using this
  obtain⟨L',J,T,A7⟩:=O.le k L AI;exact⟨L',by simp[bE.gx,A,J],T,A7⟩
 ·intro b AE A5;exact O.own b AE ((u9 (φ:=φ') (nv:=λ_ v=>v) (bor:=λ_=>true) (λk A=>vo M 0 k (ak6 _) (by simp at A;omega)) b).1 A5).own
 ·cases AH with
  |ret x=>
   cases e with
   |returned v=>exact (s2 x v q).norm
   |_=>exact q.elim
  |panic t x=>
   cases e with
   |panicked chain=>
    obtain⟨v,H,Y⟩:=q;exact⟨v,H,Y.mono (λ_ _ _=>rfl) (aae _) (λb _=>Av b)⟩
   |_=>exact q.elim
theorem sF:∀(l:List (Nat×ax)),(m8 l).length=l.length
 |[]=>rfl
 |(_,_)::r=>by simp[m8,sF r]
theorem yN{AB:Nat}{b:Bool}{r:Option (Out×List (Nat×ax))}{out:Out}{l:List (Nat×ax)}(h:pe AB b r=some (out,l)):∃AK A1,r=some (AK,A1)/\
 ((out=AK/\l=A1)\/(AB<A1.length/\out=DZ AB A1 AK/\l=dM (cZ 0 A1) (List.range AB) (λ_=>true) (λ_ v=>v) 0 (List.range AB))):=by
 cases r with
 |none=>cases h
 |some p=>
  obtain⟨Aw,A1⟩:=p;refine⟨Aw,A1,rfl,?_⟩;simp only[pe]at h;split at h
  ·rename_i H;simp only[Ds,aag]at H;simp only[aas,ab8]at h;exact .inr ⟨H.2,h.1.symm,h.2.symm⟩
  ·simp only[aas,ab8]at h;exact .inl ⟨h.1.symm,h.2.symm⟩
theorem aaD{n g:Nat}(h:g<n):zV n g=g:=by
 unfold zV;rw[decide_eq_false (Nat.not_le.2 h)]
theorem RX{n g:Nat}(h:g<n)(E D:List AV):rR n g E D=E++D:=by
 unfold rR;rw[decide_eq_false (Nat.not_le.2 h)]
theorem aaE(n g:Nat):zV n (g+n)=g:=by
 unfold zV;rw[akb (akX n g)];exact Nat.add_sub_cancel g n
theorem RY(n g:Nat)(E D:List AV):rR n (g+n) E D=D++E:=by
 unfold rR;rw[akb (akX n g)]
theorem acz{g:FuncId}(h:g<qO):mz g=g:=aaD h
theorem HC{g:FuncId}(h:g<qO)(E D:List AV):gJ g E D=E++D:=RX h E D
theorem acA(g:FuncId):mz (g+qO)=g:=aaE qO g
theorem HD(g:FuncId)(E D:List AV):gJ (g+qO) E D=D++E:=RY qO g E D
theorem tG{X:Ctx}{A2:bj}(A8:iH X A2){S:St}{o:Oper}{AL:Operand}{args:Array Operand}{Ax:Array TypeId}{g g0:FuncId}{D:List AV}{A3:Nat}{mt:List Nat}{res:eA}
 (A5:o.op=.call {callee:=.value AL,args,argTypes:=Ax}) (AY:S.aq AL=(true,.fn g0 D)) (AZ:mz g0=g) (Ay:gU S args.toList=true)
 (h:dr A2 S.mem A3 g (gJ g0 (cM S args.toList) D) mt=some res) (Az:S.gl=X.gl) {φ G a w} (A6:Rel φ G S a w) {next:Act->World->Prop} {R:Exit->Act->World->Prop}
 (B':∀x,res.out=.ret x->∀φ' w' v,Rel φ' G {S with mem:=bp S.mem res.es} a w'->aO φ S.mem w φ' (bp S.mem res.es) w'->az φ' w' (Fo G φ' (bp S.mem res.es)) x v->next (a.put o.dst v) w')
 (B0:∀t x,res.out=.panic t x->∀φ' w' v,Rel φ' G {S with mem:=bp S.mem res.es} a w'->aO φ S.mem w φ' (bp S.mem res.es) w'->aI w' (Fo G φ' (bp S.mem res.es)) x v->R (.panic [{v:=.iface t v,recovered:=false}]) a w'):o.wp X.P a w next R:=by
 unfold dr kS kR at h;obtain⟨ρ,A4⟩:∃ρ,ρ=collect S.mem 64 (j6 mt 0 (gJ g0 (cM S args.toList) D)) []:=⟨_,rfl⟩;have A_:=nS S.mem 64 (j6 mt 0 (gJ g0 (cM S args.toList) D)) [] List.nodup_nil (by simp);rw[<-A4]at h A_;generalize (sy mt 0 (gJ g0 (cM S args.toList) D)).filter (λk=>!ρ.contains k)=B at h;clear A4;obtain⟨Aa,Ab⟩:=A_;unfold eK at h;split at h
 ·rename_i out M B1;split at h
  ·rename_i H;cases h;have B2:fW X.P g=true/\Ev X.P X.gl g (gn (mt.contains 1000) S.mem ρ B (gJ g0 (cM S args.toList) D)) (dq 0 (m8 (dM S.mem ρ (λk=>B.contains k) gk 0 ρ))) λo m=>o=out/\m=cZ 0 M:=by
    obtain⟨AK,A1,V,J⟩:=yN B1;obtain⟨B3,Ac⟩:=A8 _ _ _ _ _ V;refine⟨B3,?_⟩;rcases J with ⟨rfl,rfl⟩|⟨AM,rfl,rfl⟩
    ·exact Ac
    ·have Ad:(m8 (dM S.mem ρ (λk=>B.contains k) gk 0 ρ)).length=ρ.length:=by rw[sF,pF]
     have:=Ac.frz (by rw[Ad];omega);rw[Ad]at this;exact this
   obtain⟨Ae,Af⟩:=B2;simp only[Ds,ago,aag]at H;obtain⟨⟨BH,B4⟩,B5⟩:=H;rw[yL]at Af;obtain⟨v1,v2,v3⟩:=EW (B:=B) A6.mem Aa Ab;have AR:=A6.aq AL (by rw[AY]);rw[AY]at AR;generalize Ag:a.eval AL=BI at AR;have B6:∃vs:Array Value,(execOp a.eval o).run X.P w=.ok (.enter g vs) w/\(gJ g0 (cM S args.toList) D).length=vs.size/\∀(i:Nat) y v,(gJ g0 (cM S args.toList) D)[i]?=some y->vs[i]?=some v->az φ w (Fo G φ S.mem) y v:=by
    have Ah:∀(i:Nat) y v,(cM S args.toList)[i]?=some y->(args.map a.eval)[i]?=some v->az φ w (Fo G φ S.mem) y v:=by
     intro i y v A' A0;rw[uF]at A';simp only[Array.getElem?_map,aaf]at A0;obtain⟨z,Ai,rfl⟩:=A0;obtain⟨BJ,Aj,rfl⟩:=aaf.1 A';rw[afu,Ai]at Aj;cases Aj;exact A6.aq z (tp Ay z (by simpa using Array.mem_of_getElem? Ai))
    have AN:(cM S args.toList).length=(args.map a.eval).size:=by rw[iz];simp
    have Ak:∀(l r:List AV)(AO AP:Array Value),l.length=AO.size->r.length=AP.size->(∀(i:Nat) y v,l[i]?=some y->AO[i]?=some v->az φ w (Fo G φ S.mem) y v)->(∀(i:Nat) y v,r[i]?=some y->AP[i]?=some v->az φ w (Fo G φ S.mem) y v)->
     ∀(i:Nat) y v,(l++r)[i]?=some y->(AO++AP)[i]?=some v->az φ w (Fo G φ S.mem) y v:=by
     intro l r AO AP J T A7 B7 i y v A' A0;by_cases hi:i<l.length
     ·rw[aao hi]at A';rw[afD (by omega)]at A0;exact A7 i y v A' A0
     ·rw[abM (by omega)]at A';rw[Array.getElem?_append_right (by omega),<-J]at A0;exact B7 _ y v A' A0
    cases AR with
    |fn _ _ AS AM AC AT=>
     have A9:g0=g:=by rw[<-AZ,acz AM]
     subst A9;refine⟨args.map a.eval++AS,by simp[execOp,A5,resolve,Ag,Deferred.ofValue,invoke,sE Ae],?_,?_⟩
     ·rw[HC AM,ab1,AN,AC,Array.size_append]
     ·rw[HC AM];exact Ak _ _ _ _ AN AC Ah AT
    |qP f _ AS AC AT=>
     have A9:f=g:=by rw[<-AZ,acA]
     subst A9;refine⟨AS++args.map a.eval,by simp[execOp,A5,resolve,Ag,Deferred.ofValue,invoke,sE Ae],?_,?_⟩
     ·rw[HD,ab1,AN,AC,Array.size_append]
     ·rw[HD];exact Ak _ _ _ _ AC AN AT Ah
   obtain⟨vs,B8,B9,BA⟩:=B6
   ·unfold Oper.wp;rw[B8];have BB:(gn (mt.contains 1000) S.mem ρ B (gJ g0 (cM S args.toList) D)).length=vs.size:=by
     rw[qH];exact B9
    have BC:∀(i:Nat) x v,(gn (mt.contains 1000) S.mem ρ B (gJ g0 (cM S args.toList) D))[i]?=some x->vs[i]?=some v->az (φ.gx ρ gk) w (Fo (kz φ G S.mem ρ B) (φ.gx ρ gk) (cZ 0 (dM S.mem ρ (λk=>B.contains k) gk 0 ρ))) x v:=by
     intro i x v Y A0;rw[wD]at Y;obtain⟨y,A',rfl⟩:=aaf.1 Y;exact (v2 y v (BA i y v A' A0)).AJ
    have BD:ec w (Fo (kz φ G S.mem ρ B) (φ.gx ρ gk) (cZ 0 (dM S.mem ρ (λk=>B.contains k) gk 0 ρ))) X.gl:=by
     rw[<-Az];exact A6.jS.mono (λ_ _ _=>rfl) (aae _) (λb _=>v3 b)
    refine (Af (φ.gx ρ gk) (kz φ G S.mem ρ B) w _ v1 BD BB BC).mono ?_;rintro e w' ⟨BK,BL,AH,⟨rfl,rfl⟩,BE,Z,q⟩;have AU:B=[]\/(yH AH=true/\mP M=true):=B5.imp (by simp) id;obtain⟨φ',AA,O,Al⟩:=EX (B:=B) A6.mem Aa Ab (fr:=List.range' (A3+1) (M.length-ρ.length)) List.nodup_range' (Bt B4) BE Z (by simp;omega) (AU.imp id λAD=>wE AD.2);have An:=A6.xV AA O;cases AH with
    |ret x=>
     cases e with
     |returned v=>exact B' _ rfl φ' w' v An O (Al x v (AU.imp id λAD=>AD.1) q)
     |_=>exact q.elim
    |panic t x=>
     cases e with
     |panicked chain=>
      obtain⟨v,rfl,Y⟩:=q;have:=Al (.d x) v (AU.imp id λAD=>AD.1) (.d _ _ Y);cases this with
      |d _ _ BF=>exact B0 t x rfl φ' w' v An O BF
     |_=>exact q.elim
  ·cases h
 ·cases h
end Go.Am
end
